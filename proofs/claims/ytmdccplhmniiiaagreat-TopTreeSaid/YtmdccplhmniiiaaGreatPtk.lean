/- Plain laws: a tree out of which an element is taken, or in which it is put elsewhere. No condition but those named. -/
import Derived.Test.YtmdccplhmniiiaaGreatPreb
import Derived.Test.YtmdccplhmniiiaaGreatMuc
namespace Go.Proofs.YtmdccplhmniiiaaGreat
open Go.RowKit

section
variable {T : List ANode} {k : Nat}
theorem nd_taken (hk : k < T.length) (j : Nat) : nd (takenT T k) j = if j = k then { nd T k with children := less1 (kids T k) k, parent := -1 } else { nd T j with children := less1 (kids T j) k } := by
  unfold takenT setP
  rw [nd_set (by rw [cutT_len]; exact hk)]
  split
  · rw [nd_cut]; rfl
  · rw [nd_cut]; rfl
theorem par_taken (hk : k < T.length) (j : Nat) : par (takenT T k) j = if j = k then -1 else par T j := by unfold par; rw [nd_taken hk]; split <;> rfl
theorem kids_taken (hk : k < T.length) (j : Nat) : kids (takenT T k) j = less1 (kids T j) k := by
  unfold kids; rw [nd_taken hk]; split
  · rename_i h; subst h; rfl
  · rfl
theorem tag_taken (hk : k < T.length) (j : Nat) : (nd (takenT T k) j).tag = (nd T j).tag := by
  rw [nd_taken hk]; split
  · rename_i h; subst h; rfl
  · rfl
theorem att_taken (hk : k < T.length) (j : Nat) : (nd (takenT T k) j).attrs = (nd T j).attrs := by
  rw [nd_taken hk]; split
  · rename_i h; subst h; rfl
  · rfl
theorem up_taken (hk : k < T.length) (m : Nat) (x : Int) (h : up T m x < 0) : up (takenT T k) m x < 0 := by
  induction m generalizing x with
  | zero => exact h
  | succ m ih =>
    rw [up] at h ⊢
    split
    · assumption
    · rename_i hx
      rw [if_neg hx] at h
      rw [par_taken hk]
      split
      · rw [up_neg _ _ _ (by omega)]; omega
      · exact ih _ h
theorem less1_mem {xs : List Int} {x y : Int} : y ∈ less1 xs x ↔ y ∈ xs ∧ y ≠ x := by unfold less1; simp
theorem mem_take_ix {xs : List Int} (hn : xs.Nodup) {j : Nat} (hj : j < xs.length) : ix xs j ∉ xs.take j := by
  intro hm
  obtain ⟨i, hi, he⟩ := List.getElem_of_mem hm
  rw [List.length_take] at hi
  rw [List.getElem_take, ix_get hj] at he
  exact List.pairwise_iff_getElem.1 (List.nodup_iff_pairwise_ne.1 hn) i j (by omega) hj (by omega) he
theorem linked_taken (hg : goodB T = true) (hk : k < T.length) {j : Nat} (hj : j < T.length) : linkedB (takenT T k) j = true := by
  obtain ⟨h1, h2, h3, h4, h5⟩ := (linkedB_iff T j).1 (((goodB_iff T).1 hg).2.2.1 j hj).2.2
  rw [linkedB_iff, par_taken hk, takenT_len]
  simp only [kids_taken hk]
  have hnd : (less1 (kids T j) k).Nodup := (kids_nodup hg hj).filter _
  refine ⟨by split <;> omega, by split <;> omega, fun h => ?_, fun h => ?_, fun i hi => ?_⟩
  · split
    · rfl
    · exact h3 h
  · by_cases hjk : j = k
    · rw [if_pos hjk] at h; omega
    · rw [if_neg hjk] at h ⊢
      rw [less1_mem]
      exact ⟨h4 h, by omega⟩
  · have hm := ix_mem hi
    obtain ⟨hm1, hm2⟩ := less1_mem.1 hm
    obtain ⟨y, hy, hyl, hyp⟩ := good_kid hg hj hm1
    unfold kidOk
    rw [kids_taken hk, takenT_len]
    refine ⟨by omega, by omega, ?_, mem_take_ix hnd hi⟩
    rw [par_taken hk, if_neg (by omega), hy, Int.toNat_natCast, hyp]
theorem good_taken (hg : goodB T = true) (hk : k < T.length) : goodB (takenT T k) = true := by
  have hq := (goodB_iff T).1 hg
  rw [goodB_iff, takenT_len]
  refine ⟨hq.1, hq.2.1, fun i hi => ⟨?_, ?_, linked_taken hg hk hi⟩, fun i hi => ?_⟩
  · rw [tag_taken hk]; exact (hq.2.2.1 i hi).1
  · rw [att_taken hk]; exact (hq.2.2.1 i hi).2.1
  · have := good_out hg (x := (i : Int)) (by omega)
    have := up_taken hk _ _ this
    unfold outB
    rw [takenT_len]
    exact decide_eq_true this

end
end Go.Proofs.YtmdccplhmniiiaaGreat
