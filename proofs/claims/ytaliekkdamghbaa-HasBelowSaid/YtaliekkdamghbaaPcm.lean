/- Plain laws on what matches: more matches of compounds, nearer combinators. Condition: the tree is good. -/
import Derived.Test.YtaliekkdamghbaaCr
namespace Go.Proofs.Ytaliekkdamghbaa
open Go.RowKit

theorem rch_mono {T : List ANode} {cs cs' : List Int} {H H' : List (List Bool)} (hrow : ∀ q i, bx (rowB H q) i = true → bx (rowB H' q) i = true) (hprt : ∀ q i x, x ∈ prtF T i (ix cs q) → x ∈ prtF T i (ix cs' q)) :
    ∀ q i, rchF T cs H q i = true → rchF T cs' H' q i = true := by
  intro q
  induction q with
  | zero => intro i h; exact hrow 0 i h
  | succ q ih =>
    intro i h
    have h2 : (bx (rowB H (q + 1)) i && (prtF T i (ix cs q)).any fun p => rchF T cs H q p.toNat) = true := h
    show (bx (rowB H' (q + 1)) i && (prtF T i (ix cs' q)).any fun p => rchF T cs' H' q p.toNat) = true
    rw [Bool.and_eq_true, List.any_eq_true] at h2 ⊢
    obtain ⟨h3, x, hx, h4⟩ := h2
    exact ⟨hrow _ _ h3, x, hprt _ _ _ hx, ih _ h4⟩
def setH (H : List (List Bool)) (k i : Nat) : List (List Bool) := H.set k ((rowB H k).set i true)
theorem bx_set (xs : List Bool) (i : Nat) (b : Bool) (t : Nat) : bx (xs.set i b) t = if t = i ∧ i < xs.length then b else bx xs t := by
  unfold bx
  rw [List.getD_eq_getElem?_getD, List.getD_eq_getElem?_getD, List.getElem?_set]
  by_cases h : i = t
  · subst h
    rw [if_pos rfl]
    by_cases h2 : i < xs.length
    · rw [if_pos h2, if_pos ⟨rfl, h2⟩]; rfl
    · rw [if_neg h2, if_neg (fun h3 => h2 h3.2), List.getElem?_eq_none (by omega)]
  · rw [if_neg h, if_neg (fun h2 => h h2.1.symm)]
theorem rowB_set (H : List (List Bool)) (k : Nat) (xs : List Bool) (t : Nat) : rowB (H.set k xs) t = if t = k ∧ k < H.length then xs else rowB H t := by
  unfold rowB
  rw [List.getD_eq_getElem?_getD, List.getD_eq_getElem?_getD, List.getElem?_set]
  by_cases h : k = t
  · subst h
    rw [if_pos rfl]
    by_cases h2 : k < H.length
    · rw [if_pos h2, if_pos ⟨rfl, h2⟩]; rfl
    · rw [if_neg h2, if_neg (fun h3 => h2 h3.2), List.getElem?_eq_none (by omega)]
  · rw [if_neg h, if_neg (fun h2 => h h2.1.symm)]
theorem setH_row_len (H : List (List Bool)) (k i t : Nat) : (rowB (setH H k i) t).length = (rowB H t).length := by
  unfold setH
  rw [rowB_set]
  split
  · rename_i h; rw [List.length_set, h.1]
  · rfl
theorem setH_more (H : List (List Bool)) (k i : Nat) : ∀ q t, bx (rowB H q) t = true → bx (rowB (setH H k i) q) t = true := by
  intro q t h
  unfold setH
  rw [rowB_set]
  split
  · rename_i h1
    rw [bx_set]
    split
    · rfl
    · rw [← h1.1]; exact h
  · exact h
theorem setH_told {n : Nat} {cs : List Int} {H : List (List Bool)} (h : toldB n cs H = true) (k i : Nat) : toldB n cs (setH H k i) = true := by
  rw [toldB_iff] at h ⊢
  have hl : (setH H k i).length = H.length := by unfold setH; rw [List.length_set]
  obtain ⟨h1, h2, h3, h4, h5⟩ := h
  exact ⟨by omega, by omega, by omega, h4, fun j hj => by rw [setH_row_len]; exact h5 j (by omega)⟩
/-- A nearer combinator in the place of one. -/
def tightC (c : Int) : Int := if c = 1 then 2 else if c = 4 then 3 else c
def tightL (cs : List Int) (k : Nat) : List Int := cs.set k (tightC (ix cs k))
theorem tight_len (cs : List Int) (k : Nat) : (tightL cs k).length = cs.length := by unfold tightL; rw [List.length_set]
theorem tight_ix (cs : List Int) (k t : Nat) : ix (tightL cs k) t = if t = k ∧ k < cs.length then tightC (ix cs k) else ix cs t := by
  unfold tightL
  by_cases h2 : k < cs.length
  · rw [ix_set _ _ _ h2]
    by_cases h : t = k
    · rw [if_pos h, if_pos ⟨h, h2⟩]
    · rw [if_neg h, if_neg (fun h3 => h h3.1)]
  · rw [if_neg (fun h3 => h2 h3.2), List.set_eq_of_length_le (by omega)]
theorem tight_told {n : Nat} {cs : List Int} {H : List (List Bool)} (h : toldB n cs H = true) (k : Nat) : toldB n (tightL cs k) H = true := by
  rw [toldB_iff] at h ⊢
  obtain ⟨h1, h2, h3, h4, h5⟩ := h
  refine ⟨h1, h2, by rw [tight_len]; exact h3, fun j hj => ?_, h5⟩
  rw [tight_len] at hj
  have hj4 := h4 j hj
  rw [tight_ix]
  split
  · rename_i h6
    have hk4 := h4 k h6.2
    unfold tightC
    split
    · omega
    · split <;> omega
  · exact hj4
theorem tight_prt (T : List ANode) (cs : List Int) (k : Nat) : ∀ q i x, x ∈ prtF T i (ix (tightL cs k) q) → x ∈ prtF T i (ix cs q) := by
  intro q i x hx
  rw [tight_ix] at hx
  split at hx
  · rename_i h
    rw [h.1]
    unfold tightC at hx
    split at hx
    · rename_i h1
      rw [h1]
      exact List.mem_of_mem_take hx
    · split at hx
      · rename_i h1
        rw [h1]
        exact List.mem_of_mem_take hx
      · exact hx
  · exact hx
/-- What matches with more, and what matches with nearer combinators. -/
theorem more_all {T : List ANode} {cs : List Int} {H : List (List Bool)} (k i m t : Nat) (ht : t < T.length) (h : bx (rchL T cs H m) t = true) : bx (rchL T cs (setH H k i) m) t = true := by
  rw [rchL_bx _ _ _ _ ht] at h ⊢
  exact rch_mono (setH_more H k i) (fun _ _ _ hx => hx) _ _ h
theorem less_all {T : List ANode} {cs : List Int} {H : List (List Bool)} (k m t : Nat) (ht : t < T.length) (h : bx (rchL T (tightL cs k) H m) t = true) : bx (rchL T cs H m) t = true := by
  rw [rchL_bx _ _ _ _ ht] at h ⊢
  exact rch_mono (fun _ _ hx => hx) (tight_prt T cs k) _ _ h
end Go.Proofs.Ytaliekkdamghbaa
