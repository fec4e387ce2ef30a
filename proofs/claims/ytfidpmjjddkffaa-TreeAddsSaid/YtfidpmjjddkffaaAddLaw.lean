/- Plain laws: a good tree with one element more. Conditions: the tree is good, has fewer than 64 elements, the text is a small name. -/
import Derived.Test.YtfidpmjjddkffaaLaws
import Derived.Test.YtfidpmjjddkffaaWk
namespace Go.Proofs.Ytfidpmjjddkffaa
open Go.RowKit

theorem good_fits {T : List ANode} (hg : goodB T = true) : Fits T := by
  intro x hx
  obtain ⟨i, hi, rfl⟩ := List.getElem_of_mem hx
  have hnd : nd T i = T[i] := by unfold nd; rw [List.getD_eq_getElem?_getD, List.getElem?_eq_getElem hi]; rfl
  have h1 := (goodB_iff T).1 hg
  have h2 := h1.2.2.1 i hi
  have h3 := ((good_ref T).1 hg).2.2.2.1 i hi
  rw [hnd] at h2
  have hk : (T[i]).children.length ≤ T.length := by have := h3.1.2.2.2.2; simpa only [kids, hnd] using this
  have ha := h2.2.1
  simp only [attrsB, Bool.and_eq_true, decide_eq_true_eq] at ha
  have hn := (namedB_iff _).1 h2.1
  refine ⟨by omega, by omega, by omega, fun y hy => ?_⟩
  obtain ⟨j, hj, rfl⟩ := List.getElem_of_mem hy
  have h4 := ha.2 j hj
  simp only [attrOk, nm, vl, List.getD_eq_getElem?_getD, List.getElem?_eq_getElem hj, Option.getD_some] at h4
  have h5 := (namedB_iff _).1 h4.1
  exact ⟨by omega, by omega⟩

theorem isTree_prefix {w : World} {A : Option Addr} {n m : Nat} {T S : List ANode} (h : IsTree w A m (T ++ S)) (hl : T.length = n) (hm : n ≤ m) : IsTree w A n T := by
  obtain ⟨h1, h2, h3, h4⟩ := h
  have hnd : ∀ j, j < n → nd (T ++ S) j = nd T j := fun j hj => nd_app_lt (by omega)
  refine ⟨hl, by omega, fun x hx => h3 x (by simp [hx]), fun hn => ?_⟩
  obtain ⟨b, off, aA, cA, aC, cC, ha, hbl, c0, c1, c2, c3, hA, hC⟩ := h4 (by omega)
  refine ⟨b, off, aA, cA, aC, cC, ha, hbl, fun j hj => ?_, fun j hj => ?_, fun j hj => ?_, fun j hj => ?_, fun j hj => ?_, fun j hj => ?_⟩
  · rw [← hnd j hj]; exact c0 j (by omega)
  · rw [← hnd j hj]; exact c1 j (by omega)
  · rw [par, ← hnd j hj]; exact c2 j (by omega)
  · rw [kids, ← hnd j hj]; exact c3 j (by omega)
  · rw [← hnd j hj]; exact hA j (by omega)
  · rw [kids, ← hnd j hj]; exact hC j (by omega)

section
variable {T : List ANode} {tag : ByteArray}
theorem par_add {j : Nat} (h : j < T.length) : par (T ++ [rootT tag]) j = par T j := by rw [par, nd_app_lt h]; rfl
theorem kids_add {j : Nat} (h : j < T.length) : kids (T ++ [rootT tag]) j = kids T j := by rw [kids, nd_app_lt h]; rfl
theorem par_add_at : par (T ++ [rootT tag]) T.length = -1 := by rw [par, nd_app_at]; rfl
theorem kids_add_at : kids (T ++ [rootT tag]) T.length = [] := by rw [kids, nd_app_at]; rfl

theorem up_add_tree (hg : goodB T = true) (k : Nat) (x : Int) (hx : x < T.length) : up (T ++ [rootT tag]) k x = up T k x := by
  induction k generalizing x with
  | zero => simp only [up]
  | succ k ih =>
    rw [up, up]
    split
    · rfl
    · rename_i h
      obtain ⟨i, rfl⟩ := Int.eq_ofNat_of_zero_le (show 0 ≤ x by omega)
      simp only [Int.toNat_natCast]
      rw [par_add (by omega)]
      exact ih _ (good_par hg (by omega)).2
theorem ups_add_tree (hg : goodB T = true) (k : Nat) (x : Int) (hx : x < T.length) : ups (T ++ [rootT tag]) k x = ups T k x := by
  induction k generalizing x with
  | zero => rfl
  | succ k ih =>
    rw [ups, ups]
    split
    · rfl
    · rename_i h
      obtain ⟨i, rfl⟩ := Int.eq_ofNat_of_zero_le (show 0 ≤ x by omega)
      simp only [Int.toNat_natCast]
      rw [par_add (by omega), ih _ (good_par hg (by omega)).2]
theorem anc_add_tree (hg : goodB T = true) {x : Int} (hx : x < T.length) : anc (T ++ [rootT tag]) x = anc T x := by
  unfold anc
  rw [ups_add_tree hg _ _ hx, List.length_append]
  exact ups_more T T.length 1 x (good_out hg hx)

theorem good_add (hg : goodB T = true) (hn : T.length < 64) (ht : namedB tag = true) : goodB (T ++ [rootT tag]) = true := by
  have h := (goodB_iff T).1 hg
  have hlen : (T ++ [rootT tag]).length = T.length + 1 := by simp
  rw [goodB_iff]
  refine ⟨by omega, by omega, fun i hi => ?_, fun i hi => ?_⟩
  · rcases Nat.lt_or_ge i T.length with h1 | h1
    · rw [nd_app_lt h1]
      refine ⟨(h.2.2.1 i h1).1, (h.2.2.1 i h1).2.1, ?_⟩
      have hL := (linkedB_iff T i).1 (h.2.2.1 i h1).2.2
      rw [linkedB_iff, par_add h1, kids_add h1]
      refine ⟨hL.1, by have := hL.2.1; omega, hL.2.2.1, fun hp => ?_, fun j hj => ?_⟩
      · rw [kids_add (by have := hL.2.1; omega)]; exact hL.2.2.2.1 hp
      · have hk := hL.2.2.2.2 j hj
        unfold kidOk at hk ⊢
        rw [kids_add h1]
        refine ⟨hk.1, by have := hk.2.1; omega, ?_, hk.2.2.2⟩
        rw [par_add (by have := hk.1; have := hk.2.1; omega)]; exact hk.2.2.1
    · obtain rfl : i = T.length := by omega
      rw [nd_app_at]
      refine ⟨ht, (by decide : attrsB [] = true), ?_⟩
      rw [linkedB_iff, par_add_at, kids_add_at]
      exact ⟨by omega, by omega, fun _ => rfl, fun h => absurd h (by omega), fun j hj => by simp at hj⟩
  · simp only [outB, decide_eq_true_eq]
    rcases Nat.lt_or_ge i T.length with h1 | h1
    · rw [up_add_tree hg _ _ (by omega)]
      exact up_stay T (by omega : T.length ≤ (T ++ [rootT tag]).length) _ (good_out hg (by omega))
    · obtain rfl : i = T.length := by omega
      rw [hlen, up, if_neg (by omega)]
      simp only [Int.toNat_natCast]
      rw [par_add_at, up_neg _ _ _ (by omega)]
      omega
theorem topE_add_at (hg : goodB T = true) (hn : T.length < 64) (ht : namedB tag = true) : topE (T ++ [rootT tag]) T.length = T.length := by
  have hg' := good_add hg hn ht
  rw [topE_eq hg' (by simp), topF_top hg' (by simp) (by rw [par_add_at]; omega)]
theorem depE_add_at (hg : goodB T = true) (hn : T.length < 64) (ht : namedB tag = true) : depE (T ++ [rootT tag]) T.length = 0 := by
  have hg' := good_add hg hn ht
  rw [dep_top hg' (by simp) (by rw [par_add_at]; omega)]
theorem belE_add_at (hg : goodB T = true) (hn : T.length < 64) (ht : namedB tag = true) {i : Nat} (hi : i < T.length) : belE (T ++ [rootT tag]) i T.length = false := by
  have hg' := good_add hg hn ht
  rw [bel_iff hg' (by simp; omega) (by simp), par_add hi, anc_add_tree hg (good_par hg hi).2]
  simp only [decide_eq_false_iff_not]
  intro h
  have := anc_mem hg (good_par hg hi).2 h
  omega
theorem topE_add (hg : goodB T = true) (hn : T.length < 64) (ht : namedB tag = true) {i : Nat} (hi : i < T.length) : topE (T ++ [rootT tag]) i = topE T i := by
  have hg' := good_add hg hn ht
  rw [topE_eq hg' (by simp; omega), topE_eq hg hi]
  unfold topF
  rw [anc_add_tree hg (by omega)]
end
end Go.Proofs.Ytfidpmjjddkffaa
