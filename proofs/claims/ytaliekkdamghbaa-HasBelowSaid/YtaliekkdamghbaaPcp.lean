/- Plain laws on what matches, in two parts. Condition: the tree is good, what is told is right. -/
import Derived.Test.YtaliekkdamghbaaCs
namespace Go.Proofs.Ytaliekkdamghbaa
open Go.RowKit

theorem rowB_take (H : List (List Bool)) {k q : Nat} (h : q < k) : rowB (H.take k) q = rowB H q := by
  unfold rowB
  rw [List.getD_eq_getElem?_getD, List.getD_eq_getElem?_getD, List.getElem?_take, if_pos h]
theorem rowB_drop (H : List (List Bool)) (k q : Nat) : rowB (H.drop k) q = rowB H (k + q) := by
  unfold rowB
  rw [List.getD_eq_getElem?_getD, List.getD_eq_getElem?_getD, List.getElem?_drop]
theorem ix_take (xs : List Int) {k q : Nat} (h : q < k) : ix (xs.take k) q = ix xs q := by
  unfold ix
  rw [List.getD_eq_getElem?_getD, List.getD_eq_getElem?_getD, List.getElem?_take, if_pos h]
theorem ix_drop (xs : List Int) (k q : Nat) : ix (xs.drop k) q = ix xs (k + q) := by
  unfold ix
  rw [List.getD_eq_getElem?_getD, List.getD_eq_getElem?_getD, List.getElem?_drop]
theorem rch_take (T : List ANode) (cs : List Int) (H : List (List Bool)) (k : Nat) : ∀ q i, q ≤ k → rchF T (cs.take k) (H.take (k + 1)) q i = rchF T cs H q i := by
  intro q
  induction q with
  | zero =>
    intro i _
    show bx (rowB (H.take (k + 1)) 0) i = bx (rowB H 0) i
    rw [rowB_take _ (by omega)]
  | succ q ih =>
    intro i hq
    show (bx (rowB (H.take (k + 1)) (q + 1)) i && (prtF T i (ix (cs.take k) q)).any fun p => rchF T (cs.take k) (H.take (k + 1)) q p.toNat) = (bx (rowB H (q + 1)) i && (prtF T i (ix cs q)).any fun p => rchF T cs H q p.toNat)
    rw [rowB_take _ (by omega), ix_take _ (by omega)]
    congr 2
    funext p
    exact ih _ (by omega)
/-- What is told of the second part: what the first one matches is told as one compound. -/
def restH (T : List ANode) (cs : List Int) (H : List (List Bool)) (k : Nat) : List (List Bool) := rchL T cs H k :: H.drop (k + 1)
theorem rch_rest {T : List ANode} (hg : goodB T = true) (cs : List Int) (H : List (List Bool)) (k : Nat) : ∀ q i, i < T.length → rchF T (cs.drop k) (restH T cs H k) q i = rchF T cs H (k + q) i := by
  intro q
  induction q with
  | zero =>
    intro i hi
    show bx (rchL T cs H k) i = rchF T cs H k i
    exact rchL_bx _ _ _ _ hi
  | succ q ih =>
    intro i hi
    have hr := prt_range hg hi (ix cs (k + q))
    have e1 : rowB (restH T cs H k) (q + 1) = rowB H (k + (q + 1)) := by
      show rowB (H.drop (k + 1)) q = _
      rw [rowB_drop]; congr 1; omega
    show (bx (rowB (restH T cs H k) (q + 1)) i && (prtF T i (ix (cs.drop k) q)).any fun p => rchF T (cs.drop k) (restH T cs H k) q p.toNat) = (bx (rowB H (k + q + 1)) i && (prtF T i (ix cs (k + q))).any fun p => rchF T cs H (k + q) p.toNat)
    rw [e1, ix_drop]
    congr 1
    generalize prtF T i (ix cs (k + q)) = l at hr
    induction l with
    | nil => rfl
    | cons y l ihl =>
      have hy := hr y (by simp)
      rw [List.any_cons, List.any_cons, ih _ (by omega), ihl (fun x hx => hr x (List.mem_cons_of_mem _ hx))]
section
variable {T : List ANode} {cs : List Int} {H : List (List Bool)} {k : Nat} (ht : toldB T.length cs H = true)
include ht
theorem told_take (hk : k ≤ cs.length) : toldB T.length (cs.take k) (H.take (k + 1)) = true := by
  obtain ⟨h1, h2, h3, h4, h5⟩ := (toldB_iff _ _ _).1 ht
  have l1 : (H.take (k + 1)).length = k + 1 := by rw [List.length_take]; omega
  have l2 : (cs.take k).length = k := by rw [List.length_take]; omega
  refine (toldB_iff _ _ _).2 ⟨by omega, by omega, by omega, fun j hj => ?_, fun j hj => ?_⟩
  · rw [ix_take _ (by omega)]; exact h4 j (by omega)
  · rw [rowB_take _ (by omega)]; exact h5 j (by omega)
theorem told_rest (hk : k ≤ cs.length) : toldB T.length (cs.drop k) (restH T cs H k) = true := by
  obtain ⟨h1, h2, h3, h4, h5⟩ := (toldB_iff _ _ _).1 ht
  have l1 : (restH T cs H k).length = H.length - (k + 1) + 1 := by unfold restH; rw [List.length_cons, List.length_drop]
  have l2 : (cs.drop k).length = cs.length - k := by rw [List.length_drop]
  refine (toldB_iff _ _ _).2 ⟨by omega, by omega, by omega, fun j hj => ?_, fun j hj => ?_⟩
  · rw [ix_drop]; exact h4 _ (by omega)
  · cases j with
    | zero => show (rchL T cs H k).length = _; rw [rchL_len]
    | succ j =>
      show (rowB (H.drop (k + 1)) j).length = _
      rw [rowB_drop]; exact h5 _ (by omega)
theorem told_last : toldB T.length [] (H.drop cs.length) = true := by
  obtain ⟨h1, h2, h3, h4, h5⟩ := (toldB_iff _ _ _).1 ht
  have l1 : (H.drop cs.length).length = 1 := by rw [List.length_drop]; omega
  refine (toldB_iff _ _ _).2 ⟨by omega, by omega, by rw [l1]; rfl, fun j hj => absurd hj (by simp), fun j hj => ?_⟩
  rw [rowB_drop]; exact h5 _ (by omega)
theorem last_all : rchL T [] (H.drop cs.length) 0 = rowB H cs.length := by
  obtain ⟨h1, h2, h3, h4, h5⟩ := (toldB_iff _ _ _).1 ht
  rw [rch_zero (by rw [rowB_drop]; exact h5 _ (by omega)), rowB_drop]
  rfl
end
theorem take_all (T : List ANode) (cs : List Int) (H : List (List Bool)) {k : Nat} (hk : k ≤ cs.length) : rchL T (cs.take k) (H.take (k + 1)) (cs.take k).length = rchL T cs H k := by
  have l2 : (cs.take k).length = k := by rw [List.length_take]; omega
  rw [l2]
  unfold rchL
  refine List.map_congr_left fun i _ => rch_take T cs H k k i (Nat.le_refl _)
theorem rest_all {T : List ANode} (hg : goodB T = true) (cs : List Int) (H : List (List Bool)) {k : Nat} (hk : k ≤ cs.length) : rchL T (cs.drop k) (restH T cs H k) (cs.drop k).length = rchL T cs H cs.length := by
  have l2 : (cs.drop k).length = cs.length - k := by rw [List.length_drop]
  rw [l2]
  unfold rchL
  refine List.map_congr_left fun i hi => ?_
  rw [rch_rest hg cs H k _ i (List.mem_range.1 hi)]
  congr 1
  omega
theorem all_last {T : List ANode} {cs : List Int} {H : List (List Bool)} {m i : Nat} (hi : i < T.length) (h : bx (rchL T cs H m) i = true) : bx (rowB H m) i = true := by
  rw [rchL_bx _ _ _ _ hi] at h
  cases m with
  | zero => exact h
  | succ m =>
    have h2 : (bx (rowB H (m + 1)) i && _) = true := h
    rw [Bool.and_eq_true] at h2
    exact h2.1
end Go.Proofs.Ytaliekkdamghbaa
