/- Plain laws on the reach of an element: its elements follow each other in document order; an element is reached just if a way of two leads to it. Condition: the tree is good. -/
import Derived.Test.YtaliekkdamghbaaPh
import Derived.Test.YtaliekkdamghbaaPcu
import Derived.Test.YtaliekkdamghbaaPcm
namespace Go.Proofs.Ytaliekkdamghbaa
open Go.RowKit

section
variable {T : List ANode} (hg : goodB T = true) {i : Nat} (hi : i < T.length)
include hg hi
theorem near_next {c : Int} {k : Nat} (hk : k + 1 < (nearF T i c).length) :
    cmpE T (ix (nearF T i c) k) (ix (nearF T i c) (k + 1)) = 0 ∧ cmpV T (ix (nearF T i c) k) (ix (nearF T i c) (k + 1)) = -1 := by
  obtain ⟨t, ht, htl, -⟩ := top_nat hg hi
  have hsub : (nearF T i c).Sublist (preT T t) := by have := near_sub hg hi c; rwa [ht] at this
  obtain ⟨x, hx, hxl, hxa⟩ := pre_mem hg _ htl (hsub.subset (ix_mem (l := nearF T i c) (j := k) (by omega)))
  obtain ⟨y, hy, hyl, hya⟩ := pre_mem hg _ htl (hsub.subset (ix_mem (l := nearF T i c) (j := k + 1) hk))
  have hs := (sub_get hk).trans hsub
  rw [hx, hy] at hs ⊢
  have h1 := cmp_parts (askI_ok hg (l := [(x : Int)]) (by simp; omega)) (askI_ok hg (l := [(y : Int)]) (by simp; omega))
  rw [top_same hg htl hxl hxa, top_same hg htl hyl hya, if_pos rfl] at h1
  refine ⟨h1, ?_⟩
  unfold cmpV
  rw [if_pos h1]
  exact cmpF_sub hg htl hxl hxa hs
/-- One element told. -/
def oneB (n i : Nat) : List Bool := (List.replicate n false).set i true
omit hg in
theorem oneB_bx (x : Nat) : bx (oneB T.length i) x = decide (x = i) := by
  unfold oneB
  rw [bx_set, List.length_replicate]
  by_cases h : x = i
  · rw [if_pos ⟨h, hi⟩, decide_eq_true h]
  · rw [if_neg (fun h' => h h'.1), decide_eq_false h]
    simp only [bx, List.getD_eq_getElem?_getD, List.getElem?_replicate]
    split <;> rfl
theorem one_any {c : Int} {k : Nat} (hk : k < T.length) (h1 : 1 ≤ c) (h4 : c ≤ 4) : (prtF T k c).any (hitB (oneB T.length i)) = decide ((k : Int) ∈ nearF T i c) := by
  rw [Bool.eq_iff_iff, List.any_eq_true, decide_eq_true_eq, near_mem hg hi hk h1 h4]
  constructor
  · rintro ⟨x, hx, hb⟩
    have := prt_range hg hk c x hx
    obtain ⟨y, rfl⟩ := Int.eq_ofNat_of_zero_le this.1
    unfold hitB at hb
    rw [Int.toNat_natCast, oneB_bx hi, decide_eq_true_eq] at hb
    rwa [← hb]
  · intro h
    refine ⟨_, h, ?_⟩
    unfold hitB
    rw [Int.toNat_natCast, oneB_bx hi, decide_eq_true_eq]
end
end Go.Proofs.Ytaliekkdamghbaa
/- Plain laws on what an element has: more and fewer combinators, elements above, compounds that nothing matches, and the ends of ways on from an element. Conditions: the tree is good, what is told is right. -/
namespace Go.Proofs.Ytaliekkdamghbaa
open Go.RowKit

section
variable {T : List ANode} (hg : goodB T = true) {i : Nat} (hi : i < T.length)
include hg hi
theorem near_cases {c : Int} {x : Nat} (hx : x < T.length) (h : (x : Int) ∈ nearF T i c) : (i : Int) ∈ anc T (par T x) ∨ (0 ≤ par T i ∧ par T x = par T i) := by
  have hn : (x : Int) ∈ nextL T i → (i : Int) ∈ anc T (par T x) ∨ (0 ≤ par T i ∧ par T x = par T i) := by
    intro h
    by_cases hp : par T i < 0
    · rw [show nextL T i = [] from if_pos hp] at h; simp at h
    · obtain ⟨p, hpe⟩ := Int.eq_ofNat_of_zero_le (by omega : 0 ≤ par T i)
      have hpl : p < T.length := by have := (good_par hg hi).2; omega
      rw [nextL_at hpe] at h
      have := (kids_mem_iff hg hpl hx).1 (List.mem_of_mem_drop h)
      exact .inr ⟨by omega, by omega⟩
  by_cases h1 : c = 1
  · subst h1
    exact .inl ((near_mem hg hi hx (by omega) (by omega)).1 h)
  · by_cases h2 : c = 2
    · subst h2
      have h3 : (x : Int) ∈ kids T i := h
      have := (kids_mem_iff hg hi hx).1 h3
      rw [this]
      exact .inl (anc_self_mem hg hi)
    · unfold nearF at h
      rw [if_neg h1, if_neg h2] at h
      split at h
      · exact hn (List.mem_of_mem_take h)
      · exact hn h
omit hi in
theorem near_up' {x : Nat} (hx : x < T.length) (h1 : (i : Int) ∈ anc T (par T x)) {a : Int} (ha : a ∈ anc T i) : a ∈ anc T (par T x) := by
  by_cases hp : par T x < 0
  · rw [anc_neg hp] at h1; simp at h1
  · obtain ⟨q, hq⟩ := Int.eq_ofNat_of_zero_le (by omega : 0 ≤ par T x)
    have hql : q < T.length := by have := (good_par hg hx).2; omega
    rw [hq] at h1 ⊢
    exact anc_trans hg hql h1 ha
theorem near_up {c : Int} {x : Nat} (hx : x < T.length) (h : (x : Int) ∈ nearF T i c) {a : Int} (ha : a ∈ anc T (par T i)) : a ∈ anc T (par T x) := by
  rcases near_cases hg hi hx h with h1 | ⟨-, h1⟩
  · exact near_up' hg hx h1 (by rw [anc_cons hg hi]; exact List.mem_cons_of_mem _ ha)
  · rw [h1]; exact ha
theorem near_down {c : Int} {x : Nat} (hx : x < T.length) (h : (x : Int) ∈ nearF T i c) : (i : Int) ∈ anc T (par T x) ∨ (0 ≤ par T i ∧ par T i ∈ anc T (par T x)) := by
  rcases near_cases hg hi hx h with h1 | ⟨h0, h1⟩
  · exact .inl h1
  · refine .inr ⟨h0, ?_⟩
    rw [h1]
    obtain ⟨p, hpe⟩ := Int.eq_ofNat_of_zero_le h0
    have hpl : p < T.length := by have := (good_par hg hi).2; omega
    rw [hpe]
    exact anc_self_mem hg hpl
theorem near_after {c : Int} {x : Nat} (h : (x : Int) ∈ nearF T i c) : ∃ r : Nat, r < T.length ∧ (r : Int) ∈ anc T i ∧ [(i : Int), (x : Int)].Sublist (preT T r) := by
  have hk : (x : Int) ∈ (preT T i).drop 1 → ∃ r : Nat, r < T.length ∧ (r : Int) ∈ anc T i ∧ [(i : Int), (x : Int)].Sublist (preT T r) := by
    intro h
    refine ⟨i, hi, anc_self_mem hg hi, ?_⟩
    rw [preT_cons hg hi] at h ⊢
    rw [List.drop_one, List.tail_cons] at h
    exact (List.singleton_sublist.2 h).cons_cons _
  have hn : (x : Int) ∈ nextL T i → ∃ r : Nat, r < T.length ∧ (r : Int) ∈ anc T i ∧ [(i : Int), (x : Int)].Sublist (preT T r) := by
    intro h
    by_cases hp : par T i < 0
    · rw [show nextL T i = [] from if_pos hp] at h; simp at h
    · obtain ⟨p, hpe⟩ := Int.eq_ofNat_of_zero_le (by omega : 0 ≤ par T i)
      have hpl : p < T.length := by have := (good_par hg hi).2; omega
      rw [nextL_at hpe] at h
      have hm := (kids_mem_iff hg hpl hi).2 hpe
      have hps := posn_neg.2 hm
      have h1 : (i : Int) ∈ (kids T p).take ((posn (kids T p) i).toNat + 1) := (mem_take_posn hm _).2 (by omega)
      refine ⟨p, hpl, by rw [kid_anc hg hi hpe]; exact List.mem_cons_of_mem _ (anc_self_mem hg hpl), ?_⟩
      refine List.Sublist.trans ?_ (kids_sub hg hpl)
      have h2 := List.Sublist.append (List.singleton_sublist.2 h1) (List.singleton_sublist.2 h)
      rwa [List.take_append_drop] at h2
  by_cases h1 : c = 1
  · subst h1; exact hk h
  · by_cases h2 : c = 2
    · subst h2
      have h3 : (x : Int) ∈ kids T i := h
      refine hk ?_
      rw [preT_cons hg hi, List.drop_one, List.tail_cons]
      obtain ⟨k, he, hkl, -⟩ := good_kid hg hi h3
      exact List.mem_flatMap.2 ⟨_, h3, by rw [he]; exact preT_self hg hkl⟩
    · unfold nearF at h
      rw [if_neg h1, if_neg h2] at h
      split at h
      · exact hn (List.mem_of_mem_take h)
      · exact hn h
/-- What is near stands behind the element, in the same tree. -/
theorem near_cmp {c : Int} {x : Nat} (h : (x : Int) ∈ nearF T i c) : topF T x = topF T i ∧ cmpF T i x = -1 := by
  obtain ⟨r, hr, hra, hs⟩ := near_after hg hi h
  obtain ⟨y, hy, hyl, hya⟩ := pre_mem hg _ hr (hs.subset (show (x : Int) ∈ [(i : Int), (x : Int)] by simp))
  have : y = x := by omega
  subst this
  exact ⟨by rw [top_same hg hr hyl hya, top_same hg hr hi hra], cmpF_sub hg hr hi hra hs⟩
omit hg hi in
theorem cmpF_trans3 {x y z : Int} (h1 : cmpF T x y = -1) (ht : topF T y = topF T x) (h2 : cmpF T y z = -1) : cmpF T x z = -1 := by
  have hs : ∀ a b : Int, sgn a b = -1 ↔ a < b := fun a b => by
    unfold sgn
    by_cases h1 : a < b
    · simp [h1]
    · by_cases h2 : b < a <;> simp [h1, h2]
  unfold cmpF at h1 h2 ⊢
  rw [ht] at h2
  rw [hs] at h1 h2 ⊢
  omega
omit hi in
theorem near_mono {c d : Int} (hcd : ∀ x ∈ nearF T i c, x ∈ nearF T i d) {cs : List Int} {H : List (List Bool)} (hi : i < T.length) (ht : toldB T.length cs H = true) (h : hasF T i c cs H = true) : hasF T i d cs H = true := by
  rw [has_beg hg ht hi, List.any_eq_true] at h ⊢
  obtain ⟨l, hl, hb⟩ := h
  exact ⟨l, hcd l hl, hb⟩
theorem near_21 : ∀ x ∈ nearF T i 2, x ∈ nearF T i 1 := fun x hx => by
  obtain ⟨k, rfl, hk⟩ := near_range hg hi hx
  rw [near_mem hg hi hk (by omega) (by omega)] at hx ⊢
  exact List.mem_of_mem_take hx
omit hg hi in
theorem near_34 : ∀ x ∈ nearF T i 3, x ∈ nearF T i 4 := fun x hx => List.mem_of_mem_take (show x ∈ (nextL T i).take 1 from hx)
theorem has_one (c : Int) {B : List Bool} (hB : B.length = T.length) : hasF T i c [] [B] = (nearF T i c).any (hitB B) := by
  have ht : toldB T.length [] [B] = true := (toldB_iff _ _ _).2 ⟨by simp, by simp, by simp, by simp, fun j hj => by
    obtain rfl : j = 0 := by simp at hj; omega
    exact hB⟩
  rw [has_beg hg ht hi]
  rfl
theorem has_some {c : Int} {cs : List Int} {H : List (List Bool)} (ht : toldB T.length cs H = true) (h : hasF T i c cs H = true) : (nearF T i c).any (hitB (rowB H 0)) = true := by
  rw [has_beg hg ht hi, List.any_eq_true] at h
  rw [List.any_eq_true]
  obtain ⟨l, hl, hb⟩ := h
  exact ⟨l, hl, beg_hit hb⟩
omit hi in
/-- What is had downwards from below an element, or from a sibling of one below, is had downwards. -/
theorem has_up {c : Int} (hi : i < T.length) {p : Nat} (hp : par T i = p) (hpl : p < T.length) {cs : List Int} {H : List (List Bool)} (ht : toldB T.length cs H = true) (h : hasF T i c cs H = true) : hasF T p 1 cs H = true := by
  rw [has_beg hg ht hi, List.any_eq_true] at h
  rw [has_beg hg ht hpl, List.any_eq_true]
  obtain ⟨l, hl, hb⟩ := h
  refine ⟨l, ?_, hb⟩
  obtain ⟨x, rfl, hx⟩ := near_range hg hi hl
  rw [near_mem hg hpl hx (by omega) (by omega)]
  rcases near_cases hg hi hx hl with h1 | ⟨-, h1⟩
  · exact near_up' hg hx h1 (by rw [anc_cons hg hi, hp]; exact List.mem_cons_of_mem _ (anc_self_mem hg hpl))
  · show (p : Int) ∈ anc T (par T x)
    rw [h1, hp]
    exact anc_self_mem hg hpl
theorem has_no_par {c : Int} (hp : par T i < 0) (hc : c = 3 ∨ c = 4) {cs : List Int} {H : List (List Bool)} (ht : toldB T.length cs H = true) : hasF T i c cs H = false := by
  have e : nearF T i c = [] := by
    have e0 : nextL T i = [] := if_pos hp
    rcases hc with rfl | rfl
    · show (nextL T i).take 1 = []
      rw [e0]; rfl
    · exact e0
  rw [has_beg hg ht hi, e]; rfl
/-- An element that has something has children, or a sibling behind it. -/
theorem has_room {c : Int} {cs : List Int} {H : List (List Bool)} (ht : toldB T.length cs H = true) (h : hasF T i c cs H = true) : 0 < (kids T i).length ∨ 0 ≤ besE T i 1 := by
  rw [has_beg hg ht hi, List.any_eq_true] at h
  obtain ⟨l, hl, -⟩ := h
  have hk : l ∈ (preT T i).drop 1 → 0 < (kids T i).length := by
    intro h
    rw [preT_cons hg hi, List.drop_one, List.tail_cons] at h
    obtain ⟨k, hk, -⟩ := List.mem_flatMap.1 h
    exact List.length_pos_of_mem hk
  have hn : l ∈ nextL T i → 0 ≤ besE T i 1 := by
    intro h
    by_cases hp : par T i < 0
    · rw [show nextL T i = [] from if_pos hp] at h; simp at h
    · obtain ⟨p, hpe⟩ := Int.eq_ofNat_of_zero_le (by omega : 0 ≤ par T i)
      have hpl : p < T.length := by have := (good_par hg hi).2; omega
      obtain ⟨j, hj, hji, hjp⟩ := sibs_pos hg hi
      have es : sibs T i = kids T p := by unfold sibs; rw [if_neg hp, hpe, Int.toNat_natCast]
      rw [nextL_at hpe, ← es, hjp, Int.toNat_natCast] at h
      have hl := List.length_pos_of_mem h
      rw [List.length_drop] at hl
      have h1 := bes_next hg hi hj
      rw [hji, if_pos (by omega)] at h1
      obtain ⟨q, h2, -⟩ := sibs_mem hg hi (ix_mem (l := sibs T i) (j := j + 1) (by omega))
      omega
  by_cases h1 : c = 1
  · subst h1; exact .inl (hk hl)
  · by_cases h2 : c = 2
    · subst h2; exact .inl (List.length_pos_of_mem (show l ∈ kids T i from hl))
    · unfold nearF at hl
      rw [if_neg h1, if_neg h2] at hl
      split at hl
      · exact .inr (hn (List.mem_of_mem_take hl))
      · exact .inr (hn hl)
end
section
variable {T : List ANode} (hg : goodB T = true) {cs : List Int} {H : List (List Bool)} {i : Nat} {c : Int}
include hg
/-- On each way there is an element for each compound. -/
theorem has_each : ∀ q y, y < T.length → rchF T cs (hasH T i c H) q y = true → ∀ k, k ≤ q → ∃ z, z < T.length ∧ bx (rowB H k) z = true := by
  intro q
  induction q with
  | zero =>
    intro y hy hr k hk
    obtain rfl : k = 0 := by omega
    exact ⟨y, hy, has_row_hit hy hr⟩
  | succ q ih =>
    intro y hy hr k hk
    by_cases hkq : k = q + 1
    · subst hkq; exact ⟨y, hy, has_row_hit hy hr⟩
    · have h2 : (bx (rowB (hasH T i c H) (q + 1)) y && (prtF T y (ix cs q)).any fun p => rchF T cs (hasH T i c H) q p.toNat) = true := hr
      rw [Bool.and_eq_true, List.any_eq_true] at h2
      obtain ⟨-, p, hp, hrp⟩ := h2
      have hpr := prt_range hg hy (ix cs q) p hp
      exact ih p.toNat (by omega) hrp k (by omega)
theorem has_empty {k : Nat} (hk : k ≤ cs.length) (he : ∀ z, z < T.length → bx (rowB H k) z = false) : hasF T i c cs H = false := by
  cases h : hasF T i c cs H
  · rfl
  · unfold hasF rchL at h
    rw [decide_eq_true_eq] at h
    obtain ⟨y, hy, hr⟩ := List.mem_map.1 h
    obtain ⟨z, hz, hb⟩ := has_each hg _ y (List.mem_range.1 hy) hr k hk
    rw [he z hz] at hb
    cases hb
/-- The ends of ways on from an element stand behind it, below it or below its parent. -/
theorem has_ends (hi : i < T.length) (ht : toldB T.length cs H = true) : ∀ q y, q ≤ cs.length → y < T.length → rchF T cs (hasH T i c H) q y = true →
    (topF T y = topF T i ∧ cmpF T i y = -1) ∧ ((i : Int) ∈ anc T (par T y) ∨ (0 ≤ par T i ∧ par T i ∈ anc T (par T y))) := by
  intro q
  induction q with
  | zero =>
    intro y _ hy hr
    have h2 : bx (firstL T i c H) y = true := hr
    rw [firstL_bx _ _ _ _ hy, Bool.and_eq_true, decide_eq_true_eq] at h2
    exact ⟨near_cmp hg hi h2.1, near_down hg hi hy h2.1⟩
  | succ q ih =>
    intro y hq hy hr
    have h2 : (bx (rowB (hasH T i c H) (q + 1)) y && (prtF T y (ix cs q)).any fun p => rchF T cs (hasH T i c H) q p.toNat) = true := hr
    rw [Bool.and_eq_true, List.any_eq_true] at h2
    obtain ⟨-, p, hp, hrp⟩ := h2
    have hpr := prt_range hg hy (ix cs q) p hp
    obtain ⟨z, rfl⟩ := Int.eq_ofNat_of_zero_le hpr.1
    have hz : z < T.length := by omega
    rw [Int.toNat_natCast] at hrp
    have hcs := ((toldB_iff _ _ _).1 ht).2.2.2.1 q (by omega)
    have hn := (near_mem hg hz hy hcs.1 hcs.2).2 hp
    obtain ⟨⟨h3, h4⟩, h5⟩ := ih z (by omega) hz hrp
    obtain ⟨h6, h7⟩ := near_cmp hg hz hn
    refine ⟨⟨by rw [h6, h3], cmpF_trans3 h4 h3 h7⟩, ?_⟩
    rcases h5 with h5 | ⟨h5, h8⟩
    · exact .inl (near_up hg hz hy hn h5)
    · exact .inr ⟨h5, near_up hg hz hy hn h8⟩
/-- A way on from an element is a way that begins with it. -/
theorem lead_rch (hi : i < T.length) (h1 : 1 ≤ c) (h4 : c ≤ 4) : ∀ q y, y < T.length → rchF T (c :: cs) (oneB T.length i :: H) (q + 1) y = rchF T cs (hasH T i c H) q y := by
  intro q
  induction q with
  | zero =>
    intro y hy
    show (bx (rowB H 0) y && (prtF T y c).any fun p => bx (oneB T.length i) p.toNat) = bx (firstL T i c H) y
    rw [firstL_bx _ _ _ _ hy, Bool.and_comm, ← one_any hg hi hy h1 h4]
    rfl
  | succ q ih =>
    intro y hy
    show (bx (rowB H (q + 1)) y && (prtF T y (ix cs q)).any fun p => rchF T (c :: cs) (oneB T.length i :: H) (q + 1) p.toNat) = (bx (rowB (hasH T i c H) (q + 1)) y && (prtF T y (ix cs q)).any fun p => rchF T cs (hasH T i c H) q p.toNat)
    rw [hasH_row]
    congr 1
    rw [Bool.eq_iff_iff, List.any_eq_true, List.any_eq_true]
    constructor
    · rintro ⟨p, hp, hb⟩
      have hpr := prt_range hg hy (ix cs q) p hp
      exact ⟨p, hp, by rw [← ih p.toNat (by omega)]; exact hb⟩
    · rintro ⟨p, hp, hb⟩
      have hpr := prt_range hg hy (ix cs q) p hp
      exact ⟨p, hp, by rw [ih p.toNat (by omega)]; exact hb⟩
theorem lead_all (hi : i < T.length) (h1 : 1 ≤ c) (h4 : c ≤ 4) (m : Nat) : rchL T (c :: cs) (oneB T.length i :: H) (m + 1) = rchL T cs (hasH T i c H) m :=
  List.map_congr_left fun y hy => lead_rch hg hi h1 h4 m y (List.mem_range.1 hy)
omit hg in
theorem lead_told (h1 : 1 ≤ c) (h4 : c ≤ 4) (ht : toldB T.length cs H = true) (h5 : H.length ≤ 63) : toldB T.length (c :: cs) (oneB T.length i :: H) = true := by
  obtain ⟨t1, t2, t3, t4, t5⟩ := (toldB_iff _ _ _).1 ht
  refine (toldB_iff _ _ _).2 ⟨by simp, by simp; omega, by simp; omega, fun j hj => ?_, fun j hj => ?_⟩
  · cases j with
    | zero => exact ⟨h1, h4⟩
    | succ j => exact t4 j (by simpa using hj)
  · cases j with
    | zero => show (oneB T.length i).length = _; simp [oneB]
    | succ j => exact t5 j (by simpa using hj)
end
end Go.Proofs.Ytaliekkdamghbaa
