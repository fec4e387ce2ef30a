/- Plain laws on what matches, in two parts. Condition: the tree is good, what is told is right. -/
import Derived.Test.YtljloicgjgbplaaGreatG13
import Derived.Test.YtljloicgjgbplaaGreatG20
import Derived.Test.YtljloicgjgbplaaGreatG08
import Derived.Test.YtljloicgjgbplaaGreatG10
import Derived.Maps.AppendAt
import Derived.Test.YtljloicgjgbplaaGreatG09
import Derived.Test.YtljloicgjgbplaaGreatG05
namespace Go.Proofs.YtljloicgjgbplaaGreat
open Go.RowKit

theorem rowB_take (H : List (List Bool)) {k q : Nat} (h : q < k) : rowB (H.take k) q = rowB H q := by
  unfold rowB
  rw [List.getD_eq_getElem?_getD, List.getD_eq_getElem?_getD, List.getElem?_take, if_pos h]
theorem rowB_drop (H : List (List Bool)) (k q : Nat) : rowB (H.drop k) q = rowB H (k + q) := by
  unfold rowB
  rw [List.getD_eq_getElem?_getD, List.getD_eq_getElem?_getD, List.getElem?_drop]
theorem ix_take (xs : List Int) {k q : Nat} (h : q < k) : ix (xs.take k) q = ix xs q := by
  unfold ix
  rw [List.getD_eq_getElem?_getD, List.getD_eq_getElem?_getD, List.getElem?_take, if_pos h]
theorem ix_drop (xs : List Int) (k q : Nat) : ix (xs.drop k) q = ix xs (k + q) := by
  unfold ix
  rw [List.getD_eq_getElem?_getD, List.getD_eq_getElem?_getD, List.getElem?_drop]
section
variable {T : List ANode} {cs : List Int} {H : List (List Bool)} {k : Nat} (ht : toldB T.length cs H = true)
include ht
end
end Go.Proofs.YtljloicgjgbplaaGreat
/- Plain laws on the reach of an element: those of which it is a partner, in document order. Condition: the tree is good. -/
namespace Go.Proofs.YtljloicgjgbplaaGreat
open Go.RowKit

def nextL (T : List ANode) (i : Nat) : List Int := if par T i < 0 then [] else (kids T (par T i).toNat).drop ((posn (kids T (par T i).toNat) i).toNat + 1)
/-- The reach of an element for a combinator. -/
def nearH (T : List ANode) (i : Nat) (c : Int) : List Int := if c = 1 then (preT T i).drop 1 else if c = 2 then kids T i else if c = 3 then (nextL T i).take 1 else nextL T i
theorem filter_sub {α : Type} {M L : List α} {p : α → Bool} (hs : M.Sublist L) (hn : L.Nodup) (hp : ∀ x ∈ L, p x = true ↔ x ∈ M) : L.filter p = M := by
  induction hs with
  | slnil => rfl
  | @cons M L a h ih =>
    have hn' := List.nodup_cons.1 hn
    have ha : ¬ p a = true := fun h1 => hn'.1 (h.subset ((hp a (by simp)).1 h1))
    rw [List.filter_cons_of_neg ha]
    exact ih hn'.2 fun x hx => hp x (by simp [hx])
  | @cons_cons M L a h ih =>
    have hn' := List.nodup_cons.1 hn
    rw [List.filter_cons_of_pos ((hp a (by simp)).2 (by simp))]
    congr 1
    refine ih hn'.2 fun x hx => ?_
    have hxa : x ≠ a := fun e => hn'.1 (by rw [← e]; exact hx)
    rw [hp x (by simp [hx])]
    simp [hxa]
theorem sub_flat_all {l : List Int} {f : Int → List Int} (h : ∀ z ∈ l, z ∈ f z) : l.Sublist (l.flatMap f) := by
  induction l with
  | nil => simp
  | cons a l ih =>
    rw [List.flatMap_cons]
    have h1 : [a].Sublist (f a) := by simpa using h a (by simp)
    exact List.Sublist.append h1 (ih fun z hz => h z (by simp [hz]))
theorem mem_drop_posn {l : List Int} (hn : l.Nodup) {x : Int} (hx : x ∈ l) (k : Nat) : x ∈ l.drop k ↔ (k : Int) ≤ posn l x := by
  have h1 := mem_take_posn hx k
  have h2 : x ∈ l.take k ∨ x ∈ l.drop k := by rw [← List.mem_append, List.take_append_drop]; exact hx
  have h3 : x ∈ l.take k → ¬ x ∈ l.drop k := by
    have h4 := hn
    rw [← List.take_append_drop k l, List.nodup_append] at h4
    exact fun a b => h4.2.2 _ a _ b rfl
  constructor
  · intro h
    rcases Int.lt_or_le (posn l x) k with h5 | h5
    · exact absurd h (h3 (h1.2 h5))
    · exact h5
  · intro h
    rcases h2 with h5 | h5
    · have := h1.1 h5; omega
    · exact h5
section
variable {T : List ANode} (hg : goodB T = true) {i : Nat} (hi : i < T.length)
include hg hi
theorem kids_mem_iff {x : Nat} (hx : x < T.length) : (x : Int) ∈ kids T i ↔ par T x = i := by
  constructor
  · intro h
    obtain ⟨k, hk, -, hp⟩ := good_kid hg hi h
    have : x = k := by omega
    rw [this]; exact hp
  · intro h
    have := par_kid hg hx (by omega)
    rwa [h, Int.toNat_natCast] at this
omit hg hi in
theorem nextL_at {p : Nat} (hp : par T i = p) : nextL T i = (kids T p).drop ((posn (kids T p) i).toNat + 1) := by
  unfold nextL
  rw [if_neg (by omega), hp, Int.toNat_natCast]
theorem mem_nextL {x : Nat} (hx : x < T.length) : (x : Int) ∈ nextL T i ↔ (i : Int) ∈ prtF T x 4 := by
  have h4 := prt4_iff (p := i) hg hx hi
  have e1 : placeE T i = posn (sibs T i) i := by unfold placeE; rw [if_pos (askI_ok hg (by simp; omega)), Int.toNat_natCast]
  have e2 : placeE T x = posn (sibs T x) x := by unfold placeE; rw [if_pos (askI_ok hg (by simp; omega)), Int.toNat_natCast]
  rw [e1, e2, Bool.eq_iff_iff] at h4
  simp only [Bool.and_eq_true, decide_eq_true_eq] at h4
  rw [h4]
  by_cases hn : par T i < 0
  · have e : nextL T i = [] := if_pos hn
    rw [e]
    constructor
    · intro h; simp at h
    · rintro ⟨⟨h0, h1⟩, -⟩; omega
  · obtain ⟨p, hp⟩ := Int.eq_ofNat_of_zero_le (by omega : 0 ≤ par T i)
    have hpl : p < T.length := by have := (good_par hg hi).2; omega
    have es : sibs T i = kids T p := by unfold sibs; rw [if_neg hn, hp, Int.toNat_natCast]
    have hpos := posn_neg.2 ((kids_mem_iff hg hpl hi).2 hp)
    rw [nextL_at hp, es]
    constructor
    · intro h
      have hm := List.mem_of_mem_drop h
      have hpx := (kids_mem_iff hg hpl hx).1 hm
      have esx : sibs T x = kids T p := by unfold sibs; rw [if_neg (by omega), hpx, Int.toNat_natCast]
      rw [mem_drop_posn (kids_nodup hg hpl) hm] at h
      rw [esx]
      exact ⟨⟨by omega, by omega⟩, by omega⟩
    · rintro ⟨⟨h0, h1⟩, h2⟩
      have hpx : par T x = p := by omega
      have esx : sibs T x = kids T p := by unfold sibs; rw [if_neg (by omega), hpx, Int.toNat_natCast]
      rw [esx] at h2
      rw [mem_drop_posn (kids_nodup hg hpl) ((kids_mem_iff hg hpl hx).2 hpx)]
      omega
theorem mem_next1 {x : Nat} (hx : x < T.length) : (x : Int) ∈ (nextL T i).take 1 ↔ (i : Int) ∈ prtF T x 3 := by
  have h3 := prt3_iff (p := i) hg hx
  rw [decide_eq_decide] at h3
  rw [h3]
  by_cases hn : par T i < 0
  · have e : nextL T i = [] := if_pos hn
    rw [e]
    constructor
    · intro h; simp at h
    · intro h
      rcases prevL_cons hg hx with ⟨h1, -⟩ | ⟨q, h1, h2, h4⟩
      · omega
      · have hq : q = i := by omega
        subst hq
        have hm : (q : Int) ∈ prevL T x := by rw [h4]; simp
        have h5 := prt4_iff (p := q) hg hx hi
        have h6 : decide ((q : Int) ∈ prtF T x 4) = true := decide_eq_true hm
        rw [h6] at h5
        have := h5.symm
        simp only [Bool.and_eq_true, decide_eq_true_eq] at this
        omega
  · obtain ⟨p, hp⟩ := Int.eq_ofNat_of_zero_le (by omega : 0 ≤ par T i)
    have hpl : p < T.length := by have := (good_par hg hi).2; omega
    have es : sibs T i = kids T p := by unfold sibs; rw [if_neg hn, hp, Int.toNat_natCast]
    obtain ⟨j, hj, hji, hjp⟩ := sibs_pos hg hi
    rw [nextL_at hp, ← es, hjp, Int.toNat_natCast]
    constructor
    · intro h
      by_cases hj1 : j + 1 < (sibs T i).length
      · rw [List.drop_eq_getElem_cons hj1, List.take_succ_cons, List.take_zero, List.mem_singleton] at h
        have hx1 : (x : Int) = ix (sibs T i) (j + 1) := by
          rw [ix_get hj1]
          exact h
        rw [hx1, bes_prev hg hi hj1, hji]
      · rw [List.drop_of_length_le (by omega)] at h
        simp at h
    · intro h
      obtain ⟨j', hj', hjx, hjp'⟩ := sibs_pos hg hx
      cases j' with
      | zero =>
        have := bes_first hg hx hj'
        rw [hjx] at this
        omega
      | succ j' =>
        have h5 := bes_prev hg hx hj'
        rw [hjx, h] at h5
        have hm : (i : Int) ∈ sibs T x := by rw [h5]; exact ix_mem (by omega)
        obtain ⟨q, h6, h7, h8, h9⟩ := sibs_mem hg hx hm
        have : q = i := by omega
        subst this
        have h10 : posn (sibs T x) q = j' := by rw [h5]; exact sibs_posn hg hx (by omega)
        rw [← h8, hjp] at h10
        have : j = j' := by omega
        subst this
        rw [h8, List.drop_eq_getElem_cons hj', ← ix_get hj', hjx]
        simp
theorem near_mem {x : Nat} (hx : x < T.length) {c : Int} (h1 : 1 ≤ c) (h4 : c ≤ 4) : (x : Int) ∈ nearH T i c ↔ (i : Int) ∈ prtF T x c := by
  rcases (by omega : c = 1 ∨ c = 2 ∨ c = 3 ∨ c = 4) with rfl | rfl | rfl | rfl
  · show (x : Int) ∈ (preT T i).drop 1 ↔ (i : Int) ∈ anc T (par T x)
    have hn := preT_nodup hg hi
    have hm := mem_preT hg hi hx
    rw [anc_cons hg hx, List.mem_cons] at hm
    have hs := anc_self hg hx
    rw [preT_cons hg hi] at hn hm ⊢
    rw [List.drop_one, List.tail_cons]
    rw [List.mem_cons] at hm
    have hn' := (List.nodup_cons.1 hn).1
    constructor
    · intro h
      rcases hm.1 (.inr h) with h5 | h5
      · have : x = i := by omega
        subst this
        exact absurd h hn'
      · exact h5
    · intro h
      rcases hm.2 (.inr h) with h5 | h5
      · have : x = i := by omega
        subst this
        exact absurd h hs
      · exact h5
  · show (x : Int) ∈ kids T i ↔ _
    rw [kids_mem_iff hg hi hx]
    have := prt2_iff (p := i) hg hx
    rw [decide_eq_decide] at this
    exact this.symm
  · exact mem_next1 hg hi hx
  · exact mem_nextL hg hi hx
omit hi in
theorem kids_sub {p : Nat} (hp : p < T.length) : (kids T p).Sublist (preT T p) := by
  rw [preT_cons hg hp]
  refine List.Sublist.cons _ (sub_flat_all fun z hz => ?_)
  obtain ⟨k, rfl, hk, -⟩ := good_kid hg hp hz
  exact preT_self hg hk
theorem nextL_sub : (nextL T i).Sublist (preT T (topF T i)) := by
  by_cases hn : par T i < 0
  · have e : nextL T i = [] := if_pos hn
    rw [e]; exact List.nil_sublist _
  · obtain ⟨p, hp⟩ := Int.eq_ofNat_of_zero_le (by omega : 0 ≤ par T i)
    have hpl : p < T.length := by have := (good_par hg hi).2; omega
    rw [nextL_at hp, topF_up hg hi (by omega), hp]
    obtain ⟨t, ht, htl, hta⟩ := top_nat hg hpl
    rw [ht]
    exact ((List.drop_sublist _ _).trans (kids_sub hg hpl)).trans (preT_infix hg hpl hta).sublist
theorem near_sub (c : Int) : (nearH T i c).Sublist (preT T (topF T i)) := by
  obtain ⟨t, ht, htl, hta⟩ := top_nat hg hi
  have h1 : (preT T i).Sublist (preT T (topF T i)) := by rw [ht]; exact (preT_infix hg hi hta).sublist
  unfold nearH
  split
  · exact (List.drop_sublist _ _).trans h1
  · split
    · exact (kids_sub hg hi).trans h1
    · split
      · exact (List.take_sublist _ _).trans (nextL_sub hg hi)
      · exact nextL_sub hg hi
theorem near_range {c : Int} {x : Int} (hx : x ∈ nearH T i c) : ∃ k : Nat, x = (k : Int) ∧ k < T.length := by
  have h := (near_sub hg hi c).subset hx
  obtain ⟨t, ht, htl, -⟩ := top_nat hg hi
  rw [ht] at h
  obtain ⟨y, hy, hyl, -⟩ := pre_mem hg _ htl h
  exact ⟨y, hy, hyl⟩
theorem near_filter {c : Int} (h1 : 1 ≤ c) (h4 : c ≤ 4) : (preT T (topF T i)).filter (fun x => decide ((i : Int) ∈ prtF T x.toNat c)) = nearH T i c := by
  obtain ⟨t, ht, htl, -⟩ := top_nat hg hi
  refine filter_sub (near_sub hg hi c) (by rw [ht]; exact preT_nodup hg htl) fun x hx => ?_
  rw [ht] at hx
  obtain ⟨y, rfl, hyl, -⟩ := pre_mem hg _ htl hx
  rw [Int.toNat_natCast, decide_eq_true_eq]
  exact (near_mem hg hi hyl h1 h4).symm
theorem near_len (c : Int) : (nearH T i c).length ≤ T.length := by
  obtain ⟨t, ht, htl, -⟩ := top_nat hg hi
  have := (near_sub hg hi c).length_le
  rw [ht] at this
  exact Nat.le_trans this (preT_len hg htl)
end
end Go.Proofs.YtljloicgjgbplaaGreat
/- Plain laws on what an element has: as ways on from its reach, and as ways to the last compound. Conditions: the tree is good, what is told is right. -/
namespace Go.Proofs.YtljloicgjgbplaaGreat
open Go.RowKit

def firstL (T : List ANode) (i : Nat) (c : Int) (H : List (List Bool)) : List Bool := (List.range T.length).map fun x : Nat => decide ((x : Int) ∈ nearH T i c) && bx (rowB H 0) x
def hasH (T : List ANode) (i : Nat) (c : Int) (H : List (List Bool)) : List (List Bool) := firstL T i c H :: H.drop 1
def hasF (T : List ANode) (i : Nat) (c : Int) (cs : List Int) (H : List (List Bool)) : Bool := decide (true ∈ rchL T cs (hasH T i c H) cs.length)
/-- A way from an element goes on to the last compound, d compounds on. -/
def begF (T : List ANode) (cs : List Int) (H : List (List Bool)) : Nat → Nat → Nat → Bool
  | 0, k, i => bx (rowB H k) i
  | d + 1, k, i => bx (rowB H k) i && (nearH T i (ix cs k)).any fun l => begF T cs H d (k + 1) l.toNat
theorem firstL_len (T : List ANode) (i : Nat) (c : Int) (H : List (List Bool)) : (firstL T i c H).length = T.length := by simp [firstL]
theorem firstL_bx (T : List ANode) (i : Nat) (c : Int) (H : List (List Bool)) {x : Nat} (hx : x < T.length) : bx (firstL T i c H) x = (decide ((x : Int) ∈ nearH T i c) && bx (rowB H 0) x) := by simp [firstL, bx, hx]
theorem hasH_row (T : List ANode) (i : Nat) (c : Int) (H : List (List Bool)) (k : Nat) : rowB (hasH T i c H) (k + 1) = rowB H (k + 1) := by
  show rowB (H.drop 1) k = _
  rw [rowB_drop]; congr 1; omega
theorem hasH_told {T : List ANode} {cs : List Int} {H : List (List Bool)} (ht : toldB T.length cs H = true) (i : Nat) (c : Int) : toldB T.length cs (hasH T i c H) = true := by
  obtain ⟨h1, h2, h3, h4, h5⟩ := (toldB_iff _ _ _).1 ht
  have l1 : (hasH T i c H).length = H.length := by unfold hasH; rw [List.length_cons, List.length_drop]; omega
  refine (toldB_iff _ _ _).2 ⟨by omega, by omega, by omega, h4, fun j hj => ?_⟩
  cases j with
  | zero => exact firstL_len T i c H
  | succ j => rw [hasH_row]; exact h5 _ (by omega)
theorem beg_hit {T : List ANode} {cs : List Int} {H : List (List Bool)} {d k i : Nat} (h : begF T cs H d k i = true) : bx (rowB H k) i = true := by
  cases d with
  | zero => exact h
  | succ d =>
    have h2 : (bx (rowB H k) i && _) = true := h
    rw [Bool.and_eq_true] at h2
    exact h2.1
theorem has_row_hit {T : List ANode} {cs : List Int} {H : List (List Bool)} {i q x : Nat} {c : Int} (hx : x < T.length) (h : rchF T cs (hasH T i c H) q x = true) : bx (rowB H q) x = true := by
  have h1 := rch_hit h
  cases q with
  | zero =>
    have h2 : bx (firstL T i c H) x = true := h1
    rw [firstL_bx _ _ _ _ hx, Bool.and_eq_true] at h2
    exact h2.2
  | succ q => rw [hasH_row] at h1; exact h1
section
variable {T : List ANode} (hg : goodB T = true) {cs : List Int} {H : List (List Bool)} (ht : toldB T.length cs H = true) {i : Nat} (hi : i < T.length) {c : Int}
include hg ht
theorem beg_on : ∀ d k x, k + d = cs.length → x < T.length → begF T cs H d k x = true → rchF T cs (hasH T i c H) k x = true → ∃ y, y < T.length ∧ rchF T cs (hasH T i c H) cs.length y = true := by
  intro d
  induction d with
  | zero =>
    intro k x hk hx _ h
    have : k = cs.length := by omega
    subst this
    exact ⟨x, hx, h⟩
  | succ d ih =>
    intro k x hk hx hb hr
    have h2 : (bx (rowB H k) x && (nearH T x (ix cs k)).any fun l => begF T cs H d (k + 1) l.toNat) = true := hb
    rw [Bool.and_eq_true, List.any_eq_true] at h2
    obtain ⟨-, l, hl, hbl⟩ := h2
    obtain ⟨y, rfl, hy⟩ := near_range hg hx hl
    rw [Int.toNat_natCast] at hbl
    have hcs := ((toldB_iff _ _ _).1 ht).2.2.2.1 k (by omega)
    refine ih (k + 1) y (by omega) hy hbl ?_
    show (bx (rowB (hasH T i c H) (k + 1)) y && (prtF T y (ix cs k)).any fun p => rchF T cs (hasH T i c H) k p.toNat) = true
    rw [hasH_row, beg_hit hbl, Bool.true_and, List.any_eq_true]
    exact ⟨(x : Int), (near_mem hg hx hy hcs.1 hcs.2).1 hl, by rw [Int.toNat_natCast]; exact hr⟩
include hi
omit hi in
theorem beg_back : ∀ q y, q ≤ cs.length → y < T.length → rchF T cs (hasH T i c H) q y = true → begF T cs H (cs.length - q) q y = true → ∃ l ∈ nearH T i c, begF T cs H cs.length 0 l.toNat = true := by
  intro q
  induction q with
  | zero =>
    intro y _ hy hr hb
    have h2 : bx (firstL T i c H) y = true := hr
    rw [firstL_bx _ _ _ _ hy, Bool.and_eq_true, decide_eq_true_eq] at h2
    exact ⟨(y : Int), h2.1, by rw [Int.toNat_natCast]; exact hb⟩
  | succ q ih =>
    intro y hq hy hr hb
    have h2 : (bx (rowB (hasH T i c H) (q + 1)) y && (prtF T y (ix cs q)).any fun p => rchF T cs (hasH T i c H) q p.toNat) = true := hr
    rw [Bool.and_eq_true, List.any_eq_true] at h2
    obtain ⟨-, p, hp, hrp⟩ := h2
    have hpr := prt_range hg hy (ix cs q) p hp
    obtain ⟨z, rfl⟩ := Int.eq_ofNat_of_zero_le hpr.1
    have hz : z < T.length := by omega
    rw [Int.toNat_natCast] at hrp
    have hcs := ((toldB_iff _ _ _).1 ht).2.2.2.1 q (by omega)
    refine ih z (by omega) hz hrp ?_
    obtain ⟨d, hd⟩ : ∃ d, cs.length - q = d + 1 := ⟨cs.length - (q + 1), by omega⟩
    have hd' : cs.length - (q + 1) = d := by omega
    rw [hd' ] at hb
    rw [hd]
    show (bx (rowB H q) z && (nearH T z (ix cs q)).any fun l => begF T cs H d (q + 1) l.toNat) = true
    rw [has_row_hit hz hrp, Bool.true_and, List.any_eq_true]
    exact ⟨(y : Int), (near_mem hg hz hy hcs.1 hcs.2).2 hp, by rw [Int.toNat_natCast]; exact hb⟩
theorem has_beg : hasF T i c cs H = (nearH T i c).any fun l => begF T cs H cs.length 0 l.toNat := by
  unfold hasF
  rw [Bool.eq_iff_iff, decide_eq_true_eq, List.any_eq_true]
  constructor
  · intro h
    unfold rchL at h
    obtain ⟨y, hy, hr⟩ := List.mem_map.1 h
    have hy := List.mem_range.1 hy
    exact beg_back hg ht cs.length y (Nat.le_refl _) hy hr (by rw [Nat.sub_self]; exact has_row_hit hy hr)
  · rintro ⟨l, hl, hb⟩
    obtain ⟨z, rfl, hz⟩ := near_range hg hi hl
    rw [Int.toNat_natCast] at hb
    obtain ⟨y, hy, hr⟩ := beg_on hg ht (i := i) (c := c) cs.length 0 z (by omega) hz hb (by
      show bx (firstL T i c H) z = true
      rw [firstL_bx _ _ _ _ hz, beg_hit hb, Bool.and_true, decide_eq_true_eq]
      exact hl)
    unfold rchL
    exact List.mem_map.2 ⟨y, List.mem_range.2 hy, hr⟩
end
end Go.Proofs.YtljloicgjgbplaaGreat
/- From readings to words on memory: lists of bytes, lists of lists of truth values. No condition. -/
namespace Go.Proofs.YtljloicgjgbplaaGreat
open Go.ChangeShapes Go.WideShapes Go.ChangeAt Go.RowKit Go.Deep

theorem wf_u8 {a : Int} (h : (Lit.int .u8 a).wf = true) : 0 ≤ a ∧ a ≤ 255 := by
  unfold Lit.wf at h
  simp only [Bool.and_eq_true, decide_eq_true_eq] at h
  exact h
section
variable {H : Type} {enc : TypeId × Value → H} {w : World} {base : Nat} {spare : Nat → Bool} {held : Bool}
theorem u8_cells : Tryz.prog.cellsOf 5 = 1 := by kernel_rfl
theorem u8s_open {fuel : Nat} {v : Value} {x : DataW H × List MemPlace} (h : DataW.trod enc Tryz.prog w base spare held fuel 60 [v] = some x) :
    ∃ (A : Option Addr) (len cap : Nat) (xs : List Int), v = .slice A len cap ∧ len ≤ cap ∧ cap ≤ maxLen ∧ IsU8 w A len xs := by
  obtain ⟨A, len, cap, hv, hl, hm, hi⟩ := cells_open Tryz.underlying60 u8_cells h
  have hc : ∀ i, i < len → ∃ z : Int, (0 ≤ z ∧ z ≤ 255) ∧ ∃ a : Addr, A = some a ∧ w.cell? (a.add i) = some (.int .u8 z) := fun i hil => by
    obtain ⟨a, m, u, y, ha, hcell, htr⟩ := hi i hil
    obtain ⟨z, hz, _, hw⟩ := DataW.trod_int Tryz.underlying5 htr
    simp at hz
    exact ⟨z, wf_u8 hw, a, ha, by rw [hcell, hz]⟩
  obtain ⟨f, hf⟩ := choose_lt hc
  refine ⟨A, len, cap, (List.range len).map f, hv, hl, hm, by simp, by unfold maxLen at hm; omega, fun x hx => ?_, fun h0 => ?_⟩
  · obtain ⟨i, hi', rfl⟩ := List.mem_map.1 hx
    exact (hf i (List.mem_range.1 hi')).1
  · obtain ⟨_, a0, ha0, hc0⟩ := hf 0 h0
    obtain ⟨b, off, hae, hb⟩ := add_zero' rfl hc0
    have hA : A = some ⟨b, off, none⟩ := by rw [ha0, hae]
    refine ⟨b, off, hA, hb, fun j hj => ?_⟩
    obtain ⟨_, a, ha, hcj⟩ := hf j hj
    rw [add_at hA ha hcj]
    simp [ix, hj]
end
end Go.Proofs.YtljloicgjgbplaaGreat
/- Words on memory: parts of lists of bytes, of lists of lists; parameters with their capacity; one list in front of the rest. Condition: not great. -/
namespace Go.Proofs.YtljloicgjgbplaaGreat
open Go.ChangeShapes Go.WideShapes Go.ChangeAt Go.RowKit Go.Deep

theorem IsU8.take {w : World} {A : Option Addr} {n k : Nat} {xs : List Int} (h : IsU8 w A n xs) (hk : k ≤ n) : IsU8 w A k (xs.take k) := by
  obtain ⟨h1, h2, h3, h4⟩ := h
  refine ⟨by rw [List.length_take]; omega, by omega, fun x hx => h3 x (List.mem_of_mem_take hx), fun h0 => ?_⟩
  obtain ⟨b, off, ha, hb, hc⟩ := h4 (by omega)
  exact ⟨b, off, ha, hb, fun j hj => by rw [ix_take _ hj]; exact hc j (by omega)⟩
theorem IsBB.take {w : World} {A : Option Addr} {n k : Nat} {H : List (List Bool)} (h : IsBB w A n H) (hk : k ≤ n) : IsBB w A k (H.take k) := by
  obtain ⟨h1, h2, h4⟩ := h
  refine ⟨by rw [List.length_take]; omega, by omega, fun h0 => ?_⟩
  obtain ⟨b, off, hA, hC, ha, hb, hc, hr⟩ := h4 (by omega)
  exact ⟨b, off, hA, hC, ha, hb, fun j hj => by rw [rowB_take _ hj]; exact hc j (by omega), fun j hj => by rw [rowB_take _ hj]; exact hr j (by omega)⟩
theorem IsU8.drop {w : World} {b off n k : Nat} {xs : List Int} (h : IsU8 w (some ⟨b, off, none⟩) n xs) (hk : k ≤ n) : IsU8 w (some ⟨b, off + k, none⟩) (n - k) (xs.drop k) := by
  obtain ⟨h1, h2, h3, h4⟩ := h
  refine ⟨by rw [List.length_drop]; omega, by omega, fun x hx => h3 x (List.mem_of_mem_drop hx), fun h0 => ?_⟩
  obtain ⟨b', off', ha, hb, hc⟩ := h4 (by omega)
  injection ha with ha
  injection ha with e1 e2
  subst e1 e2
  exact ⟨b, off + k, rfl, hb, fun j hj => by rw [ix_drop, Nat.add_assoc]; exact hc (k + j) (by omega)⟩
theorem IsBB.drop {w : World} {b off n k : Nat} {H : List (List Bool)} (h : IsBB w (some ⟨b, off, none⟩) n H) (hk : k ≤ n) : IsBB w (some ⟨b, off + k, none⟩) (n - k) (H.drop k) := by
  obtain ⟨h1, h2, h4⟩ := h
  refine ⟨by rw [List.length_drop]; omega, by omega, fun h0 => ?_⟩
  obtain ⟨b', off', hA, hC, ha, hb, hc, hr⟩ := h4 (by omega)
  injection ha with ha
  injection ha with e1 e2
  subst e1 e2
  exact ⟨b, off + k, fun j => hA (k + j), fun j => hC (k + j), rfl, hb, fun j hj => by rw [rowB_drop, Nat.add_assoc]; exact hc (k + j) (by omega), fun j hj => by rw [rowB_drop]; exact hr (k + j) (by omega)⟩
section
variable {H : Type} {enc : TypeId × Value → H} {w : World} {base : Nat} {spare : Nat → Bool} {held : Bool}
end
section
variable {P : Program} {ops : Array Oper} {o : Oper} {a : Act} {w : World} {Q : Exit → Act → World → Prop}
theorem wp_append_run {K : Act → World → Prop} (d s : Operand) (t t' : TypeId) (ho : o.op = .call { callee := .builtin .append, args := #[d, s], argTypes := #[t, t'] }) (v u : Value) (hd : a.eval d = v) (hs : a.eval s = u) {v' : Value} {w' : World}
    (hr : (Builtin.append_ #[t, t'] o.type #[v, u]).run P w = .ok v' w') (h : K (a.put o.dst v') w') : o.wp P a w K Q := by
  unfold Oper.wp execOp
  simp only [ho, resolve, invoke, builtin, Sem.run_bind, Sem.run_pure, Result.andThen_ok, List.map_toArray, List.map_cons, List.map_nil, hd, hs, hr]
  exact h
/-- append, as one step of a region that draws, where its run is known. -/
theorem step_append_run {K : Act → World → Prop} {E : Prop} (hg : o.guard = none) (d x : Operand) (t t' : TypeId) (ho : o.op = .call { callee := .builtin .append, args := #[d, x], argTypes := #[t, t'] }) (v u : Value) (hd : a.eval d = v) (hx : a.eval x = u) {v' : Value} {w' : World}
    (hr : (Builtin.append_ #[t, t'] o.type #[v, u]).run P w = .ok v' w') (hK : K (a.put o.dst v') w') : if Region.wanted o (yielded ops a.tmps) = true then Oper.wp P o a w K Q else E := by
  rw [if_pos (by simp [Region.wanted, hg])]
  exact wp_append_run d x t t' ho v u hd hx hr hK
end
set_option maxRecDepth 100000 in
/-- append([][]bool{first}, rest..): the run of it, and what it makes. -/
theorem front_run (W : World) (ty : TypeId) (AF : Option Addr) (nF cF : Nat) (F : List Bool) (hF : IsBools W AF nF F) (hc1 : nF ≤ cF) (hc2 : cF ≤ 9223372036854775807) (ad : Addr) (r c : Nat) (R : List (List Bool)) (hr : r ≤ 1000)
    (hR : R.length = r) (hA : Nat → Option Addr) (hC : Nat → Nat) (hcell : ∀ j, j < r → W.cell? (ad.add j) = some (.slice (hA j) (rowB R j).length (hC j))) (hrow : ∀ j, j < r → IsBools W (hA j) (rowB R j).length (rowB R j) ∧ (rowB R j).length ≤ hC j ∧ hC j ≤ 9223372036854775807) :
    ∃ (A' : Option Addr) (c' : Nat) (w' : World), (Builtin.append_ #[65, 65] ty #[.slice (some ⟨W.heap.size, 0, none⟩) 1 1, .slice (some ad) r c]).run Tryz.prog (W.alloc (.cells #[.slice AF nF cF] 30)) = .ok (.slice A' (1 + r) c') w' ∧ IsBB w' A' (1 + r) (F :: R) ∧ Below W.heap.size W w' := by
  obtain ⟨i0, hI, hz0, hz1, hz2⟩ := info_parts info_bb
  have hnF := hF.1
  have hb1 := below_alloc (Below.refl W.heap.size W) (.cells #[.slice AF nF cF] 30)
  have hl : (slicesR R hA hC r).length = r * 1 := by rw [slicesR_len]; omega
  obtain ⟨v', w', hrun, hown, hgrow, -, -⟩ := run_append_own_at (P := Tryz.prog) (w := W.alloc (.cells #[.slice AF nF cF] 30)) W.heap.size 65 ty 30 i0 (.slice none 0 0) 1 24 Tryz.underlying65 hI hz0 hz1 hz2 rfl (by decide) (.slice (some ⟨W.heap.size, 0, none⟩) 1 1) 1 [.slice AF nF cF]
    (World.ownsRow_lit W #[.slice AF nF cF] 1 (Nat.le_refl _) (by unfold maxLen; omega) rfl) ad r c (slicesR R hA hC r) hl
    (fun j u hj => by
      have hjr : j < r := by
        rcases Nat.lt_or_ge j r with h | h
        · exact h
        · rw [List.getElem?_eq_none (by rw [slicesR_len]; omega)] at hj; cases hj
      rw [slicesR_get _ _ _ hjr] at hj
      injection hj with hj
      subst hj
      exact cell_later hb1 (hcell j hjr))
    (fun u hu => by
      unfold slicesR at hu
      obtain ⟨j, -, rfl⟩ := List.mem_map.1 hu
      rfl) (by unfold maxLen; omega) (by omega) (by simp)
  obtain ⟨A', c', rfl, h1, h2⟩ := sl_of_own hown
  have hb : Below W.heap.size W w' := hb1.grown hgrow (by simp) (fun q hq => by simp [Value.ownBlock] at hq; omega)
  refine ⟨A', c', w', hrun, ⟨by rw [List.length_cons]; omega, by omega, fun _ => ?_⟩, hb⟩
  obtain ⟨g, cap, cs, hv, -, -, -, hgb⟩ := own_blk hown (by omega)
  injection hv with e1 e2 e3
  subst e1
  refine ⟨g, 0, fun j => if j = 0 then AF else hA (j - 1), fun j => if j = 0 then cF else hC (j - 1), rfl, blk_lt hgb, fun j hj => ?_, fun j hj => ?_⟩
  · rw [Nat.zero_add, World.ownsRow.cellAt hown j (by omega)]
    cases j with
    | zero => show some (Value.slice AF nF cF) = some (Value.slice AF F.length cF); rw [hnF]
    | succ j =>
      show (slicesR R hA hC r)[j]? = some (.slice (hA j) (rowB R j).length (hC j))
      rw [slicesR_get _ _ _ (by omega)]
  · cases j with
    | zero => show IsBools w' AF F.length F ∧ F.length ≤ cF ∧ _; rw [hnF]; exact ⟨hF.below hb, hc1, hc2⟩
    | succ j =>
      show IsBools w' (hA j) (rowB R j).length (rowB R j) ∧ (rowB R j).length ≤ hC j ∧ hC j ≤ 9223372036854775807
      exact ⟨(hrow j (by omega)).1.below hb, (hrow j (by omega)).2⟩
end Go.Proofs.YtljloicgjgbplaaGreat
/- Walks: the reach of an element, by the program. Conditions: the tree is good, the element is in it, the lead is a combinator. -/
namespace Go.Proofs.YtljloicgjgbplaaGreat
open Go.RowKit

/-- The error of a tree and a lead. -/
def ldE (T : List ANode) (c : Int) : Int := if goodB T = true then (if 1 ≤ c ∧ c ≤ 4 then 0 else 2) else 8
theorem ldE_zero {T : List ANode} {c : Int} : ldE T c = 0 ↔ goodB T = true ∧ 1 ≤ c ∧ c ≤ 4 := by
  unfold ldE
  by_cases h : goodB T = true
  · rw [if_pos h]
    by_cases h2 : 1 ≤ c ∧ c ≤ 4
    · rw [if_pos h2]; simp [h, h2]
    · rw [if_neg h2]
      constructor
      · intro h3; omega
      · rintro ⟨-, h3⟩; exact absurd h3 h2
  · rw [if_neg h]; simp [h]
set_option maxRecDepth 100000 in
theorem leads_ok (A : Option Addr) (n c : Nat) (T : List ANode) (ld : Int) (w : World) (h : IsTree w A n T) :
    Calls Tryz.prog 136 #[.agg #[.slice A n c], .int .u8 ld] w fun r w' => r = .returned (.int .i64 (ldE T ld)) ∧ Below w.heap.size w w' := by
  have hT := hide h
  have hl := h.1
  clear h
  have hB0 := below_alloc (Below.refl w.heap.size w) (.cells #[.slice A n c] 24)
  have hbox0 : (w.alloc (.cells #[.slice A n c] 24)).cell? ⟨w.heap.size, 0, none⟩ = some (.slice A n c) := by go_simp
  by_cases hg : goodB T = true
  · have hc0 : chk T = 0 := chk_ok hg
    rcases (by omega : ld < 1 ∨ (1 ≤ ld ∧ 4 < ld) ∨ (1 ≤ ld ∧ ld ≤ 4)) with h1 | ⟨h1, h2⟩ | ⟨h1, h2⟩
    · have hr : Hid (ldE T ld = 2) := by show _ = _; unfold ldE; rw [if_pos hg, if_neg (by omega)]
      clear hg
      go_enter Tryz.func136, Tryz.ntmps136
      go_wp2_with fail
      refine (check_ok _ _ _ T _ (hT.out.below hB0)).mono ?_
      rintro e w1 ⟨rfl, hb1⟩
      have hbox1 := cell_later hb1 hbox0
      have hB1 := Below.on hB0 hb1
      go_wp2
      go_ret
      exact ⟨ret_int hr.out.symm, hB1⟩
    · have hr : Hid (ldE T ld = 2) := by show _ = _; unfold ldE; rw [if_pos hg, if_neg (by omega)]
      clear hg
      go_enter Tryz.func136, Tryz.ntmps136
      go_wp2_with fail
      refine (check_ok _ _ _ T _ (hT.out.below hB0)).mono ?_
      rintro e w1 ⟨rfl, hb1⟩
      have hbox1 := cell_later hb1 hbox0
      have hB1 := Below.on hB0 hb1
      go_wp2
      go_ret
      exact ⟨ret_int hr.out.symm, hB1⟩
    · have hr : Hid (ldE T ld = 0) := by show _ = _; unfold ldE; rw [if_pos hg, if_pos (by omega)]
      clear hg
      go_enter Tryz.func136, Tryz.ntmps136
      go_wp2_with fail
      refine (check_ok _ _ _ T _ (hT.out.below hB0)).mono ?_
      rintro e w1 ⟨rfl, hb1⟩
      have hbox1 := cell_later hb1 hbox0
      have hB1 := Below.on hB0 hb1
      go_wp2
      go_ret
      exact ⟨ret_int hr.out.symm, hB1⟩
  · have hc0 : chk T = 8 := chk_bad hg
    have hr : Hid (ldE T ld = 8) := if_neg hg
    clear hg
    go_enter Tryz.func136, Tryz.ntmps136
    go_wp2_with fail
    refine (check_ok _ _ _ T _ (hT.out.below hB0)).mono ?_
    rintro e w1 ⟨rfl, hb1⟩
    have hbox1 := cell_later hb1 hbox0
    have hB1 := Below.on hB0 hb1
    go_wp2
    go_ret
    exact ⟨ret_int hr.out.symm, hB1⟩
theorem IsInts.drop {w : World} {b off n k : Nat} {xs : List Int} (h : IsInts w (some ⟨b, off, none⟩) n xs) (hk : k ≤ n) : IsInts w (some ⟨b, off + k, none⟩) (n - k) (xs.drop k) := by
  obtain ⟨h1, h2, h4⟩ := h
  refine ⟨by rw [List.length_drop]; omega, by omega, fun h0 => ?_⟩
  obtain ⟨b', off', ha, hb, hc⟩ := h4 (by omega)
  injection ha with ha
  injection ha with e1 e2
  subst e1 e2
  refine ⟨b, off + k, rfl, hb, fun j hj => ?_⟩
  have e : ix (xs.drop k) j = ix xs (k + j) := by
    unfold ix
    rw [List.getD_eq_getElem?_getD, List.getD_eq_getElem?_getD, List.getElem?_drop]
  rw [e, Nat.add_assoc]
  exact hc (k + j) (by omega)
theorem isInts_none (w : World) (A : Option Addr) {n : Nat} (hn : n = 0) : IsInts w A n [] := by
  subst hn; exact ⟨rfl, by omega, fun h => absurd h (by omega)⟩

set_option maxRecDepth 100000 in
set_option maxHeartbeats 2000000 in
theorem reach_ok (A : Option Addr) (n c : Nat) (T : List ANode) (i : Nat) (ld : Int) (w : World) (h : IsTree w A n T) (hg : goodB T = true) (hi : i < n) (hc1 : 1 ≤ ld) (hc4 : ld ≤ 4) :
    Calls Tryz.prog 158 #[.agg #[.slice A n c], .int .i64 i, .int .u8 ld] w (MadeInts0 w (nearH T i ld)) := by
  have ho := hide h.2.2.2
  have hT := hide h
  have hl := h.1
  clear h
  have hB0 := below_alloc (Below.refl w.heap.size w) (.cells #[.slice A n c] 24)
  have hbox0 : (w.alloc (.cells #[.slice A n c] 24)).cell? ⟨w.heap.size, 0, none⟩ = some (.slice A n c) := by go_simp
  have h0 : askI T [(i : Int)] = 0 := askI_ok hg (by simp; omega)
  rcases (by omega : ld = 1 ∨ ld = 2 ∨ ld = 3 ∨ ld = 4) with rfl | rfl | rfl | rfl
  · have hp : nearH T i 1 = (preT T i).drop 1 := rfl
    have hle := listE_ok h0
    have hpl := preT_len hg (k := i) (by omega)
    have hp1 : 1 ≤ (preT T i).length := by rw [preT_cons hg (by omega)]; simp
    have hn64 : T.length ≤ 64 := ((goodB_iff T).1 hg).2.1
    rw [hp]
    obtain ⟨L, hL⟩ : ∃ L, preT T i = L := ⟨_, rfl⟩
    rw [hL] at hle hpl hp1 ⊢
    obtain ⟨Y, hY⟩ : ∃ Y, L.drop 1 = Y := ⟨_, rfl⟩
    have hYl : Y.length = L.length - 1 := by rw [← hY, List.length_drop]
    rw [hY]
    have hYl' := hide hYl
    have hY' := hide hY
    have hle' := hide hle
    have h0' := hide h0
    clear hp hc1 hc4 hg ho hle h0 hL hY hYl
    go_enter Tryz.func158, Tryz.ntmps158
    go_wp2_with fail
    have hx := list_ok A n c T i _ (hT.out.below hB0)
    rw [hle'.out, h0'.out] at hx
    refine hx.mono ?_
    clear hx
    rintro e w1 ⟨A1, c1, rfl, hI, hcl, hm1, hb1⟩
    obtain ⟨b, off, rfl, -, -⟩ := hI.2.2 (by omega)
    have hm1' : c1 ≤ 9223372036854775807 := by unfold maxLen at hm1; omega
    have hID := hI.drop (k := 1) hp1
    rw [hY'.out] at hID
    have hID' := hide hID
    have hB1 := Below.on hB0 hb1
    clear hI hID hb1
    rcases (by omega : c1 = 1 ∨ ¬ c1 = 1) with rfl | hne
    · have hY0 : Hid (Y = []) := List.eq_nil_of_length_eq_zero (by rw [hYl'.out]; omega)
      go_wp2
      go_ret
      exact ⟨some ⟨b, off, none⟩, 0, by rw [hY0.out]; first | rfl | exact congrArg (fun k : Nat => Ending.returned (Value.slice (some ⟨b, off, none⟩) k (0))) (by omega), by rw [hY0.out]; exact isInts_none _ _ rfl, hB1⟩
    · go_wp2
      go_ret
      exact ⟨some ⟨b, off + 1, none⟩, c1 - 1, by rw [hYl'.out]; first | rfl | exact congrArg (fun k : Nat => Ending.returned (Value.slice (some ⟨b, off + 1, none⟩) k (c1 - 1))) (by omega), by rw [hYl'.out]; exact hID'.out, hB1⟩
  · have hp : nearH T i 2 = kids T i := rfl
    rw [hp]
    obtain ⟨b, off, aA, cA, aC, cC, rfl, hbl, -, -, c2, c3, -, hC⟩ := ho.out (by omega)
    have c3' := (old hB0 _ _ hbl).trans (c3 i hi)
    have hI := hide ((hC i hi).1.below hB0)
    have hk64 := kids_len hg (by omega : i < T.length)
    have hbr : b < (w.alloc (.cells #[.slice (some ⟨b, off, none⟩) n c] 24)).heap.size := by simp; omega
    obtain ⟨l, hla⟩ : ∃ l, kids T i = l := ⟨_, rfl⟩
    rw [hla] at c3' hI hk64 ⊢
    generalize cA i = CA at c3' hI
    generalize cC i = cc at c3'
    clear hp hc1 hc4 hg ho c2 c3 hC hla h0
    go_enter Tryz.func158, Tryz.ntmps158
    go_wp2_with fail
    refine (cloneInts_ok CA l.length cc l _ hI.out (by omega)).mono ?_
    rintro e w2 ⟨A2, c2, rfl, hO2, hb2⟩
    obtain ⟨A4, c4, hv4, h41, h42, hI4⟩ := isInts_of_own hO2 (by omega)
    injection hv4 with h1 h2 h3
    subst h1 h3
    have hI4' := hide hI4
    clear hI4 hO2 h2
    go_wp2
    go_ret
    exact ⟨A2, c2, rfl, hI4'.out, Below.on hB0 hb2⟩
  · have hp : nearH T i 3 = (nextL T i).take 1 := rfl
    rw [hp]
    clear hp hc1 hc4 h0
    obtain ⟨b, off, aA, cA, aC, cC, rfl, hbl, -, -, c2, c3, -, hC⟩ := ho.out (by omega)
    have c2' := (old hB0 _ _ hbl).trans (c2 i hi)
    have hpr := good_par hg (by omega : i < T.length)
    have hbr : b < (w.alloc (.cells #[.slice (some ⟨b, off, none⟩) n c] 24)).heap.size := by simp; omega
    by_cases hneg : par T i < 0
    · have hL : Hid (nextL T i = []) := if_pos hneg
      rw [hL.out]
      try rw [List.take_nil]
      clear c2 c3 hC ho hg hpr
      go_enter Tryz.func158, Tryz.ntmps158
      go_wp2
      go_ret
      exact ⟨none, 0, by first | (simp; done) | (simp; omega), isInts_nil _, hB0⟩
    · obtain ⟨p, hpe⟩ := Int.eq_ofNat_of_zero_le (by omega : 0 ≤ par T i)
      have hp : p < n := by omega
      have hmem := par_kid hg (by omega : i < T.length) (by omega)
      rw [hpe, Int.toNat_natCast] at hmem
      have hpos := posn_neg.2 hmem
      have hplt := (posn_lt (kids T p) i).2
      have hL := nextL_at hpe
      rw [hpe] at c2'
      have c3' := (old hB0 _ _ hbl).trans (c3 p hp)
      have hI := hide ((hC p hp).1.below hB0)
      have hcc1 := (hC p hp).2.1
      have hcc2 := (hC p hp).2.2
      have hk64 := kids_len hg (by omega : p < T.length)
      obtain ⟨l, hla⟩ : ∃ l, kids T p = l := ⟨_, rfl⟩
      rw [hla] at c3' hI hcc1 hk64 hL hpos hplt
      generalize cA p = CA at c3' hI
      generalize cC p = cc at c3' hcc1 hcc2
      obtain ⟨x, hx⟩ := Int.eq_ofNat_of_zero_le hpos
      rw [hx] at hplt hL
      rw [Int.toNat_natCast] at hL
      have hx' := hide hx
      have hxl : x + 1 ≤ l.length := by omega
      obtain ⟨g6, o6, rfl, -, -⟩ := hI.out.2.2 (by omega)
      have hl63 : l.length ≤ 9223372036854775807 := by omega
      rw [hL]
      obtain ⟨Y, hY⟩ : ∃ Y, l.drop (x + 1) = Y := ⟨_, rfl⟩
      have hYl : Y.length = l.length - (x + 1) := by rw [← hY, List.length_drop]
      have hID := hI.out.drop (k := x + 1) (by omega)
      rw [hY] at hID ⊢
      obtain ⟨R, hR⟩ : ∃ R, Y.take 1 = R := ⟨_, rfl⟩
      rw [hR]
      have hR' := hide hR
      clear hR
      have hID' := hide hID
      have hYl' := hide hYl
      have j0 : (0 : Int) ≤ (p : Int) := by omega
      clear c2 c3 hC ho hg hpr hmem hpe hneg hL hpos hx hla hY hID hYl
      by_cases hcx : cc = x + 1
      · have hIE : Hid (∀ W, IsInts W (some ⟨g6, o6, none⟩) 0 Y) := fun W => by
          have : Y = [] := List.eq_nil_of_length_eq_zero (by rw [hYl'.out]; omega)
          rw [this]; exact isInts_none _ _ rfl
        have hYl2 : Hid (Y.length = 0) := by show _ = _; rw [hYl'.out]; omega
        subst hcx
        go_enter Tryz.func158, Tryz.ntmps158
        go_wp2_with fail
        have hy := index_ok _ _ (x + 1) l i _ hI.out
        rw [hx'.out] at hy
        refine hy.mono ?_
        clear hy
        rintro e w1 ⟨rfl, rfl⟩
        go_wp2_with fail
        refine (cloneInts_ok _ 0 0 Y _ (hIE.out _) (by omega)).mono ?_
        rintro e w2 ⟨A2, c2, rfl, hO2, hb2⟩
        obtain ⟨A4, c4, hv4, h41, h42, hI4⟩ := isInts_of_own hO2 (by omega)
        injection hv4 with h1 h2 h3
        subst h1 h3
        have hI4' := hide hI4
        have hm4 : c2 ≤ 9223372036854775807 := by unfold maxLen at h42; omega
        have hB2 := Below.on hB0 hb2
        clear hI4 hO2 h2 hb2
        by_cases hL1 : 0 ≤ 1
        · have et : Hid (R = Y) := by show _ = _; rw [← hR'.out]; exact List.take_of_length_le (by rw [hYl2.out]; exact hL1)
          go_wp2
          go_ret
          exact ⟨A2, c2, by rw [et.out, hYl2.out]; first | rfl | exact congrArg (fun k : Nat => Ending.returned (Value.slice (A2) k (c2))) (by omega), by rw [et.out, hYl2.out]; exact hI4'.out, hB2⟩
        · have e1 : Hid (R.length = 1) := by show _ = _; rw [← hR'.out, List.length_take, hYl2.out]; omega
          go_wp2
          go_ret
          first
            | exact absurd (Nat.zero_le 1) hL1
            | exact ⟨A2, c2, by rw [e1.out]; first | rfl | exact congrArg (fun k : Nat => Ending.returned (Value.slice (A2) k (c2))) (by omega), by rw [e1.out, ← hR'.out]; exact hI4'.out.take (by omega), hB2⟩
      · have hYl2 := hYl'
        go_enter Tryz.func158, Tryz.ntmps158
        go_wp2_with fail
        have hy := index_ok _ _ cc l i _ hI.out
        rw [hx'.out] at hy
        refine hy.mono ?_
        clear hy
        rintro e w1 ⟨rfl, rfl⟩
        go_wp2_with fail
        refine (cloneInts_ok _ (l.length - (x + 1)) (cc - (x + 1)) Y _ hID'.out (by omega)).mono ?_
        rintro e w2 ⟨A2, c2, rfl, hO2, hb2⟩
        obtain ⟨A4, c4, hv4, h41, h42, hI4⟩ := isInts_of_own hO2 (by omega)
        injection hv4 with h1 h2 h3
        subst h1 h3
        have hI4' := hide hI4
        have hm4 : c2 ≤ 9223372036854775807 := by unfold maxLen at h42; omega
        have hB2 := Below.on hB0 hb2
        clear hI4 hO2 h2 hb2
        by_cases hL1 : (l.length - (x + 1)) ≤ 1
        · have et : Hid (R = Y) := by show _ = _; rw [← hR'.out]; exact List.take_of_length_le (by rw [hYl2.out]; exact hL1)
          go_wp2
          go_ret
          exact ⟨A2, c2, by rw [et.out, hYl2.out]; first | rfl | exact congrArg (fun k : Nat => Ending.returned (Value.slice (A2) k (c2))) (by omega), by rw [et.out, hYl2.out]; exact hI4'.out, hB2⟩
        · have e1 : Hid (R.length = 1) := by show _ = _; rw [← hR'.out, List.length_take, hYl2.out]; omega
          go_wp2
          go_ret
          first
            | exact absurd (Nat.zero_le 1) hL1
            | exact ⟨A2, c2, by rw [e1.out]; first | rfl | exact congrArg (fun k : Nat => Ending.returned (Value.slice (A2) k (c2))) (by omega), by rw [e1.out, ← hR'.out]; exact hI4'.out.take (by omega), hB2⟩
  · have hp : nearH T i 4 = nextL T i := rfl
    rw [hp]
    clear hp hc1 hc4 h0
    obtain ⟨b, off, aA, cA, aC, cC, rfl, hbl, -, -, c2, c3, -, hC⟩ := ho.out (by omega)
    have c2' := (old hB0 _ _ hbl).trans (c2 i hi)
    have hpr := good_par hg (by omega : i < T.length)
    have hbr : b < (w.alloc (.cells #[.slice (some ⟨b, off, none⟩) n c] 24)).heap.size := by simp; omega
    by_cases hneg : par T i < 0
    · have hL : Hid (nextL T i = []) := if_pos hneg
      rw [hL.out]
      try rw [List.take_nil]
      clear c2 c3 hC ho hg hpr
      go_enter Tryz.func158, Tryz.ntmps158
      go_wp2
      go_ret
      exact ⟨none, 0, by first | (simp; done) | (simp; omega), isInts_nil _, hB0⟩
    · obtain ⟨p, hpe⟩ := Int.eq_ofNat_of_zero_le (by omega : 0 ≤ par T i)
      have hp : p < n := by omega
      have hmem := par_kid hg (by omega : i < T.length) (by omega)
      rw [hpe, Int.toNat_natCast] at hmem
      have hpos := posn_neg.2 hmem
      have hplt := (posn_lt (kids T p) i).2
      have hL := nextL_at hpe
      rw [hpe] at c2'
      have c3' := (old hB0 _ _ hbl).trans (c3 p hp)
      have hI := hide ((hC p hp).1.below hB0)
      have hcc1 := (hC p hp).2.1
      have hcc2 := (hC p hp).2.2
      have hk64 := kids_len hg (by omega : p < T.length)
      obtain ⟨l, hla⟩ : ∃ l, kids T p = l := ⟨_, rfl⟩
      rw [hla] at c3' hI hcc1 hk64 hL hpos hplt
      generalize cA p = CA at c3' hI
      generalize cC p = cc at c3' hcc1 hcc2
      obtain ⟨x, hx⟩ := Int.eq_ofNat_of_zero_le hpos
      rw [hx] at hplt hL
      rw [Int.toNat_natCast] at hL
      have hx' := hide hx
      have hxl : x + 1 ≤ l.length := by omega
      obtain ⟨g6, o6, rfl, -, -⟩ := hI.out.2.2 (by omega)
      have hl63 : l.length ≤ 9223372036854775807 := by omega
      rw [hL]
      obtain ⟨Y, hY⟩ : ∃ Y, l.drop (x + 1) = Y := ⟨_, rfl⟩
      have hYl : Y.length = l.length - (x + 1) := by rw [← hY, List.length_drop]
      have hID := hI.out.drop (k := x + 1) (by omega)
      rw [hY] at hID ⊢
      skip
      have hID' := hide hID
      have hYl' := hide hYl
      have j0 : (0 : Int) ≤ (p : Int) := by omega
      clear c2 c3 hC ho hg hpr hmem hpe hneg hL hpos hx hla hY hID hYl
      by_cases hcx : cc = x + 1
      · have hIE : Hid (∀ W, IsInts W (some ⟨g6, o6, none⟩) 0 Y) := fun W => by
          have : Y = [] := List.eq_nil_of_length_eq_zero (by rw [hYl'.out]; omega)
          rw [this]; exact isInts_none _ _ rfl
        have hYl2 : Hid (Y.length = 0) := by show _ = _; rw [hYl'.out]; omega
        subst hcx
        go_enter Tryz.func158, Tryz.ntmps158
        go_wp2_with fail
        have hy := index_ok _ _ (x + 1) l i _ hI.out
        rw [hx'.out] at hy
        refine hy.mono ?_
        clear hy
        rintro e w1 ⟨rfl, rfl⟩
        go_wp2_with fail
        refine (cloneInts_ok _ 0 0 Y _ (hIE.out _) (by omega)).mono ?_
        rintro e w2 ⟨A2, c2, rfl, hO2, hb2⟩
        obtain ⟨A4, c4, hv4, h41, h42, hI4⟩ := isInts_of_own hO2 (by omega)
        injection hv4 with h1 h2 h3
        subst h1 h3
        have hI4' := hide hI4
        have hm4 : c2 ≤ 9223372036854775807 := by unfold maxLen at h42; omega
        have hB2 := Below.on hB0 hb2
        clear hI4 hO2 h2 hb2
        go_wp2
        go_ret
        exact ⟨A2, c2, by rw [hYl2.out]; first | rfl | exact congrArg (fun k : Nat => Ending.returned (Value.slice (A2) k (c2))) (by omega), by rw [hYl2.out]; exact hI4'.out, hB2⟩
      · have hYl2 := hYl'
        go_enter Tryz.func158, Tryz.ntmps158
        go_wp2_with fail
        have hy := index_ok _ _ cc l i _ hI.out
        rw [hx'.out] at hy
        refine hy.mono ?_
        clear hy
        rintro e w1 ⟨rfl, rfl⟩
        go_wp2_with fail
        refine (cloneInts_ok _ (l.length - (x + 1)) (cc - (x + 1)) Y _ hID'.out (by omega)).mono ?_
        rintro e w2 ⟨A2, c2, rfl, hO2, hb2⟩
        obtain ⟨A4, c4, hv4, h41, h42, hI4⟩ := isInts_of_own hO2 (by omega)
        injection hv4 with h1 h2 h3
        subst h1 h3
        have hI4' := hide hI4
        have hm4 : c2 ≤ 9223372036854775807 := by unfold maxLen at h42; omega
        have hB2 := Below.on hB0 hb2
        clear hI4 hO2 h2 hb2
        go_wp2
        go_ret
        exact ⟨A2, c2, by rw [hYl2.out]; first | rfl | exact congrArg (fun k : Nat => Ending.returned (Value.slice (A2) k (c2))) (by omega), by rw [hYl2.out]; exact hI4'.out, hB2⟩
end Go.Proofs.YtljloicgjgbplaaGreat
/- Walks: Contains over truth values, Reach, by the program. Conditions as each states. -/
namespace Go.Proofs.YtljloicgjgbplaaGreat
open Go.RowKit

def idxT (xs : List Bool) : Int := if xs.findIdx id < xs.length then (xs.findIdx id : Nat) else -1
theorem bx_at {xs : List Bool} {j : Nat} (h : j < xs.length) : bx xs j = xs[j] := by
  unfold bx; rw [List.getD_eq_getElem?_getD, List.getElem?_eq_getElem h]; rfl
theorem idxT_at {xs : List Bool} {k : Nat} (hk : k < xs.length) (h : bx xs k = true) (hb : ∀ j, j < k → bx xs j = false) : idxT xs = k := by
  have e : xs.findIdx id = k := by
    rw [List.findIdx_eq hk]
    refine ⟨by rw [← bx_at hk]; exact h, fun j hj => ?_⟩
    rw [← bx_at (by omega)]; exact hb j hj
  unfold idxT; rw [e, if_pos hk]
theorem idxT_no {xs : List Bool} (hb : ∀ j, j < xs.length → bx xs j = false) : idxT xs = -1 := by
  unfold idxT
  rw [if_neg]
  intro h
  have := List.findIdx_getElem (w := h)
  rw [← bx_at h, hb _ h] at this
  cases this
theorem idxT_nonneg (xs : List Bool) : decide (0 ≤ idxT xs) = decide (true ∈ xs) := by
  rw [decide_eq_decide]
  unfold idxT
  constructor
  · intro h
    split at h
    · rename_i h2
      have := List.findIdx_getElem (w := h2)
      have h3 : xs[xs.findIdx id] = true := this
      rw [← h3]; exact List.getElem_mem _
    · omega
  · intro h
    rw [if_pos (List.findIdx_lt_length.2 ⟨true, h, rfl⟩)]
    omega
theorem indexT_ok (A : Option Addr) (n c : Nat) (xs : List Bool) (w : World) (h : IsBools w A n xs) :
    Calls Tryz.prog 175 #[.slice A n c, .bool true] w fun e w' => e = .returned (.int .i64 (idxT xs)) ∧ w = w' := by
  obtain ⟨hl, hn, ho⟩ := h
  go_enter Tryz.func175, Tryz.ntmps175
  go_wp2
  go_loop [5, 8] (fun _ i => ∃ k : Nat, k ≤ n ∧ i = .int .i64 k ∧ Hid (∀ j, j < k → bx xs j = false)) (fun _ i => n - (intOf i).toNat)
  case atStart => exact ⟨0, Nat.zero_le _, rfl, fun j hj => absurd hj (by omega)⟩
  case round =>
    obtain ⟨k, hk, rfl, hne⟩ := hrel
    by_cases hlt : k < n
    · obtain ⟨b, off, rfl, hbl, hc⟩ := ho (by omega)
      have hck := hc k hlt
      clear hc
      cases he : bx xs k
      · have hn2 : Hid (∀ j, j < k + 1 → bx xs j = false) := fun j hj => by
          by_cases h : j = k
          · subst h; exact he
          · exact hne.out j (by omega)
        rw [he] at hck
        clear he hne
        go_wp2
        go_round
        case rel => exact ⟨k + 1, by omega, by go_num, hn2.out⟩
        case measure => simp [intOf]; omega
      · have hp := hide (idxT_at (by omega) he hne.out)
        rw [he] at hck
        clear he hne
        go_wp2
        go_ret
        exact ⟨ret_int hp.out.symm, rfl⟩
    · have hp := hide (idxT_no (xs := xs) (fun j hj => hne.out j (by omega)))
      clear hne
      go_wp2
      go_ret
      exact ⟨ret_int hp.out.symm, rfl⟩
theorem containsT_ok (A : Option Addr) (n c : Nat) (xs : List Bool) (w : World) (h : IsBools w A n xs) :
    Calls Tryz.prog 159 #[.slice A n c, .bool true] w fun e w' => e = .returned (.bool (decide (true ∈ xs))) ∧ w = w' := by
  have hi := hide h
  have hd := hide (idxT_nonneg xs)
  clear h
  go_enter Tryz.func159, Tryz.ntmps159
  go_wp2_with fail
  refine (indexT_ok A n c xs _ hi.out).mono ?_
  rintro e w1 ⟨rfl, rfl⟩
  go_wp2
  go_ret
  exact ⟨ret_bool (by rw [← hd.out]), rfl⟩

end Go.Proofs.YtljloicgjgbplaaGreat
