/- Plain laws on the reach of an element: those of which it is a partner, in document order. Condition: the tree is good. -/
import Derived.Test.YtaliekkdamghbaaPcw
import Derived.Test.YtaliekkdamghbaaPcp
namespace Go.Proofs.Ytaliekkdamghbaa
open Go.RowKit

def nextL (T : List ANode) (i : Nat) : List Int := if par T i < 0 then [] else (kids T (par T i).toNat).drop ((posn (kids T (par T i).toNat) i).toNat + 1)
/-- The reach of an element for a combinator. -/
def nearF (T : List ANode) (i : Nat) (c : Int) : List Int := if c = 1 then (preT T i).drop 1 else if c = 2 then kids T i else if c = 3 then (nextL T i).take 1 else nextL T i
theorem filter_sub {α : Type} {M L : List α} {p : α → Bool} (hs : M.Sublist L) (hn : L.Nodup) (hp : ∀ x ∈ L, p x = true ↔ x ∈ M) : L.filter p = M := by
  induction hs with
  | slnil => rfl
  | @cons M L a h ih =>
    have hn' := List.nodup_cons.1 hn
    have ha : ¬ p a = true := fun h1 => hn'.1 (h.subset ((hp a (by simp)).1 h1))
    rw [List.filter_cons_of_neg ha]
    exact ih hn'.2 fun x hx => hp x (by simp [hx])
  | @cons_cons M L a h ih =>
    have hn' := List.nodup_cons.1 hn
    rw [List.filter_cons_of_pos ((hp a (by simp)).2 (by simp))]
    congr 1
    refine ih hn'.2 fun x hx => ?_
    have hxa : x ≠ a := fun e => hn'.1 (by rw [← e]; exact hx)
    rw [hp x (by simp [hx])]
    simp [hxa]
theorem sub_flat_all {l : List Int} {f : Int → List Int} (h : ∀ z ∈ l, z ∈ f z) : l.Sublist (l.flatMap f) := by
  induction l with
  | nil => simp
  | cons a l ih =>
    rw [List.flatMap_cons]
    have h1 : [a].Sublist (f a) := by simpa using h a (by simp)
    exact List.Sublist.append h1 (ih fun z hz => h z (by simp [hz]))
theorem mem_drop_posn {l : List Int} (hn : l.Nodup) {x : Int} (hx : x ∈ l) (k : Nat) : x ∈ l.drop k ↔ (k : Int) ≤ posn l x := by
  have h1 := mem_take_posn hx k
  have h2 : x ∈ l.take k ∨ x ∈ l.drop k := by rw [← List.mem_append, List.take_append_drop]; exact hx
  have h3 : x ∈ l.take k → ¬ x ∈ l.drop k := by
    have h4 := hn
    rw [← List.take_append_drop k l, List.nodup_append] at h4
    exact fun a b => h4.2.2 _ a _ b rfl
  constructor
  · intro h
    rcases Int.lt_or_le (posn l x) k with h5 | h5
    · exact absurd h (h3 (h1.2 h5))
    · exact h5
  · intro h
    rcases h2 with h5 | h5
    · have := h1.1 h5; omega
    · exact h5
section
variable {T : List ANode} (hg : goodB T = true) {i : Nat} (hi : i < T.length)
include hg hi
theorem kids_mem_iff {x : Nat} (hx : x < T.length) : (x : Int) ∈ kids T i ↔ par T x = i := by
  constructor
  · intro h
    obtain ⟨k, hk, -, hp⟩ := good_kid hg hi h
    have : x = k := by omega
    rw [this]; exact hp
  · intro h
    have := par_kid hg hx (by omega)
    rwa [h, Int.toNat_natCast] at this
omit hg hi in
theorem nextL_at {p : Nat} (hp : par T i = p) : nextL T i = (kids T p).drop ((posn (kids T p) i).toNat + 1) := by
  unfold nextL
  rw [if_neg (by omega), hp, Int.toNat_natCast]
theorem mem_nextL {x : Nat} (hx : x < T.length) : (x : Int) ∈ nextL T i ↔ (i : Int) ∈ prtF T x 4 := by
  have h4 := prt4_iff (p := i) hg hx hi
  have e1 : placeE T i = posn (sibs T i) i := by unfold placeE; rw [if_pos (askI_ok hg (by simp; omega)), Int.toNat_natCast]
  have e2 : placeE T x = posn (sibs T x) x := by unfold placeE; rw [if_pos (askI_ok hg (by simp; omega)), Int.toNat_natCast]
  rw [e1, e2, Bool.eq_iff_iff] at h4
  simp only [Bool.and_eq_true, decide_eq_true_eq] at h4
  rw [h4]
  by_cases hn : par T i < 0
  · have e : nextL T i = [] := if_pos hn
    rw [e]
    constructor
    · intro h; simp at h
    · rintro ⟨⟨h0, h1⟩, -⟩; omega
  · obtain ⟨p, hp⟩ := Int.eq_ofNat_of_zero_le (by omega : 0 ≤ par T i)
    have hpl : p < T.length := by have := (good_par hg hi).2; omega
    have es : sibs T i = kids T p := by unfold sibs; rw [if_neg hn, hp, Int.toNat_natCast]
    have hpos := posn_neg.2 ((kids_mem_iff hg hpl hi).2 hp)
    rw [nextL_at hp, es]
    constructor
    · intro h
      have hm := List.mem_of_mem_drop h
      have hpx := (kids_mem_iff hg hpl hx).1 hm
      have esx : sibs T x = kids T p := by unfold sibs; rw [if_neg (by omega), hpx, Int.toNat_natCast]
      rw [mem_drop_posn (kids_nodup hg hpl) hm] at h
      rw [esx]
      exact ⟨⟨by omega, by omega⟩, by omega⟩
    · rintro ⟨⟨h0, h1⟩, h2⟩
      have hpx : par T x = p := by omega
      have esx : sibs T x = kids T p := by unfold sibs; rw [if_neg (by omega), hpx, Int.toNat_natCast]
      rw [esx] at h2
      rw [mem_drop_posn (kids_nodup hg hpl) ((kids_mem_iff hg hpl hx).2 hpx)]
      omega
theorem mem_next1 {x : Nat} (hx : x < T.length) : (x : Int) ∈ (nextL T i).take 1 ↔ (i : Int) ∈ prtF T x 3 := by
  have h3 := prt3_iff (p := i) hg hx
  rw [decide_eq_decide] at h3
  rw [h3]
  by_cases hn : par T i < 0
  · have e : nextL T i = [] := if_pos hn
    rw [e]
    constructor
    · intro h; simp at h
    · intro h
      rcases prevL_cons hg hx with ⟨h1, -⟩ | ⟨q, h1, h2, h4⟩
      · omega
      · have hq : q = i := by omega
        subst hq
        have hm : (q : Int) ∈ prevL T x := by rw [h4]; simp
        have h5 := prt4_iff (p := q) hg hx hi
        have h6 : decide ((q : Int) ∈ prtF T x 4) = true := decide_eq_true hm
        rw [h6] at h5
        have := h5.symm
        simp only [Bool.and_eq_true, decide_eq_true_eq] at this
        omega
  · obtain ⟨p, hp⟩ := Int.eq_ofNat_of_zero_le (by omega : 0 ≤ par T i)
    have hpl : p < T.length := by have := (good_par hg hi).2; omega
    have es : sibs T i = kids T p := by unfold sibs; rw [if_neg hn, hp, Int.toNat_natCast]
    obtain ⟨j, hj, hji, hjp⟩ := sibs_pos hg hi
    rw [nextL_at hp, ← es, hjp, Int.toNat_natCast]
    constructor
    · intro h
      by_cases hj1 : j + 1 < (sibs T i).length
      · rw [List.drop_eq_getElem_cons hj1, List.take_succ_cons, List.take_zero, List.mem_singleton] at h
        have hx1 : (x : Int) = ix (sibs T i) (j + 1) := by
          rw [ix_get hj1]
          exact h
        rw [hx1, bes_prev hg hi hj1, hji]
      · rw [List.drop_of_length_le (by omega)] at h
        simp at h
    · intro h
      obtain ⟨j', hj', hjx, hjp'⟩ := sibs_pos hg hx
      cases j' with
      | zero =>
        have := bes_first hg hx hj'
        rw [hjx] at this
        omega
      | succ j' =>
        have h5 := bes_prev hg hx hj'
        rw [hjx, h] at h5
        have hm : (i : Int) ∈ sibs T x := by rw [h5]; exact ix_mem (by omega)
        obtain ⟨q, h6, h7, h8, h9⟩ := sibs_mem hg hx hm
        have : q = i := by omega
        subst this
        have h10 : posn (sibs T x) q = j' := by rw [h5]; exact sibs_posn hg hx (by omega)
        rw [← h8, hjp] at h10
        have : j = j' := by omega
        subst this
        rw [h8, List.drop_eq_getElem_cons hj', ← ix_get hj', hjx]
        simp
theorem near_mem {x : Nat} (hx : x < T.length) {c : Int} (h1 : 1 ≤ c) (h4 : c ≤ 4) : (x : Int) ∈ nearF T i c ↔ (i : Int) ∈ prtF T x c := by
  rcases (by omega : c = 1 ∨ c = 2 ∨ c = 3 ∨ c = 4) with rfl | rfl | rfl | rfl
  · show (x : Int) ∈ (preT T i).drop 1 ↔ (i : Int) ∈ anc T (par T x)
    have hn := preT_nodup hg hi
    have hm := mem_preT hg hi hx
    rw [anc_cons hg hx, List.mem_cons] at hm
    have hs := anc_self hg hx
    rw [preT_cons hg hi] at hn hm ⊢
    rw [List.drop_one, List.tail_cons]
    rw [List.mem_cons] at hm
    have hn' := (List.nodup_cons.1 hn).1
    constructor
    · intro h
      rcases hm.1 (.inr h) with h5 | h5
      · have : x = i := by omega
        subst this
        exact absurd h hn'
      · exact h5
    · intro h
      rcases hm.2 (.inr h) with h5 | h5
      · have : x = i := by omega
        subst this
        exact absurd h hs
      · exact h5
  · show (x : Int) ∈ kids T i ↔ _
    rw [kids_mem_iff hg hi hx]
    have := prt2_iff (p := i) hg hx
    rw [decide_eq_decide] at this
    exact this.symm
  · exact mem_next1 hg hi hx
  · exact mem_nextL hg hi hx
omit hi in
theorem kids_sub {p : Nat} (hp : p < T.length) : (kids T p).Sublist (preT T p) := by
  rw [preT_cons hg hp]
  refine List.Sublist.cons _ (sub_flat_all fun z hz => ?_)
  obtain ⟨k, rfl, hk, -⟩ := good_kid hg hp hz
  exact preT_self hg hk
theorem nextL_sub : (nextL T i).Sublist (preT T (topF T i)) := by
  by_cases hn : par T i < 0
  · have e : nextL T i = [] := if_pos hn
    rw [e]; exact List.nil_sublist _
  · obtain ⟨p, hp⟩ := Int.eq_ofNat_of_zero_le (by omega : 0 ≤ par T i)
    have hpl : p < T.length := by have := (good_par hg hi).2; omega
    rw [nextL_at hp, topF_up hg hi (by omega), hp]
    obtain ⟨t, ht, htl, hta⟩ := top_nat hg hpl
    rw [ht]
    exact ((List.drop_sublist _ _).trans (kids_sub hg hpl)).trans (preT_infix hg hpl hta).sublist
theorem near_sub (c : Int) : (nearF T i c).Sublist (preT T (topF T i)) := by
  obtain ⟨t, ht, htl, hta⟩ := top_nat hg hi
  have h1 : (preT T i).Sublist (preT T (topF T i)) := by rw [ht]; exact (preT_infix hg hi hta).sublist
  unfold nearF
  split
  · exact (List.drop_sublist _ _).trans h1
  · split
    · exact (kids_sub hg hi).trans h1
    · split
      · exact (List.take_sublist _ _).trans (nextL_sub hg hi)
      · exact nextL_sub hg hi
theorem near_range {c : Int} {x : Int} (hx : x ∈ nearF T i c) : ∃ k : Nat, x = (k : Int) ∧ k < T.length := by
  have h := (near_sub hg hi c).subset hx
  obtain ⟨t, ht, htl, -⟩ := top_nat hg hi
  rw [ht] at h
  obtain ⟨y, hy, hyl, -⟩ := pre_mem hg _ htl h
  exact ⟨y, hy, hyl⟩
theorem near_filter {c : Int} (h1 : 1 ≤ c) (h4 : c ≤ 4) : (preT T (topF T i)).filter (fun x => decide ((i : Int) ∈ prtF T x.toNat c)) = nearF T i c := by
  obtain ⟨t, ht, htl, -⟩ := top_nat hg hi
  refine filter_sub (near_sub hg hi c) (by rw [ht]; exact preT_nodup hg htl) fun x hx => ?_
  rw [ht] at hx
  obtain ⟨y, rfl, hyl, -⟩ := pre_mem hg _ htl hx
  rw [Int.toNat_natCast, decide_eq_true_eq]
  exact (near_mem hg hi hyl h1 h4).symm
theorem near_len (c : Int) : (nearF T i c).length ≤ T.length := by
  obtain ⟨t, ht, htl, -⟩ := top_nat hg hi
  have := (near_sub hg hi c).length_le
  rw [ht] at this
  exact Nat.le_trans this (preT_len hg htl)
end
end Go.Proofs.Ytaliekkdamghbaa
/- Plain laws on what an element has: as ways on from its reach, and as ways to the last compound. Conditions: the tree is good, what is told is right. -/
namespace Go.Proofs.Ytaliekkdamghbaa
open Go.RowKit

def firstL (T : List ANode) (i : Nat) (c : Int) (H : List (List Bool)) : List Bool := (List.range T.length).map fun x : Nat => decide ((x : Int) ∈ nearF T i c) && bx (rowB H 0) x
def hasH (T : List ANode) (i : Nat) (c : Int) (H : List (List Bool)) : List (List Bool) := firstL T i c H :: H.drop 1
def hasF (T : List ANode) (i : Nat) (c : Int) (cs : List Int) (H : List (List Bool)) : Bool := decide (true ∈ rchL T cs (hasH T i c H) cs.length)
/-- A way from an element goes on to the last compound, d compounds on. -/
def begF (T : List ANode) (cs : List Int) (H : List (List Bool)) : Nat → Nat → Nat → Bool
  | 0, k, i => bx (rowB H k) i
  | d + 1, k, i => bx (rowB H k) i && (nearF T i (ix cs k)).any fun l => begF T cs H d (k + 1) l.toNat
theorem firstL_len (T : List ANode) (i : Nat) (c : Int) (H : List (List Bool)) : (firstL T i c H).length = T.length := by simp [firstL]
theorem firstL_bx (T : List ANode) (i : Nat) (c : Int) (H : List (List Bool)) {x : Nat} (hx : x < T.length) : bx (firstL T i c H) x = (decide ((x : Int) ∈ nearF T i c) && bx (rowB H 0) x) := by simp [firstL, bx, hx]
theorem hasH_row (T : List ANode) (i : Nat) (c : Int) (H : List (List Bool)) (k : Nat) : rowB (hasH T i c H) (k + 1) = rowB H (k + 1) := by
  show rowB (H.drop 1) k = _
  rw [rowB_drop]; congr 1; omega
theorem hasH_told {T : List ANode} {cs : List Int} {H : List (List Bool)} (ht : toldB T.length cs H = true) (i : Nat) (c : Int) : toldB T.length cs (hasH T i c H) = true := by
  obtain ⟨h1, h2, h3, h4, h5⟩ := (toldB_iff _ _ _).1 ht
  have l1 : (hasH T i c H).length = H.length := by unfold hasH; rw [List.length_cons, List.length_drop]; omega
  refine (toldB_iff _ _ _).2 ⟨by omega, by omega, by omega, h4, fun j hj => ?_⟩
  cases j with
  | zero => exact firstL_len T i c H
  | succ j => rw [hasH_row]; exact h5 _ (by omega)
theorem beg_hit {T : List ANode} {cs : List Int} {H : List (List Bool)} {d k i : Nat} (h : begF T cs H d k i = true) : bx (rowB H k) i = true := by
  cases d with
  | zero => exact h
  | succ d =>
    have h2 : (bx (rowB H k) i && _) = true := h
    rw [Bool.and_eq_true] at h2
    exact h2.1
theorem has_row_hit {T : List ANode} {cs : List Int} {H : List (List Bool)} {i q x : Nat} {c : Int} (hx : x < T.length) (h : rchF T cs (hasH T i c H) q x = true) : bx (rowB H q) x = true := by
  have h1 := rch_hit h
  cases q with
  | zero =>
    have h2 : bx (firstL T i c H) x = true := h1
    rw [firstL_bx _ _ _ _ hx, Bool.and_eq_true] at h2
    exact h2.2
  | succ q => rw [hasH_row] at h1; exact h1
section
variable {T : List ANode} (hg : goodB T = true) {cs : List Int} {H : List (List Bool)} (ht : toldB T.length cs H = true) {i : Nat} (hi : i < T.length) {c : Int}
include hg ht
theorem beg_on : ∀ d k x, k + d = cs.length → x < T.length → begF T cs H d k x = true → rchF T cs (hasH T i c H) k x = true → ∃ y, y < T.length ∧ rchF T cs (hasH T i c H) cs.length y = true := by
  intro d
  induction d with
  | zero =>
    intro k x hk hx _ h
    have : k = cs.length := by omega
    subst this
    exact ⟨x, hx, h⟩
  | succ d ih =>
    intro k x hk hx hb hr
    have h2 : (bx (rowB H k) x && (nearF T x (ix cs k)).any fun l => begF T cs H d (k + 1) l.toNat) = true := hb
    rw [Bool.and_eq_true, List.any_eq_true] at h2
    obtain ⟨-, l, hl, hbl⟩ := h2
    obtain ⟨y, rfl, hy⟩ := near_range hg hx hl
    rw [Int.toNat_natCast] at hbl
    have hcs := ((toldB_iff _ _ _).1 ht).2.2.2.1 k (by omega)
    refine ih (k + 1) y (by omega) hy hbl ?_
    show (bx (rowB (hasH T i c H) (k + 1)) y && (prtF T y (ix cs k)).any fun p => rchF T cs (hasH T i c H) k p.toNat) = true
    rw [hasH_row, beg_hit hbl, Bool.true_and, List.any_eq_true]
    exact ⟨(x : Int), (near_mem hg hx hy hcs.1 hcs.2).1 hl, by rw [Int.toNat_natCast]; exact hr⟩
include hi
omit hi in
theorem beg_back : ∀ q y, q ≤ cs.length → y < T.length → rchF T cs (hasH T i c H) q y = true → begF T cs H (cs.length - q) q y = true → ∃ l ∈ nearF T i c, begF T cs H cs.length 0 l.toNat = true := by
  intro q
  induction q with
  | zero =>
    intro y _ hy hr hb
    have h2 : bx (firstL T i c H) y = true := hr
    rw [firstL_bx _ _ _ _ hy, Bool.and_eq_true, decide_eq_true_eq] at h2
    exact ⟨(y : Int), h2.1, by rw [Int.toNat_natCast]; exact hb⟩
  | succ q ih =>
    intro y hq hy hr hb
    have h2 : (bx (rowB (hasH T i c H) (q + 1)) y && (prtF T y (ix cs q)).any fun p => rchF T cs (hasH T i c H) q p.toNat) = true := hr
    rw [Bool.and_eq_true, List.any_eq_true] at h2
    obtain ⟨-, p, hp, hrp⟩ := h2
    have hpr := prt_range hg hy (ix cs q) p hp
    obtain ⟨z, rfl⟩ := Int.eq_ofNat_of_zero_le hpr.1
    have hz : z < T.length := by omega
    rw [Int.toNat_natCast] at hrp
    have hcs := ((toldB_iff _ _ _).1 ht).2.2.2.1 q (by omega)
    refine ih z (by omega) hz hrp ?_
    obtain ⟨d, hd⟩ : ∃ d, cs.length - q = d + 1 := ⟨cs.length - (q + 1), by omega⟩
    have hd' : cs.length - (q + 1) = d := by omega
    rw [hd' ] at hb
    rw [hd]
    show (bx (rowB H q) z && (nearF T z (ix cs q)).any fun l => begF T cs H d (q + 1) l.toNat) = true
    rw [has_row_hit hz hrp, Bool.true_and, List.any_eq_true]
    exact ⟨(y : Int), (near_mem hg hz hy hcs.1 hcs.2).2 hp, by rw [Int.toNat_natCast]; exact hb⟩
theorem has_beg : hasF T i c cs H = (nearF T i c).any fun l => begF T cs H cs.length 0 l.toNat := by
  unfold hasF
  rw [Bool.eq_iff_iff, decide_eq_true_eq, List.any_eq_true]
  constructor
  · intro h
    unfold rchL at h
    obtain ⟨y, hy, hr⟩ := List.mem_map.1 h
    have hy := List.mem_range.1 hy
    exact beg_back hg ht cs.length y (Nat.le_refl _) hy hr (by rw [Nat.sub_self]; exact has_row_hit hy hr)
  · rintro ⟨l, hl, hb⟩
    obtain ⟨z, rfl, hz⟩ := near_range hg hi hl
    rw [Int.toNat_natCast] at hb
    obtain ⟨y, hy, hr⟩ := beg_on hg ht (i := i) (c := c) cs.length 0 z (by omega) hz hb (by
      show bx (firstL T i c H) z = true
      rw [firstL_bx _ _ _ _ hz, beg_hit hb, Bool.and_true, decide_eq_true_eq]
      exact hl)
    unfold rchL
    exact List.mem_map.2 ⟨y, List.mem_range.2 hy, hr⟩
end
end Go.Proofs.Ytaliekkdamghbaa
