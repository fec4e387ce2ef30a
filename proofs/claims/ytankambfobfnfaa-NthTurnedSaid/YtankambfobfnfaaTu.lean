/- Trees whose children are turned around: plain laws, and one exchange in a tree of the call's own. Conditions as each states. -/
import Derived.Test.YtankambfobfnfaaTset
import Derived.Test.YtankambfobfnfaaNh
namespace Go.Proofs.Ytankambfobfnfaa
open Go.RowKit

/-! ## Plain -/
def turnN (x : ANode) : ANode := { x with children := x.children.reverse }
def turnT (T : List ANode) (m : Nat) : List ANode := (List.range T.length).map fun j => if j < m then turnN (nd T j) else nd T j
theorem turnT_len (T : List ANode) (m : Nat) : (turnT T m).length = T.length := by unfold turnT; rw [List.length_map, List.length_range]
theorem nd_out {T : List ANode} {j : Nat} (h : T.length ≤ j) : nd T j = default := by
  unfold nd
  rw [List.getD_eq_getElem?_getD, List.getElem?_eq_none h]
  rfl
theorem turnT_nd (T : List ANode) (m j : Nat) : nd (turnT T m) j = if j < m then turnN (nd T j) else nd T j := by
  rcases Nat.lt_or_ge j T.length with h | h
  · conv => lhs; unfold nd turnT
    rw [List.getD_eq_getElem?_getD, List.getElem?_map, List.getElem?_range h]
    rfl
  · rw [nd_out (by rw [turnT_len]; exact h), nd_out h]
    split <;> rfl
theorem turnT_par (T : List ANode) (m j : Nat) : par (turnT T m) j = par T j := by
  unfold par
  rw [turnT_nd]
  split <;> rfl
theorem turnT_kids (T : List ANode) (m j : Nat) : kids (turnT T m) j = if j < m then (kids T j).reverse else kids T j := by
  unfold kids
  rw [turnT_nd]
  split <;> rfl
theorem up_par {T T' : List ANode} (h : ∀ j, par T' j = par T j) (k : Nat) (x : Int) : up T' k x = up T k x := by
  induction k generalizing x with
  | zero => rfl
  | succ k ih =>
    unfold up
    rw [h, ih]
/-- A tree of which only the order of children is another one. -/
theorem good_perm {T T' : List ANode} (hl : T'.length = T.length) (hn : ∀ i, (nd T' i).tag = (nd T i).tag ∧ (nd T' i).attrs = (nd T i).attrs ∧ par T' i = par T i ∧ (kids T' i).Perm (kids T i)) (hg : goodB T = true) : goodB T' = true := by
  rw [good_ref] at hg ⊢
  obtain ⟨h1, h2, h3, h4, h5, h6⟩ := hg
  refine ⟨by omega, by omega, by rw [(hn 0).2.2.1]; exact h3, fun i hi => ?_, fun i hi k hk => ?_, fun i hi => ?_⟩
  · obtain ⟨⟨a1, a2, a3, a4, a5⟩, a6⟩ := h4 i (by omega)
    obtain ⟨b1, b2, b3, b4⟩ := hn i
    refine ⟨⟨by rw [b1]; exact a1, by rw [b2]; exact a2, by rw [b3]; exact a3, by rw [b3, hl]; exact a4, by rw [b4.length_eq, hl]; exact a5⟩, fun j hj => ?_⟩
    obtain ⟨q, hq, he⟩ := mem_ix (b4.subset (ix_mem hj))
    rw [← he, hl]
    exact a6 q hq
  · rw [(hn i).2.2.2.count_eq, (hn k).2.2.1]
    exact h5 i (by omega) k (by omega)
  · unfold outB
    rw [up_par (fun j => (hn j).2.2.1), hl]
    exact h6 i (by omega)
theorem turnT_good {T : List ANode} (m : Nat) (hg : goodB T = true) : goodB (turnT T m) = true := by
  refine good_perm (turnT_len T m) (fun i => ⟨?_, ?_, turnT_par T m i, ?_⟩) hg
  · rw [turnT_nd]; split <;> rfl
  · rw [turnT_nd]; split <;> rfl
  · rw [turnT_kids]
    split
    · exact List.reverse_perm _
    · exact List.Perm.refl _
theorem turnT_sibs {T : List ANode} (hg : goodB T = true) {i : Nat} (hi : i < T.length) : sibs (turnT T T.length) i = (sibs T i).reverse := by
  unfold sibs
  rw [turnT_par]
  split
  · rfl
  · have := good_par hg hi
    rw [turnT_kids, if_pos (by omega)]
theorem ix_reverse {l : List Int} {j : Nat} (h : j < l.length) : ix l.reverse j = ix l (l.length - 1 - j) := by
  rw [ix_get (by rw [List.length_reverse]; exact h), ix_get (by omega), List.getElem_reverse]
theorem pfx_reverse (B : List Bool) (l : List Int) (k : Nat) (h : k ≤ l.length) : pfx B l.reverse k + pfx B l (l.length - k) = pfx B l l.length := by
  induction k with
  | zero => rw [pfx_zero, Nat.zero_add, Nat.sub_zero]
  | succ k ih =>
    have h1 := ih (by omega)
    rw [pfx_succ B l.reverse k (by rw [List.length_reverse]; omega), ix_reverse (by omega)]
    have h2 := pfx_succ B l (l.length - (k + 1)) (by omega)
    rw [show l.length - (k + 1) + 1 = l.length - k by omega, show l.length - (k + 1) = l.length - 1 - k by omega] at h2
    rw [show l.length - (k + 1) = l.length - 1 - k by omega]
    omega
/-- Turned around, the counted place is counted from the other side. -/
theorem turnT_at {T : List ANode} (hg : goodB T = true) {i : Nat} (hi : i < T.length) (last : Bool) (B : List Bool) : atF (turnT T T.length) i (!last) B = atF T i last B := by
  have hg' := turnT_good T.length hg
  have hi' : i < (turnT T T.length).length := by rw [turnT_len]; exact hi
  have hs := turnT_sibs hg hi
  obtain ⟨j, hj, he, hp⟩ := sibs_pos hg hi
  have hp' := sibs_posn hg' hi' (j := (sibs T i).length - 1 - j) (by rw [hs, List.length_reverse]; omega)
  rw [hs, ix_reverse (by omega), show (sibs T i).length - 1 - ((sibs T i).length - 1 - j) = j by omega, he] at hp'
  unfold atF
  rw [hs, hp, hp', Int.toNat_natCast, Int.toNat_natCast, List.length_reverse]
  by_cases hb : inb B i = true
  · rw [if_pos hb, if_pos hb]
    have h1 := pfx_reverse B (sibs T i) ((sibs T i).length - 1 - j) (by omega)
    rw [show (sibs T i).length - ((sibs T i).length - 1 - j) = j + 1 by omega] at h1
    have h2 := pfx_reverse B (sibs T i) (sibs T i).length (Nat.le_refl _)
    rw [Nat.sub_self, pfx_zero, Nat.add_zero] at h2
    have h3 := pfx_succ B (sibs T i) j hj
    rw [he, if_pos hb] at h3
    cases last
    · simp only [Bool.not_false, Bool.false_eq_true, if_true, if_false]
      rw [h2]
      omega
    · simp only [Bool.not_true, Bool.false_eq_true, if_true, if_false]
      omega
  · rw [if_neg hb, if_neg hb]
theorem turnT_nmat {T : List ANode} (hg : goodB T = true) {i : Nat} (hi : i < T.length) (a b : Int) (last : Bool) (B : List Bool) : nmatF (turnT T T.length) i a b (!last) B = nmatF T i a b last B := by
  unfold nmatF
  rw [turnT_at hg hi]

/-! ## A list, turned around by exchanges -/
def swp (l : List Int) (k : Nat) : List Int := (List.range l.length).map fun j => if j < k ∨ l.length - 1 - j < k then ix l (l.length - 1 - j) else ix l j
theorem swp_len (l : List Int) (k : Nat) : (swp l k).length = l.length := by unfold swp; rw [List.length_map, List.length_range]
theorem swp_ix (l : List Int) (k : Nat) {j : Nat} (h : j < l.length) : ix (swp l k) j = if j < k ∨ l.length - 1 - j < k then ix l (l.length - 1 - j) else ix l j := by
  conv => lhs; unfold ix swp
  rw [List.getD_eq_getElem?_getD, List.getElem?_map, List.getElem?_range h]
  rfl
theorem ints_ext {a b : List Int} (hl : a.length = b.length) (h : ∀ j, j < a.length → ix a j = ix b j) : a = b := by
  refine List.ext_getElem hl fun j h1 h2 => ?_
  have := h j h1
  rwa [ix_get h1, ix_get h2] at this
theorem swp_zero (l : List Int) : swp l 0 = l := by
  refine ints_ext (swp_len l 0) fun j hj => ?_
  rw [swp_len] at hj
  rw [swp_ix l 0 hj, if_neg (by omega)]
theorem swp_end (l : List Int) {k : Nat} (h : l.length ≤ 2 * k + 1) : swp l k = l.reverse := by
  refine ints_ext (by rw [swp_len, List.length_reverse]) fun j hj => ?_
  rw [swp_len] at hj
  rw [swp_ix l k hj, ix_reverse hj]
  split
  · rfl
  · rw [show l.length - 1 - j = j by omega]
theorem ix_set {l : List Int} {i : Nat} (hi : i < l.length) (x : Int) (j : Nat) : ix (l.set i x) j = if j = i then x else ix l j := by
  unfold ix
  rw [List.getD_eq_getElem?_getD, List.getD_eq_getElem?_getD, List.getElem?_set]
  by_cases h : j = i
  · subst h; simp [hi]
  · rw [if_neg (fun e => h e.symm), if_neg h]
theorem swp_succ (l : List Int) {k e : Nat} (h : 2 * k + 1 < l.length) (he : e = l.length - 1 - k) : ((swp l k).set k (ix (swp l k) e)).set e (ix (swp l k) k) = swp l (k + 1) := by
  subst he
  refine ints_ext (by rw [List.length_set, List.length_set, swp_len, swp_len]) fun j hj => ?_
  rw [List.length_set, List.length_set, swp_len] at hj
  rw [ix_set (by rw [List.length_set, swp_len]; omega), ix_set (by rw [swp_len]; omega), swp_ix l (k + 1) hj, swp_ix l k (by omega), swp_ix l k (by omega), swp_ix l k hj]
  by_cases h1 : j = l.length - 1 - k
  · subst h1
    rw [if_pos rfl, if_neg (by omega), if_pos (by omega), show l.length - 1 - (l.length - 1 - k) = k by omega]
  · rw [if_neg h1]
    by_cases h2 : j = k
    · subst h2
      rw [if_pos rfl, if_neg (by omega), if_pos (by omega)]
    · rw [if_neg h2]
      by_cases h3 : j < k ∨ l.length - 1 - j < k
      · rw [if_pos h3, if_pos (by omega)]
      · rw [if_neg h3, if_neg (by omega)]

/-! ## One exchange -/
theorem ints_set (xs : List Int) (i : Nat) (x : Int) : (ints xs).set i (.int .i64 x) = ints (xs.set i x) := by unfold ints; rw [List.map_set]
theorem nd_setK {T : List ANode} {i : Nat} (hi : i < T.length) (l : List Int) (j : Nat) : nd (setK T i l) j = if j = i then { nd T i with children := l } else nd T j := nd_set hi _ j
theorem kids_setK {T : List ANode} {i : Nat} (hi : i < T.length) (l : List Int) : kids (setK T i l) i = l := by unfold kids; rw [nd_setK hi, if_pos rfl]
theorem OwnTree.swap {w : World} {base n i g cap : Nat} {U : List ANode} {L : List Int} (h : OwnTree w base (.slice (some ⟨g, 0, none⟩) n cap) n (setK U i L)) (hU : U.length = n) (hi : i < n) {C : Option Addr} {cc m : Nat} (hm : L.length = m) (hc : w.cell? ⟨g, i * 4 + 3, none⟩ = some (.slice C m cc)) {a b : Nat} (ha : a < m) (hb : b < m) :
    ∃ gk, C = some ⟨gk, 0, none⟩ ∧ m ≤ cc ∧ cc ≤ 9223372036854775807 ∧ base ≤ gk ∧ (∃ cs, w.heap[gk]? = some (.cells cs 3 (0, 0))) ∧ gk ≠ g ∧ (∀ j, j < m → w.cell? ⟨gk, j, none⟩ = some (.int .i64 (ix L j))) ∧ (∀ j, w.frozen? ⟨gk, j, none⟩ = false) ∧
      ∀ x y : Int, OwnTree ((w.setCell ⟨gk, a, none⟩ (.int .i64 x)).setCell ⟨gk, b, none⟩ (.int .i64 y)) base (.slice (some ⟨g, 0, none⟩) n cap) n (setK U i ((L.set a x).set b y)) := by
  obtain ⟨g', cap', A, ac, C', cc', hN⟩ := h.node hi (by rw [setK_len]; exact hU)
  have hv := hN.val
  cases hv
  have hk : kids (setK U i L) i = L := kids_setK (by omega) L
  have h3 := hN.c3
  rw [hk, hm, hc] at h3
  cases h3
  have hrow := hN.rowK
  rw [hk, hm] at hrow
  obtain ⟨gk, ck, cs, hval, r1, r2, r3, r4⟩ := own_block hrow (by omega)
  cases hval
  have hne : gk ≠ g := fun e => hN.isK (by rw [e]; rfl)
  refine ⟨gk, rfl, r1, by unfold maxLen at r2; omega, r3, ⟨cs, r4⟩, hne, fun j hj => ?_, fun j => blk_frozen r4 j, fun x y => ?_⟩
  · rw [World.ownsRow.cellAt hrow j (by omega)]
    unfold ints
    rw [List.getElem?_map, List.getElem?_eq_getElem (by omega), ix_get (by omega)]
    rfl
  · have s1 := own_setCell hrow (o := a) (by omega) (.int .i64 x)
    have s2 := own_setCell s1 (o := b) (by omega) (.int .i64 y)
    rw [ints_set, ints_set] at s2
    have hl2 : ((L.set a x).set b y).length = m := by rw [List.length_set, List.length_set, hm]
    have := hN.inK ((w.setCell ⟨gk, a, none⟩ (.int .i64 x)).setCell ⟨gk, b, none⟩ (.int .i64 y)) ((L.set a x).set b y) (by rw [hk, hl2, hm]) (fun q hq hne' => ?_) (by rw [hl2]; exact s2)
    · refine this.congr fun j hj => ?_
      rw [nd_setK (by rw [setK_len]; omega), nd_setK (by omega), nd_setK (by omega), nd_setK (by omega)]
      split <;> simp_all
    · have hq' : q ≠ gk := fun e => hne' (by rw [e]; rfl)
      rw [Below.heap_setCell _ _ _ _ hq', Below.heap_setCell _ _ _ _ hq']
end Go.Proofs.Ytankambfobfnfaa
