/- Walks: the partners of an element for a combinator, by the program. Conditions: the tree is good, the element is in it, the combinator is one. -/
import Derived.Test.YtljloicgjgbplaaGreatG10
import Derived.Test.YtljloicgjgbplaaGreatG09
namespace Go.Proofs.YtljloicgjgbplaaGreat
open Go.RowKit

def prevL (T : List ANode) (i : Nat) : List Int := if par T i < 0 then [] else ((kids T (par T i).toNat).take (posn (kids T (par T i).toNat) i).toNat).reverse
/-- The partners, the nearest one first. -/
def prtF (T : List ANode) (i : Nat) (c : Int) : List Int := if c = 1 then anc T (par T i) else if c = 2 then (anc T (par T i)).take 1 else if c = 3 then (prevL T i).take 1 else prevL T i
theorem IsInts.take {w : World} {A : Option Addr} {n m : Nat} {xs : List Int} (h : IsInts w A n xs) (hm : m ≤ n) : IsInts w A m (xs.take m) := by
  obtain ⟨h1, h2, h3⟩ := h
  refine ⟨by rw [List.length_take]; omega, by omega, fun hn => ?_⟩
  obtain ⟨b, off, ha, hb, hc⟩ := h3 (by omega)
  refine ⟨b, off, ha, hb, fun j hj => ?_⟩
  rw [hc j (by omega)]
  congr 2
  unfold ix
  rw [List.getD_eq_getElem?_getD, List.getD_eq_getElem?_getD, List.getElem?_take, if_pos hj]
theorem anc_len {T : List ANode} (hg : goodB T = true) {i : Nat} (hi : i < T.length) : (anc T (par T i)).length ≤ 64 := by
  have h1 := anc_le hg (good_par hg hi).2
  have h2 := ((goodB_iff T).1 hg).2.1
  omega

set_option maxRecDepth 100000 in
set_option maxHeartbeats 2000000 in
theorem partners_ok (A : Option Addr) (n c : Nat) (T : List ANode) (i : Nat) (cm : Int) (w : World) (h : IsTree w A n T) (hg : goodB T = true) (hi : i < n) (hc1 : 1 ≤ cm) (hc4 : cm ≤ 4) :
    Calls Tryz.prog 97 #[.agg #[.slice A n c], .int .i64 i, .int .u8 cm] w (MadeInts0 w (prtF T i cm)) := by
  have ho := hide h.2.2.2
  have hT := hide h
  have hl := h.1
  clear h
  have hB0 := below_alloc (Below.refl w.heap.size w) (.cells #[.slice A n c] 24)
  have hbox0 : (w.alloc (.cells #[.slice A n c] 24)).cell? ⟨w.heap.size, 0, none⟩ = some (.slice A n c) := by go_simp
  have h0 : askI T [(i : Int)] = 0 := askI_ok hg (by simp; omega)
  have haE : aboveE T i = anc T (par T i) := by unfold aboveE; rw [if_pos h0]; rfl
  have hal := anc_len hg (by omega : i < T.length)
  have haE' := hide haE
  have h0' := hide h0
  clear haE h0
  rcases (by omega : cm = 1 ∨ cm = 2 ∨ cm = 3 ∨ cm = 4) with rfl | rfl | rfl | rfl
  · have hp : prtF T i 1 = anc T (par T i) := rfl
    rw [hp]
    clear hp hc1 hc4 hg ho
    go_enter Tryz.func97, Tryz.ntmps97
    go_wp2_with fail
    have hx := above_ok A n c T i _ (hT.out.below hB0)
    rw [haE'.out, h0'.out] at hx
    refine hx.mono ?_
    clear hx
    rintro e w1 ⟨A1, c1, rfl, hI, hc1, hm1, hb1⟩
    go_wp2
    go_ret
    exact ⟨_, _, rfl, hI, Below.on hB0 hb1⟩
  · have hp : prtF T i 2 = (anc T (par T i)).take 1 := rfl
    rw [hp]
    clear hp hc1 hc4 hg ho
    obtain ⟨L, hL⟩ : ∃ L, anc T (par T i) = L := ⟨_, rfl⟩
    rw [hL] at haE' hal ⊢
    obtain ⟨R, hR⟩ : ∃ R, L.take 1 = R := ⟨_, rfl⟩
    rw [hR]
    have hR' := hide hR
    clear hL hR
    go_enter Tryz.func97, Tryz.ntmps97
    go_wp2_with fail
    have hx := above_ok A n c T i _ (hT.out.below hB0)
    rw [haE'.out, h0'.out] at hx
    refine hx.mono ?_
    clear hx
    rintro e w1 ⟨A1, c1, rfl, hI, hc1, hm1, hb1⟩
    have hI' := hide hI
    have hm1' : c1 ≤ 9223372036854775807 := by unfold maxLen at hm1; omega
    clear hI
    by_cases hL1 : L.length ≤ 1
    · have et : Hid (R = L) := by show _ = _; rw [← hR'.out]; exact List.take_of_length_le hL1
      go_wp2
      go_ret
      exact ⟨A1, c1, by rw [et.out]; first | rfl | exact congrArg (fun k : Nat => Ending.returned (Value.slice A1 k c1)) (by omega), by rw [et.out]; exact hI'.out, Below.on hB0 hb1⟩
    · have e1 : Hid (R.length = 1) := by show _ = _; rw [← hR'.out, List.length_take]; omega
      go_wp2
      go_ret
      exact ⟨A1, c1, by rw [e1.out]; first | rfl | exact congrArg (fun k : Nat => Ending.returned (Value.slice A1 k c1)) (by omega), by rw [e1.out, ← hR'.out]; exact hI'.out.take (by omega), Below.on hB0 hb1⟩
  · have hp : prtF T i 3 = (prevL T i).take 1 := rfl
    rw [hp]
    clear hp hc1 hc4 haE' h0'
    obtain ⟨b, off, aA, cA, aC, cC, rfl, hbl, -, -, c2, c3, -, hC⟩ := ho.out (by omega)
    have c2' := (old hB0 _ _ hbl).trans (c2 i hi)
    have hpr := good_par hg (by omega : i < T.length)
    by_cases hneg : par T i < 0
    · have hL : Hid (prevL T i = []) := if_pos hneg
      rw [hL.out]
      clear c2 c3 hC ho hg hpr
      have hbr : b < (w.alloc (.cells #[.slice (some ⟨b, off, none⟩) n c] 24)).heap.size := by simp; omega
      go_enter Tryz.func97, Tryz.ntmps97
      go_wp2
      go_ret
      exact ⟨none, 0, by first | (simp; done) | (simp; omega), isInts_nil _, hB0⟩
    · obtain ⟨p, hpe⟩ := Int.eq_ofNat_of_zero_le (by omega : 0 ≤ par T i)
      have hp : p < n := by omega
      have hmem := par_kid hg (by omega : i < T.length) (by omega)
      rw [hpe, Int.toNat_natCast] at hmem
      have hpos := posn_neg.2 hmem
      have hplt := (posn_lt (kids T p) i).2
      have hL : prevL T i = ((kids T p).take (posn (kids T p) i).toNat).reverse := by unfold prevL; rw [if_neg hneg, hpe, Int.toNat_natCast]
      rw [hpe] at c2'
      have c3' := (old hB0 _ _ hbl).trans (c3 p hp)
      have hI := hide ((hC p hp).1.below hB0)
      have hcc1 := (hC p hp).2.1
      have hcc2 := (hC p hp).2.2
      have hk64 := kids_len hg (by omega : p < T.length)
      obtain ⟨l, hla⟩ : ∃ l, kids T p = l := ⟨_, rfl⟩
      rw [hla] at c3' hI hcc1 hk64 hL hpos hplt
      generalize cA p = CA at c3' hI
      generalize cC p = cc at c3' hcc1 hcc2
      obtain ⟨x, hx⟩ := Int.eq_ofNat_of_zero_le hpos
      rw [hx] at hplt hL
      rw [Int.toNat_natCast] at hL
      have hx' := hide hx
      have hxl : x ≤ l.length := by omega
      have hlt : Hid ((l.take x).length = x) := by show _ = _; rw [List.length_take]; omega
      have hl63 : l.length ≤ 9223372036854775807 := by omega
      have hbr : b < (w.alloc (.cells #[.slice (some ⟨b, off, none⟩) n c] 24)).heap.size := by simp; omega
      rw [hL]
      obtain ⟨R, hR⟩ : ∃ R, (l.take x).reverse.take 1 = R := ⟨_, rfl⟩
      rw [hR]
      have hR' := hide hR
      have j0 : (0 : Int) ≤ (p : Int) := by omega
      clear c2 c3 hC ho hg hpr hmem hpe hneg hL hpos hx hla hR
      go_enter Tryz.func97, Tryz.ntmps97
      go_wp2_with fail
      have hy := index_ok _ _ cc l i _ hI.out
      rw [hx'.out] at hy
      refine hy.mono ?_
      clear hy
      rintro e w1 ⟨rfl, rfl⟩
      go_wp2_with fail
      refine (cloneInts_ok CA x _ (l.take x) _ (hI.out.take hxl) (by omega)).mono ?_
      rintro e w2 ⟨A2, c2, rfl, hO2, hb2⟩
      have hO2' := hide hO2
      clear hO2
      go_wp2_with fail
      refine (rev_ok A2 x c2 _ (l.take x) w2 hO2'.out (by omega)).mono ?_
      rintro e w3 ⟨rfl, hO3, hg3⟩
      obtain ⟨A4, c4, hv4, h41, h42, hI4⟩ := isInts_of_own hO3 (by omega)
      injection hv4 with h1 h2 h3
      subst h1 h3
      have hb3 : Below w.heap.size w w3 := (Below.on hB0 hb2).grown hg3 (by have := hb2.size; simp at this; omega) (fun q hq => by have := (World.ownsRow.lt hO2'.out q ((ownBlock_slice _ _ _).trans hq)).1; simp at this; omega)
      have hI4' := hide hI4
      have hm4 : c2 ≤ 9223372036854775807 := by unfold maxLen at h42; omega
      clear hI4 hO3 hg3 h2
      by_cases hL1 : x ≤ 1
      · have et : Hid (R = (l.take x).reverse) := by show _ = _; rw [← hR'.out]; exact List.take_of_length_le (by rw [List.length_reverse, hlt.out]; exact hL1)
        have er : Hid (R.length = x) := by show _ = _; rw [et.out, List.length_reverse]; exact hlt.out
        go_wp2
        go_ret
        exact ⟨A2, c2, by rw [er.out]; first | rfl | exact congrArg (fun k : Nat => Ending.returned (Value.slice A2 k c2)) (by omega), by rw [er.out, et.out]; exact hI4'.out, hb3⟩
      · have e1 : Hid (R.length = 1) := by show _ = _; rw [← hR'.out, List.length_take, List.length_reverse, hlt.out]; omega
        go_wp2
        go_ret
        exact ⟨A2, c2, by rw [e1.out]; first | rfl | exact congrArg (fun k : Nat => Ending.returned (Value.slice A2 k c2)) (by omega), by rw [e1.out, ← hR'.out]; exact hI4'.out.take (by omega), hb3⟩
  · have hp : prtF T i 4 = prevL T i := rfl
    rw [hp]
    clear hp hc1 hc4 haE' h0'
    obtain ⟨b, off, aA, cA, aC, cC, rfl, hbl, -, -, c2, c3, -, hC⟩ := ho.out (by omega)
    have c2' := (old hB0 _ _ hbl).trans (c2 i hi)
    have hpr := good_par hg (by omega : i < T.length)
    by_cases hneg : par T i < 0
    · have hL : Hid (prevL T i = []) := if_pos hneg
      rw [hL.out]
      clear c2 c3 hC ho hg hpr
      have hbr : b < (w.alloc (.cells #[.slice (some ⟨b, off, none⟩) n c] 24)).heap.size := by simp; omega
      go_enter Tryz.func97, Tryz.ntmps97
      go_wp2
      go_ret
      exact ⟨none, 0, by first | (simp; done) | (simp; omega), isInts_nil _, hB0⟩
    · obtain ⟨p, hpe⟩ := Int.eq_ofNat_of_zero_le (by omega : 0 ≤ par T i)
      have hp : p < n := by omega
      have hmem := par_kid hg (by omega : i < T.length) (by omega)
      rw [hpe, Int.toNat_natCast] at hmem
      have hpos := posn_neg.2 hmem
      have hplt := (posn_lt (kids T p) i).2
      have hL : prevL T i = ((kids T p).take (posn (kids T p) i).toNat).reverse := by unfold prevL; rw [if_neg hneg, hpe, Int.toNat_natCast]
      rw [hpe] at c2'
      have c3' := (old hB0 _ _ hbl).trans (c3 p hp)
      have hI := hide ((hC p hp).1.below hB0)
      have hcc1 := (hC p hp).2.1
      have hcc2 := (hC p hp).2.2
      have hk64 := kids_len hg (by omega : p < T.length)
      obtain ⟨l, hla⟩ : ∃ l, kids T p = l := ⟨_, rfl⟩
      rw [hla] at c3' hI hcc1 hk64 hL hpos hplt
      generalize cA p = CA at c3' hI
      generalize cC p = cc at c3' hcc1 hcc2
      obtain ⟨x, hx⟩ := Int.eq_ofNat_of_zero_le hpos
      rw [hx] at hplt hL
      rw [Int.toNat_natCast] at hL
      have hx' := hide hx
      have hxl : x ≤ l.length := by omega
      have hlt : Hid ((l.take x).length = x) := by show _ = _; rw [List.length_take]; omega
      have hl63 : l.length ≤ 9223372036854775807 := by omega
      have hbr : b < (w.alloc (.cells #[.slice (some ⟨b, off, none⟩) n c] 24)).heap.size := by simp; omega
      rw [hL]
      obtain ⟨R, hR⟩ : ∃ R, (l.take x).reverse = R := ⟨_, rfl⟩
      have hrl : Hid (R.length = x) := by show _ = _; rw [← hR, List.length_reverse]; exact hlt.out
      rw [hR]
      have hR' := hide hR
      have j0 : (0 : Int) ≤ (p : Int) := by omega
      clear c2 c3 hC ho hg hpr hmem hpe hneg hL hpos hx hla hR
      go_enter Tryz.func97, Tryz.ntmps97
      go_wp2_with fail
      have hy := index_ok _ _ cc l i _ hI.out
      rw [hx'.out] at hy
      refine hy.mono ?_
      clear hy
      rintro e w1 ⟨rfl, rfl⟩
      go_wp2_with fail
      refine (cloneInts_ok CA x _ (l.take x) _ (hI.out.take hxl) (by omega)).mono ?_
      rintro e w2 ⟨A2, c2, rfl, hO2, hb2⟩
      have hO2' := hide hO2
      clear hO2
      go_wp2_with fail
      refine (rev_ok A2 x c2 _ (l.take x) w2 hO2'.out (by omega)).mono ?_
      rintro e w3 ⟨rfl, hO3, hg3⟩
      obtain ⟨A4, c4, hv4, h41, h42, hI4⟩ := isInts_of_own hO3 (by omega)
      injection hv4 with h1 h2 h3
      subst h1 h3
      have hb3 : Below w.heap.size w w3 := (Below.on hB0 hb2).grown hg3 (by have := hb2.size; simp at this; omega) (fun q hq => by have := (World.ownsRow.lt hO2'.out q ((ownBlock_slice _ _ _).trans hq)).1; simp at this; omega)
      have hI4' := hide hI4
      have hm4 : c2 ≤ 9223372036854775807 := by unfold maxLen at h42; omega
      clear hI4 hO3 hg3 h2
      go_wp2
      go_ret
      exact ⟨A2, c2, by rw [hrl.out]; rfl, by rw [hrl.out, ← hR'.out]; exact hI4'.out, hb3⟩
end Go.Proofs.YtljloicgjgbplaaGreat
/- Walks: the first of some elements that is reached, by the program's function values. Condition: what they have taken in lies in memory. -/
namespace Go.Proofs.YtljloicgjgbplaaGreat
open Go.RowKit

def hitB (B : List Bool) (y : Int) : Bool := bx B y.toNat
/-- The index of the first one that is hit, or -1. -/
def fstB (B : List Bool) (xs : List Int) : Int := if xs.findIdx (hitB B) < xs.length then (xs.findIdx (hitB B) : Nat) else -1
theorem fst_at {B : List Bool} {xs : List Int} {k : Nat} (hk : k < xs.length) (h : hitB B (ix xs k) = true) (hb : ∀ j, j < k → hitB B (ix xs j) = false) : fstB B xs = k := by
  have e : xs.findIdx (hitB B) = k := by
    rw [List.findIdx_eq hk]
    refine ⟨by rw [← ix_get hk]; exact h, fun j hj => ?_⟩
    rw [← ix_get (by omega)]; exact hb j hj
  unfold fstB; rw [e, if_pos hk]
theorem fst_no {B : List Bool} {xs : List Int} (hb : ∀ j, j < xs.length → hitB B (ix xs j) = false) : fstB B xs = -1 := by
  unfold fstB
  rw [if_neg]
  intro h
  have := List.findIdx_getElem (w := h)
  rw [← ix_get h, hb _ h] at this
  cases this
theorem fst_nonneg (B : List Bool) (xs : List Int) : decide (0 ≤ fstB B xs) = xs.any (hitB B) := by
  cases ha : xs.any (hitB B)
  · rw [decide_eq_false_iff_not, fst_no fun j hj => ?_]
    · omega
    · rw [List.any_eq_false] at ha
      rw [ix_get hj]
      have := ha _ (List.getElem_mem hj)
      simpa using this
  · rw [decide_eq_true_eq]
    unfold fstB
    rw [List.any_eq_true] at ha
    rw [if_pos (List.findIdx_lt_length.2 ha)]
    omega
/-- What the function values have taken in: the list of lists, the index of one of them. -/
structure Taken (w : World) (po pk : Nat) (k : Nat) (B : List Bool) : Prop where
  pk : w.cell? ⟨pk, 0, none⟩ = some (.int .i64 k)
  po : ∃ (g off m c : Nat) (R : Option Addr) (rl rc : Nat), w.cell? ⟨po, 0, none⟩ = some (.slice (some ⟨g, off, none⟩) m c) ∧ k < m ∧ m ≤ 9223372036854775807 ∧ w.cell? ⟨g, off + k, none⟩ = some (.slice R rl rc) ∧ IsBools w R rl B

theorem reached1_ok (y : Nat) (po pk k : Nat) (B : List Bool) (w : World) (h : Taken w po pk k B) (hy : y < B.length) :
    Calls Tryz.prog 98 #[.int .i64 y, .pointer (some ⟨po, 0, none⟩), .pointer (some ⟨pk, 0, none⟩)] w fun e w' => e = .returned (.bool (hitB B y)) ∧ w = w' := by
  obtain ⟨hk, g, off, m, c, R, rl, rc, h1, h2, h3, h4, h5⟩ := h
  obtain ⟨hl, hr, ho⟩ := h5
  obtain ⟨b, o, rfl, hb, hc⟩ := ho (by omega)
  have gy := hc y (by omega)
  have hyl : y < rl := by omega
  have e : hitB B y = bx B y := by unfold hitB; rw [Int.toNat_natCast]
  have e' := hide e
  clear hc ho e
  go_enter Tryz.func98, Tryz.ntmps98
  go_wp2
  go_ret
  exact ⟨ret_bool e'.out.symm, rfl⟩
set_option maxHeartbeats 1000000 in
theorem reached1_index (A : Option Addr) (n c : Nat) (xs : List Int) (po pk k : Nat) (B : List Bool) (w : World) (h : IsInts w A n xs) (hT : Taken w po pk k B) (hy : ∀ x ∈ xs, 0 ≤ x ∧ x < B.length) :
    Calls Tryz.prog 129 #[.slice A n c, .func (.func 98) #[] #[.pointer (some ⟨po, 0, none⟩), .pointer (some ⟨pk, 0, none⟩)]] w fun e w' => e = .returned (.int .i64 (fstB B xs)) ∧ w = w' := by
  obtain ⟨hl, hn, ho⟩ := h
  have hT' := hide hT
  have hy' := hide hy
  clear hT hy
  go_enter Tryz.func129, Tryz.ntmps129
  go_wp2
  go_loop [5, 8] (fun _ i => ∃ k : Nat, k ≤ n ∧ i = .int .i64 k ∧ Hid (∀ j, j < k → hitB B (ix xs j) = false)) (fun _ i => n - (intOf i).toNat)
  case atStart => exact ⟨0, Nat.zero_le _, rfl, fun j hj => absurd hj (by omega)⟩
  case round =>
    obtain ⟨q, hq, rfl, hne⟩ := hrel
    by_cases hlt : q < n
    · obtain ⟨b, off, rfl, hbl, hc⟩ := ho (by omega)
      have hck := hc q hlt
      clear hc
      have hyr := hy'.out (ix xs q) (ix_mem (by omega))
      obtain ⟨y, hye⟩ := Int.eq_ofNat_of_zero_le hyr.1
      have hcl := hide (reached1_ok y po pk k B w hT'.out (by omega))
      cases hh : hitB B (ix xs q)
      · have hh2 := hide hh
        rw [hye] at hck hh
        have hh3 := hide hh
        rw [hh] at hcl
        clear hh hye hyr
        go_wp2_with (go_at_call 98; refine hcl.out.mono ?_; rintro e w1 ⟨rfl, rfl⟩)
        go_round
        case rel => exact ⟨q + 1, by omega, by go_num, fun j hj => by
          by_cases h : j = q
          · subst h; exact hh2.out
          · exact hne.out j (by omega)⟩
        case measure => simp [intOf]; omega
      · have hq' := hide (fst_at (by omega) hh hne.out)
        rw [hye] at hck hh
        rw [hh] at hcl
        clear hh hye hyr hne
        go_wp2_with (go_at_call 98; refine hcl.out.mono ?_; rintro e w1 ⟨rfl, rfl⟩)
        go_ret
        exact ⟨ret_int hq'.out.symm, rfl⟩
    · have hq' := hide (fst_no (B := B) (xs := xs) (fun j hj => hne.out j (by omega)))
      clear hne
      go_wp2
      go_ret
      exact ⟨ret_int hq'.out.symm, rfl⟩
theorem reached1_any (A : Option Addr) (n c : Nat) (xs : List Int) (po pk k : Nat) (B : List Bool) (w : World) (h : IsInts w A n xs) (hT : Taken w po pk k B) (hy : ∀ x ∈ xs, 0 ≤ x ∧ x < B.length) :
    Calls Tryz.prog 96 #[.slice A n c, .func (.func 98) #[] #[.pointer (some ⟨po, 0, none⟩), .pointer (some ⟨pk, 0, none⟩)]] w fun e w' => e = .returned (.bool (xs.any (hitB B))) ∧ w = w' := by
  have hx := hide (reached1_index A n c xs po pk k B w h hT hy)
  have hn := hide (fst_nonneg B xs)
  clear h hT hy
  go_enter Tryz.func96, Tryz.ntmps96
  go_wp2_with fail
  refine hx.out.mono ?_
  rintro e w1 ⟨rfl, rfl⟩
  go_wp2
  go_ret
  exact ⟨ret_bool (by rw [← hn.out]), rfl⟩
end Go.Proofs.YtljloicgjgbplaaGreat
