/- Walks: the partners of an element for a combinator, by the program. Conditions: the tree is good, the element is in it, the combinator is one. -/
import Derived.Test.YtaliekkdamghbaaCw
import Derived.Test.YtaliekkdamghbaaRv
import Derived.Test.YtaliekkdamghbaaOd
namespace Go.Proofs.Ytaliekkdamghbaa
open Go.RowKit

def prevL (T : List ANode) (i : Nat) : List Int := if par T i < 0 then [] else ((kids T (par T i).toNat).take (posn (kids T (par T i).toNat) i).toNat).reverse
/-- The partners, the nearest one first. -/
def prtF (T : List ANode) (i : Nat) (c : Int) : List Int := if c = 1 then anc T (par T i) else if c = 2 then (anc T (par T i)).take 1 else if c = 3 then (prevL T i).take 1 else prevL T i
theorem IsInts.take {w : World} {A : Option Addr} {n m : Nat} {xs : List Int} (h : IsInts w A n xs) (hm : m ≤ n) : IsInts w A m (xs.take m) := by
  obtain ⟨h1, h2, h3⟩ := h
  refine ⟨by rw [List.length_take]; omega, by omega, fun hn => ?_⟩
  obtain ⟨b, off, ha, hb, hc⟩ := h3 (by omega)
  refine ⟨b, off, ha, hb, fun j hj => ?_⟩
  rw [hc j (by omega)]
  congr 2
  unfold ix
  rw [List.getD_eq_getElem?_getD, List.getD_eq_getElem?_getD, List.getElem?_take, if_pos hj]
theorem anc_len {T : List ANode} (hg : goodB T = true) {i : Nat} (hi : i < T.length) : (anc T (par T i)).length ≤ 64 := by
  have h1 := anc_le hg (good_par hg hi).2
  have h2 := ((goodB_iff T).1 hg).2.1
  omega

set_option maxRecDepth 100000 in
set_option maxHeartbeats 2000000 in
theorem partners_ok (A : Option Addr) (n c : Nat) (T : List ANode) (i : Nat) (cm : Int) (w : World) (h : IsTree w A n T) (hg : goodB T = true) (hi : i < n) (hc1 : 1 ≤ cm) (hc4 : cm ≤ 4) :
    Calls Try.prog 49 #[.agg #[.slice A n c], .int .i64 i, .int .u8 cm] w (MadeInts0 w (prtF T i cm)) := by
  have ho := hide h.2.2.2
  have hT := hide h
  have hl := h.1
  clear h
  have hB0 := below_alloc (Below.refl w.heap.size w) (.cells #[.slice A n c] 24)
  have hbox0 : (w.alloc (.cells #[.slice A n c] 24)).cell? ⟨w.heap.size, 0, none⟩ = some (.slice A n c) := by go_simp
  have h0 : askI T [(i : Int)] = 0 := askI_ok hg (by simp; omega)
  have haE : aboveE T i = anc T (par T i) := by unfold aboveE; rw [if_pos h0]; rfl
  have hal := anc_len hg (by omega : i < T.length)
  have haE' := hide haE
  have h0' := hide h0
  clear haE h0
  rcases (by omega : cm = 1 ∨ cm = 2 ∨ cm = 3 ∨ cm = 4) with rfl | rfl | rfl | rfl
  · have hp : prtF T i 1 = anc T (par T i) := rfl
    rw [hp]
    clear hp hc1 hc4 hg ho
    go_enter Try.func49, Try.ntmps49
    go_wp2_with fail
    have hx := above_ok A n c T i _ (hT.out.below hB0)
    rw [haE'.out, h0'.out] at hx
    refine hx.mono ?_
    clear hx
    rintro e w1 ⟨A1, c1, rfl, hI, hc1, hm1, hb1⟩
    go_wp2
    go_ret
    exact ⟨_, _, rfl, hI, Below.on hB0 hb1⟩
  · have hp : prtF T i 2 = (anc T (par T i)).take 1 := rfl
    rw [hp]
    clear hp hc1 hc4 hg ho
    obtain ⟨L, hL⟩ : ∃ L, anc T (par T i) = L := ⟨_, rfl⟩
    rw [hL] at haE' hal ⊢
    obtain ⟨R, hR⟩ : ∃ R, L.take 1 = R := ⟨_, rfl⟩
    rw [hR]
    have hR' := hide hR
    clear hL hR
    go_enter Try.func49, Try.ntmps49
    go_wp2_with fail
    have hx := above_ok A n c T i _ (hT.out.below hB0)
    rw [haE'.out, h0'.out] at hx
    refine hx.mono ?_
    clear hx
    rintro e w1 ⟨A1, c1, rfl, hI, hc1, hm1, hb1⟩
    have hI' := hide hI
    have hm1' : c1 ≤ 9223372036854775807 := by unfold maxLen at hm1; omega
    clear hI
    by_cases hL1 : L.length ≤ 1
    · have et : Hid (R = L) := by show _ = _; rw [← hR'.out]; exact List.take_of_length_le hL1
      go_wp2
      go_ret
      exact ⟨A1, c1, by rw [et.out]; rfl, by rw [et.out]; exact hI'.out, Below.on hB0 hb1⟩
    · have e1 : Hid (R.length = 1) := by show _ = _; rw [← hR'.out, List.length_take]; omega
      go_wp2
      go_ret
      exact ⟨A1, c1, by rw [e1.out]; rfl, by rw [e1.out, ← hR'.out]; exact hI'.out.take (by omega), Below.on hB0 hb1⟩
  · have hp : prtF T i 3 = (prevL T i).take 1 := rfl
    rw [hp]
    clear hp hc1 hc4 haE' h0'
    obtain ⟨b, off, aA, cA, aC, cC, rfl, hbl, -, -, c2, c3, -, hC⟩ := ho.out (by omega)
    have c2' := (old hB0 _ _ hbl).trans (c2 i hi)
    have hpr := good_par hg (by omega : i < T.length)
    by_cases hneg : par T i < 0
    · have hL : Hid (prevL T i = []) := if_pos hneg
      rw [hL.out]
      clear c2 c3 hC ho hg hpr
      have hbr : b < (w.alloc (.cells #[.slice (some ⟨b, off, none⟩) n c] 24)).heap.size := by simp; omega
      go_enter Try.func49, Try.ntmps49
      go_wp2
      go_ret
      exact ⟨none, 0, by simp, isInts_nil _, hB0⟩
    · obtain ⟨p, hpe⟩ := Int.eq_ofNat_of_zero_le (by omega : 0 ≤ par T i)
      have hp : p < n := by omega
      have hmem := par_kid hg (by omega : i < T.length) (by omega)
      rw [hpe, Int.toNat_natCast] at hmem
      have hpos := posn_neg.2 hmem
      have hplt := (posn_lt (kids T p) i).2
      have hL : prevL T i = ((kids T p).take (posn (kids T p) i).toNat).reverse := by unfold prevL; rw [if_neg hneg, hpe, Int.toNat_natCast]
      rw [hpe] at c2'
      have c3' := (old hB0 _ _ hbl).trans (c3 p hp)
      have hI := hide ((hC p hp).1.below hB0)
      have hcc1 := (hC p hp).2.1
      have hcc2 := (hC p hp).2.2
      have hk64 := kids_len hg (by omega : p < T.length)
      obtain ⟨l, hla⟩ : ∃ l, kids T p = l := ⟨_, rfl⟩
      rw [hla] at c3' hI hcc1 hk64 hL hpos hplt
      generalize cA p = CA at c3' hI
      generalize cC p = cc at c3' hcc1 hcc2
      obtain ⟨x, hx⟩ := Int.eq_ofNat_of_zero_le hpos
      rw [hx] at hplt hL
      rw [Int.toNat_natCast] at hL
      have hx' := hide hx
      have hxl : x ≤ l.length := by omega
      have hlt : Hid ((l.take x).length = x) := by show _ = _; rw [List.length_take]; omega
      have hl63 : l.length ≤ 9223372036854775807 := by omega
      have hbr : b < (w.alloc (.cells #[.slice (some ⟨b, off, none⟩) n c] 24)).heap.size := by simp; omega
      rw [hL]
      obtain ⟨R, hR⟩ : ∃ R, (l.take x).reverse.take 1 = R := ⟨_, rfl⟩
      rw [hR]
      have hR' := hide hR
      have j0 : (0 : Int) ≤ (p : Int) := by omega
      clear c2 c3 hC ho hg hpr hmem hpe hneg hL hpos hx hla hR
      go_enter Try.func49, Try.ntmps49
      go_wp2_with fail
      have hy := index_ok _ _ cc l i _ hI.out
      rw [hx'.out] at hy
      refine hy.mono ?_
      clear hy
      rintro e w1 ⟨rfl, rfl⟩
      go_wp2_with fail
      refine (cloneInts_ok CA x _ (l.take x) _ (hI.out.take hxl) (by omega)).mono ?_
      rintro e w2 ⟨A2, c2, rfl, hO2, hb2⟩
      have hO2' := hide hO2
      clear hO2
      go_wp2_with fail
      refine (rev_ok A2 x c2 _ (l.take x) w2 hO2'.out (by omega)).mono ?_
      rintro e w3 ⟨rfl, hO3, hg3⟩
      obtain ⟨A4, c4, hv4, h41, h42, hI4⟩ := isInts_of_own hO3 (by omega)
      injection hv4 with h1 h2 h3
      subst h1 h3
      have hb3 : Below w.heap.size w w3 := (Below.on hB0 hb2).grown hg3 (by have := hb2.size; simp at this; omega) (fun q hq => by have := (World.ownsRow.lt hO2'.out q ((ownBlock_slice _ _ _).trans hq)).1; simp at this; omega)
      have hI4' := hide hI4
      have hm4 : c2 ≤ 9223372036854775807 := by unfold maxLen at h42; omega
      clear hI4 hO3 hg3 h2
      by_cases hL1 : x ≤ 1
      · have et : Hid (R = (l.take x).reverse) := by show _ = _; rw [← hR'.out]; exact List.take_of_length_le (by rw [List.length_reverse, hlt.out]; exact hL1)
        have er : Hid (R.length = x) := by show _ = _; rw [et.out, List.length_reverse]; exact hlt.out
        go_wp2
        go_ret
        exact ⟨A2, c2, by rw [er.out]; rfl, by rw [er.out, et.out]; exact hI4'.out, hb3⟩
      · have e1 : Hid (R.length = 1) := by show _ = _; rw [← hR'.out, List.length_take, List.length_reverse, hlt.out]; omega
        go_wp2
        go_ret
        exact ⟨A2, c2, by rw [e1.out]; rfl, by rw [e1.out, ← hR'.out]; exact hI4'.out.take (by omega), hb3⟩
  · have hp : prtF T i 4 = prevL T i := rfl
    rw [hp]
    clear hp hc1 hc4 haE' h0'
    obtain ⟨b, off, aA, cA, aC, cC, rfl, hbl, -, -, c2, c3, -, hC⟩ := ho.out (by omega)
    have c2' := (old hB0 _ _ hbl).trans (c2 i hi)
    have hpr := good_par hg (by omega : i < T.length)
    by_cases hneg : par T i < 0
    · have hL : Hid (prevL T i = []) := if_pos hneg
      rw [hL.out]
      clear c2 c3 hC ho hg hpr
      have hbr : b < (w.alloc (.cells #[.slice (some ⟨b, off, none⟩) n c] 24)).heap.size := by simp; omega
      go_enter Try.func49, Try.ntmps49
      go_wp2
      go_ret
      exact ⟨none, 0, by simp, isInts_nil _, hB0⟩
    · obtain ⟨p, hpe⟩ := Int.eq_ofNat_of_zero_le (by omega : 0 ≤ par T i)
      have hp : p < n := by omega
      have hmem := par_kid hg (by omega : i < T.length) (by omega)
      rw [hpe, Int.toNat_natCast] at hmem
      have hpos := posn_neg.2 hmem
      have hplt := (posn_lt (kids T p) i).2
      have hL : prevL T i = ((kids T p).take (posn (kids T p) i).toNat).reverse := by unfold prevL; rw [if_neg hneg, hpe, Int.toNat_natCast]
      rw [hpe] at c2'
      have c3' := (old hB0 _ _ hbl).trans (c3 p hp)
      have hI := hide ((hC p hp).1.below hB0)
      have hcc1 := (hC p hp).2.1
      have hcc2 := (hC p hp).2.2
      have hk64 := kids_len hg (by omega : p < T.length)
      obtain ⟨l, hla⟩ : ∃ l, kids T p = l := ⟨_, rfl⟩
      rw [hla] at c3' hI hcc1 hk64 hL hpos hplt
      generalize cA p = CA at c3' hI
      generalize cC p = cc at c3' hcc1 hcc2
      obtain ⟨x, hx⟩ := Int.eq_ofNat_of_zero_le hpos
      rw [hx] at hplt hL
      rw [Int.toNat_natCast] at hL
      have hx' := hide hx
      have hxl : x ≤ l.length := by omega
      have hlt : Hid ((l.take x).length = x) := by show _ = _; rw [List.length_take]; omega
      have hl63 : l.length ≤ 9223372036854775807 := by omega
      have hbr : b < (w.alloc (.cells #[.slice (some ⟨b, off, none⟩) n c] 24)).heap.size := by simp; omega
      rw [hL]
      obtain ⟨R, hR⟩ : ∃ R, (l.take x).reverse = R := ⟨_, rfl⟩
      have hrl : Hid (R.length = x) := by show _ = _; rw [← hR, List.length_reverse]; exact hlt.out
      rw [hR]
      have hR' := hide hR
      have j0 : (0 : Int) ≤ (p : Int) := by omega
      clear c2 c3 hC ho hg hpr hmem hpe hneg hL hpos hx hla hR
      go_enter Try.func49, Try.ntmps49
      go_wp2_with fail
      have hy := index_ok _ _ cc l i _ hI.out
      rw [hx'.out] at hy
      refine hy.mono ?_
      clear hy
      rintro e w1 ⟨rfl, rfl⟩
      go_wp2_with fail
      refine (cloneInts_ok CA x _ (l.take x) _ (hI.out.take hxl) (by omega)).mono ?_
      rintro e w2 ⟨A2, c2, rfl, hO2, hb2⟩
      have hO2' := hide hO2
      clear hO2
      go_wp2_with fail
      refine (rev_ok A2 x c2 _ (l.take x) w2 hO2'.out (by omega)).mono ?_
      rintro e w3 ⟨rfl, hO3, hg3⟩
      obtain ⟨A4, c4, hv4, h41, h42, hI4⟩ := isInts_of_own hO3 (by omega)
      injection hv4 with h1 h2 h3
      subst h1 h3
      have hb3 : Below w.heap.size w w3 := (Below.on hB0 hb2).grown hg3 (by have := hb2.size; simp at this; omega) (fun q hq => by have := (World.ownsRow.lt hO2'.out q ((ownBlock_slice _ _ _).trans hq)).1; simp at this; omega)
      have hI4' := hide hI4
      have hm4 : c2 ≤ 9223372036854775807 := by unfold maxLen at h42; omega
      clear hI4 hO3 hg3 h2
      go_wp2
      go_ret
      exact ⟨A2, c2, by rw [hrl.out]; rfl, by rw [hrl.out, ← hR'.out]; exact hI4'.out, hb3⟩
end Go.Proofs.Ytaliekkdamghbaa
