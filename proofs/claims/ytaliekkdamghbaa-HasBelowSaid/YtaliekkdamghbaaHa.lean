/- Walks: the reach of an element, by the program. Conditions: the tree is good, the element is in it, the lead is a combinator. -/
import Derived.Test.YtaliekkdamghbaaPh
import Derived.Test.YtaliekkdamghbaaOc
import Derived.Test.YtaliekkdamghbaaWi
import Derived.Test.YtaliekkdamghbaaCw
import Derived.Test.YtaliekkdamghbaaOe
namespace Go.Proofs.Ytaliekkdamghbaa
open Go.RowKit

/-- The error of a tree and a lead. -/
def ldE (T : List ANode) (c : Int) : Int := if goodB T = true then (if 1 ≤ c ∧ c ≤ 4 then 0 else 2) else 8
theorem ldE_zero {T : List ANode} {c : Int} : ldE T c = 0 ↔ goodB T = true ∧ 1 ≤ c ∧ c ≤ 4 := by
  unfold ldE
  by_cases h : goodB T = true
  · rw [if_pos h]
    by_cases h2 : 1 ≤ c ∧ c ≤ 4
    · rw [if_pos h2]; simp [h, h2]
    · rw [if_neg h2]
      constructor
      · intro h3; omega
      · rintro ⟨-, h3⟩; exact absurd h3 h2
  · rw [if_neg h]; simp [h]
set_option maxRecDepth 100000 in
theorem leads_ok (A : Option Addr) (n c : Nat) (T : List ANode) (ld : Int) (w : World) (h : IsTree w A n T) :
    Calls Try.prog 58 #[.agg #[.slice A n c], .int .u8 ld] w fun r w' => r = .returned (.int .i64 (ldE T ld)) ∧ Below w.heap.size w w' := by
  have hT := hide h
  have hl := h.1
  clear h
  have hB0 := below_alloc (Below.refl w.heap.size w) (.cells #[.slice A n c] 24)
  have hbox0 : (w.alloc (.cells #[.slice A n c] 24)).cell? ⟨w.heap.size, 0, none⟩ = some (.slice A n c) := by go_simp
  by_cases hg : goodB T = true
  · have hc0 : chk T = 0 := chk_ok hg
    rcases (by omega : ld < 1 ∨ (1 ≤ ld ∧ 4 < ld) ∨ (1 ≤ ld ∧ ld ≤ 4)) with h1 | ⟨h1, h2⟩ | ⟨h1, h2⟩
    · have hr : Hid (ldE T ld = 2) := by show _ = _; unfold ldE; rw [if_pos hg, if_neg (by omega)]
      clear hg
      go_enter Try.func58, Try.ntmps58
      go_wp2_with fail
      refine (check_ok _ _ _ T _ (hT.out.below hB0)).mono ?_
      rintro e w1 ⟨rfl, hb1⟩
      have hbox1 := cell_later hb1 hbox0
      have hB1 := Below.on hB0 hb1
      go_wp2
      go_ret
      exact ⟨ret_int hr.out.symm, hB1⟩
    · have hr : Hid (ldE T ld = 2) := by show _ = _; unfold ldE; rw [if_pos hg, if_neg (by omega)]
      clear hg
      go_enter Try.func58, Try.ntmps58
      go_wp2_with fail
      refine (check_ok _ _ _ T _ (hT.out.below hB0)).mono ?_
      rintro e w1 ⟨rfl, hb1⟩
      have hbox1 := cell_later hb1 hbox0
      have hB1 := Below.on hB0 hb1
      go_wp2
      go_ret
      exact ⟨ret_int hr.out.symm, hB1⟩
    · have hr : Hid (ldE T ld = 0) := by show _ = _; unfold ldE; rw [if_pos hg, if_pos (by omega)]
      clear hg
      go_enter Try.func58, Try.ntmps58
      go_wp2_with fail
      refine (check_ok _ _ _ T _ (hT.out.below hB0)).mono ?_
      rintro e w1 ⟨rfl, hb1⟩
      have hbox1 := cell_later hb1 hbox0
      have hB1 := Below.on hB0 hb1
      go_wp2
      go_ret
      exact ⟨ret_int hr.out.symm, hB1⟩
  · have hc0 : chk T = 8 := chk_bad hg
    have hr : Hid (ldE T ld = 8) := if_neg hg
    clear hg
    go_enter Try.func58, Try.ntmps58
    go_wp2_with fail
    refine (check_ok _ _ _ T _ (hT.out.below hB0)).mono ?_
    rintro e w1 ⟨rfl, hb1⟩
    have hbox1 := cell_later hb1 hbox0
    have hB1 := Below.on hB0 hb1
    go_wp2
    go_ret
    exact ⟨ret_int hr.out.symm, hB1⟩
theorem IsInts.drop {w : World} {b off n k : Nat} {xs : List Int} (h : IsInts w (some ⟨b, off, none⟩) n xs) (hk : k ≤ n) : IsInts w (some ⟨b, off + k, none⟩) (n - k) (xs.drop k) := by
  obtain ⟨h1, h2, h4⟩ := h
  refine ⟨by rw [List.length_drop]; omega, by omega, fun h0 => ?_⟩
  obtain ⟨b', off', ha, hb, hc⟩ := h4 (by omega)
  injection ha with ha
  injection ha with e1 e2
  subst e1 e2
  refine ⟨b, off + k, rfl, hb, fun j hj => ?_⟩
  have e : ix (xs.drop k) j = ix xs (k + j) := by
    unfold ix
    rw [List.getD_eq_getElem?_getD, List.getD_eq_getElem?_getD, List.getElem?_drop]
  rw [e, Nat.add_assoc]
  exact hc (k + j) (by omega)
theorem isInts_none (w : World) (A : Option Addr) {n : Nat} (hn : n = 0) : IsInts w A n [] := by
  subst hn; exact ⟨rfl, by omega, fun h => absurd h (by omega)⟩

set_option maxRecDepth 100000 in
set_option maxHeartbeats 2000000 in
theorem reach_ok (A : Option Addr) (n c : Nat) (T : List ANode) (i : Nat) (ld : Int) (w : World) (h : IsTree w A n T) (hg : goodB T = true) (hi : i < n) (hc1 : 1 ≤ ld) (hc4 : ld ≤ 4) :
    Calls Try.prog 59 #[.agg #[.slice A n c], .int .i64 i, .int .u8 ld] w (MadeInts0 w (nearF T i ld)) := by
  have ho := hide h.2.2.2
  have hT := hide h
  have hl := h.1
  clear h
  have hB0 := below_alloc (Below.refl w.heap.size w) (.cells #[.slice A n c] 24)
  have hbox0 : (w.alloc (.cells #[.slice A n c] 24)).cell? ⟨w.heap.size, 0, none⟩ = some (.slice A n c) := by go_simp
  have h0 : askI T [(i : Int)] = 0 := askI_ok hg (by simp; omega)
  rcases (by omega : ld = 1 ∨ ld = 2 ∨ ld = 3 ∨ ld = 4) with rfl | rfl | rfl | rfl
  · have hp : nearF T i 1 = (preT T i).drop 1 := rfl
    have hle := listE_ok h0
    have hpl := preT_len hg (k := i) (by omega)
    have hp1 : 1 ≤ (preT T i).length := by rw [preT_cons hg (by omega)]; simp
    have hn64 : T.length ≤ 64 := ((goodB_iff T).1 hg).2.1
    rw [hp]
    obtain ⟨L, hL⟩ : ∃ L, preT T i = L := ⟨_, rfl⟩
    rw [hL] at hle hpl hp1 ⊢
    obtain ⟨Y, hY⟩ : ∃ Y, L.drop 1 = Y := ⟨_, rfl⟩
    have hYl : Y.length = L.length - 1 := by rw [← hY, List.length_drop]
    rw [hY]
    have hYl' := hide hYl
    have hY' := hide hY
    have hle' := hide hle
    have h0' := hide h0
    clear hp hc1 hc4 hg ho hle h0 hL hY hYl
    go_enter Try.func59, Try.ntmps59
    go_wp2_with fail
    have hx := list_ok A n c T i _ (hT.out.below hB0)
    rw [hle'.out, h0'.out] at hx
    refine hx.mono ?_
    clear hx
    rintro e w1 ⟨A1, c1, rfl, hI, hcl, hm1, hb1⟩
    obtain ⟨b, off, rfl, -, -⟩ := hI.2.2 (by omega)
    have hm1' : c1 ≤ 9223372036854775807 := by unfold maxLen at hm1; omega
    have hID := hI.drop (k := 1) hp1
    rw [hY'.out] at hID
    have hID' := hide hID
    have hB1 := Below.on hB0 hb1
    clear hI hID hb1
    rcases (by omega : c1 = 1 ∨ ¬ c1 = 1) with rfl | hne
    · have hY0 : Hid (Y = []) := List.eq_nil_of_length_eq_zero (by rw [hYl'.out]; omega)
      go_wp2
      go_ret
      exact ⟨some ⟨b, off, none⟩, 0, by rw [hY0.out]; rfl, by rw [hY0.out]; exact isInts_none _ _ rfl, hB1⟩
    · go_wp2
      go_ret
      exact ⟨some ⟨b, off + 1, none⟩, c1 - 1, by rw [hYl'.out]; rfl, by rw [hYl'.out]; exact hID'.out, hB1⟩
  · have hp : nearF T i 2 = kids T i := rfl
    rw [hp]
    obtain ⟨b, off, aA, cA, aC, cC, rfl, hbl, -, -, c2, c3, -, hC⟩ := ho.out (by omega)
    have c3' := (old hB0 _ _ hbl).trans (c3 i hi)
    have hI := hide ((hC i hi).1.below hB0)
    have hk64 := kids_len hg (by omega : i < T.length)
    have hbr : b < (w.alloc (.cells #[.slice (some ⟨b, off, none⟩) n c] 24)).heap.size := by simp; omega
    obtain ⟨l, hla⟩ : ∃ l, kids T i = l := ⟨_, rfl⟩
    rw [hla] at c3' hI hk64 ⊢
    generalize cA i = CA at c3' hI
    generalize cC i = cc at c3'
    clear hp hc1 hc4 hg ho c2 c3 hC hla h0
    go_enter Try.func59, Try.ntmps59
    go_wp2_with fail
    refine (cloneInts_ok CA l.length cc l _ hI.out (by omega)).mono ?_
    rintro e w2 ⟨A2, c2, rfl, hO2, hb2⟩
    obtain ⟨A4, c4, hv4, h41, h42, hI4⟩ := isInts_of_own hO2 (by omega)
    injection hv4 with h1 h2 h3
    subst h1 h3
    have hI4' := hide hI4
    clear hI4 hO2 h2
    go_wp2
    go_ret
    exact ⟨A2, c2, rfl, hI4'.out, Below.on hB0 hb2⟩
  · have hp : nearF T i 3 = (nextL T i).take 1 := rfl
    rw [hp]
    clear hp hc1 hc4 h0
    obtain ⟨b, off, aA, cA, aC, cC, rfl, hbl, -, -, c2, c3, -, hC⟩ := ho.out (by omega)
    have c2' := (old hB0 _ _ hbl).trans (c2 i hi)
    have hpr := good_par hg (by omega : i < T.length)
    have hbr : b < (w.alloc (.cells #[.slice (some ⟨b, off, none⟩) n c] 24)).heap.size := by simp; omega
    by_cases hneg : par T i < 0
    · have hL : Hid (nextL T i = []) := if_pos hneg
      rw [hL.out]
      try rw [List.take_nil]
      clear c2 c3 hC ho hg hpr
      go_enter Try.func59, Try.ntmps59
      go_wp2
      go_ret
      exact ⟨none, 0, by simp, isInts_nil _, hB0⟩
    · obtain ⟨p, hpe⟩ := Int.eq_ofNat_of_zero_le (by omega : 0 ≤ par T i)
      have hp : p < n := by omega
      have hmem := par_kid hg (by omega : i < T.length) (by omega)
      rw [hpe, Int.toNat_natCast] at hmem
      have hpos := posn_neg.2 hmem
      have hplt := (posn_lt (kids T p) i).2
      have hL := nextL_at hpe
      rw [hpe] at c2'
      have c3' := (old hB0 _ _ hbl).trans (c3 p hp)
      have hI := hide ((hC p hp).1.below hB0)
      have hcc1 := (hC p hp).2.1
      have hcc2 := (hC p hp).2.2
      have hk64 := kids_len hg (by omega : p < T.length)
      obtain ⟨l, hla⟩ : ∃ l, kids T p = l := ⟨_, rfl⟩
      rw [hla] at c3' hI hcc1 hk64 hL hpos hplt
      generalize cA p = CA at c3' hI
      generalize cC p = cc at c3' hcc1 hcc2
      obtain ⟨x, hx⟩ := Int.eq_ofNat_of_zero_le hpos
      rw [hx] at hplt hL
      rw [Int.toNat_natCast] at hL
      have hx' := hide hx
      have hxl : x + 1 ≤ l.length := by omega
      obtain ⟨g6, o6, rfl, -, -⟩ := hI.out.2.2 (by omega)
      have hl63 : l.length ≤ 9223372036854775807 := by omega
      rw [hL]
      obtain ⟨Y, hY⟩ : ∃ Y, l.drop (x + 1) = Y := ⟨_, rfl⟩
      have hYl : Y.length = l.length - (x + 1) := by rw [← hY, List.length_drop]
      have hID := hI.out.drop (k := x + 1) (by omega)
      rw [hY] at hID ⊢
      obtain ⟨R, hR⟩ : ∃ R, Y.take 1 = R := ⟨_, rfl⟩
      rw [hR]
      have hR' := hide hR
      clear hR
      have hID' := hide hID
      have hYl' := hide hYl
      have j0 : (0 : Int) ≤ (p : Int) := by omega
      clear c2 c3 hC ho hg hpr hmem hpe hneg hL hpos hx hla hY hID hYl
      by_cases hcx : cc = x + 1
      · have hIE : Hid (∀ W, IsInts W (some ⟨g6, o6, none⟩) 0 Y) := fun W => by
          have : Y = [] := List.eq_nil_of_length_eq_zero (by rw [hYl'.out]; omega)
          rw [this]; exact isInts_none _ _ rfl
        have hYl2 : Hid (Y.length = 0) := by show _ = _; rw [hYl'.out]; omega
        subst hcx
        go_enter Try.func59, Try.ntmps59
        go_wp2_with fail
        have hy := index_ok _ _ (x + 1) l i _ hI.out
        rw [hx'.out] at hy
        refine hy.mono ?_
        clear hy
        rintro e w1 ⟨rfl, rfl⟩
        go_wp2_with fail
        refine (cloneInts_ok _ 0 0 Y _ (hIE.out _) (by omega)).mono ?_
        rintro e w2 ⟨A2, c2, rfl, hO2, hb2⟩
        obtain ⟨A4, c4, hv4, h41, h42, hI4⟩ := isInts_of_own hO2 (by omega)
        injection hv4 with h1 h2 h3
        subst h1 h3
        have hI4' := hide hI4
        have hm4 : c2 ≤ 9223372036854775807 := by unfold maxLen at h42; omega
        have hB2 := Below.on hB0 hb2
        clear hI4 hO2 h2 hb2
        by_cases hL1 : 0 ≤ 1
        · have et : Hid (R = Y) := by show _ = _; rw [← hR'.out]; exact List.take_of_length_le (by rw [hYl2.out]; exact hL1)
          go_wp2
          go_ret
          exact ⟨A2, c2, by rw [et.out, hYl2.out]; rfl, by rw [et.out, hYl2.out]; exact hI4'.out, hB2⟩
        · have e1 : Hid (R.length = 1) := by show _ = _; rw [← hR'.out, List.length_take, hYl2.out]; omega
          go_wp2
          go_ret
          first
            | exact absurd (Nat.zero_le 1) hL1
            | exact ⟨A2, c2, by rw [e1.out]; rfl, by rw [e1.out, ← hR'.out]; exact hI4'.out.take (by omega), hB2⟩
      · have hYl2 := hYl'
        go_enter Try.func59, Try.ntmps59
        go_wp2_with fail
        have hy := index_ok _ _ cc l i _ hI.out
        rw [hx'.out] at hy
        refine hy.mono ?_
        clear hy
        rintro e w1 ⟨rfl, rfl⟩
        go_wp2_with fail
        refine (cloneInts_ok _ (l.length - (x + 1)) (cc - (x + 1)) Y _ hID'.out (by omega)).mono ?_
        rintro e w2 ⟨A2, c2, rfl, hO2, hb2⟩
        obtain ⟨A4, c4, hv4, h41, h42, hI4⟩ := isInts_of_own hO2 (by omega)
        injection hv4 with h1 h2 h3
        subst h1 h3
        have hI4' := hide hI4
        have hm4 : c2 ≤ 9223372036854775807 := by unfold maxLen at h42; omega
        have hB2 := Below.on hB0 hb2
        clear hI4 hO2 h2 hb2
        by_cases hL1 : (l.length - (x + 1)) ≤ 1
        · have et : Hid (R = Y) := by show _ = _; rw [← hR'.out]; exact List.take_of_length_le (by rw [hYl2.out]; exact hL1)
          go_wp2
          go_ret
          exact ⟨A2, c2, by rw [et.out, hYl2.out]; rfl, by rw [et.out, hYl2.out]; exact hI4'.out, hB2⟩
        · have e1 : Hid (R.length = 1) := by show _ = _; rw [← hR'.out, List.length_take, hYl2.out]; omega
          go_wp2
          go_ret
          first
            | exact absurd (Nat.zero_le 1) hL1
            | exact ⟨A2, c2, by rw [e1.out]; rfl, by rw [e1.out, ← hR'.out]; exact hI4'.out.take (by omega), hB2⟩
  · have hp : nearF T i 4 = nextL T i := rfl
    rw [hp]
    clear hp hc1 hc4 h0
    obtain ⟨b, off, aA, cA, aC, cC, rfl, hbl, -, -, c2, c3, -, hC⟩ := ho.out (by omega)
    have c2' := (old hB0 _ _ hbl).trans (c2 i hi)
    have hpr := good_par hg (by omega : i < T.length)
    have hbr : b < (w.alloc (.cells #[.slice (some ⟨b, off, none⟩) n c] 24)).heap.size := by simp; omega
    by_cases hneg : par T i < 0
    · have hL : Hid (nextL T i = []) := if_pos hneg
      rw [hL.out]
      try rw [List.take_nil]
      clear c2 c3 hC ho hg hpr
      go_enter Try.func59, Try.ntmps59
      go_wp2
      go_ret
      exact ⟨none, 0, by simp, isInts_nil _, hB0⟩
    · obtain ⟨p, hpe⟩ := Int.eq_ofNat_of_zero_le (by omega : 0 ≤ par T i)
      have hp : p < n := by omega
      have hmem := par_kid hg (by omega : i < T.length) (by omega)
      rw [hpe, Int.toNat_natCast] at hmem
      have hpos := posn_neg.2 hmem
      have hplt := (posn_lt (kids T p) i).2
      have hL := nextL_at hpe
      rw [hpe] at c2'
      have c3' := (old hB0 _ _ hbl).trans (c3 p hp)
      have hI := hide ((hC p hp).1.below hB0)
      have hcc1 := (hC p hp).2.1
      have hcc2 := (hC p hp).2.2
      have hk64 := kids_len hg (by omega : p < T.length)
      obtain ⟨l, hla⟩ : ∃ l, kids T p = l := ⟨_, rfl⟩
      rw [hla] at c3' hI hcc1 hk64 hL hpos hplt
      generalize cA p = CA at c3' hI
      generalize cC p = cc at c3' hcc1 hcc2
      obtain ⟨x, hx⟩ := Int.eq_ofNat_of_zero_le hpos
      rw [hx] at hplt hL
      rw [Int.toNat_natCast] at hL
      have hx' := hide hx
      have hxl : x + 1 ≤ l.length := by omega
      obtain ⟨g6, o6, rfl, -, -⟩ := hI.out.2.2 (by omega)
      have hl63 : l.length ≤ 9223372036854775807 := by omega
      rw [hL]
      obtain ⟨Y, hY⟩ : ∃ Y, l.drop (x + 1) = Y := ⟨_, rfl⟩
      have hYl : Y.length = l.length - (x + 1) := by rw [← hY, List.length_drop]
      have hID := hI.out.drop (k := x + 1) (by omega)
      rw [hY] at hID ⊢
      skip
      have hID' := hide hID
      have hYl' := hide hYl
      have j0 : (0 : Int) ≤ (p : Int) := by omega
      clear c2 c3 hC ho hg hpr hmem hpe hneg hL hpos hx hla hY hID hYl
      by_cases hcx : cc = x + 1
      · have hIE : Hid (∀ W, IsInts W (some ⟨g6, o6, none⟩) 0 Y) := fun W => by
          have : Y = [] := List.eq_nil_of_length_eq_zero (by rw [hYl'.out]; omega)
          rw [this]; exact isInts_none _ _ rfl
        have hYl2 : Hid (Y.length = 0) := by show _ = _; rw [hYl'.out]; omega
        subst hcx
        go_enter Try.func59, Try.ntmps59
        go_wp2_with fail
        have hy := index_ok _ _ (x + 1) l i _ hI.out
        rw [hx'.out] at hy
        refine hy.mono ?_
        clear hy
        rintro e w1 ⟨rfl, rfl⟩
        go_wp2_with fail
        refine (cloneInts_ok _ 0 0 Y _ (hIE.out _) (by omega)).mono ?_
        rintro e w2 ⟨A2, c2, rfl, hO2, hb2⟩
        obtain ⟨A4, c4, hv4, h41, h42, hI4⟩ := isInts_of_own hO2 (by omega)
        injection hv4 with h1 h2 h3
        subst h1 h3
        have hI4' := hide hI4
        have hm4 : c2 ≤ 9223372036854775807 := by unfold maxLen at h42; omega
        have hB2 := Below.on hB0 hb2
        clear hI4 hO2 h2 hb2
        go_wp2
        go_ret
        exact ⟨A2, c2, by rw [hYl2.out]; rfl, by rw [hYl2.out]; exact hI4'.out, hB2⟩
      · have hYl2 := hYl'
        go_enter Try.func59, Try.ntmps59
        go_wp2_with fail
        have hy := index_ok _ _ cc l i _ hI.out
        rw [hx'.out] at hy
        refine hy.mono ?_
        clear hy
        rintro e w1 ⟨rfl, rfl⟩
        go_wp2_with fail
        refine (cloneInts_ok _ (l.length - (x + 1)) (cc - (x + 1)) Y _ hID'.out (by omega)).mono ?_
        rintro e w2 ⟨A2, c2, rfl, hO2, hb2⟩
        obtain ⟨A4, c4, hv4, h41, h42, hI4⟩ := isInts_of_own hO2 (by omega)
        injection hv4 with h1 h2 h3
        subst h1 h3
        have hI4' := hide hI4
        have hm4 : c2 ≤ 9223372036854775807 := by unfold maxLen at h42; omega
        have hB2 := Below.on hB0 hb2
        clear hI4 hO2 h2 hb2
        go_wp2
        go_ret
        exact ⟨A2, c2, by rw [hYl2.out]; rfl, by rw [hYl2.out]; exact hI4'.out, hB2⟩
end Go.Proofs.Ytaliekkdamghbaa
/- Walks: Contains over truth values, Reach, by the program. Conditions as each states. -/
namespace Go.Proofs.Ytaliekkdamghbaa
open Go.RowKit

def idxT (xs : List Bool) : Int := if xs.findIdx id < xs.length then (xs.findIdx id : Nat) else -1
theorem bx_at {xs : List Bool} {j : Nat} (h : j < xs.length) : bx xs j = xs[j] := by
  unfold bx; rw [List.getD_eq_getElem?_getD, List.getElem?_eq_getElem h]; rfl
theorem idxT_at {xs : List Bool} {k : Nat} (hk : k < xs.length) (h : bx xs k = true) (hb : ∀ j, j < k → bx xs j = false) : idxT xs = k := by
  have e : xs.findIdx id = k := by
    rw [List.findIdx_eq hk]
    refine ⟨by rw [← bx_at hk]; exact h, fun j hj => ?_⟩
    rw [← bx_at (by omega)]; exact hb j hj
  unfold idxT; rw [e, if_pos hk]
theorem idxT_no {xs : List Bool} (hb : ∀ j, j < xs.length → bx xs j = false) : idxT xs = -1 := by
  unfold idxT
  rw [if_neg]
  intro h
  have := List.findIdx_getElem (w := h)
  rw [← bx_at h, hb _ h] at this
  cases this
theorem idxT_nonneg (xs : List Bool) : decide (0 ≤ idxT xs) = decide (true ∈ xs) := by
  rw [decide_eq_decide]
  unfold idxT
  constructor
  · intro h
    split at h
    · rename_i h2
      have := List.findIdx_getElem (w := h2)
      have h3 : xs[xs.findIdx id] = true := this
      rw [← h3]; exact List.getElem_mem _
    · omega
  · intro h
    rw [if_pos (List.findIdx_lt_length.2 ⟨true, h, rfl⟩)]
    omega
theorem indexT_ok (A : Option Addr) (n c : Nat) (xs : List Bool) (w : World) (h : IsBools w A n xs) :
    Calls Try.prog 91 #[.slice A n c, .bool true] w fun e w' => e = .returned (.int .i64 (idxT xs)) ∧ w = w' := by
  obtain ⟨hl, hn, ho⟩ := h
  go_enter Try.func91, Try.ntmps91
  go_wp2
  go_loop [5, 8] (fun _ i => ∃ k : Nat, k ≤ n ∧ i = .int .i64 k ∧ Hid (∀ j, j < k → bx xs j = false)) (fun _ i => n - (intOf i).toNat)
  case atStart => exact ⟨0, Nat.zero_le _, rfl, fun j hj => absurd hj (by omega)⟩
  case round =>
    obtain ⟨k, hk, rfl, hne⟩ := hrel
    by_cases hlt : k < n
    · obtain ⟨b, off, rfl, hbl, hc⟩ := ho (by omega)
      have hck := hc k hlt
      clear hc
      cases he : bx xs k
      · have hn2 : Hid (∀ j, j < k + 1 → bx xs j = false) := fun j hj => by
          by_cases h : j = k
          · subst h; exact he
          · exact hne.out j (by omega)
        rw [he] at hck
        clear he hne
        go_wp2
        go_round
        case rel => exact ⟨k + 1, by omega, by go_num, hn2.out⟩
        case measure => simp [intOf]; omega
      · have hp := hide (idxT_at (by omega) he hne.out)
        rw [he] at hck
        clear he hne
        go_wp2
        go_ret
        exact ⟨ret_int hp.out.symm, rfl⟩
    · have hp := hide (idxT_no (xs := xs) (fun j hj => hne.out j (by omega)))
      clear hne
      go_wp2
      go_ret
      exact ⟨ret_int hp.out.symm, rfl⟩
theorem containsT_ok (A : Option Addr) (n c : Nat) (xs : List Bool) (w : World) (h : IsBools w A n xs) :
    Calls Try.prog 84 #[.slice A n c, .bool true] w fun e w' => e = .returned (.bool (decide (true ∈ xs))) ∧ w = w' := by
  have hi := hide h
  have hd := hide (idxT_nonneg xs)
  clear h
  go_enter Try.func84, Try.ntmps84
  go_wp2_with fail
  refine (indexT_ok A n c xs _ hi.out).mono ?_
  rintro e w1 ⟨rfl, rfl⟩
  go_wp2
  go_ret
  exact ⟨ret_bool (by rw [← hd.out]), rfl⟩

def rchX (T : List ANode) (i c : Int) : List Int := if askI T [i] = 0 then (if ldE T c = 0 then nearF T i.toNat c else []) else []
def rchC (T : List ANode) (i c : Int) : Int := if askI T [i] = 0 then ldE T c else askI T [i]
set_option maxRecDepth 100000 in
theorem hReach_ok (A : Option Addr) (n c : Nat) (T : List ANode) (i ld : Int) (w : World) (h : IsTree w A n T) :
    Calls Try.prog 32 #[.agg #[.slice A n c], .int .i64 i, .int .u8 ld] w (MadeIntsR w (rchX T i ld) (rchC T i ld)) := by
  have hT := hide h
  have hl := h.1
  clear h
  have hB0 := below_alloc (Below.refl w.heap.size w) (.cells #[.slice A n c] 24)
  have hbox0 : (w.alloc (.cells #[.slice A n c] 24)).cell? ⟨w.heap.size, 0, none⟩ = some (.slice A n c) := by go_simp
  by_cases h0 : askI T [i] = 0
  · have e2 : rchC T i ld = ldE T ld := if_pos h0
    have h0' := hide h0
    by_cases h1 : ldE T ld = 0
    · obtain ⟨hg, hl1, hl4⟩ := ldE_zero.1 h1
      have hir := (askI_zero.1 h0).2 i (by simp)
      obtain ⟨j, rfl⟩ := Int.eq_ofNat_of_zero_le hir.1
      have e1 : rchX T j ld = nearF T j ld := by unfold rchX; rw [if_pos h0, if_pos h1, Int.toNat_natCast]
      have h1' := hide h1
      have hg' := hide hg
      have hj : j < n := by omega
      rw [e1, e2, h1]
      clear h0 h1 hg e1 e2
      go_enter Try.func32, Try.ntmps32
      go_wp2_with fail
      have hx := depth_ok _ _ c T j _ (hT.out.below hB0)
      rw [h0'.out] at hx
      refine hx.mono ?_
      clear hx
      rintro e w1 ⟨rfl, hb1⟩
      have hB1 := Below.on hB0 hb1
      have hbox1 := cell_later hb1 hbox0
      go_wp2_with fail
      have hx := leads_ok _ _ c T ld _ (hT.out.below hB1)
      rw [h1'.out] at hx
      refine hx.mono ?_
      clear hx
      rintro e w2 ⟨rfl, hb2⟩
      have hB2 := Below.on hB1 hb2
      have hbox2 := cell_later hb2 hbox1
      go_wp2_with fail
      refine (reach_ok A n c T j ld _ (hT.out.below hB2) hg'.out hj hl1 hl4).mono ?_
      rintro e w3 ⟨A3, c3, rfl, hI3, hb3⟩
      have hI3' := hide hI3
      have hB3 := Below.on hB2 hb3
      clear hI3
      go_wp2
      go_ret2
      exact ⟨A3, c3, rfl, hI3'.out, hB3⟩
    · have e1 : rchX T i ld = [] := by unfold rchX; rw [if_pos h0, if_neg h1]
      have h1' : (ldE T ld != 0) = true := by simp [h1]
      rw [e1, e2]
      clear h0 h1 e1 e2
      go_enter Try.func32, Try.ntmps32
      go_wp2_with fail
      have hx := depth_ok _ _ c T i _ (hT.out.below hB0)
      rw [h0'.out] at hx
      refine hx.mono ?_
      clear hx
      rintro e w1 ⟨rfl, hb1⟩
      have hB1 := Below.on hB0 hb1
      have hbox1 := cell_later hb1 hbox0
      go_wp2_with fail
      refine (leads_ok _ _ _ T _ _ (hT.out.below hB1)).mono ?_
      rintro e w2 ⟨rfl, hb2⟩
      have hbox2 := cell_later hb2 hbox1
      have hB2 := Below.on hB1 hb2
      go_wp2
      go_ret2
      exact madeIntsR_nil hB2
  · have e1 : rchX T i ld = [] := if_neg h0
    have e2 : rchC T i ld = askI T [i] := if_neg h0
    have h0' : (askI T [i] != 0) = true := by simp [h0]
    rw [e1, e2]
    clear h0 e1 e2
    go_enter Try.func32, Try.ntmps32
    go_wp2_with fail
    refine (depth_ok _ _ _ T _ _ (hT.out.below hB0)).mono ?_
    rintro e w1 ⟨rfl, hb1⟩
    have hbox1 := cell_later hb1 hbox0
    have hB1 := Below.on hB0 hb1
    go_wp2
    go_ret2
    exact madeIntsR_nil hB1
end Go.Proofs.Ytaliekkdamghbaa
