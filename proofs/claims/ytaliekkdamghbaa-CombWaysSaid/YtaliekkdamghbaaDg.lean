/- Walks: whether an element is a partner of another one, by the law's own function. Conditions: the tree is good, both are in it, the combinator is one. -/
import Derived.Test.YtaliekkdamghbaaPcw
import Derived.Test.YtaliekkdamghbaaOb
import Derived.Deep.QuietTactic
import Derived.BigQuiet
namespace Go.Proofs.Ytaliekkdamghbaa
open Go.RowKit

set_option maxRecDepth 100000 in
set_option maxHeartbeats 1000000 in
theorem partner_ok (A : Option Addr) (n c : Nat) (T : List ANode) (p i : Nat) (cm : Int) (w : World) (h : IsTree w A n T) (hg : goodB T = true) (hp : p < n) (hi : i < n) (hc1 : 1 ≤ cm) (hc4 : cm ≤ 4) :
    Calls Try.prog 31 #[.agg #[.slice A n c], .int .i64 p, .int .i64 i, .int .u8 cm] w fun r w' => r = .returned (.bool (decide ((p : Int) ∈ prtF T i cm))) ∧ Below w.heap.size w w' := by
  have ho := hide h.2.2.2
  have hT := hide h
  have hl := h.1
  clear h
  have hB0 := below_alloc (Below.refl w.heap.size w) (.cells #[.slice A n c] 24)
  have hbox0 : (w.alloc (.cells #[.slice A n c] 24)).cell? ⟨w.heap.size, 0, none⟩ = some (.slice A n c) := by go_simp
  have hil : i < T.length := by omega
  have hpl : p < T.length := by omega
  obtain ⟨b, off, aA, cA, aC, cC, rfl, hbl, -, -, c2, -, -, -⟩ := ho.out (by omega)
  obtain ⟨vi, hvi⟩ : ∃ v, par T i = v := ⟨_, rfl⟩
  obtain ⟨vp, hvp⟩ : ∃ v, par T p = v := ⟨_, rfl⟩
  obtain ⟨be, hbe0⟩ : ∃ v, belE T i p = v := ⟨_, rfl⟩
  obtain ⟨pe, hpe0⟩ : ∃ v, besE T i (-1) = v := ⟨_, rfl⟩
  obtain ⟨xe, hxe0⟩ : ∃ v, placeE T p = v := ⟨_, rfl⟩
  obtain ⟨ye, hye0⟩ : ∃ v, placeE T i = v := ⟨_, rfl⟩
  have k1 := prt1_iff hg hil hpl
  have k2 := prt2_iff (p := p) hg hil
  have k3 := prt3_iff (p := p) hg hil
  have k4 := prt4_iff hg hil hpl
  rw [hbe0] at k1
  rw [hvi] at k2
  rw [hpe0] at k3
  rw [hvi, hvp, hxe0, hye0] at k4
  have g2i := c2 i hi
  have g2p := c2 p hp
  rw [hvi] at g2i
  rw [hvp] at g2p
  have g2i := hide g2i
  have g2p := hide g2p
  have hbe := hide hbe0
  have hpe := hide hpe0
  have hxe := hide hxe0
  have hye := hide hye0
  have ha0 := hide (askI_ok hg (by simp; omega) : askI T [(p : Int)] = 0)
  have ha1 := hide (askI_ok hg (by simp; omega) : askI T [(i : Int)] = 0)
  have ha2 := hide (askI_ok hg (by simp; omega) : askI T [(i : Int), (p : Int)] = 0)
  clear ho c2 hvi hvp hbe0 hpe0 hxe0 hye0 hg
  rcases (by omega : cm = 1 ∨ cm = 2 ∨ cm = 3 ∨ cm = 4) with rfl | rfl | rfl | rfl
  · have k1' := hide k1
    clear k1 k2 k3 k4 hc1 hc4
    go_enter Try.func31, Try.ntmps31
    go_wp2_with fail
    have hx := below_ok _ _ c T i p _ (hT.out.below hB0)
    rw [hbe.out, ha2.out] at hx
    refine hx.mono ?_
    clear hx
    rintro e w1 ⟨rfl, hb1⟩
    have hB1 := Below.on hB0 hb1
    have hbox1 := cell_later hb1 hbox0
    clear hb1
    go_wp2_with fail
    have hx := previous_ok _ _ c T i _ (hT.out.below hB1)
    rw [hpe.out, ha1.out] at hx
    refine hx.mono ?_
    clear hx
    rintro e w2 ⟨rfl, hb2⟩
    have hB2 := Below.on hB1 hb2
    have hbox2 := cell_later hb2 hbox1
    clear hb2
    go_wp2_with fail
    have hx := place_ok _ _ c T p _ (hT.out.below hB2)
    rw [hxe.out, ha0.out] at hx
    refine hx.mono ?_
    clear hx
    rintro e w3 ⟨rfl, hb3⟩
    have hB3 := Below.on hB2 hb3
    have hbox3 := cell_later hb3 hbox2
    clear hb3
    go_wp2_with fail
    have hx := place_ok _ _ c T i _ (hT.out.below hB3)
    rw [hye.out, ha1.out] at hx
    refine hx.mono ?_
    clear hx
    rintro e w4 ⟨rfl, hb4⟩
    have hB4 := Below.on hB3 hb4
    have hbox4 := cell_later hb4 hbox3
    have g4i := (old hB4 _ _ hbl).trans g2i.out
    have g4p := (old hB4 _ _ hbl).trans g2p.out
    have hbr : b < w4.heap.size := Nat.lt_of_lt_of_le hbl hB4.size
    clear hb4 hbox1 hbox2 hbox3
    go_wp2
    go_ret
    exact ⟨ret_bool k1'.out.symm, hB4⟩
  · have k2' := hide k2
    clear k1 k2 k3 k4 hc1 hc4
    go_enter Try.func31, Try.ntmps31
    go_wp2_with fail
    have hx := below_ok _ _ c T i p _ (hT.out.below hB0)
    rw [hbe.out, ha2.out] at hx
    refine hx.mono ?_
    clear hx
    rintro e w1 ⟨rfl, hb1⟩
    have hB1 := Below.on hB0 hb1
    have hbox1 := cell_later hb1 hbox0
    clear hb1
    go_wp2_with fail
    have hx := previous_ok _ _ c T i _ (hT.out.below hB1)
    rw [hpe.out, ha1.out] at hx
    refine hx.mono ?_
    clear hx
    rintro e w2 ⟨rfl, hb2⟩
    have hB2 := Below.on hB1 hb2
    have hbox2 := cell_later hb2 hbox1
    clear hb2
    go_wp2_with fail
    have hx := place_ok _ _ c T p _ (hT.out.below hB2)
    rw [hxe.out, ha0.out] at hx
    refine hx.mono ?_
    clear hx
    rintro e w3 ⟨rfl, hb3⟩
    have hB3 := Below.on hB2 hb3
    have hbox3 := cell_later hb3 hbox2
    clear hb3
    go_wp2_with fail
    have hx := place_ok _ _ c T i _ (hT.out.below hB3)
    rw [hye.out, ha1.out] at hx
    refine hx.mono ?_
    clear hx
    rintro e w4 ⟨rfl, hb4⟩
    have hB4 := Below.on hB3 hb4
    have hbox4 := cell_later hb4 hbox3
    have g4i := (old hB4 _ _ hbl).trans g2i.out
    have g4p := (old hB4 _ _ hbl).trans g2p.out
    have hbr : b < w4.heap.size := Nat.lt_of_lt_of_le hbl hB4.size
    clear hb4 hbox1 hbox2 hbox3
    go_wp2
    go_ret
    exact ⟨ret_bool (by rw [k2'.out]; by_cases h : vi = (p : Int) <;> simp [h]), hB4⟩
  · have k3' := hide k3
    clear k1 k2 k3 k4 hc1 hc4
    go_enter Try.func31, Try.ntmps31
    go_wp2_with fail
    have hx := below_ok _ _ c T i p _ (hT.out.below hB0)
    rw [hbe.out, ha2.out] at hx
    refine hx.mono ?_
    clear hx
    rintro e w1 ⟨rfl, hb1⟩
    have hB1 := Below.on hB0 hb1
    have hbox1 := cell_later hb1 hbox0
    clear hb1
    go_wp2_with fail
    have hx := previous_ok _ _ c T i _ (hT.out.below hB1)
    rw [hpe.out, ha1.out] at hx
    refine hx.mono ?_
    clear hx
    rintro e w2 ⟨rfl, hb2⟩
    have hB2 := Below.on hB1 hb2
    have hbox2 := cell_later hb2 hbox1
    clear hb2
    go_wp2_with fail
    have hx := place_ok _ _ c T p _ (hT.out.below hB2)
    rw [hxe.out, ha0.out] at hx
    refine hx.mono ?_
    clear hx
    rintro e w3 ⟨rfl, hb3⟩
    have hB3 := Below.on hB2 hb3
    have hbox3 := cell_later hb3 hbox2
    clear hb3
    go_wp2_with fail
    have hx := place_ok _ _ c T i _ (hT.out.below hB3)
    rw [hye.out, ha1.out] at hx
    refine hx.mono ?_
    clear hx
    rintro e w4 ⟨rfl, hb4⟩
    have hB4 := Below.on hB3 hb4
    have hbox4 := cell_later hb4 hbox3
    have g4i := (old hB4 _ _ hbl).trans g2i.out
    have g4p := (old hB4 _ _ hbl).trans g2p.out
    have hbr : b < w4.heap.size := Nat.lt_of_lt_of_le hbl hB4.size
    clear hb4 hbox1 hbox2 hbox3
    go_wp2
    go_ret
    exact ⟨ret_bool (by rw [k3'.out]; by_cases h : pe = (p : Int) <;> simp [h]), hB4⟩
  · have k4' := hide k4
    clear k1 k2 k3 k4 hc1 hc4
    by_cases h0 : 0 ≤ vi
    · by_cases h1 : vi = vp
      · subst h1
        have d0 : decide (0 ≤ vi) = true := decide_eq_true h0
        go_enter Try.func31, Try.ntmps31
        go_wp2_with fail
        have hx := below_ok _ _ c T i p _ (hT.out.below hB0)
        rw [hbe.out, ha2.out] at hx
        refine hx.mono ?_
        clear hx
        rintro e w1 ⟨rfl, hb1⟩
        have hB1 := Below.on hB0 hb1
        have hbox1 := cell_later hb1 hbox0
        clear hb1
        go_wp2_with fail
        have hx := previous_ok _ _ c T i _ (hT.out.below hB1)
        rw [hpe.out, ha1.out] at hx
        refine hx.mono ?_
        clear hx
        rintro e w2 ⟨rfl, hb2⟩
        have hB2 := Below.on hB1 hb2
        have hbox2 := cell_later hb2 hbox1
        clear hb2
        go_wp2_with fail
        have hx := place_ok _ _ c T p _ (hT.out.below hB2)
        rw [hxe.out, ha0.out] at hx
        refine hx.mono ?_
        clear hx
        rintro e w3 ⟨rfl, hb3⟩
        have hB3 := Below.on hB2 hb3
        have hbox3 := cell_later hb3 hbox2
        clear hb3
        go_wp2_with fail
        have hx := place_ok _ _ c T i _ (hT.out.below hB3)
        rw [hye.out, ha1.out] at hx
        refine hx.mono ?_
        clear hx
        rintro e w4 ⟨rfl, hb4⟩
        have hB4 := Below.on hB3 hb4
        have hbox4 := cell_later hb4 hbox3
        have g4i := (old hB4 _ _ hbl).trans g2i.out
        have g4p := (old hB4 _ _ hbl).trans g2p.out
        have hbr : b < w4.heap.size := Nat.lt_of_lt_of_le hbl hB4.size
        clear hb4 hbox1 hbox2 hbox3
        go_wp2
        go_quiet (fail)
        go_wp2
        go_ret
        exact ⟨ret_bool (by rw [k4'.out]; simp [h0]), below_drewN hB4 _⟩
      · have d0 : decide (0 ≤ vi) = true := decide_eq_true h0
        have d1 : (vi == vp) = false := by simp [h1]
        have h1' := hide h1
        clear h1
        go_enter Try.func31, Try.ntmps31
        go_wp2_with fail
        have hx := below_ok _ _ c T i p _ (hT.out.below hB0)
        rw [hbe.out, ha2.out] at hx
        refine hx.mono ?_
        clear hx
        rintro e w1 ⟨rfl, hb1⟩
        have hB1 := Below.on hB0 hb1
        have hbox1 := cell_later hb1 hbox0
        clear hb1
        go_wp2_with fail
        have hx := previous_ok _ _ c T i _ (hT.out.below hB1)
        rw [hpe.out, ha1.out] at hx
        refine hx.mono ?_
        clear hx
        rintro e w2 ⟨rfl, hb2⟩
        have hB2 := Below.on hB1 hb2
        have hbox2 := cell_later hb2 hbox1
        clear hb2
        go_wp2_with fail
        have hx := place_ok _ _ c T p _ (hT.out.below hB2)
        rw [hxe.out, ha0.out] at hx
        refine hx.mono ?_
        clear hx
        rintro e w3 ⟨rfl, hb3⟩
        have hB3 := Below.on hB2 hb3
        have hbox3 := cell_later hb3 hbox2
        clear hb3
        go_wp2_with fail
        have hx := place_ok _ _ c T i _ (hT.out.below hB3)
        rw [hye.out, ha1.out] at hx
        refine hx.mono ?_
        clear hx
        rintro e w4 ⟨rfl, hb4⟩
        have hB4 := Below.on hB3 hb4
        have hbox4 := cell_later hb4 hbox3
        have g4i := (old hB4 _ _ hbl).trans g2i.out
        have g4p := (old hB4 _ _ hbl).trans g2p.out
        have hbr : b < w4.heap.size := Nat.lt_of_lt_of_le hbl hB4.size
        clear hb4 hbox1 hbox2 hbox3
        go_wp2
        go_quiet (fail)
        go_wp2
        go_ret
        exact ⟨ret_bool (by rw [k4'.out]; simp [h1'.out]), below_drewN hB4 _⟩
    · have d0 : decide (0 ≤ vi) = false := decide_eq_false h0
      go_enter Try.func31, Try.ntmps31
      go_wp2_with fail
      have hx := below_ok _ _ c T i p _ (hT.out.below hB0)
      rw [hbe.out, ha2.out] at hx
      refine hx.mono ?_
      clear hx
      rintro e w1 ⟨rfl, hb1⟩
      have hB1 := Below.on hB0 hb1
      have hbox1 := cell_later hb1 hbox0
      clear hb1
      go_wp2_with fail
      have hx := previous_ok _ _ c T i _ (hT.out.below hB1)
      rw [hpe.out, ha1.out] at hx
      refine hx.mono ?_
      clear hx
      rintro e w2 ⟨rfl, hb2⟩
      have hB2 := Below.on hB1 hb2
      have hbox2 := cell_later hb2 hbox1
      clear hb2
      go_wp2_with fail
      have hx := place_ok _ _ c T p _ (hT.out.below hB2)
      rw [hxe.out, ha0.out] at hx
      refine hx.mono ?_
      clear hx
      rintro e w3 ⟨rfl, hb3⟩
      have hB3 := Below.on hB2 hb3
      have hbox3 := cell_later hb3 hbox2
      clear hb3
      go_wp2_with fail
      have hx := place_ok _ _ c T i _ (hT.out.below hB3)
      rw [hye.out, ha1.out] at hx
      refine hx.mono ?_
      clear hx
      rintro e w4 ⟨rfl, hb4⟩
      have hB4 := Below.on hB3 hb4
      have hbox4 := cell_later hb4 hbox3
      have g4i := (old hB4 _ _ hbl).trans g2i.out
      have g4p := (old hB4 _ _ hbl).trans g2p.out
      have hbr : b < w4.heap.size := Nat.lt_of_lt_of_le hbl hB4.size
      clear hb4 hbox1 hbox2 hbox3
      go_wp2
      go_quiet (fail)
      go_wp2
      go_ret
      exact ⟨ret_bool (by rw [k4'.out, d0]; rfl), below_drewN hB4 _⟩
end Go.Proofs.Ytaliekkdamghbaa
