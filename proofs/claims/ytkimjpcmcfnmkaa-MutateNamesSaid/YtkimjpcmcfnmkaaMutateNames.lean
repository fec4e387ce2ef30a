/- The errors of Append, Before and Take, at the chapter's tree and at none. No condition. -/
import Derived.Test.YtkimjpcmcfnmkaaOpen
import Derived.Test.YtkimjpcmcfnmkaaEx15
import Derived.Test.YtkimjpcmcfnmkaaWl
namespace Go.Proofs.Ytkimjpcmcfnmkaa.mutateNames
open Go.ChangeShapes Go.WideShapes Go.ChangeAt Go.RowKit

def ex15x : List ANode :=
  [⟨bs [104, 116, 109, 108], [], -1, [2]⟩, ⟨bs [112], [], -1, [3]⟩, ⟨bs [112], [], 0, []⟩, ⟨bs [97], [], 1, []⟩]
def ex15t : List ANode :=
  [⟨bs [104, 116, 109, 108], [], -1, [2, 1]⟩, ⟨bs [112], [], 0, [3]⟩, ⟨bs [112], [], 0, []⟩, ⟨bs [97], [], 1, []⟩]
theorem isTree_nil (w : World) : IsTree w none 0 [] := ⟨rfl, by omega, fun x hx => by simp at hx, fun h => absurd h (by omega)⟩
theorem chk_x : chk ex15x = 0 := by kernel_rfl

set_option maxRecDepth 100000 in
set_option maxHeartbeats 4000000 in
theorem walk (W : World) :
    Calls Try.prog 5 #[] W fun e w' => e = .returned (.bool true) ∧ Below W.heap.size W w' := by
  go_enter Try.func5, Try.ntmps5
  go_wp2_with fail
  refine (example15_ok _).mono ?_
  rintro e w ⟨A, c, rfl, hT0, hb0⟩
  have hT := hide hT0
  have hb0' := hide hb0
  have hB0 := below_alloc (Below.refl w.heap.size w) (.cells #[.slice A 4 c] 24)
  have hbox0 : (w.alloc (.cells #[.slice A 4 c] 24)).cell? ⟨w.heap.size, 0, none⟩ = some (.slice A 4 c) := by go_simp
  clear hT0 hb0
  go_wp2_with fail
  refine (append_at (T := []) (X := []) (p := (-1)) (k := (-1)) (e0 := 8) (m := 0) (by kernel_rfl) (by kernel_rfl) rfl _ _ _ _ (isTree_nil _)).mono ?_
  rintro e w1 ⟨A1, c1, rfl, -, hR, hb1⟩
  have hlt1 : w.heap.size < w1.heap.size := Nat.lt_of_lt_of_le (cell_in hbox0) hb1.size
  have hz1 := below_alloc hb1 (.cells #[.slice A1 0 c1] 24)
  have hbox1 := cell_later hz1 hbox0
  have hB1 := Below.on hB0 hz1
  clear hz1 hbox0 hB0 hR hb1
  go_wp2_with fail
  refine (before_at (T := []) (X := []) (p := (-1)) (k := (-1)) (e0 := 8) (m := 0) (by kernel_rfl) (by kernel_rfl) rfl _ _ _ _ (isTree_nil _)).mono ?_
  rintro e w2 ⟨A2, c2, rfl, -, hR, hb2⟩
  have hlt2 : w.heap.size < w2.heap.size := Nat.lt_of_lt_of_le (cell_in hbox1) hb2.size
  have hz2 := below_alloc hb2 (.cells #[.slice A2 0 c2] 24)
  have hbox2 := cell_later hz2 hbox1
  have hB2 := Below.on hB1 hz2
  clear hz2 hbox1 hB1 hR hb2
  go_wp2_with fail
  refine (take_at (T := []) (X := []) (k := (-1)) (e0 := 8) (m := 0) (by kernel_rfl) (by kernel_rfl) rfl _ _ _ _ (isTree_nil _)).mono ?_
  rintro e w3 ⟨A3, c3, rfl, -, hR, hb3⟩
  have hlt3 : w.heap.size < w3.heap.size := Nat.lt_of_lt_of_le (cell_in hbox2) hb3.size
  have hz3 := below_alloc hb3 (.cells #[.slice A3 0 c3] 24)
  have hbox3 := cell_later hz3 hbox2
  have hB3 := Below.on hB2 hz3
  clear hz3 hbox2 hB2 hR hb3
  go_wp2_with fail
  refine (append_at (T := ex15) (X := []) (p := 1) (k := 0) (e0 := 2) (m := 0) (by kernel_rfl) (by kernel_rfl) rfl _ _ _ _ (hT.out.below hB3)).mono ?_
  rintro e w4 ⟨A4, c4, rfl, -, hR, hb4⟩
  have hlt4 : w.heap.size < w4.heap.size := Nat.lt_of_lt_of_le (cell_in hbox3) hb4.size
  have hz4 := below_alloc hb4 (.cells #[.slice A4 0 c4] 24)
  have hbox4 := cell_later hz4 hbox3
  have hB4 := Below.on hB3 hz4
  clear hz4 hbox3 hB3 hR hb4
  go_wp2_with fail
  refine (append_at (T := ex15) (X := []) (p := 4) (k := 1) (e0 := 2) (m := 0) (by kernel_rfl) (by kernel_rfl) rfl _ _ _ _ (hT.out.below hB4)).mono ?_
  rintro e w5 ⟨A5, c5, rfl, -, hR, hb5⟩
  have hlt5 : w.heap.size < w5.heap.size := Nat.lt_of_lt_of_le (cell_in hbox4) hb5.size
  have hz5 := below_alloc hb5 (.cells #[.slice A5 0 c5] 24)
  have hbox5 := cell_later hz5 hbox4
  have hB5 := Below.on hB4 hz5
  clear hz5 hbox4 hB4 hR hb5
  go_wp2_with fail
  refine (append_at (T := ex15) (X := []) (p := 0) (k := 4) (e0 := 2) (m := 0) (by kernel_rfl) (by kernel_rfl) rfl _ _ _ _ (hT.out.below hB5)).mono ?_
  rintro e w6 ⟨A6, c6, rfl, -, hR, hb6⟩
  have hlt6 : w.heap.size < w6.heap.size := Nat.lt_of_lt_of_le (cell_in hbox5) hb6.size
  have hz6 := below_alloc hb6 (.cells #[.slice A6 0 c6] 24)
  have hbox6 := cell_later hz6 hbox5
  have hB6 := Below.on hB5 hz6
  clear hz6 hbox5 hB5 hR hb6
  go_wp2_with fail
  refine (append_at (T := ex15) (X := []) (p := 1) (k := 1) (e0 := 40) (m := 0) (by kernel_rfl) (by kernel_rfl) rfl _ _ _ _ (hT.out.below hB6)).mono ?_
  rintro e w7 ⟨A7, c7, rfl, -, hR, hb7⟩
  have hlt7 : w.heap.size < w7.heap.size := Nat.lt_of_lt_of_le (cell_in hbox6) hb7.size
  have hz7 := below_alloc hb7 (.cells #[.slice A7 0 c7] 24)
  have hbox7 := cell_later hz7 hbox6
  have hB7 := Below.on hB6 hz7
  clear hz7 hbox6 hB6 hR hb7
  go_wp2_with fail
  refine (before_at (T := ex15) (X := []) (p := 0) (k := 1) (e0 := 2) (m := 0) (by kernel_rfl) (by kernel_rfl) rfl _ _ _ _ (hT.out.below hB7)).mono ?_
  rintro e w8 ⟨A8, c8, rfl, -, hR, hb8⟩
  have hlt8 : w.heap.size < w8.heap.size := Nat.lt_of_lt_of_le (cell_in hbox7) hb8.size
  have hz8 := below_alloc hb8 (.cells #[.slice A8 0 c8] 24)
  have hbox8 := cell_later hz8 hbox7
  have hB8 := Below.on hB7 hz8
  clear hz8 hbox7 hB7 hR hb8
  go_wp2_with fail
  refine (before_at (T := ex15) (X := []) (p := 1) (k := 4) (e0 := 2) (m := 0) (by kernel_rfl) (by kernel_rfl) rfl _ _ _ _ (hT.out.below hB8)).mono ?_
  rintro e w9 ⟨A9, c9, rfl, -, hR, hb9⟩
  have hlt9 : w.heap.size < w9.heap.size := Nat.lt_of_lt_of_le (cell_in hbox8) hb9.size
  have hz9 := below_alloc hb9 (.cells #[.slice A9 0 c9] 24)
  have hbox9 := cell_later hz9 hbox8
  have hB9 := Below.on hB8 hz9
  clear hz9 hbox8 hB8 hR hb9
  go_wp2_with fail
  refine (before_at (T := ex15) (X := []) (p := 1) (k := (-1)) (e0 := 2) (m := 0) (by kernel_rfl) (by kernel_rfl) rfl _ _ _ _ (hT.out.below hB9)).mono ?_
  rintro e w10 ⟨A10, c10, rfl, -, hR, hb10⟩
  have hlt10 : w.heap.size < w10.heap.size := Nat.lt_of_lt_of_le (cell_in hbox9) hb10.size
  have hz10 := below_alloc hb10 (.cells #[.slice A10 0 c10] 24)
  have hbox10 := cell_later hz10 hbox9
  have hB10 := Below.on hB9 hz10
  clear hz10 hbox9 hB9 hR hb10
  go_wp2_with fail
  refine (before_at (T := ex15) (X := []) (p := 1) (k := 1) (e0 := 14) (m := 0) (by kernel_rfl) (by kernel_rfl) rfl _ _ _ _ (hT.out.below hB10)).mono ?_
  rintro e w11 ⟨A11, c11, rfl, -, hR, hb11⟩
  have hlt11 : w.heap.size < w11.heap.size := Nat.lt_of_lt_of_le (cell_in hbox10) hb11.size
  have hz11 := below_alloc hb11 (.cells #[.slice A11 0 c11] 24)
  have hbox11 := cell_later hz11 hbox10
  have hB11 := Below.on hB10 hz11
  clear hz11 hbox10 hB10 hR hb11
  go_wp2_with fail
  refine (before_at (T := ex15) (X := []) (p := 1) (k := 0) (e0 := 6) (m := 0) (by kernel_rfl) (by kernel_rfl) rfl _ _ _ _ (hT.out.below hB11)).mono ?_
  rintro e w12 ⟨A12, c12, rfl, -, hR, hb12⟩
  have hlt12 : w.heap.size < w12.heap.size := Nat.lt_of_lt_of_le (cell_in hbox11) hb12.size
  have hz12 := below_alloc hb12 (.cells #[.slice A12 0 c12] 24)
  have hbox12 := cell_later hz12 hbox11
  have hB12 := Below.on hB11 hz12
  clear hz12 hbox11 hB11 hR hb12
  go_wp2_with fail
  refine (before_at (T := ex15) (X := []) (p := 1) (k := 3) (e0 := 40) (m := 0) (by kernel_rfl) (by kernel_rfl) rfl _ _ _ _ (hT.out.below hB12)).mono ?_
  rintro e w13 ⟨A13, c13, rfl, -, hR, hb13⟩
  have hlt13 : w.heap.size < w13.heap.size := Nat.lt_of_lt_of_le (cell_in hbox12) hb13.size
  have hz13 := below_alloc hb13 (.cells #[.slice A13 0 c13] 24)
  have hbox13 := cell_later hz13 hbox12
  have hB13 := Below.on hB12 hz13
  clear hz13 hbox12 hB12 hR hb13
  go_wp2_with fail
  refine (take_at (T := ex15) (X := []) (k := 0) (e0 := 2) (m := 0) (by kernel_rfl) (by kernel_rfl) rfl _ _ _ _ (hT.out.below hB13)).mono ?_
  rintro e w14 ⟨A14, c14, rfl, -, hR, hb14⟩
  have hlt14 : w.heap.size < w14.heap.size := Nat.lt_of_lt_of_le (cell_in hbox13) hb14.size
  have hz14 := below_alloc hb14 (.cells #[.slice A14 0 c14] 24)
  have hbox14 := cell_later hz14 hbox13
  have hB14 := Below.on hB13 hz14
  clear hz14 hbox13 hB13 hR hb14
  go_wp2_with fail
  refine (take_at (T := ex15) (X := []) (k := 4) (e0 := 2) (m := 0) (by kernel_rfl) (by kernel_rfl) rfl _ _ _ _ (hT.out.below hB14)).mono ?_
  rintro e w15 ⟨A15, c15, rfl, -, hR, hb15⟩
  have hlt15 : w.heap.size < w15.heap.size := Nat.lt_of_lt_of_le (cell_in hbox14) hb15.size
  have hz15 := below_alloc hb15 (.cells #[.slice A15 0 c15] 24)
  have hbox15 := cell_later hz15 hbox14
  have hB15 := Below.on hB14 hz15
  clear hz15 hbox14 hB14 hR hb15
  go_wp2_with fail
  refine (take_at (T := ex15) (X := ex15x) (k := 1) (e0 := 0) (m := 4) (by kernel_rfl) (by kernel_rfl) rfl _ _ _ _ (hT.out.below hB15)).mono ?_
  rintro e w16 ⟨A16, c16, rfl, -, hR, hb16⟩
  have hlt16 : w.heap.size < w16.heap.size := Nat.lt_of_lt_of_le (cell_in hbox15) hb16.size
  have hz16 := below_alloc hb16 (.cells #[.slice A16 4 c16] 24)
  have hbox16 := cell_later hz16 hbox15
  have hB16 := Below.on hB15 hz16
  have b_x16 : (w16.alloc (.cells #[.slice A16 4 c16] 24)).cell? ⟨w16.heap.size, 0, none⟩ = some (.slice A16 4 c16) := by clear hbox16; go_simp
  have t_x16 := hide (hR.below (below_alloc (Below.refl _ _) (.cells #[.slice A16 4 c16] 24)))
  clear hz16 hbox15 hB15 hR hb16
  go_wp2_with fail
  refine (take_at (T := ex15x) (X := []) (k := 1) (e0 := 6) (m := 0) (by kernel_rfl) (by kernel_rfl) rfl _ _ _ _ t_x16.out).mono ?_
  rintro e w17 ⟨A17, c17, rfl, -, hR, hb17⟩
  have hlt17 : w.heap.size < w17.heap.size := Nat.lt_of_lt_of_le (cell_in hbox16) hb17.size
  have hz17 := below_alloc hb17 (.cells #[.slice A17 0 c17] 24)
  have hbox17 := cell_later hz17 hbox16
  have hB17 := Below.on hB16 hz17
  have b_x17 := cell_later hz17 b_x16
  have t_x17 := hide (t_x16.out.below hz17)
  clear hz17 hbox16 hB16 b_x16 t_x16 hR hb17
  go_wp2_with fail
  refine (before_at (T := ex15x) (X := []) (p := 2) (k := 1) (e0 := 6) (m := 0) (by kernel_rfl) (by kernel_rfl) rfl _ _ _ _ t_x17.out).mono ?_
  rintro e w18 ⟨A18, c18, rfl, -, hR, hb18⟩
  have hlt18 : w.heap.size < w18.heap.size := Nat.lt_of_lt_of_le (cell_in hbox17) hb18.size
  have hz18 := below_alloc hb18 (.cells #[.slice A18 0 c18] 24)
  have hbox18 := cell_later hz18 hbox17
  have hB18 := Below.on hB17 hz18
  have b_x18 := cell_later hz18 b_x17
  have t_x18 := hide (t_x17.out.below hz18)
  clear hz18 hbox17 hB17 b_x17 t_x17 hR hb18
  go_wp2_with fail
  refine (before_at (T := ex15) (X := ex15) (p := 1) (k := 2) (e0 := 0) (m := 4) (by kernel_rfl) (by kernel_rfl) rfl _ _ _ _ (hT.out.below hB18)).mono ?_
  rintro e w19 ⟨A19, c19, rfl, -, hR, hb19⟩
  have hlt19 : w.heap.size < w19.heap.size := Nat.lt_of_lt_of_le (cell_in hbox18) hb19.size
  have hz19 := below_alloc hb19 (.cells #[.slice A19 4 c19] 24)
  have hbox19 := cell_later hz19 hbox18
  have hB19 := Below.on hB18 hz19
  have b_x19 := cell_later hz19 b_x18
  have t_x19 := hide (t_x18.out.below hz19)
  have b_same19 : (w19.alloc (.cells #[.slice A19 4 c19] 24)).cell? ⟨w19.heap.size, 0, none⟩ = some (.slice A19 4 c19) := by clear hbox19 b_x19; go_simp
  have t_same19 := hide (hR.below (below_alloc (Below.refl _ _) (.cells #[.slice A19 4 c19] 24)))
  clear hz19 hbox18 hB18 b_x18 t_x18 hR hb19
  go_wp2_with fail
  refine (append_at (T := ex15) (X := ex15t) (p := 0) (k := 1) (e0 := 0) (m := 4) (by kernel_rfl) (by kernel_rfl) rfl _ _ _ _ (hT.out.below hB19)).mono ?_
  rintro e w20 ⟨A20, c20, rfl, -, hR, hb20⟩
  have hlt20 : w.heap.size < w20.heap.size := Nat.lt_of_lt_of_le (cell_in hbox19) hb20.size
  have hz20 := below_alloc hb20 (.cells #[.slice A20 4 c20] 24)
  have hbox20 := cell_later hz20 hbox19
  have hB20 := Below.on hB19 hz20
  have b_x20 := cell_later hz20 b_x19
  have t_x20 := hide (t_x19.out.below hz20)
  have b_same20 := cell_later hz20 b_same19
  have t_same20 := hide (t_same19.out.below hz20)
  have b_turned20 : (w20.alloc (.cells #[.slice A20 4 c20] 24)).cell? ⟨w20.heap.size, 0, none⟩ = some (.slice A20 4 c20) := by clear hbox20 b_x20 b_same20; go_simp
  have t_turned20 := hide (hR.below (below_alloc (Below.refl _ _) (.cells #[.slice A20 4 c20] 24)))
  clear hz20 hbox19 hB19 b_x19 t_x19 b_same19 t_same19 hR hb20
  go_wp2_with fail
  refine (alive15_ok _).mono ?_
  rintro e w21 ⟨rfl, hz21⟩
  have hbox21 := cell_later hz21 hbox20
  have hB21 := Below.on hB20 hz21
  have b_x21 := cell_later hz21 b_x20
  have t_x21 := hide (t_x20.out.below hz21)
  have b_same21 := cell_later hz21 b_same20
  have t_same21 := hide (t_same20.out.below hz21)
  have b_turned21 := cell_later hz21 b_turned20
  have t_turned21 := hide (t_turned20.out.below hz21)
  clear hbox20 hB20 b_x20 t_x20 b_same20 t_same20 b_turned20 t_turned20 hz21
  go_wp2_with fail
  have hx := rcheck_ok _ _ c16 ex15x _ t_x21.out
  rw [chk_x] at hx
  refine hx.mono ?_
  clear hx
  rintro e w22 ⟨rfl, hz22⟩
  have hbox22 := cell_later hz22 hbox21
  have hB22 := Below.on hB21 hz22
  have b_x22 := cell_later hz22 b_x21
  have t_x22 := hide (t_x21.out.below hz22)
  have b_same22 := cell_later hz22 b_same21
  have t_same22 := hide (t_same21.out.below hz22)
  have b_turned22 := cell_later hz22 b_turned21
  have t_turned22 := hide (t_turned21.out.below hz22)
  clear hz22 hbox21 hB21 b_x21 t_x21 b_same21 t_same21 b_turned21 t_turned21
  go_wp2_with fail
  refine (same_ok _ _ _ _ _ ex15 _ t_same22.out (hT.out.below hB22)).mono ?_
  rintro e w23 ⟨rfl, hz23⟩
  have hbox23 := cell_later hz23 hbox22
  have hB23 := Below.on hB22 hz23
  have b_x23 := cell_later hz23 b_x22
  have t_x23 := hide (t_x22.out.below hz23)
  have b_same23 := cell_later hz23 b_same22
  have t_same23 := hide (t_same22.out.below hz23)
  have b_turned23 := cell_later hz23 b_turned22
  have t_turned23 := hide (t_turned22.out.below hz23)
  clear hz23 hbox22 hB22 b_x22 t_x22 b_same22 t_same22 b_turned22 t_turned22
  obtain ⟨-, -, -, hx⟩ := t_turned23.out
  obtain ⟨bx, ox, -, xA, -, xC, rfl, hbx, -, -, -, x3, -, hxC⟩ := hx (by omega)
  have x30 := x3 0 (by omega)
  have i0 := hide (hxC 0 (by omega)).1
  change _ = some (Value.slice (xA 0) 2 (xC 0)) at x30
  change Hid (IsInts _ (xA 0) 2 [2, 1]) at i0
  simp only [Nat.zero_mul, Nat.add_zero] at x30
  generalize xA 0 = B0 at x30 i0
  generalize xC 0 = e0 at x30
  clear hx x3 hxC t_turned23
  go_wp2_with fail
  have ha := below_alloc (Below.refl w23.heap.size w23) (.cells #[.int .i64 2, .int .i64 1] 3)
  refine (sameInts_yes B0 (some ⟨w23.heap.size, 0, none⟩) 2 2 _ _ [2, 1] _ (i0.out.below ha) (isInts_lit _ _ _ [2, 1] (by decide) rfl)).mono ?_
  rintro e w24 ⟨rfl, hb24⟩
  go_wp2
  go_ret
  exact ⟨rfl, Below.on hb0'.out (Below.on hB23 (Below.on ha hb24))⟩

set_option maxRecDepth 100000 in
theorem lifted (os : Os) (started : os.Started) (H : Type) (enc : TypeId × Value → H) :
    ReturnsInHanded {} Try.checked os 5 .any (Rows.mutateNamesSpec.pre6 enc Try.prog Try.f5 Rows.mutateNamesRow.domain false) (Rows.mutateNamesSpec.post enc Try.prog Try.f5 false true false false) := by
  refine returnsInHanded_of_change (C := Try.checked) own started (by kernel_rfl) Try.func5
    (ChangeSpec.witness6 (enc := enc) (C := Try.checked) false ⟨#[], #[], []⟩ 8 (by kernel_rfl) (by kernel_rfl) (by kernel_rfl) (by kernel_rfl)) ?_
  intro W base args ds gs before hval0 hW hcnd _
  have hW' := hW
  obtain ⟨p, q, hA0, hV, rfl, hfz, hnd⟩ := hW
  have hA : DataW.TrodAll enc Try.prog W 0 (fun _ => true) true Try.f5.params.toList args.toList ds p := hA0
  rw [Try.params5] at hA
  obtain ⟨h1, rfl, rfl⟩ := trodAll_nil hA
  obtain rfl : args = #[] := by cases args; simp_all
  obtain ⟨rfl, rfl⟩ := trodVars_none hV
  clear hA0 hval0
  refine (walk W).mono fun e W' ⟨he, bel⟩ => ?_
  subst he
  exact ⟨_, rfl, _, _, _, [], _, [], hW', trodAll_mk1 (shut_bool Try.underlying4 _), trodAll_mk0, rfl, bel.frame _, fun h => by cases h⟩

theorem proved : Rows.MutateNamesSaid :=
  OpenClaim.holds_of_wide 5 Try.f5 rfl rfl rfl rfl rfl rfl rfl ⟨rfl, rfl, rfl, rfl, rfl⟩ rfl rfl rfl rfl rfl (by kernel_rfl) Try.func5 (by kernel_rfl)
    (of_decide_eq_true (by kernel_rfl)) (by unfold Func.isWrapper; first | (rw [if_pos (by decide +kernel)]; kernel_rfl) | (rw [if_neg (by decide +kernel)]; exact ⟨rfl, rfl⟩))
    (fun os started H enc _ => lifted os started H enc)
#print axioms proved
end Go.Proofs.Ytkimjpcmcfnmkaa.mutateNames
