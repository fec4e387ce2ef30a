/- The errors, and each kind with a list. Condition: the variable of the library that strings.Contains reads holds a number. -/
import Derived.Test.YtljloicgjgbplaaGreatG60
import Derived.Test.YtljloicgjgbplaaGreatG17
import Derived.Deep.RegionHeld3
namespace Go.Proofs.YtljloicgjgbplaaGreat.matcherNames
open Go.ChangeShapes Go.WideShapes Go.ChangeAt Go.RowKit

theorem isTree_nil (w : World) : IsTree w none 0 [] := ⟨rfl, by omega, fun x hx => by simp at hx, fun h => absurd h (by omega)⟩
set_option maxRecDepth 100000 in
set_option maxHeartbeats 10000000 in
theorem walk (w : World) (hmx : HasMax w) : Calls Tryz.prog 7 #[] w fun e w' => e = .returned (.bool true) ∧ Below w.heap.size w w' := by
  go_enter Tryz.func7, Tryz.ntmps7
  go_wp2_with fail
  refine (example23_ok _).mono ?_
  rintro e w0 ⟨A, c, rfl, hT0, hb0⟩
  have hbx := below_alloc (Below.refl w0.heap.size w0) (.cells #[.slice A 4 c] 24)
  have B_0 := Below.on hb0 hbx
  have T_0 := hide (hT0.below hbx)
  have mx_0 := hide (hmx.below (Below.on hb0 hbx))
  have box_0 := (show (w0.alloc (.cells #[.slice A 4 c] 24)).cell? ⟨w0.heap.size, 0, none⟩ = some (.slice A 4 c) from blk_cell (blk_new _ _ _) 0)
  clear hT0 hb0 hbx hmx
  go_wp2_with fail
  refine (oneV_ok 0 ⟨#[42]⟩ none 0 0 [] _ (simL_nil _ _) (Nat.le_refl _) (by omega) (by decide)).mono ?_
  rintro e w1 ⟨Ls, ds, rfl, q1, ps, os, hb⟩
  have hz := hb
  have B_1 := Below.on B_0 hz
  have T_1 := hide (T_0.out.below hz)
  have mx_1 := hide (mx_0.out.below hz)
  have box_1 := cell_later hz box_0
  clear B_0 T_0 mx_0 box_0
  have s_1 := hide q1
  clear q1
  clear hz hb
  have hbz := below_alloc (Below.refl w1.heap.size w1) (.cells #[.int .u8 0, .slice none 0 0, .slice none 0 0] 62)
  have hbad := bad_row w1 w1.heap.size rfl
  go_wp2_with fail
  refine (mMatch_at [] (-1) (-2) 1 bad1 false 8 (by constructor <;> kernel_rfl) (by decide +kernel) none 0 0 _ 1 1 _ (isTree_nil _) (mx_1.out.below hbz) hbad).mono ?_
  rintro e w2 ⟨rfl, hb⟩
  have hz := Below.on hbz hb
  have B_2 := Below.on B_1 hz
  have T_2 := hide (T_1.out.below hz)
  have mx_2 := hide (mx_1.out.below hz)
  have box_2 := cell_later hz box_1
  have s_2 := hide (s_1.out.below (isV_stays _) hz)
  clear B_1 T_1 mx_1 box_1 s_1
  have b_2 := hide (hbad.below (isV_stays _) hb)
  clear hz hb hbz hbad
  go_wp2_with fail
  refine (mAll_at [] (-2) 1 bad1 [] 8 (by constructor <;> kernel_rfl) (by decide +kernel) none 0 0 _ 1 1 _ (isTree_nil _) mx_2.out b_2.out).mono ?_
  rintro e w3 ⟨X2, x2, rfl, -, -, -, hb⟩
  have hz := hb
  have B_3 := Below.on B_2 hz
  have T_3 := hide (T_2.out.below hz)
  have mx_3 := hide (mx_2.out.below hz)
  have box_3 := cell_later hz box_2
  have s_3 := hide (s_2.out.below (isV_stays _) hz)
  have b_3 := hide (b_2.out.below (isV_stays _) hz)
  clear B_2 T_2 mx_2 box_2 s_2 b_2
  clear hz hb
  go_wp2_with fail
  refine (mWhich_at [] (-1) (-2) 1 bad1 [] 8 (by constructor <;> kernel_rfl) (by decide +kernel) none 0 0 _ 1 1 _ (isTree_nil _) mx_3.out b_3.out (by omega) (by omega)).mono ?_
  rintro e w4 ⟨X3, x3, rfl, -, hb⟩
  have hz := hb
  have B_4 := Below.on B_3 hz
  have T_4 := hide (T_3.out.below hz)
  have mx_4 := hide (mx_3.out.below hz)
  have box_4 := cell_later hz box_3
  have s_4 := hide (s_3.out.below (isV_stays _) hz)
  have b_4 := hide (b_3.out.below (isV_stays _) hz)
  clear B_3 T_3 mx_3 box_3 s_3 b_3
  clear hz hb
  go_wp2_with fail
  refine (mMatch_at exT23 4 (-2) 1 bad1 false 2 (by constructor <;> kernel_rfl) (by decide +kernel) _ _ _ _ 1 1 _ T_4.out mx_4.out b_4.out).mono ?_
  rintro e w5 ⟨rfl, hb⟩
  have hz := hb
  have B_5 := Below.on B_4 hz
  have T_5 := hide (T_4.out.below hz)
  have mx_5 := hide (mx_4.out.below hz)
  have box_5 := cell_later hz box_4
  have s_5 := hide (s_4.out.below (isV_stays _) hz)
  have b_5 := hide (b_4.out.below (isV_stays _) hz)
  clear B_4 T_4 mx_4 box_4 s_4 b_4
  clear hz hb
  go_wp2_with fail
  refine (mWhich_at exT23 (-1) (-2) 1 bad1 [] 2 (by constructor <;> kernel_rfl) (by decide +kernel) _ _ _ _ 1 1 _ T_5.out mx_5.out b_5.out (by omega) (by omega)).mono ?_
  rintro e w6 ⟨X5, x5, rfl, -, hb⟩
  have hz := hb
  have B_6 := Below.on B_5 hz
  have T_6 := hide (T_5.out.below hz)
  have mx_6 := hide (mx_5.out.below hz)
  have box_6 := cell_later hz box_5
  have s_6 := hide (s_5.out.below (isV_stays _) hz)
  have b_6 := hide (b_5.out.below (isV_stays _) hz)
  clear B_5 T_5 mx_5 box_5 s_5 b_5
  clear hz hb
  go_wp2_with fail
  refine (mMatch_at exT23 0 1 1 bad1 false 2 (by constructor <;> kernel_rfl) (by decide +kernel) _ _ _ _ 1 1 _ T_6.out mx_6.out b_6.out).mono ?_
  rintro e w7 ⟨rfl, hb⟩
  have hz := hb
  have B_7 := Below.on B_6 hz
  have T_7 := hide (T_6.out.below hz)
  have mx_7 := hide (mx_6.out.below hz)
  have box_7 := cell_later hz box_6
  have s_7 := hide (s_6.out.below (isV_stays _) hz)
  have b_7 := hide (b_6.out.below (isV_stays _) hz)
  clear B_6 T_6 mx_6 box_6 s_6 b_6
  clear hz hb
  go_wp2_with fail
  refine (mAll_at exT23 4 1 bad1 [] 2 (by constructor <;> kernel_rfl) (by decide +kernel) _ _ _ _ 1 1 _ T_7.out mx_7.out b_7.out).mono ?_
  rintro e w8 ⟨X7, x7, rfl, -, -, -, hb⟩
  have hz := hb
  have B_8 := Below.on B_7 hz
  have T_8 := hide (T_7.out.below hz)
  have mx_8 := hide (mx_7.out.below hz)
  have box_8 := cell_later hz box_7
  have s_8 := hide (s_7.out.below (isV_stays _) hz)
  have b_8 := hide (b_7.out.below (isV_stays _) hz)
  clear B_7 T_7 mx_7 box_7 s_7 b_7
  clear hz hb
  go_wp2_with fail
  refine (mAll_at exT23 (-1) 1 bad1 [] 8 (by constructor <;> kernel_rfl) (by decide +kernel) _ _ _ _ 1 1 _ T_8.out mx_8.out b_8.out).mono ?_
  rintro e w9 ⟨X8, x8, rfl, -, -, -, hb⟩
  have hz := hb
  have B_9 := Below.on B_8 hz
  have T_9 := hide (T_8.out.below hz)
  have mx_9 := hide (mx_8.out.below hz)
  have box_9 := cell_later hz box_8
  have s_9 := hide (s_8.out.below (isV_stays _) hz)
  have b_9 := hide (b_8.out.below (isV_stays _) hz)
  clear B_8 T_8 mx_8 box_8 s_8 b_8
  clear hz hb
  go_wp2_with fail
  refine (mMatch_at exT23 0 (-1) 1 [] false 8 (by constructor <;> kernel_rfl) (by decide +kernel) _ _ _ none 0 0 _ T_9.out mx_9.out (isRow_nil _)).mono ?_
  rintro e w10 ⟨rfl, hb⟩
  have hz := hb
  have B_10 := Below.on B_9 hz
  have T_10 := hide (T_9.out.below hz)
  have mx_10 := hide (mx_9.out.below hz)
  have box_10 := cell_later hz box_9
  have s_10 := hide (s_9.out.below (isV_stays _) hz)
  have b_10 := hide (b_9.out.below (isV_stays _) hz)
  clear B_9 T_9 mx_9 box_9 s_9 b_9
  clear hz hb
  go_wp2_with fail
  refine (mWhich_at exT23 0 3 1 bad1 [] 8 (by constructor <;> kernel_rfl) (by decide +kernel) _ _ _ _ 1 1 _ T_10.out mx_10.out b_10.out (by omega) (by omega)).mono ?_
  rintro e w11 ⟨X10, x10, rfl, -, hb⟩
  have hz := hb
  have B_11 := Below.on B_10 hz
  have T_11 := hide (T_10.out.below hz)
  have mx_11 := hide (mx_10.out.below hz)
  have box_11 := cell_later hz box_10
  have s_11 := hide (s_10.out.below (isV_stays _) hz)
  have b_11 := hide (b_10.out.below (isV_stays _) hz)
  clear B_10 T_10 mx_10 box_10 s_10 b_10
  clear hz hb
  clear b_11
  go_wp2_with fail
  refine (withV_ok 0 11 0 (by omega) _ _ _ [] _ (isRow_nil _) (by omega)).mono ?_
  rintro e w12 ⟨L21, d21, rfl, q21, p21, o21, hb⟩
  have hz := hb
  have B_12 := Below.on B_11 hz
  have T_12 := hide (T_11.out.below hz)
  have mx_12 := hide (mx_11.out.below hz)
  have box_12 := cell_later hz box_11
  have s_12 := hide (s_11.out.below (isV_stays _) hz)
  clear B_11 T_11 mx_11 box_11 s_11
  clear hz hb
  go_wp2_with fail
  refine (oneV_ok 1 ⟨#[]⟩ _ 1 1 [simK 11 (wL 0 0 [])] _ (simL_lit _ _ 11 0 false L21 _ d21 (wL 0 0 []) (by simp) q21 (by omega) (by omega) (by omega) (by omega)) (by omega) (by omega) (by decide)).mono ?_
  rintro e w13 ⟨M0, e0, rfl, q, y0, z0, hb⟩
  have hz := Below.on (below_alloc (Below.refl _ _) _) hb
  have B_13 := Below.on B_12 hz
  have T_13 := hide (T_12.out.below hz)
  have mx_13 := hide (mx_12.out.below hz)
  have box_13 := cell_later hz box_12
  have s_13 := hide (s_12.out.below (isV_stays _) hz)
  clear B_12 T_12 mx_12 box_12 s_12
  have l0_13 := hide q
  clear q q21 p21 o21
  clear hz hb
  go_wp2_with fail
  refine (oneV_ok 0 ⟨#[108, 105]⟩ none 0 0 [] _ (simL_nil _ _) (Nat.le_refl _) (by omega) (by decide)).mono ?_
  rintro e w14 ⟨L22, d22, rfl, q22, p22, o22, hb⟩
  have hz := hb
  have B_14 := Below.on B_13 hz
  have T_14 := hide (T_13.out.below hz)
  have mx_14 := hide (mx_13.out.below hz)
  have box_14 := cell_later hz box_13
  have s_14 := hide (s_13.out.below (isV_stays _) hz)
  have l0_14 := hide (l0_13.out.below (isV_stays _) hz)
  clear B_13 T_13 mx_13 box_13 s_13 l0_13
  clear hz hb
  go_wp2_with fail
  refine (withV_ok 0 12 0 (by omega) _ _ _ li1 _ q22 (by omega)).mono ?_
  rintro e w15 ⟨L23, d23, rfl, q23, p23, o23, hb⟩
  have hz := hb
  have B_15 := Below.on B_14 hz
  have T_15 := hide (T_14.out.below hz)
  have mx_15 := hide (mx_14.out.below hz)
  have box_15 := cell_later hz box_14
  have s_15 := hide (s_14.out.below (isV_stays _) hz)
  have l0_15 := hide (l0_14.out.below (isV_stays _) hz)
  clear B_14 T_14 mx_14 box_14 s_14 l0_14
  clear hz hb
  go_wp2_with fail
  refine (oneV_ok 1 ⟨#[]⟩ _ 1 1 [simK 12 (wL 0 0 li1)] _ (simL_lit _ _ 12 0 false L23 _ d23 (wL 0 0 li1) (by simp) q23 (by omega) (by omega) (by omega) (by omega)) (by omega) (by omega) (by decide)).mono ?_
  rintro e w16 ⟨M1, e1, rfl, q, y1, z1, hb⟩
  have hz := Below.on (below_alloc (Below.refl _ _) _) hb
  have B_16 := Below.on B_15 hz
  have T_16 := hide (T_15.out.below hz)
  have mx_16 := hide (mx_15.out.below hz)
  have box_16 := cell_later hz box_15
  have s_16 := hide (s_15.out.below (isV_stays _) hz)
  have l0_16 := hide (l0_15.out.below (isV_stays _) hz)
  clear B_15 T_15 mx_15 box_15 s_15 l0_15
  have l1_16 := hide q
  clear q q23 p23 o23
  clear hz hb
  go_wp2_with fail
  refine (oneV_ok 0 ⟨#[108, 105]⟩ none 0 0 [] _ (simL_nil _ _) (Nat.le_refl _) (by omega) (by decide)).mono ?_
  rintro e w17 ⟨L24, d24, rfl, q24, p24, o24, hb⟩
  have hz := hb
  have B_17 := Below.on B_16 hz
  have T_17 := hide (T_16.out.below hz)
  have mx_17 := hide (mx_16.out.below hz)
  have box_17 := cell_later hz box_16
  have s_17 := hide (s_16.out.below (isV_stays _) hz)
  have l0_17 := hide (l0_16.out.below (isV_stays _) hz)
  have l1_17 := hide (l1_16.out.below (isV_stays _) hz)
  clear B_16 T_16 mx_16 box_16 s_16 l0_16 l1_16
  clear hz hb
  go_wp2_with fail
  refine (withV_ok 0 13 0 (by omega) _ _ _ li1 _ q24 (by omega)).mono ?_
  rintro e w18 ⟨L25, d25, rfl, q25, p25, o25, hb⟩
  have hz := hb
  have B_18 := Below.on B_17 hz
  have T_18 := hide (T_17.out.below hz)
  have mx_18 := hide (mx_17.out.below hz)
  have box_18 := cell_later hz box_17
  have s_18 := hide (s_17.out.below (isV_stays _) hz)
  have l0_18 := hide (l0_17.out.below (isV_stays _) hz)
  have l1_18 := hide (l1_17.out.below (isV_stays _) hz)
  clear B_17 T_17 mx_17 box_17 s_17 l0_17 l1_17
  clear hz hb
  go_wp2_with fail
  refine (oneV_ok 1 ⟨#[]⟩ _ 1 1 [simK 13 (wL 0 0 li1)] _ (simL_lit _ _ 13 0 false L25 _ d25 (wL 0 0 li1) (by simp) q25 (by omega) (by omega) (by omega) (by omega)) (by omega) (by omega) (by decide)).mono ?_
  rintro e w19 ⟨M2, e2, rfl, q, y2, z2, hb⟩
  have hz := Below.on (below_alloc (Below.refl _ _) _) hb
  have B_19 := Below.on B_18 hz
  have T_19 := hide (T_18.out.below hz)
  have mx_19 := hide (mx_18.out.below hz)
  have box_19 := cell_later hz box_18
  have s_19 := hide (s_18.out.below (isV_stays _) hz)
  have l0_19 := hide (l0_18.out.below (isV_stays _) hz)
  have l1_19 := hide (l1_18.out.below (isV_stays _) hz)
  clear B_18 T_18 mx_18 box_18 s_18 l0_18 l1_18
  have l2_19 := hide q
  clear q q25 p25 o25
  clear hz hb
  go_wp2_with fail
  refine (withV_ok 0 14 2 (by omega) _ _ _ star1 _ s_19.out (by omega)).mono ?_
  rintro e w20 ⟨L26, d26, rfl, q26, p26, o26, hb⟩
  have hz := hb
  have B_20 := Below.on B_19 hz
  have T_20 := hide (T_19.out.below hz)
  have mx_20 := hide (mx_19.out.below hz)
  have box_20 := cell_later hz box_19
  have s_20 := hide (s_19.out.below (isV_stays _) hz)
  have l0_20 := hide (l0_19.out.below (isV_stays _) hz)
  have l1_20 := hide (l1_19.out.below (isV_stays _) hz)
  have l2_20 := hide (l2_19.out.below (isV_stays _) hz)
  clear B_19 T_19 mx_19 box_19 s_19 l0_19 l1_19 l2_19
  clear hz hb
  go_wp2_with fail
  refine (oneV_ok 1 ⟨#[]⟩ _ 1 1 [simK 14 (wL 0 2 star1)] _ (simL_lit _ _ 14 0 false L26 _ d26 (wL 0 2 star1) (by simp) q26 (by omega) (by omega) (by omega) (by omega)) (by omega) (by omega) (by decide)).mono ?_
  rintro e w21 ⟨M3, e3, rfl, q, y3, z3, hb⟩
  have hz := Below.on (below_alloc (Below.refl _ _) _) hb
  have B_21 := Below.on B_20 hz
  have T_21 := hide (T_20.out.below hz)
  have mx_21 := hide (mx_20.out.below hz)
  have box_21 := cell_later hz box_20
  have s_21 := hide (s_20.out.below (isV_stays _) hz)
  have l0_21 := hide (l0_20.out.below (isV_stays _) hz)
  have l1_21 := hide (l1_20.out.below (isV_stays _) hz)
  have l2_21 := hide (l2_20.out.below (isV_stays _) hz)
  clear B_20 T_20 mx_20 box_20 s_20 l0_20 l1_20 l2_20
  have l3_21 := hide q
  clear q q26 p26 o26
  clear hz hb
  go_wp2_with fail
  refine (withV_ok 0 14 3 (by omega) _ _ _ star1 _ s_21.out (by omega)).mono ?_
  rintro e w22 ⟨L27, d27, rfl, q27, p27, o27, hb⟩
  have hz := hb
  have B_22 := Below.on B_21 hz
  have T_22 := hide (T_21.out.below hz)
  have mx_22 := hide (mx_21.out.below hz)
  have box_22 := cell_later hz box_21
  have s_22 := hide (s_21.out.below (isV_stays _) hz)
  have l0_22 := hide (l0_21.out.below (isV_stays _) hz)
  have l1_22 := hide (l1_21.out.below (isV_stays _) hz)
  have l2_22 := hide (l2_21.out.below (isV_stays _) hz)
  have l3_22 := hide (l3_21.out.below (isV_stays _) hz)
  clear B_21 T_21 mx_21 box_21 s_21 l0_21 l1_21 l2_21 l3_21
  clear hz hb
  go_wp2_with fail
  refine (oneV_ok 1 ⟨#[]⟩ _ 1 1 [simK 14 (wL 0 3 star1)] _ (simL_lit _ _ 14 0 false L27 _ d27 (wL 0 3 star1) (by simp) q27 (by omega) (by omega) (by omega) (by omega)) (by omega) (by omega) (by decide)).mono ?_
  rintro e w23 ⟨M4, e4, rfl, q, y4, z4, hb⟩
  have hz := Below.on (below_alloc (Below.refl _ _) _) hb
  have B_23 := Below.on B_22 hz
  have T_23 := hide (T_22.out.below hz)
  have mx_23 := hide (mx_22.out.below hz)
  have box_23 := cell_later hz box_22
  have s_23 := hide (s_22.out.below (isV_stays _) hz)
  have l0_23 := hide (l0_22.out.below (isV_stays _) hz)
  have l1_23 := hide (l1_22.out.below (isV_stays _) hz)
  have l2_23 := hide (l2_22.out.below (isV_stays _) hz)
  have l3_23 := hide (l3_22.out.below (isV_stays _) hz)
  clear B_22 T_22 mx_22 box_22 s_22 l0_22 l1_22 l2_22 l3_22
  have l4_23 := hide q
  clear q q27 p27 o27
  clear hz hb
  go_wp2_with fail
  refine (oneV_ok 1 ⟨#[]⟩ _ 1 1 [sAB 9 2 1 false []] _ (simL_litA _ _ 9 2 1 false none 0 0 [] (by simp) (isRow_nil _) (by omega) (by omega) (by omega) (by omega) (by omega)) (by omega) (by omega) (by decide)).mono ?_
  rintro e w24 ⟨M5, e5, rfl, q, y5, z5, hb⟩
  have hz := Below.on (below_alloc (Below.refl _ _) _) hb
  have B_24 := Below.on B_23 hz
  have T_24 := hide (T_23.out.below hz)
  have mx_24 := hide (mx_23.out.below hz)
  have box_24 := cell_later hz box_23
  have s_24 := hide (s_23.out.below (isV_stays _) hz)
  have l0_24 := hide (l0_23.out.below (isV_stays _) hz)
  have l1_24 := hide (l1_23.out.below (isV_stays _) hz)
  have l2_24 := hide (l2_23.out.below (isV_stays _) hz)
  have l3_24 := hide (l3_23.out.below (isV_stays _) hz)
  have l4_24 := hide (l4_23.out.below (isV_stays _) hz)
  clear B_23 T_23 mx_23 box_23 s_23 l0_23 l1_23 l2_23 l3_23 l4_23
  have l5_24 := hide q
  clear q
  clear hz hb
  go_wp2_with fail
  refine (oneV_ok 0 ⟨#[108, 105]⟩ none 0 0 [] _ (simL_nil _ _) (Nat.le_refl _) (by omega) (by decide)).mono ?_
  rintro e w25 ⟨L28, d28, rfl, q28, p28, o28, hb⟩
  have hz := hb
  have B_25 := Below.on B_24 hz
  have T_25 := hide (T_24.out.below hz)
  have mx_25 := hide (mx_24.out.below hz)
  have box_25 := cell_later hz box_24
  have s_25 := hide (s_24.out.below (isV_stays _) hz)
  have l0_25 := hide (l0_24.out.below (isV_stays _) hz)
  have l1_25 := hide (l1_24.out.below (isV_stays _) hz)
  have l2_25 := hide (l2_24.out.below (isV_stays _) hz)
  have l3_25 := hide (l3_24.out.below (isV_stays _) hz)
  have l4_25 := hide (l4_24.out.below (isV_stays _) hz)
  have l5_25 := hide (l5_24.out.below (isV_stays _) hz)
  clear B_24 T_24 mx_24 box_24 s_24 l0_24 l1_24 l2_24 l3_24 l4_24 l5_24
  clear hz hb
  go_wp2_with fail
  refine (oneV_ok 1 ⟨#[]⟩ _ 1 1 [sAB 10 0 1 true li1] _ (simL_litA _ _ 10 0 1 true L28 1 d28 li1 (by simp) q28 (by omega) (by omega) (by omega) (by omega) (by omega)) (by omega) (by omega) (by decide)).mono ?_
  rintro e w26 ⟨M6, e6, rfl, q, y6, z6, hb⟩
  have hz := Below.on (below_alloc (Below.refl _ _) _) hb
  have B_26 := Below.on B_25 hz
  have T_26 := hide (T_25.out.below hz)
  have mx_26 := hide (mx_25.out.below hz)
  have box_26 := cell_later hz box_25
  have s_26 := hide (s_25.out.below (isV_stays _) hz)
  have l0_26 := hide (l0_25.out.below (isV_stays _) hz)
  have l1_26 := hide (l1_25.out.below (isV_stays _) hz)
  have l2_26 := hide (l2_25.out.below (isV_stays _) hz)
  have l3_26 := hide (l3_25.out.below (isV_stays _) hz)
  have l4_26 := hide (l4_25.out.below (isV_stays _) hz)
  have l5_26 := hide (l5_25.out.below (isV_stays _) hz)
  clear B_25 T_25 mx_25 box_25 s_25 l0_25 l1_25 l2_25 l3_25 l4_25 l5_25
  have l6_26 := hide q
  clear q q28 p28 o28
  clear hz hb
  go_wp2_with fail
  refine (oneV_ok 1 ⟨#[]⟩ _ 1 1 [sAB 10 0 2 false []] _ (simL_litA _ _ 10 0 2 false none 0 0 [] (by simp) (isRow_nil _) (by omega) (by omega) (by omega) (by omega) (by omega)) (by omega) (by omega) (by decide)).mono ?_
  rintro e w27 ⟨M7, e7, rfl, q, y7, z7, hb⟩
  have hz := Below.on (below_alloc (Below.refl _ _) _) hb
  have B_27 := Below.on B_26 hz
  have T_27 := hide (T_26.out.below hz)
  have mx_27 := hide (mx_26.out.below hz)
  have box_27 := cell_later hz box_26
  have s_27 := hide (s_26.out.below (isV_stays _) hz)
  have l0_27 := hide (l0_26.out.below (isV_stays _) hz)
  have l1_27 := hide (l1_26.out.below (isV_stays _) hz)
  have l2_27 := hide (l2_26.out.below (isV_stays _) hz)
  have l3_27 := hide (l3_26.out.below (isV_stays _) hz)
  have l4_27 := hide (l4_26.out.below (isV_stays _) hz)
  have l5_27 := hide (l5_26.out.below (isV_stays _) hz)
  have l6_27 := hide (l6_26.out.below (isV_stays _) hz)
  clear B_26 T_26 mx_26 box_26 s_26 l0_26 l1_26 l2_26 l3_26 l4_26 l5_26 l6_26
  have l7_27 := hide q
  clear q
  clear hz hb
  go_wp2_with fail
  have hz : Below w27.heap.size w27 ((((((((((w27.alloc (.cells #[.slice M0 1 e0, .slice M1 1 e1, .slice M2 1 e2, .slice M3 1 e3, .slice M4 1 e4, .slice M5 1 e5, .slice M6 1 e6, .slice M7 1 e7] 25)).alloc (.cells #[.bool false, .bool false, .bool false, .bool false] 4)).alloc (.cells #[.bool false, .bool true, .bool true, .bool false] 4)).alloc (.cells #[.bool true, .bool false, .bool false, .bool true] 4)).alloc (.cells #[.bool true, .bool true, .bool false, .bool false] 4)).alloc (.cells #[.bool false, .bool true, .bool false, .bool false] 4)).alloc (.cells #[.bool true, .bool true, .bool false, .bool true] 4)).alloc (.cells #[.bool false, .bool false, .bool true, .bool false] 4)).alloc (.cells #[.bool false, .bool true, .bool false, .bool false] 4)).alloc (.cells #[.slice (some ⟨w27.heap.size + 1, 0, none⟩) 4 4, .slice (some ⟨w27.heap.size + 1 + 1, 0, none⟩) 4 4, .slice (some ⟨w27.heap.size + 1 + 1 + 1, 0, none⟩) 4 4, .slice (some ⟨w27.heap.size + 1 + 1 + 1 + 1, 0, none⟩) 4 4, .slice (some ⟨w27.heap.size + 1 + 1 + 1 + 1 + 1, 0, none⟩) 4 4, .slice (some ⟨w27.heap.size + 1 + 1 + 1 + 1 + 1 + 1, 0, none⟩) 4 4, .slice (some ⟨w27.heap.size + 1 + 1 + 1 + 1 + 1 + 1 + 1, 0, none⟩) 4 4, .slice (some ⟨w27.heap.size + 1 + 1 + 1 + 1 + 1 + 1 + 1 + 1, 0, none⟩) 4 4] 30)) := below_alloc (below_alloc (below_alloc (below_alloc (below_alloc (below_alloc (below_alloc (below_alloc (below_alloc (below_alloc (Below.refl _ _) _) _) _) _) _) _) _) _) _) _
  have hX0 := blk_alloc (blk_alloc (blk_alloc (blk_alloc (blk_alloc (blk_alloc (blk_alloc (blk_alloc (blk_alloc (blk_new w27 #[.slice M0 1 e0, .slice M1 1 e1, .slice M2 1 e2, .slice M3 1 e3, .slice M4 1 e4, .slice M5 1 e5, .slice M6 1 e6, .slice M7 1 e7] 25) (.cells #[.bool false, .bool false, .bool false, .bool false] 4)) (.cells #[.bool false, .bool true, .bool true, .bool false] 4)) (.cells #[.bool true, .bool false, .bool false, .bool true] 4)) (.cells #[.bool true, .bool true, .bool false, .bool false] 4)) (.cells #[.bool false, .bool true, .bool false, .bool false] 4)) (.cells #[.bool true, .bool true, .bool false, .bool true] 4)) (.cells #[.bool false, .bool false, .bool true, .bool false] 4)) (.cells #[.bool false, .bool true, .bool false, .bool false] 4)) (.cells #[.slice (some ⟨w27.heap.size + 1, 0, none⟩) 4 4, .slice (some ⟨w27.heap.size + 1 + 1, 0, none⟩) 4 4, .slice (some ⟨w27.heap.size + 1 + 1 + 1, 0, none⟩) 4 4, .slice (some ⟨w27.heap.size + 1 + 1 + 1 + 1, 0, none⟩) 4 4, .slice (some ⟨w27.heap.size + 1 + 1 + 1 + 1 + 1, 0, none⟩) 4 4, .slice (some ⟨w27.heap.size + 1 + 1 + 1 + 1 + 1 + 1, 0, none⟩) 4 4, .slice (some ⟨w27.heap.size + 1 + 1 + 1 + 1 + 1 + 1 + 1, 0, none⟩) 4 4, .slice (some ⟨w27.heap.size + 1 + 1 + 1 + 1 + 1 + 1 + 1 + 1, 0, none⟩) 4 4] 30)
  have hX9 : ((((((((((w27.alloc (.cells #[.slice M0 1 e0, .slice M1 1 e1, .slice M2 1 e2, .slice M3 1 e3, .slice M4 1 e4, .slice M5 1 e5, .slice M6 1 e6, .slice M7 1 e7] 25)).alloc (.cells #[.bool false, .bool false, .bool false, .bool false] 4)).alloc (.cells #[.bool false, .bool true, .bool true, .bool false] 4)).alloc (.cells #[.bool true, .bool false, .bool false, .bool true] 4)).alloc (.cells #[.bool true, .bool true, .bool false, .bool false] 4)).alloc (.cells #[.bool false, .bool true, .bool false, .bool false] 4)).alloc (.cells #[.bool true, .bool true, .bool false, .bool true] 4)).alloc (.cells #[.bool false, .bool false, .bool true, .bool false] 4)).alloc (.cells #[.bool false, .bool true, .bool false, .bool false] 4)).alloc (.cells #[.slice (some ⟨w27.heap.size + 1, 0, none⟩) 4 4, .slice (some ⟨w27.heap.size + 1 + 1, 0, none⟩) 4 4, .slice (some ⟨w27.heap.size + 1 + 1 + 1, 0, none⟩) 4 4, .slice (some ⟨w27.heap.size + 1 + 1 + 1 + 1, 0, none⟩) 4 4, .slice (some ⟨w27.heap.size + 1 + 1 + 1 + 1 + 1, 0, none⟩) 4 4, .slice (some ⟨w27.heap.size + 1 + 1 + 1 + 1 + 1 + 1, 0, none⟩) 4 4, .slice (some ⟨w27.heap.size + 1 + 1 + 1 + 1 + 1 + 1 + 1, 0, none⟩) 4 4, .slice (some ⟨w27.heap.size + 1 + 1 + 1 + 1 + 1 + 1 + 1 + 1, 0, none⟩) 4 4] 30)).heap[w27.heap.size + 1 + 1 + 1 + 1 + 1 + 1 + 1 + 1 + 1]? = some (.cells #[.slice (some ⟨w27.heap.size + 1, 0, none⟩) 4 4, .slice (some ⟨w27.heap.size + 1 + 1, 0, none⟩) 4 4, .slice (some ⟨w27.heap.size + 1 + 1 + 1, 0, none⟩) 4 4, .slice (some ⟨w27.heap.size + 1 + 1 + 1 + 1, 0, none⟩) 4 4, .slice (some ⟨w27.heap.size + 1 + 1 + 1 + 1 + 1, 0, none⟩) 4 4, .slice (some ⟨w27.heap.size + 1 + 1 + 1 + 1 + 1 + 1, 0, none⟩) 4 4, .slice (some ⟨w27.heap.size + 1 + 1 + 1 + 1 + 1 + 1 + 1, 0, none⟩) 4 4, .slice (some ⟨w27.heap.size + 1 + 1 + 1 + 1 + 1 + 1 + 1 + 1, 0, none⟩) 4 4] 30 (0, 0)) := blk_at _ _ _ _ (by simp)
  have hI0 : IsBools ((((((((((w27.alloc (.cells #[.slice M0 1 e0, .slice M1 1 e1, .slice M2 1 e2, .slice M3 1 e3, .slice M4 1 e4, .slice M5 1 e5, .slice M6 1 e6, .slice M7 1 e7] 25)).alloc (.cells #[.bool false, .bool false, .bool false, .bool false] 4)).alloc (.cells #[.bool false, .bool true, .bool true, .bool false] 4)).alloc (.cells #[.bool true, .bool false, .bool false, .bool true] 4)).alloc (.cells #[.bool true, .bool true, .bool false, .bool false] 4)).alloc (.cells #[.bool false, .bool true, .bool false, .bool false] 4)).alloc (.cells #[.bool true, .bool true, .bool false, .bool true] 4)).alloc (.cells #[.bool false, .bool false, .bool true, .bool false] 4)).alloc (.cells #[.bool false, .bool true, .bool false, .bool false] 4)).alloc (.cells #[.slice (some ⟨w27.heap.size + 1, 0, none⟩) 4 4, .slice (some ⟨w27.heap.size + 1 + 1, 0, none⟩) 4 4, .slice (some ⟨w27.heap.size + 1 + 1 + 1, 0, none⟩) 4 4, .slice (some ⟨w27.heap.size + 1 + 1 + 1 + 1, 0, none⟩) 4 4, .slice (some ⟨w27.heap.size + 1 + 1 + 1 + 1 + 1, 0, none⟩) 4 4, .slice (some ⟨w27.heap.size + 1 + 1 + 1 + 1 + 1 + 1, 0, none⟩) 4 4, .slice (some ⟨w27.heap.size + 1 + 1 + 1 + 1 + 1 + 1 + 1, 0, none⟩) 4 4, .slice (some ⟨w27.heap.size + 1 + 1 + 1 + 1 + 1 + 1 + 1 + 1, 0, none⟩) 4 4] 30)) (some ⟨w27.heap.size + 1, 0, none⟩) 4 (W8 0) := (isBools_lt (w27.alloc (.cells #[.slice M0 1 e0, .slice M1 1 e1, .slice M2 1 e2, .slice M3 1 e3, .slice M4 1 e4, .slice M5 1 e5, .slice M6 1 e6, .slice M7 1 e7] 25)) _ _ [false, false, false, false] (by decide) (by simp)).below (below_alloc (below_alloc (below_alloc (below_alloc (below_alloc (below_alloc (below_alloc (below_alloc (Below.refl _ _) _) _) _) _) _) _) _) _)
  have hI1 : IsBools ((((((((((w27.alloc (.cells #[.slice M0 1 e0, .slice M1 1 e1, .slice M2 1 e2, .slice M3 1 e3, .slice M4 1 e4, .slice M5 1 e5, .slice M6 1 e6, .slice M7 1 e7] 25)).alloc (.cells #[.bool false, .bool false, .bool false, .bool false] 4)).alloc (.cells #[.bool false, .bool true, .bool true, .bool false] 4)).alloc (.cells #[.bool true, .bool false, .bool false, .bool true] 4)).alloc (.cells #[.bool true, .bool true, .bool false, .bool false] 4)).alloc (.cells #[.bool false, .bool true, .bool false, .bool false] 4)).alloc (.cells #[.bool true, .bool true, .bool false, .bool true] 4)).alloc (.cells #[.bool false, .bool false, .bool true, .bool false] 4)).alloc (.cells #[.bool false, .bool true, .bool false, .bool false] 4)).alloc (.cells #[.slice (some ⟨w27.heap.size + 1, 0, none⟩) 4 4, .slice (some ⟨w27.heap.size + 1 + 1, 0, none⟩) 4 4, .slice (some ⟨w27.heap.size + 1 + 1 + 1, 0, none⟩) 4 4, .slice (some ⟨w27.heap.size + 1 + 1 + 1 + 1, 0, none⟩) 4 4, .slice (some ⟨w27.heap.size + 1 + 1 + 1 + 1 + 1, 0, none⟩) 4 4, .slice (some ⟨w27.heap.size + 1 + 1 + 1 + 1 + 1 + 1, 0, none⟩) 4 4, .slice (some ⟨w27.heap.size + 1 + 1 + 1 + 1 + 1 + 1 + 1, 0, none⟩) 4 4, .slice (some ⟨w27.heap.size + 1 + 1 + 1 + 1 + 1 + 1 + 1 + 1, 0, none⟩) 4 4] 30)) (some ⟨w27.heap.size + 1 + 1, 0, none⟩) 4 (W8 1) := (isBools_lt ((w27.alloc (.cells #[.slice M0 1 e0, .slice M1 1 e1, .slice M2 1 e2, .slice M3 1 e3, .slice M4 1 e4, .slice M5 1 e5, .slice M6 1 e6, .slice M7 1 e7] 25)).alloc (.cells #[.bool false, .bool false, .bool false, .bool false] 4)) _ _ [false, true, true, false] (by decide) (by simp)).below (below_alloc (below_alloc (below_alloc (below_alloc (below_alloc (below_alloc (below_alloc (Below.refl _ _) _) _) _) _) _) _) _)
  have hI2 : IsBools ((((((((((w27.alloc (.cells #[.slice M0 1 e0, .slice M1 1 e1, .slice M2 1 e2, .slice M3 1 e3, .slice M4 1 e4, .slice M5 1 e5, .slice M6 1 e6, .slice M7 1 e7] 25)).alloc (.cells #[.bool false, .bool false, .bool false, .bool false] 4)).alloc (.cells #[.bool false, .bool true, .bool true, .bool false] 4)).alloc (.cells #[.bool true, .bool false, .bool false, .bool true] 4)).alloc (.cells #[.bool true, .bool true, .bool false, .bool false] 4)).alloc (.cells #[.bool false, .bool true, .bool false, .bool false] 4)).alloc (.cells #[.bool true, .bool true, .bool false, .bool true] 4)).alloc (.cells #[.bool false, .bool false, .bool true, .bool false] 4)).alloc (.cells #[.bool false, .bool true, .bool false, .bool false] 4)).alloc (.cells #[.slice (some ⟨w27.heap.size + 1, 0, none⟩) 4 4, .slice (some ⟨w27.heap.size + 1 + 1, 0, none⟩) 4 4, .slice (some ⟨w27.heap.size + 1 + 1 + 1, 0, none⟩) 4 4, .slice (some ⟨w27.heap.size + 1 + 1 + 1 + 1, 0, none⟩) 4 4, .slice (some ⟨w27.heap.size + 1 + 1 + 1 + 1 + 1, 0, none⟩) 4 4, .slice (some ⟨w27.heap.size + 1 + 1 + 1 + 1 + 1 + 1, 0, none⟩) 4 4, .slice (some ⟨w27.heap.size + 1 + 1 + 1 + 1 + 1 + 1 + 1, 0, none⟩) 4 4, .slice (some ⟨w27.heap.size + 1 + 1 + 1 + 1 + 1 + 1 + 1 + 1, 0, none⟩) 4 4] 30)) (some ⟨w27.heap.size + 1 + 1 + 1, 0, none⟩) 4 (W8 2) := (isBools_lt (((w27.alloc (.cells #[.slice M0 1 e0, .slice M1 1 e1, .slice M2 1 e2, .slice M3 1 e3, .slice M4 1 e4, .slice M5 1 e5, .slice M6 1 e6, .slice M7 1 e7] 25)).alloc (.cells #[.bool false, .bool false, .bool false, .bool false] 4)).alloc (.cells #[.bool false, .bool true, .bool true, .bool false] 4)) _ _ [true, false, false, true] (by decide) (by simp)).below (below_alloc (below_alloc (below_alloc (below_alloc (below_alloc (below_alloc (Below.refl _ _) _) _) _) _) _) _)
  have hI3 : IsBools ((((((((((w27.alloc (.cells #[.slice M0 1 e0, .slice M1 1 e1, .slice M2 1 e2, .slice M3 1 e3, .slice M4 1 e4, .slice M5 1 e5, .slice M6 1 e6, .slice M7 1 e7] 25)).alloc (.cells #[.bool false, .bool false, .bool false, .bool false] 4)).alloc (.cells #[.bool false, .bool true, .bool true, .bool false] 4)).alloc (.cells #[.bool true, .bool false, .bool false, .bool true] 4)).alloc (.cells #[.bool true, .bool true, .bool false, .bool false] 4)).alloc (.cells #[.bool false, .bool true, .bool false, .bool false] 4)).alloc (.cells #[.bool true, .bool true, .bool false, .bool true] 4)).alloc (.cells #[.bool false, .bool false, .bool true, .bool false] 4)).alloc (.cells #[.bool false, .bool true, .bool false, .bool false] 4)).alloc (.cells #[.slice (some ⟨w27.heap.size + 1, 0, none⟩) 4 4, .slice (some ⟨w27.heap.size + 1 + 1, 0, none⟩) 4 4, .slice (some ⟨w27.heap.size + 1 + 1 + 1, 0, none⟩) 4 4, .slice (some ⟨w27.heap.size + 1 + 1 + 1 + 1, 0, none⟩) 4 4, .slice (some ⟨w27.heap.size + 1 + 1 + 1 + 1 + 1, 0, none⟩) 4 4, .slice (some ⟨w27.heap.size + 1 + 1 + 1 + 1 + 1 + 1, 0, none⟩) 4 4, .slice (some ⟨w27.heap.size + 1 + 1 + 1 + 1 + 1 + 1 + 1, 0, none⟩) 4 4, .slice (some ⟨w27.heap.size + 1 + 1 + 1 + 1 + 1 + 1 + 1 + 1, 0, none⟩) 4 4] 30)) (some ⟨w27.heap.size + 1 + 1 + 1 + 1, 0, none⟩) 4 (W8 3) := (isBools_lt ((((w27.alloc (.cells #[.slice M0 1 e0, .slice M1 1 e1, .slice M2 1 e2, .slice M3 1 e3, .slice M4 1 e4, .slice M5 1 e5, .slice M6 1 e6, .slice M7 1 e7] 25)).alloc (.cells #[.bool false, .bool false, .bool false, .bool false] 4)).alloc (.cells #[.bool false, .bool true, .bool true, .bool false] 4)).alloc (.cells #[.bool true, .bool false, .bool false, .bool true] 4)) _ _ [true, true, false, false] (by decide) (by simp)).below (below_alloc (below_alloc (below_alloc (below_alloc (below_alloc (Below.refl _ _) _) _) _) _) _)
  have hI4 : IsBools ((((((((((w27.alloc (.cells #[.slice M0 1 e0, .slice M1 1 e1, .slice M2 1 e2, .slice M3 1 e3, .slice M4 1 e4, .slice M5 1 e5, .slice M6 1 e6, .slice M7 1 e7] 25)).alloc (.cells #[.bool false, .bool false, .bool false, .bool false] 4)).alloc (.cells #[.bool false, .bool true, .bool true, .bool false] 4)).alloc (.cells #[.bool true, .bool false, .bool false, .bool true] 4)).alloc (.cells #[.bool true, .bool true, .bool false, .bool false] 4)).alloc (.cells #[.bool false, .bool true, .bool false, .bool false] 4)).alloc (.cells #[.bool true, .bool true, .bool false, .bool true] 4)).alloc (.cells #[.bool false, .bool false, .bool true, .bool false] 4)).alloc (.cells #[.bool false, .bool true, .bool false, .bool false] 4)).alloc (.cells #[.slice (some ⟨w27.heap.size + 1, 0, none⟩) 4 4, .slice (some ⟨w27.heap.size + 1 + 1, 0, none⟩) 4 4, .slice (some ⟨w27.heap.size + 1 + 1 + 1, 0, none⟩) 4 4, .slice (some ⟨w27.heap.size + 1 + 1 + 1 + 1, 0, none⟩) 4 4, .slice (some ⟨w27.heap.size + 1 + 1 + 1 + 1 + 1, 0, none⟩) 4 4, .slice (some ⟨w27.heap.size + 1 + 1 + 1 + 1 + 1 + 1, 0, none⟩) 4 4, .slice (some ⟨w27.heap.size + 1 + 1 + 1 + 1 + 1 + 1 + 1, 0, none⟩) 4 4, .slice (some ⟨w27.heap.size + 1 + 1 + 1 + 1 + 1 + 1 + 1 + 1, 0, none⟩) 4 4] 30)) (some ⟨w27.heap.size + 1 + 1 + 1 + 1 + 1, 0, none⟩) 4 (W8 4) := (isBools_lt (((((w27.alloc (.cells #[.slice M0 1 e0, .slice M1 1 e1, .slice M2 1 e2, .slice M3 1 e3, .slice M4 1 e4, .slice M5 1 e5, .slice M6 1 e6, .slice M7 1 e7] 25)).alloc (.cells #[.bool false, .bool false, .bool false, .bool false] 4)).alloc (.cells #[.bool false, .bool true, .bool true, .bool false] 4)).alloc (.cells #[.bool true, .bool false, .bool false, .bool true] 4)).alloc (.cells #[.bool true, .bool true, .bool false, .bool false] 4)) _ _ [false, true, false, false] (by decide) (by simp)).below (below_alloc (below_alloc (below_alloc (below_alloc (Below.refl _ _) _) _) _) _)
  have hI5 : IsBools ((((((((((w27.alloc (.cells #[.slice M0 1 e0, .slice M1 1 e1, .slice M2 1 e2, .slice M3 1 e3, .slice M4 1 e4, .slice M5 1 e5, .slice M6 1 e6, .slice M7 1 e7] 25)).alloc (.cells #[.bool false, .bool false, .bool false, .bool false] 4)).alloc (.cells #[.bool false, .bool true, .bool true, .bool false] 4)).alloc (.cells #[.bool true, .bool false, .bool false, .bool true] 4)).alloc (.cells #[.bool true, .bool true, .bool false, .bool false] 4)).alloc (.cells #[.bool false, .bool true, .bool false, .bool false] 4)).alloc (.cells #[.bool true, .bool true, .bool false, .bool true] 4)).alloc (.cells #[.bool false, .bool false, .bool true, .bool false] 4)).alloc (.cells #[.bool false, .bool true, .bool false, .bool false] 4)).alloc (.cells #[.slice (some ⟨w27.heap.size + 1, 0, none⟩) 4 4, .slice (some ⟨w27.heap.size + 1 + 1, 0, none⟩) 4 4, .slice (some ⟨w27.heap.size + 1 + 1 + 1, 0, none⟩) 4 4, .slice (some ⟨w27.heap.size + 1 + 1 + 1 + 1, 0, none⟩) 4 4, .slice (some ⟨w27.heap.size + 1 + 1 + 1 + 1 + 1, 0, none⟩) 4 4, .slice (some ⟨w27.heap.size + 1 + 1 + 1 + 1 + 1 + 1, 0, none⟩) 4 4, .slice (some ⟨w27.heap.size + 1 + 1 + 1 + 1 + 1 + 1 + 1, 0, none⟩) 4 4, .slice (some ⟨w27.heap.size + 1 + 1 + 1 + 1 + 1 + 1 + 1 + 1, 0, none⟩) 4 4] 30)) (some ⟨w27.heap.size + 1 + 1 + 1 + 1 + 1 + 1, 0, none⟩) 4 (W8 5) := (isBools_lt ((((((w27.alloc (.cells #[.slice M0 1 e0, .slice M1 1 e1, .slice M2 1 e2, .slice M3 1 e3, .slice M4 1 e4, .slice M5 1 e5, .slice M6 1 e6, .slice M7 1 e7] 25)).alloc (.cells #[.bool false, .bool false, .bool false, .bool false] 4)).alloc (.cells #[.bool false, .bool true, .bool true, .bool false] 4)).alloc (.cells #[.bool true, .bool false, .bool false, .bool true] 4)).alloc (.cells #[.bool true, .bool true, .bool false, .bool false] 4)).alloc (.cells #[.bool false, .bool true, .bool false, .bool false] 4)) _ _ [true, true, false, true] (by decide) (by simp)).below (below_alloc (below_alloc (below_alloc (Below.refl _ _) _) _) _)
  have hI6 : IsBools ((((((((((w27.alloc (.cells #[.slice M0 1 e0, .slice M1 1 e1, .slice M2 1 e2, .slice M3 1 e3, .slice M4 1 e4, .slice M5 1 e5, .slice M6 1 e6, .slice M7 1 e7] 25)).alloc (.cells #[.bool false, .bool false, .bool false, .bool false] 4)).alloc (.cells #[.bool false, .bool true, .bool true, .bool false] 4)).alloc (.cells #[.bool true, .bool false, .bool false, .bool true] 4)).alloc (.cells #[.bool true, .bool true, .bool false, .bool false] 4)).alloc (.cells #[.bool false, .bool true, .bool false, .bool false] 4)).alloc (.cells #[.bool true, .bool true, .bool false, .bool true] 4)).alloc (.cells #[.bool false, .bool false, .bool true, .bool false] 4)).alloc (.cells #[.bool false, .bool true, .bool false, .bool false] 4)).alloc (.cells #[.slice (some ⟨w27.heap.size + 1, 0, none⟩) 4 4, .slice (some ⟨w27.heap.size + 1 + 1, 0, none⟩) 4 4, .slice (some ⟨w27.heap.size + 1 + 1 + 1, 0, none⟩) 4 4, .slice (some ⟨w27.heap.size + 1 + 1 + 1 + 1, 0, none⟩) 4 4, .slice (some ⟨w27.heap.size + 1 + 1 + 1 + 1 + 1, 0, none⟩) 4 4, .slice (some ⟨w27.heap.size + 1 + 1 + 1 + 1 + 1 + 1, 0, none⟩) 4 4, .slice (some ⟨w27.heap.size + 1 + 1 + 1 + 1 + 1 + 1 + 1, 0, none⟩) 4 4, .slice (some ⟨w27.heap.size + 1 + 1 + 1 + 1 + 1 + 1 + 1 + 1, 0, none⟩) 4 4] 30)) (some ⟨w27.heap.size + 1 + 1 + 1 + 1 + 1 + 1 + 1, 0, none⟩) 4 (W8 6) := (isBools_lt (((((((w27.alloc (.cells #[.slice M0 1 e0, .slice M1 1 e1, .slice M2 1 e2, .slice M3 1 e3, .slice M4 1 e4, .slice M5 1 e5, .slice M6 1 e6, .slice M7 1 e7] 25)).alloc (.cells #[.bool false, .bool false, .bool false, .bool false] 4)).alloc (.cells #[.bool false, .bool true, .bool true, .bool false] 4)).alloc (.cells #[.bool true, .bool false, .bool false, .bool true] 4)).alloc (.cells #[.bool true, .bool true, .bool false, .bool false] 4)).alloc (.cells #[.bool false, .bool true, .bool false, .bool false] 4)).alloc (.cells #[.bool true, .bool true, .bool false, .bool true] 4)) _ _ [false, false, true, false] (by decide) (by simp)).below (below_alloc (below_alloc (Below.refl _ _) _) _)
  have hI7 : IsBools ((((((((((w27.alloc (.cells #[.slice M0 1 e0, .slice M1 1 e1, .slice M2 1 e2, .slice M3 1 e3, .slice M4 1 e4, .slice M5 1 e5, .slice M6 1 e6, .slice M7 1 e7] 25)).alloc (.cells #[.bool false, .bool false, .bool false, .bool false] 4)).alloc (.cells #[.bool false, .bool true, .bool true, .bool false] 4)).alloc (.cells #[.bool true, .bool false, .bool false, .bool true] 4)).alloc (.cells #[.bool true, .bool true, .bool false, .bool false] 4)).alloc (.cells #[.bool false, .bool true, .bool false, .bool false] 4)).alloc (.cells #[.bool true, .bool true, .bool false, .bool true] 4)).alloc (.cells #[.bool false, .bool false, .bool true, .bool false] 4)).alloc (.cells #[.bool false, .bool true, .bool false, .bool false] 4)).alloc (.cells #[.slice (some ⟨w27.heap.size + 1, 0, none⟩) 4 4, .slice (some ⟨w27.heap.size + 1 + 1, 0, none⟩) 4 4, .slice (some ⟨w27.heap.size + 1 + 1 + 1, 0, none⟩) 4 4, .slice (some ⟨w27.heap.size + 1 + 1 + 1 + 1, 0, none⟩) 4 4, .slice (some ⟨w27.heap.size + 1 + 1 + 1 + 1 + 1, 0, none⟩) 4 4, .slice (some ⟨w27.heap.size + 1 + 1 + 1 + 1 + 1 + 1, 0, none⟩) 4 4, .slice (some ⟨w27.heap.size + 1 + 1 + 1 + 1 + 1 + 1 + 1, 0, none⟩) 4 4, .slice (some ⟨w27.heap.size + 1 + 1 + 1 + 1 + 1 + 1 + 1 + 1, 0, none⟩) 4 4] 30)) (some ⟨w27.heap.size + 1 + 1 + 1 + 1 + 1 + 1 + 1 + 1, 0, none⟩) 4 (W8 7) := (isBools_lt ((((((((w27.alloc (.cells #[.slice M0 1 e0, .slice M1 1 e1, .slice M2 1 e2, .slice M3 1 e3, .slice M4 1 e4, .slice M5 1 e5, .slice M6 1 e6, .slice M7 1 e7] 25)).alloc (.cells #[.bool false, .bool false, .bool false, .bool false] 4)).alloc (.cells #[.bool false, .bool true, .bool true, .bool false] 4)).alloc (.cells #[.bool true, .bool false, .bool false, .bool true] 4)).alloc (.cells #[.bool true, .bool true, .bool false, .bool false] 4)).alloc (.cells #[.bool false, .bool true, .bool false, .bool false] 4)).alloc (.cells #[.bool true, .bool true, .bool false, .bool true] 4)).alloc (.cells #[.bool false, .bool false, .bool true, .bool false] 4)) _ _ [false, true, false, false] (by decide) (by simp)).below (below_alloc (Below.refl _ _) _)
  generalize ((((((((((w27.alloc (.cells #[.slice M0 1 e0, .slice M1 1 e1, .slice M2 1 e2, .slice M3 1 e3, .slice M4 1 e4, .slice M5 1 e5, .slice M6 1 e6, .slice M7 1 e7] 25)).alloc (.cells #[.bool false, .bool false, .bool false, .bool false] 4)).alloc (.cells #[.bool false, .bool true, .bool true, .bool false] 4)).alloc (.cells #[.bool true, .bool false, .bool false, .bool true] 4)).alloc (.cells #[.bool true, .bool true, .bool false, .bool false] 4)).alloc (.cells #[.bool false, .bool true, .bool false, .bool false] 4)).alloc (.cells #[.bool true, .bool true, .bool false, .bool true] 4)).alloc (.cells #[.bool false, .bool false, .bool true, .bool false] 4)).alloc (.cells #[.bool false, .bool true, .bool false, .bool false] 4)).alloc (.cells #[.slice (some ⟨w27.heap.size + 1, 0, none⟩) 4 4, .slice (some ⟨w27.heap.size + 1 + 1, 0, none⟩) 4 4, .slice (some ⟨w27.heap.size + 1 + 1 + 1, 0, none⟩) 4 4, .slice (some ⟨w27.heap.size + 1 + 1 + 1 + 1, 0, none⟩) 4 4, .slice (some ⟨w27.heap.size + 1 + 1 + 1 + 1 + 1, 0, none⟩) 4 4, .slice (some ⟨w27.heap.size + 1 + 1 + 1 + 1 + 1 + 1, 0, none⟩) 4 4, .slice (some ⟨w27.heap.size + 1 + 1 + 1 + 1 + 1 + 1 + 1, 0, none⟩) 4 4, .slice (some ⟨w27.heap.size + 1 + 1 + 1 + 1 + 1 + 1 + 1 + 1, 0, none⟩) 4 4] 30)) = WL at *
  have hcL : Hid (∀ q, q < 8 → ∃ (LA : Option Addr) (d : Nat), WL.cell? ⟨w27.heap.size, q, none⟩ = some (.slice LA 1 d) ∧ IsRow (IsV 2) WL LA 1 (LL q)) := by
    intro q hq
    obtain rfl | rfl | rfl | rfl | rfl | rfl | rfl | rfl : q = 0 ∨ q = 1 ∨ q = 2 ∨ q = 3 ∨ q = 4 ∨ q = 5 ∨ q = 6 ∨ q = 7 := by omega
    · exact ⟨_, _, blk_cell hX0 0, l0_27.out.below (isV_stays _) hz⟩
    · exact ⟨_, _, blk_cell hX0 1, l1_27.out.below (isV_stays _) hz⟩
    · exact ⟨_, _, blk_cell hX0 2, l2_27.out.below (isV_stays _) hz⟩
    · exact ⟨_, _, blk_cell hX0 3, l3_27.out.below (isV_stays _) hz⟩
    · exact ⟨_, _, blk_cell hX0 4, l4_27.out.below (isV_stays _) hz⟩
    · exact ⟨_, _, blk_cell hX0 5, l5_27.out.below (isV_stays _) hz⟩
    · exact ⟨_, _, blk_cell hX0 6, l6_27.out.below (isV_stays _) hz⟩
    · exact ⟨_, _, blk_cell hX0 7, l7_27.out.below (isV_stays _) hz⟩
  have hcW : Hid (∀ q, q < 8 → ∃ g, WL.cell? ⟨w27.heap.size + 1 + 1 + 1 + 1 + 1 + 1 + 1 + 1 + 1, q, none⟩ = some (.slice (some ⟨g, 0, none⟩) 4 4) ∧ IsBools WL (some ⟨g, 0, none⟩) 4 (W8 q)) := by
    intro q hq
    obtain rfl | rfl | rfl | rfl | rfl | rfl | rfl | rfl : q = 0 ∨ q = 1 ∨ q = 2 ∨ q = 3 ∨ q = 4 ∨ q = 5 ∨ q = 6 ∨ q = 7 := by omega
    · exact ⟨_, blk_cell hX9 0, hI0⟩
    · exact ⟨_, blk_cell hX9 1, hI1⟩
    · exact ⟨_, blk_cell hX9 2, hI2⟩
    · exact ⟨_, blk_cell hX9 3, hI3⟩
    · exact ⟨_, blk_cell hX9 4, hI4⟩
    · exact ⟨_, blk_cell hX9 5, hI5⟩
    · exact ⟨_, blk_cell hX9 6, hI6⟩
    · exact ⟨_, blk_cell hX9 7, hI7⟩
  have hlt : w27.heap.size < WL.heap.size := blk_lt hX0
  have hlt9 : w27.heap.size + 1 + 1 + 1 + 1 + 1 + 1 + 1 + 1 + 1 < WL.heap.size := blk_lt hX9
  clear l0_27 l1_27 l2_27 l3_27 l4_27 l5_27 l6_27 l7_27
  have B_28 := Below.on B_27 hz
  have T_28 := hide (T_27.out.below hz)
  have mx_28 := hide (mx_27.out.below hz)
  have box_28 := cell_later hz box_27
  have s_28 := hide (s_27.out.below (isV_stays _) hz)
  clear B_27 T_27 mx_27 box_27 s_27
  clear hz hX0 hX9 hI0 hI1 hI2 hI3 hI4 hI5 hI6 hI7
  go_loopw [26] (fun s wr => ∃ q : Nat, q ≤ 8 ∧ s = .int .i64 q ∧ Below WL.heap.size WL wr) (fun s _ => 8 - (intOf s).toNat)
  case atStart => exact ⟨0, Nat.zero_le _, rfl, Below.refl _ _⟩
  case round =>
    obtain ⟨q, hq, rfl, hb⟩ := hrel
    have hBw := Below.on B_28 hb
    have hbox := cell_later hb box_28
    by_cases hlq : q < 8
    · obtain ⟨LA, d, cl, hr⟩ := hcL.out q hlq
      obtain ⟨g, cw, hw⟩ := hcW.out q hlq
      have cl := cell_later hb cl
      have cw := cell_later hb cw
      have hal := hide (mAll_at exT23 (-1) 2 (LL q) (W8 q) 0 (val8 q hlq) (num8 q hlq) A 4 c LA 1 d wr.drew (T_28.out.below hb.drew) (mx_28.out.below hb.drew) (hr.below (isV_stays _) hb.drew))
      have hwl := hide (W8_len q)
      have hw' := hide (hw.below hb)
      have x0 : (0 : Int) ≤ (q : Int) := by omega
      have x1 : (q : Int) < 8 := by omega
      generalize W8 q = WQ at *
      clear hr hw
      go_wp2
      go_region_held3 (fun X => X.cell? ⟨w0.heap.size, 0, none⟩ = some (.slice A 4 c) ∧ X.cell? ⟨w27.heap.size, q, none⟩ = some (.slice LA 1 d)) (first | exact ⟨hbox, cl⟩ | exact ⟨r0, r1⟩) (first | (go_at_call 13; (with_reducible refine hal.out.mono ?_); rintro e7 w7 ⟨X9, x9, rfl, hI9, -, -, hb7⟩; have r0 := cell_later hb7 hbox; have r1 := cell_later hb7 cl))
      have hI9' := hide hI9
      have hb7' := hide (Below.on (w1 := wr.drew) (Below.refl _ _).drew hb7)
      have cw7 := cell_later hb7'.out cw
      have hw7 := hide (hw'.out.below hb7'.out)
      clear hI9 hb7 r0 r1 hal cl cw hw'
      go_wp2_with fail
      refine (sameBools_yes _ _ _ _ _ _ WQ _ hI9'.out hw7.out).mono ?_
      rintro e w8 ⟨rfl, hb8⟩
      have hb9 := hide (Below.on hb (Below.on hb7'.out hb8))
      clear hb8 cw7
      go_wp2
      go_roundw
      case rel => exact ⟨q + 1, by omega, by go_num, hb9.out⟩
      case measure => simp [intOf]; omega
    · obtain rfl : q = 8 := by omega
      have hz := hb
      clear hbox hBw
      generalize wr = w29 at *
      have B_29 := Below.on B_28 hz
      have T_29 := hide (T_28.out.below hz)
      have mx_29 := hide (mx_28.out.below hz)
      have box_29 := cell_later hz box_28
      have s_29 := hide (s_28.out.below (isV_stays _) hz)
      clear B_28 T_28 mx_28 box_28 s_28
      clear hz hb hcL hcW
      obtain ⟨S9, hS9l, hS9f, hS9⟩ := IsRow.trips s_29.out
      obtain ⟨bs, os2, rfl, hbs, hs9⟩ := hS9 (by omega)
      obtain ⟨t2, rfl⟩ := List.length_eq_one_iff.1 hS9l
      clear hS9 hS9l
      clear s_29
      have hs9' := hide hs9
      have hS9f' := hide hS9f
      clear hs9 hS9f
      go_wp2_with fail
      refine (one2_ok ⟨#[108, 105]⟩ _ (by decide)).mono ?_
      rintro e wa ⟨A1, c1, t1, rfl, hO, hne, hS, hsl, hb⟩
      have f1 := hide (show Sure (Fv 0 w29.heap.size (.slice A1 1 c1) wa) wa (fun W => Fit (IsV 1) W [t1] li1) from hS.on (On.refl _ _) (fun x hx => by subst hx; exact .inr ⟨Nat.le_refl _, hsl, fun he => hne _ he rfl⟩))
      have hs2 := fun j u (hj : (trips [t2])[j]? = some u) => (show wa.cell? ((⟨bs, os2, none⟩ : Addr).add j) = some u from by rw [add_plain]; exact cell_later hb (hs9'.out j u hj))
      have hOa := hO
      have hba := hide hb
      have hsa : w29.heap.size ≤ wa.heap.size := hb.size
      clear hO hS hb hne
      go_wp2_with (at_builtin; refine wpList_appX rfl _ _ rfl hOa [t2] ⟨bs, os2, none⟩ 1 ds rfl rfl rfl (by omega) hs2 (by simp) hsa ?_)
      intro A2 c2 wb hOb hgb
      have hOb : OwnX wb w29.heap.size (.slice A2 2 c2) [t1, t2] := hOb
      have hgb : Grow0 wa wb w29.heap.size (.slice A1 1 c1) (.slice A2 2 c2) := hgb
      have f2 := hide (f1.out.grow hgb (Nat.zero_le _))
      have hbb := hide (hgb.1 _ _ (Nat.le_refl _) hba.out)
      have hOb' := hide hOb
      clear f1 hgb hba hOa hs2 hOb hsa hsl
      go_wp2_with fail
      refine (one2_ok ⟨#[117, 108]⟩ _ (by decide)).mono ?_
      rintro e wc ⟨A3, c3, t3, rfl, hO, hne, hS, hsl, hb⟩
      obtain ⟨g3, rfl, hs3⟩ := own_src hO
      have hbl := hbb.out.size
      have f3 := hide (show Sure (Fv 0 w29.heap.size (.slice A2 2 c2) wc) wc (fun W => Fit (IsV 1) W [t3] ul1) from hS.on (On.refl _ _) (fun x hx => by subst hx; exact .inr ⟨hbl, hsl, fun he => by have := (World.ownsRow.lt hOb'.out _ he).2; omega⟩))
      have f4 := hide (f2.out.below (Nat.zero_le _) hb)
      have hOc := hOb'.out.below hb
      have hbc := hide (hbb.out.trans (hb.mono hbl))
      have hsc : w29.heap.size ≤ wc.heap.size := hbc.out.size
      clear f2 hbb hOb' hO hne hS hsl hb hbl
      go_wp2_with (at_builtin; refine wpList_appX rfl _ _ rfl hOc [t3] ⟨g3, 0, none⟩ 1 c3 rfl rfl rfl (by omega) hs3 (by simp) hsc ?_)
      intro A4 c4 wd hOd hgd
      have hOd : OwnX wd w29.heap.size (.slice A4 3 c4) [t1, t2, t3] := hOd
      have hgd : Grow0 wc wd w29.heap.size (.slice A2 2 c2) (.slice A4 3 c4) := hgd
      have hbd := hgd.1 _ _ (Nat.le_refl _) hbc.out
      have hF : Fit (IsV 1) wd [t1, t2, t3] two1 := (((f4.out.grow hgd (Nat.zero_le _)).here).append (hS9f'.out.below (isV_stays 1) hbd)).append ((f3.out.grow hgd (Nat.zero_le _)).here)
      obtain ⟨A5, c5, hv5, p5, o5, r5⟩ := hOd.isRow hF (by simp)
      injection hv5 with e1 e2 e3
      subst e1 e3
      have r5' := hide (show IsRow (IsV 1) wd A4 3 two1 from r5)
      have p5 : 3 ≤ c4 := p5
      have B_30 := Below.on B_29 hbd
      have T_30 := hide (T_29.out.below hbd)
      have mx_30 := hide (mx_29.out.below hbd)
      have box_30 := cell_later hbd box_29
      clear B_29 T_29 mx_29 box_29
      clear hgd hOd hF r5 f3 f4 hbc hOc hs3 hsc hS9f' hs9' hbd
      generalize wd = w30 at *
      go_wp2_with fail
      refine (mWhich_at exT23 1 (-1) 1 two1 [0, 1] 0 (by constructor <;> kernel_rfl) (by decide +kernel) _ _ _ _ 3 c4 _ T_30.out mx_30.out r5'.out p5 o5).mono ?_
      rintro e w31 ⟨X11, x11, rfl, i11, hb⟩
      have hz := hb
      have B_31 := Below.on B_30 hz
      have T_31 := hide (T_30.out.below hz)
      have mx_31 := hide (mx_30.out.below hz)
      have box_31 := cell_later hz box_30
      clear B_30 T_30 mx_30 box_30
      have v_31 := hide i11
      clear i11 r5'
      clear hz hb
      go_wp2_with fail
      refine (alive23_ok _ mx_31.out).mono ?_
      rintro e w32 ⟨rfl, hb⟩
      have hz := hb
      have B_32 := Below.on B_31 hz
      have T_32 := hide (T_31.out.below hz)
      have mx_32 := hide (mx_31.out.below hz)
      have box_32 := cell_later hz box_31
      have v_32 := hide (v_31.out.below hz)
      clear B_31 T_31 mx_31 box_31 v_31
      clear hz hb
      have hz9 := below_alloc (Below.refl w32.heap.size w32) (.cells #[.int .i64 0, .int .i64 1] 3)
      have hI9 := isInts_lit w32 w32.heap.size 3 [0, 1] (by decide) rfl
      have v9 := hide (v_32.out.below hz9)
      go_wp2_with fail
      refine (sameInts_yes _ _ _ _ _ _ [0, 1] _ v9.out hI9).mono ?_
      rintro e we ⟨rfl, hb⟩
      go_wp2
      go_ret
      exact ⟨rfl, Below.on B_32 (Below.on hz9 hb)⟩
set_option maxRecDepth 100000 in
theorem lifted (os : Os) (started : os.Started) (H : Type) (enc : TypeId × Value → H) :
    ReturnsInHanded {} Tryz.checked os 7 .any (Rows.matcherNamesSpec.pre6 enc Tryz.prog Tryz.f7 Rows.matcherNamesRow.domain false) (Rows.matcherNamesSpec.post enc Tryz.prog Tryz.f7 false true false false) := by
  refine returnsInHanded_of_change_shaped (C := Tryz.checked) own started (by kernel_rfl) Tryz.func7
    (ChangeSpec.witness6 (enc := enc) (C := Tryz.checked) false ⟨#[], #[], []⟩ 8 (by kernel_rfl) (by kernel_rfl) (by kernel_rfl) (by kernel_rfl)) ?_
  intro W base args ds gs before hval0 hW hcnd _ hsh _
  have hW' := hW
  obtain ⟨p, q, hA0, hV, rfl, hfz, hnd⟩ := hW
  have hA : DataW.TrodAll enc Tryz.prog W 0 (fun _ => true) true Tryz.f7.params.toList args.toList ds p := hA0
  rw [Tryz.params7] at hA
  obtain ⟨h1, rfl, rfl⟩ := trodAll_nil hA
  obtain rfl : args = #[] := by cases args; simp_all
  obtain ⟨rfl, rfl⟩ := trodVars_none hV
  clear hA0 hval0
  refine (walk W (hasMax_of hsh)).mono fun e W' ⟨he, bel⟩ => ?_
  subst he
  exact ⟨_, rfl, _, _, _, [], _, [], hW', trodAll_mk1 (shut_bool Tryz.underlying4 _), trodAll_mk0, rfl, bel.frame _, fun h => by cases h⟩

theorem proved : Rows.MatcherNamesSaid :=
  OpenClaim.holds_of_wide 7 Tryz.f7 rfl rfl rfl rfl rfl rfl rfl ⟨rfl, rfl, rfl, rfl, rfl⟩ rfl rfl rfl rfl rfl (by kernel_rfl) Tryz.func7 (by kernel_rfl)
    (of_decide_eq_true (by kernel_rfl)) (by unfold Func.isWrapper; first | (rw [if_pos (by decide +kernel)]; kernel_rfl) | (rw [if_neg (by decide +kernel)]; exact ⟨rfl, rfl⟩))
    (fun os started H enc _ => lifted os started H enc)
#print axioms proved
end Go.Proofs.YtljloicgjgbplaaGreat.matcherNames
