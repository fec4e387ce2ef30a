/- Walks: chapter 23's examples. Condition: the variable of the library that strings.Contains reads holds a number. -/
import Derived.Test.YtljloicgjgbplaaGreatG43
import Derived.Test.YtljloicgjgbplaaGreatG13
import Derived.Deep.RegionHeld3
namespace Go.Proofs.YtljloicgjgbplaaGreat
open Go.RowKit

theorem oneV_ok (N : Nat) (tag : ByteArray) (SA : Option Addr) (sn sc : Nat) (l : List (SimX (SelL N))) (w : World) (h : IsSimL (IsV N) w SA sn l) (hc1 : sn ≤ sc) (hc2 : sc ≤ 9223372036854775807) (ht : tag.size ≤ 9223372036854775807) :
    Calls Tryz.prog 16 #[.string tag, .slice SA sn sc] w (MadeL (IsV (N + 1)) w 1 (oL N tag l)) := one_ok (isV_stays N) tag SA sn sc l w h hc1 hc2 ht
theorem withV_ok (N : Nat) (k ld : Int) (h8 : 0 ≤ ld ∧ ld ≤ 255) (LA : Option Addr) (ln lc : Nat) (l : List (SelL (N + 1))) (w : World) (hrow : IsRow (IsV (N + 1)) w LA ln l) (hln : ln ≤ 1000) :
    Calls Tryz.prog 28 #[.int .u8 k, .int .u8 ld, .slice LA ln lc] w (MadeW (IsV (N + 1)) w k ln (wL N ld l)) := with_ok (isV_stays N) k ld h8 LA ln lc l w hrow hln
theorem simRel_at {N : Nat} {w : World} {k : Int} {b : Int} {o : Bool} {LA : Option Addr} {ln lc : Nat} {l : List (SelL N)} (hr : IsRow (IsV N) w LA ln l) (h1 : ln ≤ lc) (h2 : lc ≤ 9223372036854775807) (h8 : 0 ≤ k ∧ k ≤ 255) (hb : -9223372036854775808 ≤ b ∧ b ≤ 9223372036854775807) :
    SimRel (IsV N) w ⟨k, ⟨#[]⟩, 0, ⟨#[]⟩, false, 0, b, o, LA, ln, lc⟩ ⟨k, ⟨#[]⟩, 0, ⟨#[]⟩, false, 0, b, o, l⟩ :=
  ⟨rfl, rfl, rfl, rfl, rfl, rfl, rfl, rfl, hr.1.symm, h1, h2, h8, by simp only; omega, by show (0 : Nat) ≤ _; omega, by show (0 : Nat) ≤ _; omega, by simp only; omega, hb, hr⟩
/-- A simple selector with a list, in a block of its own, as a list. -/
theorem simL_lit {N : Nat} (W : World) (g : Nat) (k b : Int) (o : Bool) (LA : Option Addr) (ln lc : Nat) (l : List (SelL N)) (hg : g = W.heap.size) (hr : IsRow (IsV N) W LA ln l) (h1 : ln ≤ lc) (h2 : lc ≤ 9223372036854775807) (h8 : 0 ≤ k ∧ k ≤ 255) (hb : -9223372036854775808 ≤ b ∧ b ≤ 9223372036854775807) :
    IsSimL (IsV N) (W.alloc (.cells #[.int .u8 k, .string ⟨#[]⟩, .int .u8 0, .string ⟨#[]⟩, .bool false, .int .i64 0, .int .i64 b, .bool o, .slice LA ln lc] 41)) (some ⟨g, 0, none⟩) 1 [⟨k, ⟨#[]⟩, 0, ⟨#[]⟩, false, 0, b, o, l⟩] :=
  simL_at (s := ⟨k, ⟨#[]⟩, 0, ⟨#[]⟩, false, 0, b, o, LA, ln, lc⟩) (blk_at W _ _ g hg) (simRel_at (hr.below (isV_stays N) (below_alloc (Below.refl _ _) _)) h1 h2 h8 hb)
theorem mAll_at (T : List ANode) (m : Int) (N : Nat) (l : List (SelL N)) (xs : List Bool) (c0 : Int) (h : mallV T m N l = xs ∧ aksE T m N l = c0) (hnum : numV N l ≤ 1000000) (A : Option Addr) (n c : Nat) (LA : Option Addr) (ln lc : Nat) (w : World) (hT : IsTree w A n T) (hmx : HasMax w) (hrow : IsRow (IsV N) w LA ln l) :
    Calls Tryz.prog 13 #[.agg #[.slice A n c], .slice LA ln lc, .int .i64 m] w (MadeB w xs c0) := by
  rw [← h.1, ← h.2]; exact mAll_ok A n c T N LA ln lc l m w hT hmx hrow hnum
theorem mMatch_at (T : List ANode) (i m : Int) (N : Nat) (l : List (SelL N)) (v : Bool) (c0 : Int) (h : mmatV T i m N l = v ∧ mmatE T i m N l = c0) (hnum : numV N l ≤ 1000000) (A : Option Addr) (n c : Nat) (LA : Option Addr) (ln lc : Nat) (w : World) (hT : IsTree w A n T) (hmx : HasMax w) (hrow : IsRow (IsV N) w LA ln l) :
    Calls Tryz.prog 20 #[.agg #[.slice A n c], .int .i64 i, .slice LA ln lc, .int .i64 m] w fun e w' => e = .returned (.tuple #[.bool v, .int .i64 c0]) ∧ Below w.heap.size w w' := by
  rw [← h.1, ← h.2]; exact mMatch_ok A n c T i N LA ln lc l m w hT hmx hrow hnum
theorem lit_c (W : World) (L : Option Addr) (d : Nat) (hr : IsRow (IsV 2) W L 1 (wL 1 0 l2)) (h1 : 1 ≤ d) (h2 : d ≤ 9223372036854775807) :
    IsSimL (IsV 3) (((((W.alloc (.cells #[.int .u8 13, .string ⟨#[]⟩, .int .u8 0, .string ⟨#[]⟩, .bool false, .int .i64 0, .int .i64 0, .bool false, .slice L 1 d] 41)).alloc (.cells #[.int .u8 13, .string ⟨#[]⟩, .int .u8 0, .string ⟨#[]⟩, .bool false, .int .i64 0, .int .i64 0, .bool false, .slice L 1 d] 41)).alloc (.cells #[.string ⟨#[]⟩, .slice (some ⟨W.heap.size + 1, 0, none⟩) 1 1] 70)).alloc (.cells #[.int .u8 0, .slice (some ⟨W.heap.size + 1 + 1, 0, none⟩) 1 1, .slice none 0 0] 62)).alloc (.cells #[.int .u8 9, .string ⟨#[]⟩, .int .u8 0, .string ⟨#[]⟩, .bool false, .int .i64 0, .int .i64 1, .bool true, .slice (some ⟨W.heap.size + 1 + 1 + 1, 0, none⟩) 1 1] 41)) (some ⟨W.heap.size + 1 + 1 + 1 + 1, 0, none⟩) 1 [s3] := by
  have hs := simL_lit (N := 2) (W.alloc (.cells #[.int .u8 13, .string ⟨#[]⟩, .int .u8 0, .string ⟨#[]⟩, .bool false, .int .i64 0, .int .i64 0, .bool false, .slice L 1 d] 41)) (W.heap.size + 1) 13 0 false L 1 d (wL 1 0 l2) (by simp) (hr.below (isV_stays 2) (below_alloc (Below.refl _ _) _)) h1 h2 (by omega) (by omega)
  have hp := parts_at (V := IsV 2) (tag := ⟨#[]⟩) (blk_at _ #[.string ⟨#[]⟩, .slice (some ⟨W.heap.size + 1, 0, none⟩) 1 1] 70 (W.heap.size + 1 + 1) (by simp)) (hs.below (isV_stays 2) (below_alloc (Below.refl _ _) _)) (Nat.le_refl _) (by omega) (by decide)
  have hc := cpx_at (V := IsV 2) (by omega) (blk_at _ #[.int .u8 0, .slice (some ⟨W.heap.size + 1 + 1, 0, none⟩) 1 1, .slice none 0 0] 62 (W.heap.size + 1 + 1 + 1) (by simp)) (hp.below (isV_stays 2) (below_alloc (Below.refl _ _) _)) (Nat.le_refl _) (by omega)
  exact simL_lit (N := 3) _ _ 9 1 true _ 1 1 l3 (by simp) hc (Nat.le_refl _) (by omega) (by omega) (by omega)
set_option maxRecDepth 100000 in
set_option maxHeartbeats 10000000 in
theorem alive23_ok (w : World) (hmx0 : HasMax w) : Calls Tryz.prog 9 #[] w fun e w' => e = .returned (.bool true) ∧ Below w.heap.size w w' := by
  have hmx := hide hmx0
  clear hmx0
  go_enter Tryz.func9, Tryz.ntmps9
  go_wp2_with fail
  refine (example23_ok _).mono ?_
  rintro e w0 ⟨A, c, rfl, hT0, hb0⟩
  have hbx := below_alloc (Below.refl w0.heap.size w0) (.cells #[.slice A 4 c] 24)
  have hbox1 : (w0.alloc (.cells #[.slice A 4 c] 24)).cell? ⟨w0.heap.size, 0, none⟩ = some (.slice A 4 c) := blk_cell (blk_new _ _ _) 0
  have hT := hide (hT0.below hbx)
  have hB1 := Below.on hb0 hbx
  have hC1 := Below.refl (w0.alloc (.cells #[.slice A 4 c] 24)).heap.size (w0.alloc (.cells #[.slice A 4 c] 24))
  clear hT0 hb0 hbx
  go_wp2_with fail
  refine (oneV_ok 0 ⟨#[97]⟩ _ 1 1 [⟨5, ⟨#[]⟩, 0, ⟨#[]⟩, false, 0, 0, false, []⟩] _ (simL_lit _ _ 5 0 false _ _ _ [] (by simp) (isRow_nil _) (by omega) (by omega) (by omega) (by omega)) (by omega) (by omega) (by decide)).mono ?_
  rintro e w2 ⟨L2, d2, rfl, q2, p2, o2, hb⟩
  have hz2 := Below.on (below_alloc (Below.refl _ _) _) hb
  have hB2 := Below.on hB1 hz2
  have hC2 := Below.on hC1 hz2
  have hbox2 := cell_later hz2 hbox1
  clear hb hB1 hC1 hbox1
  go_wp2_with fail
  refine (withV_ok 0 14 1 (by omega) _ _ _ la1 _ q2 (by omega)).mono ?_
  rintro e w3 ⟨L3, d3, rfl, q3, p3, o3, hb⟩
  have hz3 := hb
  have hB3 := Below.on hB2 hz3
  have hC3 := Below.on hC2 hz3
  have hbox3 := cell_later hz3 hbox2
  clear hb hB2 hC2 hbox2
  go_wp2_with fail
  refine (oneV_ok 1 ⟨#[108, 105]⟩ _ 1 1 [⟨14, ⟨#[]⟩, 0, ⟨#[]⟩, false, 0, 0, false, (wL 0 1 la1)⟩] _ (simL_lit _ _ 14 0 false _ _ _ (wL 0 1 la1) (by simp) q3 (by omega) (by omega) (by omega) (by omega)) (by omega) (by omega) (by decide)).mono ?_
  rintro e w4 ⟨L4, d4, rfl, q4, p4, o4, hb⟩
  have hz4 := Below.on (below_alloc (Below.refl _ _) _) hb
  have hB4 := Below.on hB3 hz4
  have hC4 := Below.on hC3 hz4
  have hbox4 := cell_later hz4 hbox3
  clear hb hB3 hC3 hbox3
  have r_a4 := hide q4
  go_wp2_with fail
  refine (oneV_ok 0 ⟨#[]⟩ _ 1 1 [⟨5, ⟨#[]⟩, 0, ⟨#[]⟩, false, 0, 0, false, []⟩] _ (simL_lit _ _ 5 0 false _ _ _ [] (by simp) (isRow_nil _) (by omega) (by omega) (by omega) (by omega)) (by omega) (by omega) (by decide)).mono ?_
  rintro e w5 ⟨L5, d5, rfl, q5, p5, o5, hb⟩
  have hz5 := Below.on (below_alloc (Below.refl _ _) _) hb
  have hB5 := Below.on hB4 hz5
  have hC5 := Below.on hC4 hz5
  have hbox5 := cell_later hz5 hbox4
  have r_a5 := hide (r_a4.out.below (isV_stays _) hz5)
  clear hb hB4 hC4 hbox4 r_a4
  go_wp2_with fail
  refine (withV_ok 0 13 0 (by omega) _ _ _ lb1 _ q5 (by omega)).mono ?_
  rintro e w6 ⟨L6, d6, rfl, q6, p6, o6, hb⟩
  have hz6 := hb
  have hB6 := Below.on hB5 hz6
  have hC6 := Below.on hC5 hz6
  have hbox6 := cell_later hz6 hbox5
  have r_a6 := hide (r_a5.out.below (isV_stays _) hz6)
  clear hb hB5 hC5 hbox5 r_a5
  go_wp2_with fail
  refine (oneV_ok 1 ⟨#[]⟩ _ 1 1 [⟨13, ⟨#[]⟩, 0, ⟨#[]⟩, false, 0, 0, false, (wL 0 0 lb1)⟩] _ (simL_lit _ _ 13 0 false _ _ _ (wL 0 0 lb1) (by simp) q6 (by omega) (by omega) (by omega) (by omega)) (by omega) (by omega) (by decide)).mono ?_
  rintro e w7 ⟨L7, d7, rfl, q7, p7, o7, hb⟩
  have hz7 := Below.on (below_alloc (Below.refl _ _) _) hb
  have hB7 := Below.on hB6 hz7
  have hC7 := Below.on hC6 hz7
  have hbox7 := cell_later hz7 hbox6
  have r_a7 := hide (r_a6.out.below (isV_stays _) hz7)
  clear hb hB6 hC6 hbox6 r_a6
  have r_b7 := hide q7
  go_wp2_with fail
  refine (oneV_ok 0 ⟨#[42]⟩ none 0 0 [] _ (simL_nil _ _) (Nat.le_refl _) (by omega) (by decide)).mono ?_
  rintro e w8 ⟨L8, d8, rfl, q8, p8, o8, hb⟩
  have hz8 := hb
  have hB8 := Below.on hB7 hz8
  have hC8 := Below.on hC7 hz8
  have hbox8 := cell_later hz8 hbox7
  have r_a8 := hide (r_a7.out.below (isV_stays _) hz8)
  have r_b8 := hide (r_b7.out.below (isV_stays _) hz8)
  clear hb hB7 hC7 hbox7 r_a7 r_b7
  go_wp2_with fail
  refine (withV_ok 0 14 1 (by omega) _ _ _ l1 _ q8 (by omega)).mono ?_
  rintro e w9 ⟨L9, d9, rfl, q9, p9, o9, hb⟩
  have hz9 := hb
  have hB9 := Below.on hB8 hz9
  have hC9 := Below.on hC8 hz9
  have hbox9 := cell_later hz9 hbox8
  have r_a9 := hide (r_a8.out.below (isV_stays _) hz9)
  have r_b9 := hide (r_b8.out.below (isV_stays _) hz9)
  clear hb hB8 hC8 hbox8 r_a8 r_b8
  go_wp2_with fail
  refine (oneV_ok 1 ⟨#[]⟩ _ 1 1 [⟨14, ⟨#[]⟩, 0, ⟨#[]⟩, false, 0, 0, false, (wL 0 1 l1)⟩] _ (simL_lit _ _ 14 0 false _ _ _ (wL 0 1 l1) (by simp) q9 (by omega) (by omega) (by omega) (by omega)) (by omega) (by omega) (by decide)).mono ?_
  rintro e w10 ⟨L10, d10, rfl, q10, p10, o10, hb⟩
  have hz10 := Below.on (below_alloc (Below.refl _ _) _) hb
  have hB10 := Below.on hB9 hz10
  have hC10 := Below.on hC9 hz10
  have hbox10 := cell_later hz10 hbox9
  have r_a10 := hide (r_a9.out.below (isV_stays _) hz10)
  have r_b10 := hide (r_b9.out.below (isV_stays _) hz10)
  clear hb hB9 hC9 hbox9 r_a9 r_b9
  go_wp2_with fail
  refine (withV_ok 1 13 0 (by omega) _ _ _ l2 _ q10 (by omega)).mono ?_
  rintro e w11 ⟨L11, d11, rfl, q11, p11, o11, hb⟩
  have hz11 := hb
  have hB11 := Below.on hB10 hz11
  have hC11 := Below.on hC10 hz11
  have hbox11 := cell_later hz11 hbox10
  have r_a11 := hide (r_a10.out.below (isV_stays _) hz11)
  have r_b11 := hide (r_b10.out.below (isV_stays _) hz11)
  clear hb hB10 hC10 hbox10 r_a10 r_b10
  go_wp2_with fail
  refine (oneV_ok 3 ⟨#[108, 105]⟩ _ 1 1 [s3] _ (lit_c _ _ _ q11 p11 o11) (by omega) (by omega) (by decide)).mono ?_
  rintro e w12 ⟨L12, d12, rfl, q12, p12, o12, hb⟩
  have hz12 := Below.on (below_alloc (below_alloc (below_alloc (below_alloc (below_alloc (Below.refl _ _) _) _) _) _) _) hb
  have hB12 := Below.on hB11 hz12
  have hC12 := Below.on hC11 hz12
  have hbox12 := cell_later hz12 hbox11
  have r_a12 := hide (r_a11.out.below (isV_stays _) hz12)
  have r_b12 := hide (r_b11.out.below (isV_stays _) hz12)
  have r_c12 := hide q12
  clear hb hB11 hC11 hbox11 r_a11 r_b11 q2 q3 q4 q5 q6 q7 q8 q9 q10 q11 q12 hz2 hz3 hz4 hz5 hz6 hz7 hz8 hz9 hz10 hz11 hz12
  go_wp2_with fail
  refine (mAll_at exT23 3 2 la _ 0 val_a3 num_abc.1 _ _ _ _ _ _ _ (hT.out.below hC12) (hmx.out.below hB12) r_a12.out).mono ?_
  rintro e w13 ⟨X13, x13, rfl, i13, -, -, hb⟩
  have hB13 := Below.on hB12 hb
  have hC13 := Below.on hC12 hb
  have hbox13 := cell_later hb hbox12
  have r_a13 := hide (r_a12.out.below (isV_stays _) hb)
  have r_b13 := hide (r_b12.out.below (isV_stays _) hb)
  have r_c13 := hide (r_c12.out.below (isV_stays _) hb)
  have v13_13 := hide i13
  clear i13
  clear hb hB12 hC12 hbox12 r_a12 r_b12 r_c12
  go_wp2_with fail
  refine (mAll_at exT23 (-1) 2 la _ 0 val_a1 num_abc.1 _ _ _ _ _ _ _ (hT.out.below hC13) (hmx.out.below hB13) r_a13.out).mono ?_
  rintro e w14 ⟨X14, x14, rfl, i14, -, -, hb⟩
  have hB14 := Below.on hB13 hb
  have hC14 := Below.on hC13 hb
  have hbox14 := cell_later hb hbox13
  have r_a14 := hide (r_a13.out.below (isV_stays _) hb)
  have r_b14 := hide (r_b13.out.below (isV_stays _) hb)
  have r_c14 := hide (r_c13.out.below (isV_stays _) hb)
  have v13_14 := hide (v13_13.out.below hb)
  have v14_14 := hide i14
  clear i14 v13_13
  clear hb hB13 hC13 hbox13 r_a13 r_b13 r_c13
  go_wp2_with fail
  refine (mMatch_at exT23 3 (-1) 2 lb _ 0 val_b num_abc.2.1 _ _ _ _ _ _ _ (hT.out.below hC14) (hmx.out.below hB14) r_b14.out).mono ?_
  rintro e w15 ⟨rfl, hb⟩
  have hB15 := Below.on hB14 hb
  have hC15 := Below.on hC14 hb
  have hbox15 := cell_later hb hbox14
  have r_a15 := hide (r_a14.out.below (isV_stays _) hb)
  have r_b15 := hide (r_b14.out.below (isV_stays _) hb)
  have r_c15 := hide (r_c14.out.below (isV_stays _) hb)
  have v13_15 := hide (v13_14.out.below hb)
  have v14_15 := hide (v14_14.out.below hb)
  clear v13_14 v14_14
  clear hb hB14 hC14 hbox14 r_a14 r_b14 r_c14
  go_wp2_with fail
  refine (mAll_at exT23 (-1) 4 lc _ 0 val_c num_abc.2.2 _ _ _ _ _ _ _ (hT.out.below hC15) (hmx.out.below hB15) r_c15.out).mono ?_
  rintro e w16 ⟨X16, x16, rfl, i16, -, -, hb⟩
  have hB16 := Below.on hB15 hb
  have hC16 := Below.on hC15 hb
  have hbox16 := cell_later hb hbox15
  have r_a16 := hide (r_a15.out.below (isV_stays _) hb)
  have r_b16 := hide (r_b15.out.below (isV_stays _) hb)
  have r_c16 := hide (r_c15.out.below (isV_stays _) hb)
  have v13_16 := hide (v13_15.out.below hb)
  have v14_16 := hide (v14_15.out.below hb)
  have v16_16 := hide i16
  clear i16 v13_15 v14_15
  clear hb hB15 hC15 hbox15 r_a15 r_b15 r_c15
  clear r_a16 r_b16 r_c16 hbox16 hC16 hT
  have hmk : ∀ W : World, (Instr.makeSlice 30 (.int .i64 4) (.int .i64 4)).run Tryz.prog W = .ok (.slice (some ⟨W.heap.size, 0, none⟩) 4 4) (W.alloc (.cells (madeCells #[.bool false] 4) 4)) := fun W => mk_bools 4 (by omega) W
  go_wp2_with fail
  have z16 := below_alloc (Below.refl w16.heap.size w16) (.cells #[.bool false, .bool true, .bool false, .bool false] 4)
  refine (sameBools_yes _ _ 4 4 _ _ [false, true, false, false] _ (v13_16.out.below z16) (isBools_lt _ _ _ [false, true, false, false] (by decide) (by simp))).mono ?_
  rintro e w17 ⟨rfl, hb⟩
  have hz17 := Below.on z16 hb
  have hB17 := Below.on hB16 hz17
  have v14_17 := hide (v14_16.out.below hz17)
  have v16_17 := hide (v16_16.out.below hz17)
  clear hb hz17 z16 v13_16 v14_16 v16_16 hB16
  go_wp2_with fail
  have z17 := below_alloc (Below.refl w17.heap.size w17) (.cells (madeCells #[.bool false] 4) 4)
  have hI17 : IsBools (w17.alloc (.cells (madeCells #[.bool false] 4) 4)) (some ⟨w17.heap.size, 0, none⟩) 4 [false, false, false, false] := (Bs.zero w17 w17.heap.size 4 rfl).isBools (by omega)
  refine (sameBools_yes _ _ 4 4 _ _ [false, false, false, false] _ (v14_17.out.below z17) hI17).mono ?_
  rintro e w18 ⟨rfl, hb⟩
  have hz18 := Below.on z17 hb
  have hB18 := Below.on hB17 hz18
  have v16_18 := hide (v16_17.out.below hz18)
  clear hb hz18 z17 hI17 v14_17 v16_17 hB17 hmk
  go_wp2_with fail
  have z18 := below_alloc (Below.refl w18.heap.size w18) (.cells #[.bool false, .bool false, .bool true, .bool false] 4)
  refine (sameBools_yes _ _ 4 4 _ _ [false, false, true, false] _ (v16_18.out.below z18) (isBools_lt _ _ _ [false, false, true, false] (by decide) (by simp))).mono ?_
  rintro e w19 ⟨rfl, hb⟩
  have hB19 := Below.on hB18 (Below.on z18 hb)
  clear hb z18 v16_18 hB18
  go_wp2
  go_ret
  exact ⟨rfl, hB19⟩
end Go.Proofs.YtljloicgjgbplaaGreat
