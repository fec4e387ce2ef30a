/- A compound of SimVisited and a list matches at most the link of the mode, and in each mode links and visited ones are all of SimAnyLink. Condition: no text and no list is larger than a machine holds. -/
import Derived.Test.YtljloicgjgbplaaGreatG45
import Derived.Test.YtljloicgjgbplaaGreatG41
import Derived.Test.YtljloicgjgbplaaGreatG25
import Derived.Test.YtljloicgjgbplaaGreatG17
import Derived.Deep.RegionHeld3
namespace Go.Proofs.YtljloicgjgbplaaGreat.matcherModes
open Go.ChangeShapes Go.WideShapes Go.ChangeAt Go.RowKit

set_option maxRecDepth 100000 in
set_option maxHeartbeats 10000000 in
theorem walk (A : Option Addr) (n c : Nat) (T : List ANode) (LA : Option Addr) (ln lc N : Nat) (l : List (SelL (N + 1))) (m : Int) (w : World) (h : IsTree w A n T) (hr : IsRow (IsV (N + 1)) w LA ln l) (hz : ∀ x ∈ l, szV (N + 1) x) (hk1 : ln ≤ lc) (hk2 : lc ≤ 9223372036854775807) (hmx : HasMax w) :
    Calls Tryz.prog 5 #[.agg #[.slice A n c], .slice LA ln lc, .int .i64 m] w fun e w' => e = .returned (.bool true) ∧ Below w.heap.size w w' := by
  have hl := h.1
  have hz' := hide hz
  have hll := hr.1
  have hbx := below_alloc (Below.refl w.heap.size w) (.cells #[.slice A n c] 24)
  have B_0 := hbx
  have T_0 := hide (h.below hbx)
  have mx_0 := hide (hmx.below hbx)
  have r_0 := hide (hr.below (isV_stays (N + 1)) hbx)
  have box_0 := (show (w.alloc (.cells #[.slice A n c] 24)).cell? ⟨w.heap.size, 0, none⟩ = some (.slice A n c) from blk_cell (blk_new _ _ _) 0)
  clear h hr hmx hz hbx
  go_enter Tryz.func5, Tryz.ntmps5
  go_wp2_with fail
  refine (alive23_ok _ mx_0.out).mono ?_
  rintro e w1 ⟨rfl, hb⟩
  have hz := hb
  have B_1 := Below.on B_0 hz
  have T_1 := hide (T_0.out.below hz)
  have mx_1 := hide (mx_0.out.below hz)
  have r_1 := hide (r_0.out.below (isV_stays _) hz)
  have box_1 := cell_later hz box_0
  clear B_0 T_0 mx_0 r_0 box_0
  clear hz hb
  have hz := below_alloc (Below.refl w1.heap.size w1) (.cells #[.int .u8 11, .string ⟨#[]⟩, .int .u8 0, .string ⟨#[]⟩, .bool false, .int .i64 0, .int .i64 0, .bool false, .slice LA ln lc] 41)
  have boxl := cell_later hz box_1
  go_wp2_with fail
  have hbk := blk_new w1 #[.int .u8 11, .string ⟨#[]⟩, .int .u8 0, .string ⟨#[]⟩, .bool false, .int .i64 0, .int .i64 0, .bool false, .slice LA ln lc] 41
  generalize hw2 : w1.alloc (.cells #[.int .u8 11, .string ⟨#[]⟩, .int .u8 0, .string ⟨#[]⟩, .bool false, .int .i64 0, .int .i64 0, .bool false, .slice LA ln lc] 41) = w2 at *
  have B_2 := Below.on B_1 hz
  have T_2 := hide (T_1.out.below hz)
  have mx_2 := hide (mx_1.out.below hz)
  have r_2 := hide (r_1.out.below (isV_stays _) hz)
  have box_2 := cell_later hz box_1
  clear B_1 T_1 mx_1 r_1 box_1
  have s0_2 := (show w2.cell? ⟨w1.heap.size, 0, none⟩ = some (.int .u8 11) from blk_cell hbk 0)
  have s1_2 := (show w2.cell? ⟨w1.heap.size, 1, none⟩ = some (.string ⟨#[]⟩) from blk_cell hbk 1)
  have s2_2 := (show w2.cell? ⟨w1.heap.size, 2, none⟩ = some (.int .u8 0) from blk_cell hbk 2)
  have s3_2 := (show w2.cell? ⟨w1.heap.size, 3, none⟩ = some (.string ⟨#[]⟩) from blk_cell hbk 3)
  have s4_2 := (show w2.cell? ⟨w1.heap.size, 4, none⟩ = some (.bool false) from blk_cell hbk 4)
  have s5_2 := (show w2.cell? ⟨w1.heap.size, 5, none⟩ = some (.int .i64 0) from blk_cell hbk 5)
  have s6_2 := (show w2.cell? ⟨w1.heap.size, 6, none⟩ = some (.int .i64 0) from blk_cell hbk 6)
  have s7_2 := (show w2.cell? ⟨w1.heap.size, 7, none⟩ = some (.bool false) from blk_cell hbk 7)
  have s8_2 := (show w2.cell? ⟨w1.heap.size, 8, none⟩ = some (.slice LA ln lc) from blk_cell hbk 8)
  clear hz hbk hw2 boxl
  refine (rgreat23_ok (N + 1) A n c T LA ln lc l _ T_2.out r_2.out hz'.out).mono ?_
  rintro e w3 ⟨g, rfl, hg, hb⟩
  have hz := hb
  have B_3 := Below.on B_2 hz
  have T_3 := hide (T_2.out.below hz)
  have mx_3 := hide (mx_2.out.below hz)
  have r_3 := hide (r_2.out.below (isV_stays _) hz)
  have box_3 := cell_later hz box_2
  have s0_3 := cell_later hz s0_2
  have s1_3 := cell_later hz s1_2
  have s2_3 := cell_later hz s2_2
  have s3_3 := cell_later hz s3_2
  have s4_3 := cell_later hz s4_2
  have s5_3 := cell_later hz s5_2
  have s6_3 := cell_later hz s6_2
  have s7_3 := cell_later hz s7_2
  have s8_3 := cell_later hz s8_2
  clear B_2 T_2 mx_2 r_2 box_2 s0_2 s1_2 s2_2 s3_2 s4_2 s5_2 s6_2 s7_2 s8_2
  clear hz hb
  have hg' := hide hg
  clear hg
  cases g
  rotate_left
  · go_wp2
    go_ret
    exact ⟨rfl, B_3⟩
  have hn6 : numV (N + 1) l ≤ 600 := (hg'.out rfl).1
  have hn6' := hide hn6
  clear hg' hn6
  obtain ⟨E, hE⟩ : ∃ E, aksE T m (N + 1) l = E := ⟨_, rfl⟩
  have hE' := hide hE
  have hx := rasked23_ok A n c T (N + 1) LA ln lc l m _ T_3.out r_3.out (by have := hn6'.out; omega)
  rw [hE] at hx
  clear hE
  go_wp2_with fail
  refine hx.mono ?_
  clear hx
  rintro e w4 ⟨rfl, hb⟩
  have hz := hb
  have B_4 := Below.on B_3 hz
  have T_4 := hide (T_3.out.below hz)
  have mx_4 := hide (mx_3.out.below hz)
  have r_4 := hide (r_3.out.below (isV_stays _) hz)
  have box_4 := cell_later hz box_3
  have s0_4 := cell_later hz s0_3
  have s1_4 := cell_later hz s1_3
  have s2_4 := cell_later hz s2_3
  have s3_4 := cell_later hz s3_3
  have s4_4 := cell_later hz s4_3
  have s5_4 := cell_later hz s5_3
  have s6_4 := cell_later hz s6_3
  have s7_4 := cell_later hz s7_3
  have s8_4 := cell_later hz s8_3
  clear B_3 T_3 mx_3 r_3 box_3 s0_3 s1_3 s2_3 s3_3 s4_3 s5_3 s6_3 s7_3 s8_3
  clear hz hb
  by_cases h0 : E = 0
  rotate_left
  · have hcb : (E != 0) = true := by rw [bne_iff_ne]; exact h0
    clear h0
    go_wp2
    go_ret
    exact ⟨rfl, B_4⟩
  subst h0
  go_wp2_with fail
  refine (oneV_ok (N + 1) ⟨#[]⟩ _ 1 1 [simK 11 l] _ (simL_lit _ _ 11 0 false LA ln lc l (by simp) r_4.out hk1 hk2 (by omega) (by omega)) (by omega) (by omega) (by decide)).mono ?_
  rintro e w5 ⟨L2, d2, rfl, q2, p2, o2, hb⟩
  have hz := Below.on (below_alloc (Below.refl _ _) _) hb
  have B_5 := Below.on B_4 hz
  have T_5 := hide (T_4.out.below hz)
  have mx_5 := hide (mx_4.out.below hz)
  have r_5 := hide (r_4.out.below (isV_stays _) hz)
  have box_5 := cell_later hz box_4
  have s0_5 := cell_later hz s0_4
  have s1_5 := cell_later hz s1_4
  have s2_5 := cell_later hz s2_4
  have s3_5 := cell_later hz s3_4
  have s4_5 := cell_later hz s4_4
  have s5_5 := cell_later hz s5_4
  have s6_5 := cell_later hz s6_4
  have s7_5 := cell_later hz s7_4
  have s8_5 := cell_later hz s8_4
  clear B_4 T_4 mx_4 r_4 box_4 s0_4 s1_4 s2_4 s3_4 s4_4 s5_4 s6_4 s7_4 s8_4
  have i_5 := hide q2
  clear q2
  clear hz hb
  obtain ⟨C, hC⟩ : ∃ C, chkV (N + 1 + 1) (oL (N + 1) ⟨#[]⟩ [simK 11 l]) = C := ⟨_, rfl⟩
  have hC' := hide hC
  have hx := rsChk_ok (N + 1 + 1) L2 1 d2 _ _ i_5.out (by rw [num_oK]; have := hn6'.out; omega)
  rw [hC] at hx
  clear hC
  go_wp2_with fail
  refine hx.mono ?_
  clear hx
  rintro e w6 ⟨rfl, hb⟩
  have hz := hb
  have B_6 := Below.on B_5 hz
  have T_6 := hide (T_5.out.below hz)
  have mx_6 := hide (mx_5.out.below hz)
  have r_6 := hide (r_5.out.below (isV_stays _) hz)
  have box_6 := cell_later hz box_5
  have s0_6 := cell_later hz s0_5
  have s1_6 := cell_later hz s1_5
  have s2_6 := cell_later hz s2_5
  have s3_6 := cell_later hz s3_5
  have s4_6 := cell_later hz s4_5
  have s5_6 := cell_later hz s5_5
  have s6_6 := cell_later hz s6_5
  have s7_6 := cell_later hz s7_5
  have s8_6 := cell_later hz s8_5
  have i_6 := hide (i_5.out.below (isV_stays _) hz)
  clear B_5 T_5 mx_5 r_5 box_5 s0_5 s1_5 s2_5 s3_5 s4_5 s5_5 s6_5 s7_5 s8_5 i_5
  clear hz hb
  by_cases h0 : C = 0
  rotate_left
  · have hcb : (C != 0) = true := by rw [bne_iff_ne]; exact h0
    clear h0
    go_wp2
    go_ret
    exact ⟨rfl, B_6⟩
  subst h0
  clear i_6
  have hE0 := hE'.out
  have hC0 := hC'.out
  have hg0 := (aksE_zero.1 hE0).1
  have hm0 := (aksE_zero.1 hE0).2.1
  go_wp2_with fail
  refine (rmode_at T m true hm0 A n c _ T_6.out hg0).mono ?_
  rintro e w7 ⟨rfl, hb⟩
  have hz := hb
  have B_7 := Below.on B_6 hz
  have T_7 := hide (T_6.out.below hz)
  have mx_7 := hide (mx_6.out.below hz)
  have r_7 := hide (r_6.out.below (isV_stays _) hz)
  have box_7 := cell_later hz box_6
  have s0_7 := cell_later hz s0_6
  have s1_7 := cell_later hz s1_6
  have s2_7 := cell_later hz s2_6
  have s3_7 := cell_later hz s3_6
  have s4_7 := cell_later hz s4_6
  have s5_7 := cell_later hz s5_6
  have s6_7 := cell_later hz s6_6
  have s7_7 := cell_later hz s7_6
  have s8_7 := cell_later hz s8_6
  clear B_6 T_6 mx_6 r_6 box_6 s0_6 s1_6 s2_6 s3_6 s4_6 s5_6 s6_6 s7_6 s8_6
  clear hz hb
  obtain ⟨F, hF⟩ : ∃ F, inV T m (N + 1) l = F := ⟨_, rfl⟩
  have hn1 : 0 < n := by have := ((goodB_iff T).1 hg0).1; omega
  have hn64 : n ≤ 64 := by have := ((goodB_iff T).1 hg0).2.1; omega
  have hEs := hide (And.intro (aks_of hE0 (chk_two (k := 5) (by omega) hC0)) (And.intro (aks_of hE0 (chk_two (k := 4) (by omega) hC0)) (And.intro (aks_of hE0 (chk_two (k := 6) (by omega) hC0)) hE0)))
  have hFs := hide (And.intro (fun i (hi : i < T.length) => (in_visited T m (N + 1) l hi).trans (congrArg (decide ((i : Int) = m) && ·) (congrFun hF i))) (And.intro (fun i (hi : i < T.length) => (in_link T m (N + 1) l hi).trans (congrArg (lkB T i && !decide ((i : Int) = m) && ·) (congrFun hF i))) (And.intro (fun i (hi : i < T.length) => (in_any T m (N + 1) l hi).trans (congrArg (lkB T i && ·) (congrFun hF i))) (fun i (_ : i < T.length) => congrFun hF i))))
  have hlk : Hid (∀ i : Nat, (i : Int) = m → lkB T i = true) := fun i hi => by
    unfold modeB at hm0
    simp only [Bool.or_eq_true, Bool.and_eq_true, decide_eq_true_eq] at hm0
    rcases hm0 with hm0 | hm0
    · omega
    · rw [show i = m.toNat by omega]; exact hm0.2
  clear hE0 hC0 hF hE' hg0 hm0
  have hone := hide (oneV_ok (N + 1) ⟨#[]⟩ (some ⟨w7.heap.size, 0, none⟩) 2 2 [simK 5 [], simK 11 l] (w7.alloc (.cells #[.int .u8 5, .string ⟨#[]⟩, .int .u8 0, .string ⟨#[]⟩, .bool false, .int .i64 0, .int .i64 0, .bool false, .slice none 0 0, .int .u8 11, .string ⟨#[]⟩, .int .u8 0, .string ⟨#[]⟩, .bool false, .int .i64 0, .int .i64 0, .bool false, .slice LA ln lc] 41)).drew ((simL2_lit w7 w7.heap.size 5 11 LA ln lc l rfl r_7.out hk1 hk2 (by omega) (by omega)).below (isV_stays _) (Below.refl _ _).drew) (by omega) (by omega) (by decide))
  have hall := hide (fun W (L : Option Addr) (d : Nat) (hW : Below w7.heap.size w7 W) (hR : IsRow (IsV (N + 1 + 1)) W L 1 (oL (N + 1) ⟨#[]⟩ [simK 5 [], simK 11 l])) => mAllF T m (N + 1 + 1) (oL (N + 1) ⟨#[]⟩ [simK 5 [], simK 11 l]) (fun i => decide ((i : Int) = m) && F i) hEs.out.1 hFs.out.1 (num64 hEs.out.1) A n c L 1 d W (T_7.out.below hW) (mx_7.out.below hW) hR)
  have hal := hide ((below_alloc (Below.refl w7.heap.size w7) (.cells #[.int .u8 5, .string ⟨#[]⟩, .int .u8 0, .string ⟨#[]⟩, .bool false, .int .i64 0, .int .i64 0, .bool false, .slice none 0 0, .int .u8 11, .string ⟨#[]⟩, .int .u8 0, .string ⟨#[]⟩, .bool false, .int .i64 0, .int .i64 0, .bool false, .slice LA ln lc] 41)).drew)
  have u0 := cell_later hal.out box_7
  have u1 := cell_later hal.out s0_7
  have u2 := cell_later hal.out s1_7
  have u3 := cell_later hal.out s2_7
  have u4 := cell_later hal.out s3_7
  have u5 := cell_later hal.out s4_7
  have u6 := cell_later hal.out s5_7
  have u7 := cell_later hal.out s6_7
  have u8 := cell_later hal.out s7_7
  have u9 := cell_later hal.out s8_7
  go_wp2_with fail
  go_region_held3 (fun X => X.cell? ⟨w.heap.size, 0, none⟩ = some (.slice A n c) ∧ X.cell? ⟨w1.heap.size, 0, none⟩ = some (.int .u8 11) ∧ X.cell? ⟨w1.heap.size, 1, none⟩ = some (.string ⟨#[]⟩) ∧ X.cell? ⟨w1.heap.size, 2, none⟩ = some (.int .u8 0) ∧ X.cell? ⟨w1.heap.size, 3, none⟩ = some (.string ⟨#[]⟩) ∧ X.cell? ⟨w1.heap.size, 4, none⟩ = some (.bool false) ∧ X.cell? ⟨w1.heap.size, 5, none⟩ = some (.int .i64 0) ∧ X.cell? ⟨w1.heap.size, 6, none⟩ = some (.int .i64 0) ∧ X.cell? ⟨w1.heap.size, 7, none⟩ = some (.bool false) ∧ X.cell? ⟨w1.heap.size, 8, none⟩ = some (.slice LA ln lc)) (first | exact ⟨box_7, s0_7, s1_7, s2_7, s3_7, s4_7, s5_7, s6_7, s7_7, s8_7⟩ | exact ⟨u0, u1, u2, u3, u4, u5, u6, u7, u8, u9⟩ | exact ⟨v0, v1, v2, v3, v4, v5, v6, v7, v8, v9⟩ | exact ⟨y0, y1, y2, y3, y4, y5, y6, y7, y8, y9⟩) (first | (go_at_call 16; (with_reducible refine hone.out.mono ?_); rintro e vv1 ⟨La, dLa, rfl, q1, p1, o1, hb1⟩; have v0 := cell_later hb1 u0; have v1 := cell_later hb1 u1; have v2 := cell_later hb1 u2; have v3 := cell_later hb1 u3; have v4 := cell_later hb1 u4; have v5 := cell_later hb1 u5; have v6 := cell_later hb1 u6; have v7 := cell_later hb1 u7; have v8 := cell_later hb1 u8; have v9 := cell_later hb1 u9; have hz1 := hide (Below.on hal.out hb1)) | (go_at_call 13; (with_reducible refine (hall.out _ _ _ hz1.out q1).mono ?_); rintro e vv2 ⟨Xa, xa, rfl, i1, hb2⟩; have y0 := cell_later hb2 v0; have y1 := cell_later hb2 v1; have y2 := cell_later hb2 v2; have y3 := cell_later hb2 v3; have y4 := cell_later hb2 v4; have y5 := cell_later hb2 v5; have y6 := cell_later hb2 v6; have y7 := cell_later hb2 v7; have y8 := cell_later hb2 v8; have y9 := cell_later hb2 v9))
  have hz := Below.on hz1.out hb2
  generalize vv2 = w8 at *
  have B_8 := Below.on B_7 hz
  have T_8 := hide (T_7.out.below hz)
  have mx_8 := hide (mx_7.out.below hz)
  have r_8 := hide (r_7.out.below (isV_stays _) hz)
  have box_8 := cell_later hz box_7
  have s0_8 := cell_later hz s0_7
  have s1_8 := cell_later hz s1_7
  have s2_8 := cell_later hz s2_7
  have s3_8 := cell_later hz s3_7
  have s4_8 := cell_later hz s4_7
  have s5_8 := cell_later hz s5_7
  have s6_8 := cell_later hz s6_7
  have s7_8 := cell_later hz s7_7
  have s8_8 := cell_later hz s8_7
  clear B_7 T_7 mx_7 r_7 box_7 s0_7 s1_7 s2_7 s3_7 s4_7 s5_7 s6_7 s7_7 s8_7
  have a_8 := hide i1
  clear i1 hz hz1 q1 p1 o1 hb1 hb2 hone hall hal u0 v0 y0 u1 v1 y1 u2 v2 y2 u3 v3 y3 u4 v4 y4 u5 v5 y5 u6 v6 y6 u7 v7 y7 u8 v8 y8 u9 v9 y9
  have hone := hide (oneV_ok (N + 1) ⟨#[]⟩ (some ⟨w8.heap.size, 0, none⟩) 2 2 [simK 4 [], simK 11 l] (w8.alloc (.cells #[.int .u8 4, .string ⟨#[]⟩, .int .u8 0, .string ⟨#[]⟩, .bool false, .int .i64 0, .int .i64 0, .bool false, .slice none 0 0, .int .u8 11, .string ⟨#[]⟩, .int .u8 0, .string ⟨#[]⟩, .bool false, .int .i64 0, .int .i64 0, .bool false, .slice LA ln lc] 41)).drew ((simL2_lit w8 w8.heap.size 4 11 LA ln lc l rfl r_8.out hk1 hk2 (by omega) (by omega)).below (isV_stays _) (Below.refl _ _).drew) (by omega) (by omega) (by decide))
  have hall := hide (fun W (L : Option Addr) (d : Nat) (hW : Below w8.heap.size w8 W) (hR : IsRow (IsV (N + 1 + 1)) W L 1 (oL (N + 1) ⟨#[]⟩ [simK 4 [], simK 11 l])) => mAllF T m (N + 1 + 1) (oL (N + 1) ⟨#[]⟩ [simK 4 [], simK 11 l]) (fun i => lkB T i && !decide ((i : Int) = m) && F i) hEs.out.2.1 hFs.out.2.1 (num64 hEs.out.2.1) A n c L 1 d W (T_8.out.below hW) (mx_8.out.below hW) hR)
  have hal := hide ((below_alloc (Below.refl w8.heap.size w8) (.cells #[.int .u8 4, .string ⟨#[]⟩, .int .u8 0, .string ⟨#[]⟩, .bool false, .int .i64 0, .int .i64 0, .bool false, .slice none 0 0, .int .u8 11, .string ⟨#[]⟩, .int .u8 0, .string ⟨#[]⟩, .bool false, .int .i64 0, .int .i64 0, .bool false, .slice LA ln lc] 41)).drew)
  have u0 := cell_later hal.out box_8
  have u1 := cell_later hal.out s0_8
  have u2 := cell_later hal.out s1_8
  have u3 := cell_later hal.out s2_8
  have u4 := cell_later hal.out s3_8
  have u5 := cell_later hal.out s4_8
  have u6 := cell_later hal.out s5_8
  have u7 := cell_later hal.out s6_8
  have u8 := cell_later hal.out s7_8
  have u9 := cell_later hal.out s8_8
  go_wp2_with fail
  go_region_held3 (fun X => X.cell? ⟨w.heap.size, 0, none⟩ = some (.slice A n c) ∧ X.cell? ⟨w1.heap.size, 0, none⟩ = some (.int .u8 11) ∧ X.cell? ⟨w1.heap.size, 1, none⟩ = some (.string ⟨#[]⟩) ∧ X.cell? ⟨w1.heap.size, 2, none⟩ = some (.int .u8 0) ∧ X.cell? ⟨w1.heap.size, 3, none⟩ = some (.string ⟨#[]⟩) ∧ X.cell? ⟨w1.heap.size, 4, none⟩ = some (.bool false) ∧ X.cell? ⟨w1.heap.size, 5, none⟩ = some (.int .i64 0) ∧ X.cell? ⟨w1.heap.size, 6, none⟩ = some (.int .i64 0) ∧ X.cell? ⟨w1.heap.size, 7, none⟩ = some (.bool false) ∧ X.cell? ⟨w1.heap.size, 8, none⟩ = some (.slice LA ln lc)) (first | exact ⟨box_8, s0_8, s1_8, s2_8, s3_8, s4_8, s5_8, s6_8, s7_8, s8_8⟩ | exact ⟨u0, u1, u2, u3, u4, u5, u6, u7, u8, u9⟩ | exact ⟨v0, v1, v2, v3, v4, v5, v6, v7, v8, v9⟩ | exact ⟨y0, y1, y2, y3, y4, y5, y6, y7, y8, y9⟩) (first | (go_at_call 16; (with_reducible refine hone.out.mono ?_); rintro e vv1 ⟨Lb, dLb, rfl, q1, p1, o1, hb1⟩; have v0 := cell_later hb1 u0; have v1 := cell_later hb1 u1; have v2 := cell_later hb1 u2; have v3 := cell_later hb1 u3; have v4 := cell_later hb1 u4; have v5 := cell_later hb1 u5; have v6 := cell_later hb1 u6; have v7 := cell_later hb1 u7; have v8 := cell_later hb1 u8; have v9 := cell_later hb1 u9; have hz1 := hide (Below.on hal.out hb1)) | (go_at_call 13; (with_reducible refine (hall.out _ _ _ hz1.out q1).mono ?_); rintro e vv2 ⟨Xb, xb, rfl, i1, hb2⟩; have y0 := cell_later hb2 v0; have y1 := cell_later hb2 v1; have y2 := cell_later hb2 v2; have y3 := cell_later hb2 v3; have y4 := cell_later hb2 v4; have y5 := cell_later hb2 v5; have y6 := cell_later hb2 v6; have y7 := cell_later hb2 v7; have y8 := cell_later hb2 v8; have y9 := cell_later hb2 v9))
  have hz := Below.on hz1.out hb2
  generalize vv2 = w9 at *
  have B_9 := Below.on B_8 hz
  have T_9 := hide (T_8.out.below hz)
  have mx_9 := hide (mx_8.out.below hz)
  have r_9 := hide (r_8.out.below (isV_stays _) hz)
  have box_9 := cell_later hz box_8
  have s0_9 := cell_later hz s0_8
  have s1_9 := cell_later hz s1_8
  have s2_9 := cell_later hz s2_8
  have s3_9 := cell_later hz s3_8
  have s4_9 := cell_later hz s4_8
  have s5_9 := cell_later hz s5_8
  have s6_9 := cell_later hz s6_8
  have s7_9 := cell_later hz s7_8
  have s8_9 := cell_later hz s8_8
  have a_9 := hide (a_8.out.below hz)
  clear B_8 T_8 mx_8 r_8 box_8 s0_8 s1_8 s2_8 s3_8 s4_8 s5_8 s6_8 s7_8 s8_8 a_8
  have b_9 := hide i1
  clear i1 hz hz1 q1 p1 o1 hb1 hb2 hone hall hal u0 v0 y0 u1 v1 y1 u2 v2 y2 u3 v3 y3 u4 v4 y4 u5 v5 y5 u6 v6 y6 u7 v7 y7 u8 v8 y8 u9 v9 y9
  have hone := hide (oneV_ok (N + 1) ⟨#[]⟩ (some ⟨w9.heap.size, 0, none⟩) 2 2 [simK 6 [], simK 11 l] (w9.alloc (.cells #[.int .u8 6, .string ⟨#[]⟩, .int .u8 0, .string ⟨#[]⟩, .bool false, .int .i64 0, .int .i64 0, .bool false, .slice none 0 0, .int .u8 11, .string ⟨#[]⟩, .int .u8 0, .string ⟨#[]⟩, .bool false, .int .i64 0, .int .i64 0, .bool false, .slice LA ln lc] 41)).drew ((simL2_lit w9 w9.heap.size 6 11 LA ln lc l rfl r_9.out hk1 hk2 (by omega) (by omega)).below (isV_stays _) (Below.refl _ _).drew) (by omega) (by omega) (by decide))
  have hall := hide (fun W (L : Option Addr) (d : Nat) (hW : Below w9.heap.size w9 W) (hR : IsRow (IsV (N + 1 + 1)) W L 1 (oL (N + 1) ⟨#[]⟩ [simK 6 [], simK 11 l])) => mAllF T m (N + 1 + 1) (oL (N + 1) ⟨#[]⟩ [simK 6 [], simK 11 l]) (fun i => lkB T i && F i) hEs.out.2.2.1 hFs.out.2.2.1 (num64 hEs.out.2.2.1) A n c L 1 d W (T_9.out.below hW) (mx_9.out.below hW) hR)
  have hal := hide ((below_alloc (Below.refl w9.heap.size w9) (.cells #[.int .u8 6, .string ⟨#[]⟩, .int .u8 0, .string ⟨#[]⟩, .bool false, .int .i64 0, .int .i64 0, .bool false, .slice none 0 0, .int .u8 11, .string ⟨#[]⟩, .int .u8 0, .string ⟨#[]⟩, .bool false, .int .i64 0, .int .i64 0, .bool false, .slice LA ln lc] 41)).drew)
  have u0 := cell_later hal.out box_9
  have u1 := cell_later hal.out s0_9
  have u2 := cell_later hal.out s1_9
  have u3 := cell_later hal.out s2_9
  have u4 := cell_later hal.out s3_9
  have u5 := cell_later hal.out s4_9
  have u6 := cell_later hal.out s5_9
  have u7 := cell_later hal.out s6_9
  have u8 := cell_later hal.out s7_9
  have u9 := cell_later hal.out s8_9
  go_wp2_with fail
  go_region_held3 (fun X => X.cell? ⟨w.heap.size, 0, none⟩ = some (.slice A n c) ∧ X.cell? ⟨w1.heap.size, 0, none⟩ = some (.int .u8 11) ∧ X.cell? ⟨w1.heap.size, 1, none⟩ = some (.string ⟨#[]⟩) ∧ X.cell? ⟨w1.heap.size, 2, none⟩ = some (.int .u8 0) ∧ X.cell? ⟨w1.heap.size, 3, none⟩ = some (.string ⟨#[]⟩) ∧ X.cell? ⟨w1.heap.size, 4, none⟩ = some (.bool false) ∧ X.cell? ⟨w1.heap.size, 5, none⟩ = some (.int .i64 0) ∧ X.cell? ⟨w1.heap.size, 6, none⟩ = some (.int .i64 0) ∧ X.cell? ⟨w1.heap.size, 7, none⟩ = some (.bool false) ∧ X.cell? ⟨w1.heap.size, 8, none⟩ = some (.slice LA ln lc)) (first | exact ⟨box_9, s0_9, s1_9, s2_9, s3_9, s4_9, s5_9, s6_9, s7_9, s8_9⟩ | exact ⟨u0, u1, u2, u3, u4, u5, u6, u7, u8, u9⟩ | exact ⟨v0, v1, v2, v3, v4, v5, v6, v7, v8, v9⟩ | exact ⟨y0, y1, y2, y3, y4, y5, y6, y7, y8, y9⟩) (first | (go_at_call 16; (with_reducible refine hone.out.mono ?_); rintro e vv1 ⟨Lc, dLc, rfl, q1, p1, o1, hb1⟩; have v0 := cell_later hb1 u0; have v1 := cell_later hb1 u1; have v2 := cell_later hb1 u2; have v3 := cell_later hb1 u3; have v4 := cell_later hb1 u4; have v5 := cell_later hb1 u5; have v6 := cell_later hb1 u6; have v7 := cell_later hb1 u7; have v8 := cell_later hb1 u8; have v9 := cell_later hb1 u9; have hz1 := hide (Below.on hal.out hb1)) | (go_at_call 13; (with_reducible refine (hall.out _ _ _ hz1.out q1).mono ?_); rintro e vv2 ⟨Xc, xc, rfl, i1, hb2⟩; have y0 := cell_later hb2 v0; have y1 := cell_later hb2 v1; have y2 := cell_later hb2 v2; have y3 := cell_later hb2 v3; have y4 := cell_later hb2 v4; have y5 := cell_later hb2 v5; have y6 := cell_later hb2 v6; have y7 := cell_later hb2 v7; have y8 := cell_later hb2 v8; have y9 := cell_later hb2 v9))
  have hz := Below.on hz1.out hb2
  generalize vv2 = w10 at *
  have B_10 := Below.on B_9 hz
  have T_10 := hide (T_9.out.below hz)
  have mx_10 := hide (mx_9.out.below hz)
  have r_10 := hide (r_9.out.below (isV_stays _) hz)
  have box_10 := cell_later hz box_9
  have s0_10 := cell_later hz s0_9
  have s1_10 := cell_later hz s1_9
  have s2_10 := cell_later hz s2_9
  have s3_10 := cell_later hz s3_9
  have s4_10 := cell_later hz s4_9
  have s5_10 := cell_later hz s5_9
  have s6_10 := cell_later hz s6_9
  have s7_10 := cell_later hz s7_9
  have s8_10 := cell_later hz s8_9
  have a_10 := hide (a_9.out.below hz)
  have b_10 := hide (b_9.out.below hz)
  clear B_9 T_9 mx_9 r_9 box_9 s0_9 s1_9 s2_9 s3_9 s4_9 s5_9 s6_9 s7_9 s8_9 a_9 b_9
  have c_10 := hide i1
  clear i1 hz hz1 q1 p1 o1 hb1 hb2 hone hall hal u0 v0 y0 u1 v1 y1 u2 v2 y2 u3 v3 y3 u4 v4 y4 u5 v5 y5 u6 v6 y6 u7 v7 y7 u8 v8 y8 u9 v9 y9
  clear s0_10 s1_10 s2_10 s3_10 s4_10 s5_10 s6_10 s7_10 s8_10
  go_wp2_with fail
  refine (mAllF T m (N + 1) l F hEs.out.2.2.2 hFs.out.2.2.2 (num64 hEs.out.2.2.2) A n c LA ln lc _ T_10.out mx_10.out r_10.out).mono ?_
  rintro e w11 ⟨X9, x9, rfl, i9, hb⟩
  have hz := hb
  have B_11 := Below.on B_10 hz
  have T_11 := hide (T_10.out.below hz)
  have mx_11 := hide (mx_10.out.below hz)
  have r_11 := hide (r_10.out.below (isV_stays _) hz)
  have box_11 := cell_later hz box_10
  have a_11 := hide (a_10.out.below hz)
  have b_11 := hide (b_10.out.below hz)
  have c_11 := hide (c_10.out.below hz)
  clear B_10 T_10 mx_10 r_10 box_10 a_10 b_10 c_10
  have d_11 := hide i9
  clear i9
  clear hz hb
  clear r_11 T_11 mx_11
  obtain ⟨ba, oa, rfl, hba, hca⟩ := a_11.out.2.2 hn1
  have hca' := hide hca
  clear hca
  obtain ⟨bb, ob, rfl, hbb, hcb⟩ := b_11.out.2.2 hn1
  have hcb' := hide hcb
  clear hcb
  obtain ⟨bc, oc, rfl, hbc, hcc⟩ := c_11.out.2.2 hn1
  have hcc' := hide hcc
  clear hcc
  obtain ⟨bd, od, rfl, hbd, hcd⟩ := d_11.out.2.2 hn1
  have hcd' := hide hcd
  clear hcd
  clear a_11 b_11 c_11 d_11
  go_wp2_with fail
  go_loopw [17] (fun i wr => ∃ q : Nat, q ≤ n ∧ i = .int .i64 q ∧ Below w11.heap.size w11 wr) (fun i _ => n - (intOf i).toNat)
  case atStart => exact ⟨0, Nat.zero_le _, rfl, Below.refl _ _⟩
  case round =>
    obtain ⟨q, hq, rfl, hb⟩ := hrel
    have hBr := Below.on B_11 hb
    by_cases hlt : q < n
    · have i0 : (0 : Int) ≤ (q : Int) := by omega
      have i1 : (q : Int) < (n : Int) := by omega
      have ga := (old hb _ _ hba).trans (hca'.out q hlt)
      rw [bx_map _ hlt] at ga
      have gb := (old hb _ _ hbb).trans (hcb'.out q hlt)
      rw [bx_map _ hlt] at gb
      have gc := (old hb _ _ hbc).trans (hcc'.out q hlt)
      rw [bx_map _ hlt] at gc
      have gd := (old hb _ _ hbd).trans (hcd'.out q hlt)
      rw [bx_map _ hlt] at gd
      have hlq := hlk.out q
      generalize F q = v at *
      generalize lkB T q = k at *
      by_cases hqm : (q : Int) = m
      · have ek : k = true := hlq hqm
        subst ek
        have em : decide ((q : Int) = m) = true := decide_eq_true hqm
        have eb : ((q : Int) == m) = true := by rw [beq_iff_eq]; exact hqm
        rw [em] at ga gb
        clear hqm hlq em
        cases v
        · replace ga : wr.cell? ⟨ba, oa + q, none⟩ = some (.bool false) := ga
          replace gb : wr.cell? ⟨bb, ob + q, none⟩ = some (.bool false) := gb
          replace gc : wr.cell? ⟨bc, oc + q, none⟩ = some (.bool false) := gc
          replace gd : wr.cell? ⟨bd, od + q, none⟩ = some (.bool false) := gd
          go_wp2_with fail
          go_quiet (fail)
          go_wp2
          go_roundw
          case rel => exact ⟨q + 1, by omega, by go_num, below_drewN hb _⟩
          case measure => simp [intOf]; omega
        · replace ga : wr.cell? ⟨ba, oa + q, none⟩ = some (.bool true) := ga
          replace gb : wr.cell? ⟨bb, ob + q, none⟩ = some (.bool false) := gb
          replace gc : wr.cell? ⟨bc, oc + q, none⟩ = some (.bool true) := gc
          replace gd : wr.cell? ⟨bd, od + q, none⟩ = some (.bool true) := gd
          go_wp2_with fail
          go_quiet (fail)
          go_wp2
          go_roundw
          case rel => exact ⟨q + 1, by omega, by go_num, below_drewN hb _⟩
          case measure => simp [intOf]; omega
      · have em : decide ((q : Int) = m) = false := decide_eq_false hqm
        have eb : ((q : Int) == m) = false := by rw [beq_eq_false_iff_ne]; exact hqm
        rw [em] at ga gb
        clear hqm hlq em
        cases k <;> cases v
        · replace ga : wr.cell? ⟨ba, oa + q, none⟩ = some (.bool false) := ga
          replace gb : wr.cell? ⟨bb, ob + q, none⟩ = some (.bool false) := gb
          replace gc : wr.cell? ⟨bc, oc + q, none⟩ = some (.bool false) := gc
          replace gd : wr.cell? ⟨bd, od + q, none⟩ = some (.bool false) := gd
          go_wp2_with fail
          go_quiet (fail)
          go_wp2
          go_roundw
          case rel => exact ⟨q + 1, by omega, by go_num, below_drewN hb _⟩
          case measure => simp [intOf]; omega
        · replace ga : wr.cell? ⟨ba, oa + q, none⟩ = some (.bool false) := ga
          replace gb : wr.cell? ⟨bb, ob + q, none⟩ = some (.bool false) := gb
          replace gc : wr.cell? ⟨bc, oc + q, none⟩ = some (.bool false) := gc
          replace gd : wr.cell? ⟨bd, od + q, none⟩ = some (.bool true) := gd
          go_wp2_with fail
          go_quiet (fail)
          go_wp2
          go_roundw
          case rel => exact ⟨q + 1, by omega, by go_num, below_drewN hb _⟩
          case measure => simp [intOf]; omega
        · replace ga : wr.cell? ⟨ba, oa + q, none⟩ = some (.bool false) := ga
          replace gb : wr.cell? ⟨bb, ob + q, none⟩ = some (.bool false) := gb
          replace gc : wr.cell? ⟨bc, oc + q, none⟩ = some (.bool false) := gc
          replace gd : wr.cell? ⟨bd, od + q, none⟩ = some (.bool false) := gd
          go_wp2_with fail
          go_quiet (fail)
          go_wp2
          go_roundw
          case rel => exact ⟨q + 1, by omega, by go_num, below_drewN hb _⟩
          case measure => simp [intOf]; omega
        · replace ga : wr.cell? ⟨ba, oa + q, none⟩ = some (.bool false) := ga
          replace gb : wr.cell? ⟨bb, ob + q, none⟩ = some (.bool true) := gb
          replace gc : wr.cell? ⟨bc, oc + q, none⟩ = some (.bool true) := gc
          replace gd : wr.cell? ⟨bd, od + q, none⟩ = some (.bool true) := gd
          go_wp2_with fail
          go_quiet (fail)
          go_wp2
          go_roundw
          case rel => exact ⟨q + 1, by omega, by go_num, below_drewN hb _⟩
          case measure => simp [intOf]; omega
    · obtain rfl : n = q := by omega
      go_wp2
      go_ret
      exact ⟨rfl, hBr⟩
set_option maxRecDepth 100000 in
theorem lifted (os : Os) (started : os.Started) (H : Type) (enc : TypeId × Value → H) :
    ReturnsInHanded {} Tryz.checked os 5 .any (Rows.matcherModesSpec.pre6 enc Tryz.prog Tryz.f5 Rows.matcherModesRow.domain false) (Rows.matcherModesSpec.post enc Tryz.prog Tryz.f5 false true false false) := by
  refine returnsInHanded_of_change_shaped (C := Tryz.checked) own started (by kernel_rfl) Tryz.func5
    (ChangeSpec.witness6 (enc := enc) (C := Tryz.checked) false ⟨#[], #[.agg #[.slice none 0 0], .slice none 0 0, .int .i64 0], []⟩ 8 (by kernel_rfl) (by kernel_rfl) (by kernel_rfl) (by kernel_rfl)) ?_
  intro W base args ds gs before hval0 hW hcnd hsz hsh _
  have hval : ∀ (j : Nat) t v, Tryz.f5.params[j]? = some t → args[j]? = some v → Value.okWide Tryz.prog W .any base t v := hval0
  have hW' := hW
  obtain ⟨p, q, hA0, hV, rfl, hfz, hnd⟩ := hW
  have hA : DataW.TrodAll enc Tryz.prog W 0 (fun _ => true) true Tryz.f5.params.toList args.toList ds p := hA0
  rw [Tryz.params5] at hA hval hsz
  obtain ⟨v0, vs0, d0, ds0, p0, q0, hargs, rfl, rfl, h0, r0⟩ := trodAll_cons hA
  obtain ⟨v1, vs1, d1, ds1, p1, q1, rfl, rfl, rfl, h1, r1⟩ := trodAll_cons r0
  obtain ⟨v2, vs2, d2, ds2, p2, q2, rfl, rfl, rfl, h2, r2⟩ := trodAll_cons r1
  obtain ⟨rfl, rfl, rfl⟩ := trodAll_nil r2
  obtain rfl : args = #[v0, v1, v2] := by cases args; simp_all
  obtain ⟨rfl, rfl⟩ := trodVars_none hV
  have lt0 : ∀ x ∈ p0, x.block < W.heap.size := by obtain ⟨m, hm⟩ := h0; exact DataW.trod_lt m _ _ _ hm
  have k0 := h0
  have lt1 : ∀ x ∈ p1, x.block < W.heap.size := by obtain ⟨m, hm⟩ := h1; exact DataW.trod_lt m _ _ _ hm
  have k1 := h1
  have lt2 : ∀ x ∈ p2, x.block < W.heap.size := by obtain ⟨m, hm⟩ := h2; exact DataW.trod_lt m _ _ _ hm
  have k2 := h2
  obtain ⟨A0, n0, c0, T0, rfl, hT0⟩ := tree_open (hval 0 _ v0 rfl rfl) h0
  obtain ⟨A1, n1, c1, N1, l1, rfl, hk1a, hk1b, hR1, hz1⟩ := sels_open (hval 1 _ v1 rfl rfl) h1 (weight_le hsz (j := 1) rfl rfl)
  obtain ⟨a2, rfl, rfl, rfl, w2⟩ := open_int Tryz.underlying3 (hval 2 _ v2 rfl rfl) h2
  clear hA0 hval0
  refine (walk A0 n0 c0 T0 A1 n1 c1 N1 l1 a2 W hT0 hR1 hz1 hk1a hk1b  (hasMax_of hsh)).mono fun e W' ⟨he, bel⟩ => ?_
  subst he
  exact ⟨_, rfl, _, _, _, [], _, [], hW', trodAll_mk1 (shut_bool Tryz.underlying4 _), (trodAll_cons_mk (Below.trod laidOut (by kernel_rfl) (of_decide_eq_true (by kernel_rfl)) k0 bel lt0) (trodAll_cons_mk (Below.trod laidOut (by kernel_rfl) (of_decide_eq_true (by kernel_rfl)) k1 bel lt1) (trodAll_cons_mk (Below.trod laidOut (by kernel_rfl) (of_decide_eq_true (by kernel_rfl)) k2 bel lt2) trodAll_mk0))), rfl, bel.frame _, fun h => by cases h⟩

theorem proved : Rows.MatcherModesSaid :=
  OpenClaim.holds_of_wide 5 Tryz.f5 rfl rfl rfl rfl rfl rfl rfl ⟨rfl, rfl, rfl, rfl, rfl⟩ rfl rfl rfl rfl rfl (by kernel_rfl) Tryz.func5 (by kernel_rfl)
    (of_decide_eq_true (by kernel_rfl)) (by unfold Func.isWrapper; first | (rw [if_pos (by decide +kernel)]; kernel_rfl) | (rw [if_neg (by decide +kernel)]; exact ⟨rfl, rfl⟩))
    (fun os started H enc _ => lifted os started H enc)
#print axioms proved
end Go.Proofs.YtljloicgjgbplaaGreat.matcherModes
