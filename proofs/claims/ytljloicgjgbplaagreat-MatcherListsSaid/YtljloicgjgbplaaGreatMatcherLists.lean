/- A list in SimIs or SimWhere matches what it matches alone, and one in SimNot all else. Condition: no text and no list is larger than a machine holds. -/
import Derived.Test.YtljloicgjgbplaaGreatG44
import Derived.Test.YtljloicgjgbplaaGreatG43
import Derived.Test.YtljloicgjgbplaaGreatG41
import Derived.Test.YtljloicgjgbplaaGreatG25
import Derived.Test.YtljloicgjgbplaaGreatG17
import Derived.Deep.RegionHeld3
namespace Go.Proofs.YtljloicgjgbplaaGreat.matcherLists
open Go.ChangeShapes Go.WideShapes Go.ChangeAt Go.RowKit

set_option maxRecDepth 100000 in
set_option maxHeartbeats 10000000 in
theorem walk (A : Option Addr) (n c : Nat) (T : List ANode) (LA : Option Addr) (ln lc N : Nat) (l : List (SelL (N + 1))) (m : Int) (w : World) (h : IsTree w A n T) (hr : IsRow (IsV (N + 1)) w LA ln l) (hz : ∀ x ∈ l, szV (N + 1) x) (hk1 : ln ≤ lc) (hk2 : lc ≤ 9223372036854775807) (hmx : HasMax w) :
    Calls Tryz.prog 4 #[.agg #[.slice A n c], .slice LA ln lc, .int .i64 m] w fun e w' => e = .returned (.bool true) ∧ Below w.heap.size w w' := by
  have hl := h.1
  have hz' := hide hz
  have hll := hr.1
  have hbx := below_alloc (Below.refl w.heap.size w) (.cells #[.slice A n c] 24)
  have B_0 := hbx
  have T_0 := hide (h.below hbx)
  have mx_0 := hide (hmx.below hbx)
  have r_0 := hide (hr.below (isV_stays (N + 1)) hbx)
  have box_0 := (show (w.alloc (.cells #[.slice A n c] 24)).cell? ⟨w.heap.size, 0, none⟩ = some (.slice A n c) from blk_cell (blk_new _ _ _) 0)
  clear h hr hmx hz hbx
  go_enter Tryz.func4, Tryz.ntmps4
  go_wp2_with fail
  refine (alive23_ok _ mx_0.out).mono ?_
  rintro e w1 ⟨rfl, hb⟩
  have hz := hb
  have B_1 := Below.on B_0 hz
  have T_1 := hide (T_0.out.below hz)
  have mx_1 := hide (mx_0.out.below hz)
  have r_1 := hide (r_0.out.below (isV_stays _) hz)
  have box_1 := cell_later hz box_0
  clear B_0 T_0 mx_0 r_0 box_0
  clear hz hb
  go_wp2_with fail
  refine (oneV_ok (N + 1) ⟨#[]⟩ _ 1 1 [simK 11 l] _ (simL_lit _ _ 11 0 false LA ln lc l (by simp) r_1.out hk1 hk2 (by omega) (by omega)) (by omega) (by omega) (by decide)).mono ?_
  rintro e w2 ⟨L2, d2, rfl, q2, p2, o2, hb⟩
  have hz := Below.on (below_alloc (Below.refl _ _) _) hb
  have B_2 := Below.on B_1 hz
  have T_2 := hide (T_1.out.below hz)
  have mx_2 := hide (mx_1.out.below hz)
  have r_2 := hide (r_1.out.below (isV_stays _) hz)
  have box_2 := cell_later hz box_1
  clear B_1 T_1 mx_1 r_1 box_1
  have i_2 := hide q2
  clear q2
  clear hz hb
  go_wp2_with fail
  refine (rgreat23_ok (N + 1) A n c T LA ln lc l _ T_2.out r_2.out hz'.out).mono ?_
  rintro e w3 ⟨g, rfl, hg, hb⟩
  have hz := hb
  have B_3 := Below.on B_2 hz
  have T_3 := hide (T_2.out.below hz)
  have mx_3 := hide (mx_2.out.below hz)
  have r_3 := hide (r_2.out.below (isV_stays _) hz)
  have box_3 := cell_later hz box_2
  have i_3 := hide (i_2.out.below (isV_stays _) hz)
  clear B_2 T_2 mx_2 r_2 box_2 i_2
  clear hz hb
  have hg' := hide hg
  clear hg
  cases g
  rotate_left
  · go_wp2
    go_ret
    exact ⟨rfl, B_3⟩
  have hn6 : numV (N + 1) l ≤ 600 := (hg'.out rfl).1
  have hn6' := hide hn6
  clear hg' hn6
  obtain ⟨E, hE⟩ : ∃ E, aksE T m (N + 1) l = E := ⟨_, rfl⟩
  have hE' := hide hE
  have hx := rasked23_ok A n c T (N + 1) LA ln lc l m _ T_3.out r_3.out (by have := hn6'.out; omega)
  rw [hE] at hx
  clear hE
  go_wp2_with fail
  refine hx.mono ?_
  clear hx
  rintro e w4 ⟨rfl, hb⟩
  have hz := hb
  have B_4 := Below.on B_3 hz
  have T_4 := hide (T_3.out.below hz)
  have mx_4 := hide (mx_3.out.below hz)
  have r_4 := hide (r_3.out.below (isV_stays _) hz)
  have box_4 := cell_later hz box_3
  have i_4 := hide (i_3.out.below (isV_stays _) hz)
  clear B_3 T_3 mx_3 r_3 box_3 i_3
  clear hz hb
  by_cases h0 : E = 0
  rotate_left
  · have hcb : (E != 0) = true := by rw [bne_iff_ne]; exact h0
    clear h0
    go_wp2
    go_ret
    exact ⟨rfl, B_4⟩
  subst h0
  obtain ⟨C, hC⟩ : ∃ C, chkV (N + 1 + 1) (oL (N + 1) ⟨#[]⟩ [simK 11 l]) = C := ⟨_, rfl⟩
  have hC' := hide hC
  have hx := rsChk_ok (N + 1 + 1) L2 1 d2 _ _ i_4.out (by rw [num_oK]; have := hn6'.out; omega)
  rw [hC] at hx
  clear hC
  go_wp2_with fail
  refine hx.mono ?_
  clear hx
  rintro e w5 ⟨rfl, hb⟩
  have hz := hb
  have B_5 := Below.on B_4 hz
  have T_5 := hide (T_4.out.below hz)
  have mx_5 := hide (mx_4.out.below hz)
  have r_5 := hide (r_4.out.below (isV_stays _) hz)
  have box_5 := cell_later hz box_4
  have i_5 := hide (i_4.out.below (isV_stays _) hz)
  clear B_4 T_4 mx_4 r_4 box_4 i_4
  clear hz hb
  by_cases h0 : C = 0
  rotate_left
  · have hcb : (C != 0) = true := by rw [bne_iff_ne]; exact h0
    clear h0
    go_wp2
    go_ret
    exact ⟨rfl, B_5⟩
  subst h0
  have hE0 := hE'.out
  have hC0 := hC'.out
  obtain ⟨F, hF⟩ : ∃ F, inV T m (N + 1) l = F := ⟨_, rfl⟩
  have hn1 : 0 < n := by have := ((goodB_iff T).1 (aksE_zero.1 hE0).1).1; omega
  have hn64 : n ≤ 64 := by have := ((goodB_iff T).1 (aksE_zero.1 hE0).1).2.1; omega
  have hW0 : chkV (N + 1 + 1) (oL (N + 1) ⟨#[42]⟩ [simK 12 l]) = 0 := chk_where.2 (chk_is.1 hC0)
  have hN0 : chkV (N + 1 + 1) (oL (N + 1) ⟨#[]⟩ [simK 13 l]) = 0 := chk_not.2 ⟨⟨chkV_pos (aksE_zero.1 hE0).2.2, (chk_is.1 hC0).1⟩, (chk_is.1 hC0).2⟩
  have hEs := hide (And.intro hE0 (And.intro (aks_of hE0 hC0) (And.intro (aks_of hE0 hW0) (aks_of hE0 hN0))))
  have hFs := hide (And.intro (fun i (_ : i < T.length) => congrFun hF i) (And.intro (fun i (hi : i < T.length) => (in_is T m (N + 1) l hi).trans (congrFun hF i)) (And.intro (fun i (hi : i < T.length) => (in_where T m (N + 1) l hi).trans (congrFun hF i)) (fun i (hi : i < T.length) => (in_not T m (N + 1) l hi).trans (congrArg Bool.not (congrFun hF i))))))
  clear hE0 hC0 hF hW0 hN0 hE'
  go_wp2_with fail
  refine (mAllF T m (N + 1) l F hEs.out.1 hFs.out.1 (num64 hEs.out.1) A n c LA ln lc _ T_5.out mx_5.out r_5.out).mono ?_
  rintro e w6 ⟨X6, x6, rfl, i6, hb⟩
  have hz := hb
  have B_6 := Below.on B_5 hz
  have T_6 := hide (T_5.out.below hz)
  have mx_6 := hide (mx_5.out.below hz)
  have r_6 := hide (r_5.out.below (isV_stays _) hz)
  have box_6 := cell_later hz box_5
  have i_6 := hide (i_5.out.below (isV_stays _) hz)
  clear B_5 T_5 mx_5 r_5 box_5 i_5
  have a_6 := hide i6
  clear i6
  clear hz hb
  go_wp2_with fail
  refine (mAllF T m (N + 1 + 1) (oL (N + 1) ⟨#[]⟩ [simK 11 l]) F hEs.out.2.1 hFs.out.2.1 (num64 hEs.out.2.1) A n c L2 1 d2 _ T_6.out mx_6.out i_6.out).mono ?_
  rintro e w7 ⟨X7, x7, rfl, i7, hb⟩
  have hz := hb
  have B_7 := Below.on B_6 hz
  have T_7 := hide (T_6.out.below hz)
  have mx_7 := hide (mx_6.out.below hz)
  have r_7 := hide (r_6.out.below (isV_stays _) hz)
  have box_7 := cell_later hz box_6
  have i_7 := hide (i_6.out.below (isV_stays _) hz)
  have a_7 := hide (a_6.out.below hz)
  clear B_6 T_6 mx_6 r_6 box_6 i_6 a_6
  have b_7 := hide i7
  clear i7
  clear hz hb
  have hone := hide (oneV_ok (N + 1) ⟨#[42]⟩ (some ⟨w7.heap.size, 0, none⟩) 1 1 [simK 12 l] (w7.alloc (.cells #[.int .u8 12, .string ⟨#[]⟩, .int .u8 0, .string ⟨#[]⟩, .bool false, .int .i64 0, .int .i64 0, .bool false, .slice LA ln lc] 41)).drew ((simL_lit w7 w7.heap.size 12 0 false LA ln lc l rfl r_7.out hk1 hk2 (by omega) (by omega)).below (isV_stays _) (Below.refl _ _).drew) (by omega) (by omega) (by decide))
  have hall := hide (fun W (L : Option Addr) (d : Nat) (hW : Below w7.heap.size w7 W) (hR : IsRow (IsV (N + 1 + 1)) W L 1 (oL (N + 1) ⟨#[42]⟩ [simK 12 l])) => mAllF T m (N + 1 + 1) (oL (N + 1) ⟨#[42]⟩ [simK 12 l]) F hEs.out.2.2.1 hFs.out.2.2.1 (num64 hEs.out.2.2.1) A n c L 1 d W (T_7.out.below hW) (mx_7.out.below hW) hR)
  have hal := hide ((below_alloc (Below.refl w7.heap.size w7) (.cells #[.int .u8 12, .string ⟨#[]⟩, .int .u8 0, .string ⟨#[]⟩, .bool false, .int .i64 0, .int .i64 0, .bool false, .slice LA ln lc] 41)).drew)
  have u0 := cell_later hal.out box_7
  go_wp2_with fail
  go_region_held3 (fun X => X.cell? ⟨w.heap.size, 0, none⟩ = some (.slice A n c)) (first | exact box_7 | exact u0 | exact u1 | exact u2) (first | (go_at_call 16; (with_reducible refine hone.out.mono ?_); rintro e v1 ⟨Lc, dLc, rfl, q1, p1, o1, hb1⟩; have u1 := cell_later hb1 u0; have hz1 := hide (Below.on hal.out hb1)) | (go_at_call 13; (with_reducible refine (hall.out _ _ _ hz1.out q1).mono ?_); rintro e v2 ⟨Xc, xc, rfl, i1, hb2⟩; have u2 := cell_later hb2 u1))
  have hz := Below.on hz1.out hb2
  generalize v2 = w8 at *
  have B_8 := Below.on B_7 hz
  have T_8 := hide (T_7.out.below hz)
  have mx_8 := hide (mx_7.out.below hz)
  have r_8 := hide (r_7.out.below (isV_stays _) hz)
  have box_8 := cell_later hz box_7
  have i_8 := hide (i_7.out.below (isV_stays _) hz)
  have a_8 := hide (a_7.out.below hz)
  have b_8 := hide (b_7.out.below hz)
  clear B_7 T_7 mx_7 r_7 box_7 i_7 a_7 b_7
  have c_8 := hide i1
  clear i1 hz hz1 u0 u1 u2 q1 p1 o1 hb1 hb2 hone hall hal
  have hone := hide (oneV_ok (N + 1) ⟨#[]⟩ (some ⟨w8.heap.size, 0, none⟩) 1 1 [simK 13 l] (w8.alloc (.cells #[.int .u8 13, .string ⟨#[]⟩, .int .u8 0, .string ⟨#[]⟩, .bool false, .int .i64 0, .int .i64 0, .bool false, .slice LA ln lc] 41)).drew ((simL_lit w8 w8.heap.size 13 0 false LA ln lc l rfl r_8.out hk1 hk2 (by omega) (by omega)).below (isV_stays _) (Below.refl _ _).drew) (by omega) (by omega) (by decide))
  have hall := hide (fun W (L : Option Addr) (d : Nat) (hW : Below w8.heap.size w8 W) (hR : IsRow (IsV (N + 1 + 1)) W L 1 (oL (N + 1) ⟨#[]⟩ [simK 13 l])) => mAllF T m (N + 1 + 1) (oL (N + 1) ⟨#[]⟩ [simK 13 l]) (fun i => !(F i)) hEs.out.2.2.2 hFs.out.2.2.2 (num64 hEs.out.2.2.2) A n c L 1 d W (T_8.out.below hW) (mx_8.out.below hW) hR)
  have hal := hide ((below_alloc (Below.refl w8.heap.size w8) (.cells #[.int .u8 13, .string ⟨#[]⟩, .int .u8 0, .string ⟨#[]⟩, .bool false, .int .i64 0, .int .i64 0, .bool false, .slice LA ln lc] 41)).drew)
  have u0 := cell_later hal.out box_8
  go_wp2_with fail
  go_region_held3 (fun X => X.cell? ⟨w.heap.size, 0, none⟩ = some (.slice A n c)) (first | exact box_8 | exact u0 | exact u1 | exact u2) (first | (go_at_call 16; (with_reducible refine hone.out.mono ?_); rintro e v1 ⟨Ld, dLd, rfl, q1, p1, o1, hb1⟩; have u1 := cell_later hb1 u0; have hz1 := hide (Below.on hal.out hb1)) | (go_at_call 13; (with_reducible refine (hall.out _ _ _ hz1.out q1).mono ?_); rintro e v2 ⟨Xd, xd, rfl, i1, hb2⟩; have u2 := cell_later hb2 u1))
  have hz := Below.on hz1.out hb2
  generalize v2 = w9 at *
  have B_9 := Below.on B_8 hz
  have T_9 := hide (T_8.out.below hz)
  have mx_9 := hide (mx_8.out.below hz)
  have r_9 := hide (r_8.out.below (isV_stays _) hz)
  have box_9 := cell_later hz box_8
  have i_9 := hide (i_8.out.below (isV_stays _) hz)
  have a_9 := hide (a_8.out.below hz)
  have b_9 := hide (b_8.out.below hz)
  have c_9 := hide (c_8.out.below hz)
  clear B_8 T_8 mx_8 r_8 box_8 i_8 a_8 b_8 c_8
  have d_9 := hide i1
  clear i1 hz hz1 u0 u1 u2 q1 p1 o1 hb1 hb2 hone hall hal
  have hx := selCheck_ok (N + 1 + 1) L2 1 d2 _ _ i_9.out (num64 hEs.out.2.1)
  rw [hC'.out] at hx
  go_wp2_with fail
  refine hx.mono ?_
  clear hx
  rintro e w10 ⟨rfl, hb⟩
  have hz := hb
  have B_10 := Below.on B_9 hz
  have T_10 := hide (T_9.out.below hz)
  have mx_10 := hide (mx_9.out.below hz)
  have r_10 := hide (r_9.out.below (isV_stays _) hz)
  have box_10 := cell_later hz box_9
  have i_10 := hide (i_9.out.below (isV_stays _) hz)
  have a_10 := hide (a_9.out.below hz)
  have b_10 := hide (b_9.out.below hz)
  have c_10 := hide (c_9.out.below hz)
  have d_10 := hide (d_9.out.below hz)
  clear B_9 T_9 mx_9 r_9 box_9 i_9 a_9 b_9 c_9 d_9
  clear hz hb
  go_wp2_with fail
  refine (sameBools_yes _ _ n n _ _ ((List.range n).map F) _ a_10.out b_10.out).mono ?_
  rintro e w11 ⟨rfl, hb⟩
  have hz := hb
  have B_11 := Below.on B_10 hz
  have T_11 := hide (T_10.out.below hz)
  have mx_11 := hide (mx_10.out.below hz)
  have r_11 := hide (r_10.out.below (isV_stays _) hz)
  have box_11 := cell_later hz box_10
  have i_11 := hide (i_10.out.below (isV_stays _) hz)
  have a_11 := hide (a_10.out.below hz)
  have b_11 := hide (b_10.out.below hz)
  have c_11 := hide (c_10.out.below hz)
  have d_11 := hide (d_10.out.below hz)
  clear B_10 T_10 mx_10 r_10 box_10 i_10 a_10 b_10 c_10 d_10
  clear hz hb
  go_wp2_with fail
  refine (sameBools_yes _ _ n n _ _ ((List.range n).map F) _ a_11.out c_11.out).mono ?_
  rintro e w12 ⟨rfl, hb⟩
  have hz := hb
  have B_12 := Below.on B_11 hz
  have T_12 := hide (T_11.out.below hz)
  have mx_12 := hide (mx_11.out.below hz)
  have r_12 := hide (r_11.out.below (isV_stays _) hz)
  have box_12 := cell_later hz box_11
  have i_12 := hide (i_11.out.below (isV_stays _) hz)
  have a_12 := hide (a_11.out.below hz)
  have b_12 := hide (b_11.out.below hz)
  have c_12 := hide (c_11.out.below hz)
  have d_12 := hide (d_11.out.below hz)
  clear B_11 T_11 mx_11 r_11 box_11 i_11 a_11 b_11 c_11 d_11
  clear hz hb
  clear b_12 c_12 i_12 r_12 T_12 mx_12
  obtain ⟨ba, oa, rfl, hba, hca⟩ := a_12.out.2.2 hn1
  obtain ⟨bd, od, rfl, hbd, hcd⟩ := d_12.out.2.2 hn1
  have hca' := hide hca
  have hcd' := hide hcd
  clear hca hcd
  clear a_12 d_12
  go_wp2_with fail
  go_loopw [17] (fun i wr => ∃ q : Nat, q ≤ n ∧ i = .int .i64 q ∧ Below w12.heap.size w12 wr) (fun i _ => n - (intOf i).toNat)
  case atStart => exact ⟨0, Nat.zero_le _, rfl, Below.refl _ _⟩
  case round =>
    obtain ⟨q, hq, rfl, hb⟩ := hrel
    have hBr := Below.on B_12 hb
    by_cases hlt : q < n
    · have ga := (old hb _ _ hba).trans (hca'.out q hlt)
      have gd := (old hb _ _ hbd).trans (hcd'.out q hlt)
      rw [bx_map _ hlt] at ga gd
      have i0 : (0 : Int) ≤ (q : Int) := by omega
      have i1 : (q : Int) < (n : Int) := by omega
      generalize F q = v at *
      cases v
      · go_wp2_with fail
        go_quiet (fail)
        go_wp2
        go_roundw
        case rel => exact ⟨q + 1, by omega, by go_num, below_drewN hb _⟩
        case measure => simp [intOf]; omega
      · go_wp2_with fail
        go_quiet (fail)
        go_wp2
        go_roundw
        case rel => exact ⟨q + 1, by omega, by go_num, below_drewN hb _⟩
        case measure => simp [intOf]; omega
    · obtain rfl : n = q := by omega
      go_wp2
      go_ret
      exact ⟨rfl, hBr⟩
set_option maxRecDepth 100000 in
theorem lifted (os : Os) (started : os.Started) (H : Type) (enc : TypeId × Value → H) :
    ReturnsInHanded {} Tryz.checked os 4 .any (Rows.matcherListsSpec.pre6 enc Tryz.prog Tryz.f4 Rows.matcherListsRow.domain false) (Rows.matcherListsSpec.post enc Tryz.prog Tryz.f4 false true false false) := by
  refine returnsInHanded_of_change_shaped (C := Tryz.checked) own started (by kernel_rfl) Tryz.func4
    (ChangeSpec.witness6 (enc := enc) (C := Tryz.checked) false ⟨#[], #[.agg #[.slice none 0 0], .slice none 0 0, .int .i64 0], []⟩ 8 (by kernel_rfl) (by kernel_rfl) (by kernel_rfl) (by kernel_rfl)) ?_
  intro W base args ds gs before hval0 hW hcnd hsz hsh _
  have hval : ∀ (j : Nat) t v, Tryz.f4.params[j]? = some t → args[j]? = some v → Value.okWide Tryz.prog W .any base t v := hval0
  have hW' := hW
  obtain ⟨p, q, hA0, hV, rfl, hfz, hnd⟩ := hW
  have hA : DataW.TrodAll enc Tryz.prog W 0 (fun _ => true) true Tryz.f4.params.toList args.toList ds p := hA0
  rw [Tryz.params4] at hA hval hsz
  obtain ⟨v0, vs0, d0, ds0, p0, q0, hargs, rfl, rfl, h0, r0⟩ := trodAll_cons hA
  obtain ⟨v1, vs1, d1, ds1, p1, q1, rfl, rfl, rfl, h1, r1⟩ := trodAll_cons r0
  obtain ⟨v2, vs2, d2, ds2, p2, q2, rfl, rfl, rfl, h2, r2⟩ := trodAll_cons r1
  obtain ⟨rfl, rfl, rfl⟩ := trodAll_nil r2
  obtain rfl : args = #[v0, v1, v2] := by cases args; simp_all
  obtain ⟨rfl, rfl⟩ := trodVars_none hV
  have lt0 : ∀ x ∈ p0, x.block < W.heap.size := by obtain ⟨m, hm⟩ := h0; exact DataW.trod_lt m _ _ _ hm
  have k0 := h0
  have lt1 : ∀ x ∈ p1, x.block < W.heap.size := by obtain ⟨m, hm⟩ := h1; exact DataW.trod_lt m _ _ _ hm
  have k1 := h1
  have lt2 : ∀ x ∈ p2, x.block < W.heap.size := by obtain ⟨m, hm⟩ := h2; exact DataW.trod_lt m _ _ _ hm
  have k2 := h2
  obtain ⟨A0, n0, c0, T0, rfl, hT0⟩ := tree_open (hval 0 _ v0 rfl rfl) h0
  obtain ⟨A1, n1, c1, N1, l1, rfl, hk1a, hk1b, hR1, hz1⟩ := sels_open (hval 1 _ v1 rfl rfl) h1 (weight_le hsz (j := 1) rfl rfl)
  obtain ⟨a2, rfl, rfl, rfl, w2⟩ := open_int Tryz.underlying3 (hval 2 _ v2 rfl rfl) h2
  clear hA0 hval0
  refine (walk A0 n0 c0 T0 A1 n1 c1 N1 l1 a2 W hT0 hR1 hz1 hk1a hk1b  (hasMax_of hsh)).mono fun e W' ⟨he, bel⟩ => ?_
  subst he
  exact ⟨_, rfl, _, _, _, [], _, [], hW', trodAll_mk1 (shut_bool Tryz.underlying4 _), (trodAll_cons_mk (Below.trod laidOut (by kernel_rfl) (of_decide_eq_true (by kernel_rfl)) k0 bel lt0) (trodAll_cons_mk (Below.trod laidOut (by kernel_rfl) (of_decide_eq_true (by kernel_rfl)) k1 bel lt1) (trodAll_cons_mk (Below.trod laidOut (by kernel_rfl) (of_decide_eq_true (by kernel_rfl)) k2 bel lt2) trodAll_mk0))), rfl, bel.frame _, fun h => by cases h⟩

theorem proved : Rows.MatcherListsSaid :=
  OpenClaim.holds_of_wide 4 Tryz.f4 rfl rfl rfl rfl rfl rfl rfl ⟨rfl, rfl, rfl, rfl, rfl⟩ rfl rfl rfl rfl rfl (by kernel_rfl) Tryz.func4 (by kernel_rfl)
    (of_decide_eq_true (by kernel_rfl)) (by unfold Func.isWrapper; first | (rw [if_pos (by decide +kernel)]; kernel_rfl) | (rw [if_neg (by decide +kernel)]; exact ⟨rfl, rfl⟩))
    (fun os started H enc _ => lifted os started H enc)
#print axioms proved
end Go.Proofs.YtljloicgjgbplaaGreat.matcherLists
