/- Check, Match, All and Which return what the reference returns. Condition: no text and no list is larger than a machine holds. -/
import Derived.Test.YtljloicgjgbplaaGreatG54
import Derived.Test.YtljloicgjgbplaaGreatG25
import Derived.SizedLaws
import Derived.Test.YtljloicgjgbplaaGreatG17
import Derived.Test.YtljloicgjgbplaaGreatG13
namespace Go.Proofs.YtljloicgjgbplaaGreat.matcherMatches
open Go.ChangeShapes Go.WideShapes Go.ChangeAt Go.RowKit

theorem weight_le {H : Type} {P : Program} {ts : List TypeId} {ds : List (DataW H)} (h : (DataW.weightsEach P ts ds).all (· ≤ reachBytes) = true) {j : Nat} {t : TypeId} {d : DataW H} (ht : ts[j]? = some t) (hd : ds[j]? = some d) : ∀ n ∈ d.weights P t, n ≤ reachBytes := fun n hn => by
  simpa using List.all_eq_true.1 h _ (DataW.weights_mem_each ht hd n hn)
set_option maxRecDepth 100000 in
set_option maxHeartbeats 10000000 in
theorem walk (A : Option Addr) (n c : Nat) (T : List ANode) (i : Int) (LA : Option Addr) (ln lc N : Nat) (l : List (SelL (N + 1))) (m : Int) (w : World) (h : IsTree w A n T) (hr : IsRow (IsV (N + 1)) w LA ln l) (hz : ∀ x ∈ l, szV (N + 1) x) (hk1 : ln ≤ lc) (hk2 : lc ≤ 9223372036854775807) (hmx : HasMax w) :
    Calls Tryz.prog 6 #[.agg #[.slice A n c], .int .i64 i, .slice LA ln lc, .int .i64 m] w fun e w' => e = .returned (.bool true) ∧ Below w.heap.size w w' := by
  have hz' := hide hz
  have hbx := below_alloc (Below.refl w.heap.size w) (.cells #[.slice A n c] 24)
  have B_0 := hbx
  have T_0 := hide (h.below hbx)
  have mx_0 := hide (hmx.below hbx)
  have r_0 := hide (hr.below (isV_stays (N + 1)) hbx)
  have box_0 := (show (w.alloc (.cells #[.slice A n c] 24)).cell? ⟨w.heap.size, 0, none⟩ = some (.slice A n c) from blk_cell (blk_new _ _ _) 0)
  clear h hr hmx hz hbx
  go_enter Tryz.func6, Tryz.ntmps6
  go_wp2_with fail
  refine (rgreat23_ok (N + 1) A n c T LA ln lc l _ T_0.out r_0.out hz'.out).mono ?_
  rintro e w1 ⟨g, rfl, hg, hb⟩
  have hz := hb
  have B_1 := Below.on B_0 hz
  have T_1 := hide (T_0.out.below hz)
  have mx_1 := hide (mx_0.out.below hz)
  have r_1 := hide (r_0.out.below (isV_stays _) hz)
  have box_1 := cell_later hz box_0
  clear B_0 T_0 mx_0 r_0 box_0
  clear hz hb
  have hg' := hide hg
  clear hg
  cases g
  rotate_left
  · go_wp2
    go_ret
    exact ⟨rfl, B_1⟩
  have hn6 : numV (N + 1) l ≤ 1000000 := by have := (hg'.out rfl).1; omega
  obtain ⟨MV, hMV⟩ : ∃ v, mmatV T i m (N + 1) l = v := ⟨_, rfl⟩
  obtain ⟨ME, hME⟩ : ∃ v, mmatE T i m (N + 1) l = v := ⟨_, rfl⟩
  obtain ⟨AE, hAE⟩ : ∃ v, aksE T m (N + 1) l = v := ⟨_, rfl⟩
  obtain ⟨LV, hLV⟩ : ∃ v, mallV T m (N + 1) l = v := ⟨_, rfl⟩
  obtain ⟨WV, hWV⟩ : ∃ v, whiV T i m (N + 1) l = v := ⟨_, rfl⟩
  obtain ⟨CV, hCV⟩ : ∃ v, chkV (N + 1) l = v := ⟨_, rfl⟩
  have k1 := hide (fun W (hT : IsTree W A n T) (hx : HasMax W) (hr : IsRow (IsV (N + 1)) W LA ln l) => (show Calls Tryz.prog 20 #[.agg #[.slice A n c], .int .i64 i, .slice LA ln lc, .int .i64 m] W (fun e w' => e = .returned (.tuple #[.bool MV, .int .i64 ME]) ∧ Below W.heap.size W w') from by rw [← hMV, ← hME]; exact mMatch_ok A n c T i (N + 1) LA ln lc l m W hT hx hr hn6))
  have k2 := hide (fun W (hT : IsTree W A n T) (hr : IsRow (IsV (N + 1)) W LA ln l) => (show Calls Tryz.prog 21 #[.agg #[.slice A n c], .int .i64 i, .slice LA ln lc, .int .i64 m] W (fun e w' => e = .returned (.tuple #[.bool MV, .int .i64 ME]) ∧ Below W.heap.size W w') from by rw [← hMV, ← hME]; exact rMatch23_ok A n c T i (N + 1) LA ln lc l m W hT hr hn6))
  have k3 := hide (fun W (hT : IsTree W A n T) (hx : HasMax W) (hr : IsRow (IsV (N + 1)) W LA ln l) => (show Calls Tryz.prog 13 #[.agg #[.slice A n c], .slice LA ln lc, .int .i64 m] W (MadeB W LV AE) from by rw [← hLV, ← hAE]; exact mAll_ok A n c T (N + 1) LA ln lc l m W hT hx hr hn6))
  have k4 := hide (fun W (hT : IsTree W A n T) (hr : IsRow (IsV (N + 1)) W LA ln l) => (show Calls Tryz.prog 22 #[.agg #[.slice A n c], .slice LA ln lc, .int .i64 m] W (MadeBoolsN W LV AE) from by rw [← hLV, ← hAE]; exact rAll23_ok A n c T (N + 1) LA ln lc l m W hT hr hn6))
  have k5 := hide (fun W (hT : IsTree W A n T) (hx : HasMax W) (hr : IsRow (IsV (N + 1)) W LA ln l) => (show Calls Tryz.prog 23 #[.agg #[.slice A n c], .int .i64 i, .slice LA ln lc, .int .i64 m] W (MadeIE W WV ME) from by rw [← hWV, ← hME]; exact mWhich_ok A n c T i (N + 1) LA ln lc l m W hT hx hr hn6 hk1 hk2))
  have k6 := hide (fun W (hT : IsTree W A n T) (hr : IsRow (IsV (N + 1)) W LA ln l) => (show Calls Tryz.prog 24 #[.agg #[.slice A n c], .int .i64 i, .slice LA ln lc, .int .i64 m] W (MadeIE W WV ME) from by rw [← hWV, ← hME]; exact rWhich23_ok A n c T i (N + 1) LA ln lc l m W hT hr hn6))
  have k7 := hide (fun W (hr : IsRow (IsV (N + 1)) W LA ln l) => (show Calls Tryz.prog 25 #[.slice LA ln lc] W (fun e w' => e = .returned (.int .i64 CV) ∧ Below W.heap.size W w') from by rw [← hCV]; exact mCheck_ok (N + 1) LA ln lc l W hr hn6))
  have k8 := hide (fun W (hr : IsRow (IsV (N + 1)) W LA ln l) => (show Calls Tryz.prog 17 #[.slice LA ln lc] W (fun e w' => e = .returned (.int .i64 CV) ∧ Below W.heap.size W w') from by rw [← hCV]; exact rsChk_ok (N + 1) LA ln lc l W hr hn6))
  clear hg' hn6 hMV hME hAE hLV hWV hCV hz'
  go_wp2_with fail
  refine (k1.out _ T_1.out mx_1.out r_1.out).mono ?_
  rintro e w2 ⟨rfl, hb⟩
  have hz := hb
  have B_2 := Below.on B_1 hz
  have T_2 := hide (T_1.out.below hz)
  have mx_2 := hide (mx_1.out.below hz)
  have r_2 := hide (r_1.out.below (isV_stays _) hz)
  have box_2 := cell_later hz box_1
  clear B_1 T_1 mx_1 r_1 box_1
  clear hz hb
  go_wp2_with fail
  refine (k2.out _ T_2.out r_2.out).mono ?_
  rintro e w3 ⟨rfl, hb⟩
  have hz := hb
  have B_3 := Below.on B_2 hz
  have T_3 := hide (T_2.out.below hz)
  have mx_3 := hide (mx_2.out.below hz)
  have r_3 := hide (r_2.out.below (isV_stays _) hz)
  have box_3 := cell_later hz box_2
  clear B_2 T_2 mx_2 r_2 box_2
  clear hz hb
  go_wp2_with fail
  refine (k3.out _ T_3.out mx_3.out r_3.out).mono ?_
  rintro e w4 ⟨X1, x1, rfl, i1, -, -, hb⟩
  have hz := hb
  have B_4 := Below.on B_3 hz
  have T_4 := hide (T_3.out.below hz)
  have mx_4 := hide (mx_3.out.below hz)
  have r_4 := hide (r_3.out.below (isV_stays _) hz)
  have box_4 := cell_later hz box_3
  clear B_3 T_3 mx_3 r_3 box_3
  have a_4 := hide i1
  clear i1
  clear hz hb
  go_wp2_with fail
  refine (k4.out _ T_4.out r_4.out).mono ?_
  rintro e w5 ⟨X2, x2, rfl, i2, hb⟩
  have hz := hb
  have B_5 := Below.on B_4 hz
  have T_5 := hide (T_4.out.below hz)
  have mx_5 := hide (mx_4.out.below hz)
  have r_5 := hide (r_4.out.below (isV_stays _) hz)
  have box_5 := cell_later hz box_4
  have a_5 := hide (a_4.out.below hz)
  clear B_4 T_4 mx_4 r_4 box_4 a_4
  have b_5 := hide i2
  clear i2
  clear hz hb
  go_wp2_with fail
  refine (k5.out _ T_5.out mx_5.out r_5.out).mono ?_
  rintro e w6 ⟨X3, x3, rfl, i3, hb⟩
  have hz := hb
  have B_6 := Below.on B_5 hz
  have T_6 := hide (T_5.out.below hz)
  have mx_6 := hide (mx_5.out.below hz)
  have r_6 := hide (r_5.out.below (isV_stays _) hz)
  have box_6 := cell_later hz box_5
  have a_6 := hide (a_5.out.below hz)
  have b_6 := hide (b_5.out.below hz)
  clear B_5 T_5 mx_5 r_5 box_5 a_5 b_5
  have d_6 := hide i3
  clear i3
  clear hz hb
  go_wp2_with fail
  refine (k6.out _ T_6.out r_6.out).mono ?_
  rintro e w7 ⟨X4, x4, rfl, i4, hb⟩
  have hz := hb
  have B_7 := Below.on B_6 hz
  have T_7 := hide (T_6.out.below hz)
  have mx_7 := hide (mx_6.out.below hz)
  have r_7 := hide (r_6.out.below (isV_stays _) hz)
  have box_7 := cell_later hz box_6
  have a_7 := hide (a_6.out.below hz)
  have b_7 := hide (b_6.out.below hz)
  have d_7 := hide (d_6.out.below hz)
  clear B_6 T_6 mx_6 r_6 box_6 a_6 b_6 d_6
  have f_7 := hide i4
  clear i4
  clear hz hb
  go_wp2_with fail
  refine (k7.out _ r_7.out).mono ?_
  rintro e w8 ⟨rfl, hb⟩
  have hz := hb
  have B_8 := Below.on B_7 hz
  have T_8 := hide (T_7.out.below hz)
  have mx_8 := hide (mx_7.out.below hz)
  have r_8 := hide (r_7.out.below (isV_stays _) hz)
  have box_8 := cell_later hz box_7
  have a_8 := hide (a_7.out.below hz)
  have b_8 := hide (b_7.out.below hz)
  have d_8 := hide (d_7.out.below hz)
  have f_8 := hide (f_7.out.below hz)
  clear B_7 T_7 mx_7 r_7 box_7 a_7 b_7 d_7 f_7
  clear hz hb
  go_wp2_with fail
  refine (k8.out _ r_8.out).mono ?_
  rintro e w9 ⟨rfl, hb⟩
  have hz := hb
  have B_9 := Below.on B_8 hz
  have T_9 := hide (T_8.out.below hz)
  have mx_9 := hide (mx_8.out.below hz)
  have r_9 := hide (r_8.out.below (isV_stays _) hz)
  have box_9 := cell_later hz box_8
  have a_9 := hide (a_8.out.below hz)
  have b_9 := hide (b_8.out.below hz)
  have d_9 := hide (d_8.out.below hz)
  have f_9 := hide (f_8.out.below hz)
  clear B_8 T_8 mx_8 r_8 box_8 a_8 b_8 d_8 f_8
  clear hz hb
  clear T_9 mx_9 r_9 box_9
  go_wp2_with fail
  refine (sameBools_yes _ _ _ _ _ _ LV _ a_9.out b_9.out).mono ?_
  rintro e w10 ⟨rfl, hb⟩
  have hz := hb
  have B_10 := Below.on B_9 hz
  have a_10 := hide (a_9.out.below hz)
  have b_10 := hide (b_9.out.below hz)
  have d_10 := hide (d_9.out.below hz)
  have f_10 := hide (f_9.out.below hz)
  clear B_9 a_9 b_9 d_9 f_9
  clear hz hb
  go_wp2_with fail
  refine (sameInts_yes _ _ _ _ _ _ WV _ d_10.out f_10.out).mono ?_
  rintro e w11 ⟨rfl, hb⟩
  have hz := hb
  have B_11 := Below.on B_10 hz
  have a_11 := hide (a_10.out.below hz)
  have b_11 := hide (b_10.out.below hz)
  have d_11 := hide (d_10.out.below hz)
  have f_11 := hide (f_10.out.below hz)
  clear B_10 a_10 b_10 d_10 f_10
  clear hz hb
  go_wp2
  go_ret
  exact ⟨rfl, B_11⟩
set_option maxRecDepth 100000 in
theorem lifted (os : Os) (started : os.Started) (H : Type) (enc : TypeId × Value → H) :
    ReturnsInHanded {} Tryz.checked os 6 .any (Rows.matcherMatchesSpec.pre6 enc Tryz.prog Tryz.f6 Rows.matcherMatchesRow.domain false) (Rows.matcherMatchesSpec.post enc Tryz.prog Tryz.f6 false true false false) := by
  refine returnsInHanded_of_change_shaped (C := Tryz.checked) own started (by kernel_rfl) Tryz.func6
    (ChangeSpec.witness6 (enc := enc) (C := Tryz.checked) false ⟨#[], #[.agg #[.slice none 0 0], .int .i64 0, .slice none 0 0, .int .i64 0], []⟩ 8 (by kernel_rfl) (by kernel_rfl) (by kernel_rfl) (by kernel_rfl)) ?_
  intro W base args ds gs before hval0 hW hcnd hsz hsh _
  have hval : ∀ (j : Nat) t v, Tryz.f6.params[j]? = some t → args[j]? = some v → Value.okWide Tryz.prog W .any base t v := hval0
  have hW' := hW
  obtain ⟨p, q, hA0, hV, rfl, hfz, hnd⟩ := hW
  have hA : DataW.TrodAll enc Tryz.prog W 0 (fun _ => true) true Tryz.f6.params.toList args.toList ds p := hA0
  rw [Tryz.params6] at hA hval hsz
  obtain ⟨v0, vs0, d0, ds0, p0, q0, hargs, rfl, rfl, h0, r0⟩ := trodAll_cons hA
  obtain ⟨v1, vs1, d1, ds1, p1, q1, rfl, rfl, rfl, h1, r1⟩ := trodAll_cons r0
  obtain ⟨v2, vs2, d2, ds2, p2, q2, rfl, rfl, rfl, h2, r2⟩ := trodAll_cons r1
  obtain ⟨v3, vs3, d3, ds3, p3, q3, rfl, rfl, rfl, h3, r3⟩ := trodAll_cons r2
  obtain ⟨rfl, rfl, rfl⟩ := trodAll_nil r3
  obtain rfl : args = #[v0, v1, v2, v3] := by cases args; simp_all
  obtain ⟨rfl, rfl⟩ := trodVars_none hV
  have lt0 : ∀ x ∈ p0, x.block < W.heap.size := by obtain ⟨m, hm⟩ := h0; exact DataW.trod_lt m _ _ _ hm
  have k0 := h0
  have lt1 : ∀ x ∈ p1, x.block < W.heap.size := by obtain ⟨m, hm⟩ := h1; exact DataW.trod_lt m _ _ _ hm
  have k1 := h1
  have lt2 : ∀ x ∈ p2, x.block < W.heap.size := by obtain ⟨m, hm⟩ := h2; exact DataW.trod_lt m _ _ _ hm
  have k2 := h2
  have lt3 : ∀ x ∈ p3, x.block < W.heap.size := by obtain ⟨m, hm⟩ := h3; exact DataW.trod_lt m _ _ _ hm
  have k3 := h3
  obtain ⟨A0, n0, c0, T0, rfl, hT0⟩ := tree_open (hval 0 _ v0 rfl rfl) h0
  obtain ⟨a1, rfl, rfl, rfl, w1⟩ := open_int Tryz.underlying3 (hval 1 _ v1 rfl rfl) h1
  obtain ⟨A2, n2, c2, N2, l2, rfl, hk2a, hk2b, hR2, hz2⟩ := sels_open (hval 2 _ v2 rfl rfl) h2 (weight_le hsz (j := 2) rfl rfl)
  obtain ⟨a3, rfl, rfl, rfl, w3⟩ := open_int Tryz.underlying3 (hval 3 _ v3 rfl rfl) h3
  clear hA0 hval0
  refine (walk A0 n0 c0 T0 a1 A2 n2 c2 N2 l2 a3 W hT0  hR2 hz2 hk2a hk2b  (hasMax_of hsh)).mono fun e W' ⟨he, bel⟩ => ?_
  subst he
  exact ⟨_, rfl, _, _, _, [], _, [], hW', trodAll_mk1 (shut_bool Tryz.underlying4 _), (trodAll_cons_mk (Below.trod laidOut (by kernel_rfl) (of_decide_eq_true (by kernel_rfl)) k0 bel lt0) (trodAll_cons_mk (Below.trod laidOut (by kernel_rfl) (of_decide_eq_true (by kernel_rfl)) k1 bel lt1) (trodAll_cons_mk (Below.trod laidOut (by kernel_rfl) (of_decide_eq_true (by kernel_rfl)) k2 bel lt2) (trodAll_cons_mk (Below.trod laidOut (by kernel_rfl) (of_decide_eq_true (by kernel_rfl)) k3 bel lt3) trodAll_mk0)))), rfl, bel.frame _, fun h => by cases h⟩

theorem proved : Rows.MatcherMatchesSaid :=
  OpenClaim.holds_of_wide 6 Tryz.f6 rfl rfl rfl rfl rfl rfl rfl ⟨rfl, rfl, rfl, rfl, rfl⟩ rfl rfl rfl rfl rfl (by kernel_rfl) Tryz.func6 (by kernel_rfl)
    (of_decide_eq_true (by kernel_rfl)) (by unfold Func.isWrapper; first | (rw [if_pos (by decide +kernel)]; kernel_rfl) | (rw [if_neg (by decide +kernel)]; exact ⟨rfl, rfl⟩))
    (fun os started H enc _ => lifted os started H enc)
#print axioms proved
end Go.Proofs.YtljloicgjgbplaaGreat.matcherMatches
