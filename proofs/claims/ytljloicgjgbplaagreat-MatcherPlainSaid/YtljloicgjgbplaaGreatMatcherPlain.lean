/- Plain matching does not depend on any mode: it is the matching, in each mode, of the list in which each link is any link, and each visited one matches nothing. Condition: no text and no list is larger than a machine holds. -/
import Derived.Test.YtljloicgjgbplaaGreatG44
import Derived.Test.YtljloicgjgbplaaGreatG58
import Derived.Test.YtljloicgjgbplaaGreatG59
import Derived.Test.YtljloicgjgbplaaGreatG41
import Derived.Test.YtljloicgjgbplaaGreatG25
import Derived.Test.YtljloicgjgbplaaGreatG17
namespace Go.Proofs.YtljloicgjgbplaaGreat.matcherPlain
open Go.ChangeShapes Go.WideShapes Go.ChangeAt Go.RowKit

set_option maxRecDepth 100000 in
set_option maxHeartbeats 10000000 in
theorem walk (A : Option Addr) (n c : Nat) (T : List ANode) (LA : Option Addr) (ln lc N : Nat) (l : List (SelL (N + 1))) (m : Int) (w : World) (h : IsTree w A n T) (hr : IsRow (IsV (N + 1)) w LA ln l) (hz : ∀ x ∈ l, szV (N + 1) x) (hk1 : ln ≤ lc) (hk2 : lc ≤ 9223372036854775807) (hmx : HasMax w) :
    Calls Tryz.prog 3 #[.agg #[.slice A n c], .slice LA ln lc, .int .i64 m] w fun e w' => e = .returned (.bool true) ∧ Below w.heap.size w w' := by
  have hz' := hide hz
  have hll := hr.1
  have hbx := below_alloc (Below.refl w.heap.size w) (.cells #[.slice A n c] 24)
  have B_0 := hbx
  have T_0 := hide (h.below hbx)
  have mx_0 := hide (hmx.below hbx)
  have r_0 := hide (hr.below (isV_stays (N + 1)) hbx)
  have box_0 := (show (w.alloc (.cells #[.slice A n c] 24)).cell? ⟨w.heap.size, 0, none⟩ = some (.slice A n c) from blk_cell (blk_new _ _ _) 0)
  clear h hr hmx hz hbx
  go_enter Tryz.func3, Tryz.ntmps3
  go_wp2_with fail
  refine (alive23_ok _ mx_0.out).mono ?_
  rintro e w1 ⟨rfl, hb⟩
  have hz := hb
  have B_1 := Below.on B_0 hz
  have T_1 := hide (T_0.out.below hz)
  have mx_1 := hide (mx_0.out.below hz)
  have r_1 := hide (r_0.out.below (isV_stays _) hz)
  have box_1 := cell_later hz box_0
  clear B_0 T_0 mx_0 r_0 box_0
  clear hz hb
  go_wp2_with fail
  refine (rgreat23_ok (N + 1) A n c T LA ln lc l _ T_1.out r_1.out hz'.out).mono ?_
  rintro e w2 ⟨g, rfl, hg, hb⟩
  have hz := hb
  have B_2 := Below.on B_1 hz
  have T_2 := hide (T_1.out.below hz)
  have mx_2 := hide (mx_1.out.below hz)
  have r_2 := hide (r_1.out.below (isV_stays _) hz)
  have box_2 := cell_later hz box_1
  clear B_1 T_1 mx_1 r_1 box_1
  clear hz hb
  have hg' := hide hg
  clear hg
  cases g
  rotate_left
  · go_wp2
    go_ret
    exact ⟨rfl, B_2⟩
  have hn6 : numV (N + 1) l ≤ 600 := (hg'.out rfl).1
  have hn6' := hide hn6
  clear hg' hn6
  obtain ⟨E, hE⟩ : ∃ E, aksE T m (N + 1) l = E := ⟨_, rfl⟩
  have hE' := hide hE
  have hx := rasked23_ok A n c T (N + 1) LA ln lc l m _ T_2.out r_2.out (by have := hn6'.out; omega)
  rw [hE] at hx
  clear hE
  go_wp2_with fail
  refine hx.mono ?_
  clear hx
  rintro e w3 ⟨rfl, hb⟩
  have hz := hb
  have B_3 := Below.on B_2 hz
  have T_3 := hide (T_2.out.below hz)
  have mx_3 := hide (mx_2.out.below hz)
  have r_3 := hide (r_2.out.below (isV_stays _) hz)
  have box_3 := cell_later hz box_2
  clear B_2 T_2 mx_2 r_2 box_2
  clear hz hb
  by_cases h0 : E = 0
  rotate_left
  · have hcb : (E != 0) = true := by rw [bne_iff_ne]; exact h0
    clear h0
    go_wp2
    go_ret
    exact ⟨rfl, B_3⟩
  subst h0
  have hE0 := hE'.out
  have hck := (aksE_zero.1 hE0).2.2
  have hfi := (chkV_zero.1 hck).1
  have hln : ln ≤ 1000000 := by have h1 := len_numW (N + 1) l; have h2 := hn6'.out; omega
  have hm1 := mode_none T
  have hmm := (aksE_zero.1 hE0).2.1
  have hE1 := hide (aks_mode hE0 hm1)
  have hE2 := hide (aks_of hE0 (pl_chkV hck))
  have hE3 := hide (aks_mode (aks_of hE0 (pl_chkV hck)) hm1)
  have hok := hide (okPV_all hck)
  obtain ⟨F, hF⟩ : ∃ F, inV T (-1) (N + 1) l = F := ⟨_, rfl⟩
  obtain ⟨G, hG⟩ : ∃ G, inV T m (N + 1) l = G := ⟨_, rfl⟩
  have hF1 := hide (fun i (_ : i < T.length) => congrFun hF i)
  have hF2 := hide (fun i (_ : i < T.length) => (pl_inV (T := T) (m := m) hfi i).trans (congrFun hF i))
  have hF3 := hide (fun i (_ : i < T.length) => (pl_inV (T := T) (m := -1) hfi i).trans (congrFun hF i))
  have hF4 := hide (fun i (_ : i < T.length) => congrFun hG i)
  have hFG := hide (fun (he : l = l.map (plV (N + 1))) => (show G = F from by
    funext i
    rw [← hF, ← hG, ← pl_inV (T := T) (m := m) hfi i, ← he]))
  have hon : Hid ((l.map (plV (N + 1))).length = ln) := by show _ = _; rw [List.length_map, hll]
  clear hE0 hck hfi hm1 hmm hF hG
  go_wp2_with fail
  refine (plainV_ok (N + 1) _ LA ln lc l _ r_3.out (Below.refl _ _) hk1 hk2 hln hok.out).mono ?_
  rintro e w4 ⟨OA, oc, rfl, hS, hc1, hc2, hb⟩
  have hz := hb
  have B_4 := Below.on B_3 hz
  have T_4 := hide (T_3.out.below hz)
  have mx_4 := hide (mx_3.out.below hz)
  have r_4 := hide (r_3.out.below (isV_stays _) hz)
  have box_4 := cell_later hz box_3
  clear B_3 T_3 mx_3 r_3 box_3
  clear hz hb
  have o_4 := hide hS.here
  clear hS
  go_wp2_with fail
  refine (mAllF T (-1) (N + 1) l F hE1.out hF1.out (num64 hE1.out) A n c LA ln lc _ T_4.out mx_4.out r_4.out).mono ?_
  rintro e w5 ⟨Xa, xa, rfl, i1, hb⟩
  have hz := hb
  have B_5 := Below.on B_4 hz
  have T_5 := hide (T_4.out.below hz)
  have mx_5 := hide (mx_4.out.below hz)
  have r_5 := hide (r_4.out.below (isV_stays _) hz)
  have box_5 := cell_later hz box_4
  have o_5 := hide (o_4.out.below (isV_stays _) hz)
  clear B_4 T_4 mx_4 r_4 box_4 o_4
  have a_5 := hide i1
  clear i1
  clear hz hb
  go_wp2_with fail
  refine (mAllF T m (N + 1) (l.map (plV (N + 1))) F hE2.out hF2.out (num64 hE2.out) A n c OA ln oc _ T_5.out mx_5.out o_5.out).mono ?_
  rintro e w6 ⟨Xb, xb, rfl, i1, hb⟩
  have hz := hb
  have B_6 := Below.on B_5 hz
  have T_6 := hide (T_5.out.below hz)
  have mx_6 := hide (mx_5.out.below hz)
  have r_6 := hide (r_5.out.below (isV_stays _) hz)
  have box_6 := cell_later hz box_5
  have o_6 := hide (o_5.out.below (isV_stays _) hz)
  have a_6 := hide (a_5.out.below hz)
  clear B_5 T_5 mx_5 r_5 box_5 o_5 a_5
  have b_6 := hide i1
  clear i1
  clear hz hb
  go_wp2_with fail
  refine (mAllF T (-1) (N + 1) (l.map (plV (N + 1))) F hE3.out hF3.out (num64 hE3.out) A n c OA ln oc _ T_6.out mx_6.out o_6.out).mono ?_
  rintro e w7 ⟨Xd, xd, rfl, i1, hb⟩
  have hz := hb
  have B_7 := Below.on B_6 hz
  have T_7 := hide (T_6.out.below hz)
  have mx_7 := hide (mx_6.out.below hz)
  have r_7 := hide (r_6.out.below (isV_stays _) hz)
  have box_7 := cell_later hz box_6
  have o_7 := hide (o_6.out.below (isV_stays _) hz)
  have a_7 := hide (a_6.out.below hz)
  have b_7 := hide (b_6.out.below hz)
  clear B_6 T_6 mx_6 r_6 box_6 o_6 a_6 b_6
  have d_7 := hide i1
  clear i1
  clear hz hb
  go_wp2_with fail
  refine (mAllF T m (N + 1) l G hE'.out hF4.out (num64 hE'.out) A n c LA ln lc _ T_7.out mx_7.out r_7.out).mono ?_
  rintro e w8 ⟨Xf, xf, rfl, i1, hb⟩
  have hz := hb
  have B_8 := Below.on B_7 hz
  have T_8 := hide (T_7.out.below hz)
  have mx_8 := hide (mx_7.out.below hz)
  have r_8 := hide (r_7.out.below (isV_stays _) hz)
  have box_8 := cell_later hz box_7
  have o_8 := hide (o_7.out.below (isV_stays _) hz)
  have a_8 := hide (a_7.out.below hz)
  have b_8 := hide (b_7.out.below hz)
  have d_8 := hide (d_7.out.below hz)
  clear B_7 T_7 mx_7 r_7 box_7 o_7 a_7 b_7 d_7
  have f_8 := hide i1
  clear i1
  clear hz hb
  clear T_8 mx_8
  go_wp2_with fail
  refine (sameBools_yes _ _ n n _ _ ((List.range n).map F) _ a_8.out b_8.out).mono ?_
  rintro e w9 ⟨rfl, hb⟩
  have hz := hb
  have B_9 := Below.on B_8 hz
  have r_9 := hide (r_8.out.below (isV_stays _) hz)
  have box_9 := cell_later hz box_8
  have o_9 := hide (o_8.out.below (isV_stays _) hz)
  have a_9 := hide (a_8.out.below hz)
  have b_9 := hide (b_8.out.below hz)
  have d_9 := hide (d_8.out.below hz)
  have f_9 := hide (f_8.out.below hz)
  clear B_8 r_8 box_8 o_8 a_8 b_8 d_8 f_8
  clear hz hb
  go_wp2_with fail
  refine (sameBools_yes _ _ n n _ _ ((List.range n).map F) _ a_9.out d_9.out).mono ?_
  rintro e w10 ⟨rfl, hb⟩
  have hz := hb
  have B_10 := Below.on B_9 hz
  have r_10 := hide (r_9.out.below (isV_stays _) hz)
  have box_10 := cell_later hz box_9
  have o_10 := hide (o_9.out.below (isV_stays _) hz)
  have a_10 := hide (a_9.out.below hz)
  have b_10 := hide (b_9.out.below hz)
  have d_10 := hide (d_9.out.below hz)
  have f_10 := hide (f_9.out.below hz)
  clear B_9 r_9 box_9 o_9 a_9 b_9 d_9 f_9
  clear hz hb
  go_wp2_with fail
  refine (rsameV_ok (N + 1) LA ln lc OA ln oc l (l.map (plV (N + 1))) _ r_10.out o_10.out).mono ?_
  rintro e w11 ⟨v, rfl, hv, hb⟩
  have hz := hb
  have B_11 := Below.on B_10 hz
  have r_11 := hide (r_10.out.below (isV_stays _) hz)
  have box_11 := cell_later hz box_10
  have o_11 := hide (o_10.out.below (isV_stays _) hz)
  have a_11 := hide (a_10.out.below hz)
  have b_11 := hide (b_10.out.below hz)
  have d_11 := hide (d_10.out.below hz)
  have f_11 := hide (f_10.out.below hz)
  clear B_10 r_10 box_10 o_10 a_10 b_10 d_10 f_10
  clear hz hb
  have hv' := hide hv
  clear hv
  cases v
  · go_wp2
    go_ret
    exact ⟨rfl, B_11⟩
  · have hGF := hFG.out (hv'.out rfl)
    have f2 := f_11.out
    rw [hGF] at f2
    have f3 := hide f2
    clear f2 hGF
    go_wp2_with fail
    refine (sameBools_yes _ _ n n _ _ ((List.range n).map F) _ a_11.out f3.out).mono ?_
    rintro e w12 ⟨rfl, hb⟩
    go_wp2
    go_ret
    exact ⟨rfl, Below.on B_11 hb⟩
set_option maxRecDepth 100000 in
theorem lifted (os : Os) (started : os.Started) (H : Type) (enc : TypeId × Value → H) :
    ReturnsInHanded {} Tryz.checked os 3 .any (Rows.matcherPlainSpec.pre6 enc Tryz.prog Tryz.f3 Rows.matcherPlainRow.domain false) (Rows.matcherPlainSpec.post enc Tryz.prog Tryz.f3 false true false false) := by
  refine returnsInHanded_of_change_shaped (C := Tryz.checked) own started (by kernel_rfl) Tryz.func3
    (ChangeSpec.witness6 (enc := enc) (C := Tryz.checked) false ⟨#[], #[.agg #[.slice none 0 0], .slice none 0 0, .int .i64 0], []⟩ 8 (by kernel_rfl) (by kernel_rfl) (by kernel_rfl) (by kernel_rfl)) ?_
  intro W base args ds gs before hval0 hW hcnd hsz hsh _
  have hval : ∀ (j : Nat) t v, Tryz.f3.params[j]? = some t → args[j]? = some v → Value.okWide Tryz.prog W .any base t v := hval0
  have hW' := hW
  obtain ⟨p, q, hA0, hV, rfl, hfz, hnd⟩ := hW
  have hA : DataW.TrodAll enc Tryz.prog W 0 (fun _ => true) true Tryz.f3.params.toList args.toList ds p := hA0
  rw [Tryz.params3] at hA hval hsz
  obtain ⟨v0, vs0, d0, ds0, p0, q0, hargs, rfl, rfl, h0, r0⟩ := trodAll_cons hA
  obtain ⟨v1, vs1, d1, ds1, p1, q1, rfl, rfl, rfl, h1, r1⟩ := trodAll_cons r0
  obtain ⟨v2, vs2, d2, ds2, p2, q2, rfl, rfl, rfl, h2, r2⟩ := trodAll_cons r1
  obtain ⟨rfl, rfl, rfl⟩ := trodAll_nil r2
  obtain rfl : args = #[v0, v1, v2] := by cases args; simp_all
  obtain ⟨rfl, rfl⟩ := trodVars_none hV
  have lt0 : ∀ x ∈ p0, x.block < W.heap.size := by obtain ⟨m, hm⟩ := h0; exact DataW.trod_lt m _ _ _ hm
  have k0 := h0
  have lt1 : ∀ x ∈ p1, x.block < W.heap.size := by obtain ⟨m, hm⟩ := h1; exact DataW.trod_lt m _ _ _ hm
  have k1 := h1
  have lt2 : ∀ x ∈ p2, x.block < W.heap.size := by obtain ⟨m, hm⟩ := h2; exact DataW.trod_lt m _ _ _ hm
  have k2 := h2
  obtain ⟨A0, n0, c0, T0, rfl, hT0⟩ := tree_open (hval 0 _ v0 rfl rfl) h0
  obtain ⟨A1, n1, c1, N1, l1, rfl, hk1a, hk1b, hR1, hz1⟩ := sels_open (hval 1 _ v1 rfl rfl) h1 (weight_le hsz (j := 1) rfl rfl)
  obtain ⟨a2, rfl, rfl, rfl, w2⟩ := open_int Tryz.underlying3 (hval 2 _ v2 rfl rfl) h2
  clear hA0 hval0
  refine (walk A0 n0 c0 T0 A1 n1 c1 N1 l1 a2 W hT0 hR1 hz1 hk1a hk1b  (hasMax_of hsh)).mono fun e W' ⟨he, bel⟩ => ?_
  subst he
  exact ⟨_, rfl, _, _, _, [], _, [], hW', trodAll_mk1 (shut_bool Tryz.underlying4 _), (trodAll_cons_mk (Below.trod laidOut (by kernel_rfl) (of_decide_eq_true (by kernel_rfl)) k0 bel lt0) (trodAll_cons_mk (Below.trod laidOut (by kernel_rfl) (of_decide_eq_true (by kernel_rfl)) k1 bel lt1) (trodAll_cons_mk (Below.trod laidOut (by kernel_rfl) (of_decide_eq_true (by kernel_rfl)) k2 bel lt2) trodAll_mk0))), rfl, bel.frame _, fun h => by cases h⟩

theorem proved : Rows.MatcherPlainSaid :=
  OpenClaim.holds_of_wide 3 Tryz.f3 rfl rfl rfl rfl rfl rfl rfl ⟨rfl, rfl, rfl, rfl, rfl⟩ rfl rfl rfl rfl rfl (by kernel_rfl) Tryz.func3 (by kernel_rfl)
    (of_decide_eq_true (by kernel_rfl)) (by unfold Func.isWrapper; first | (rw [if_pos (by decide +kernel)]; kernel_rfl) | (rw [if_neg (by decide +kernel)]; exact ⟨rfl, rfl⟩))
    (fun os started H enc _ => lifted os started H enc)
#print axioms proved
end Go.Proofs.YtljloicgjgbplaaGreat.matcherPlain
