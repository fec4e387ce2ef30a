/- For every tree and all numbers, Append, Before and Take return what the reference returns and leave the tree as it is, unless the tree is greater than the statement considers. No condition. -/
import Derived.Test.YtkimjpcmcfnmkaaOpen
import Derived.Test.YtkimjpcmcfnmkaaMuh
import Derived.Test.YtkimjpcmcfnmkaaWl
namespace Go.Proofs.Ytkimjpcmcfnmkaa.mutateDoes
open Go.ChangeShapes Go.WideShapes Go.ChangeAt Go.RowKit

set_option maxRecDepth 100000 in
set_option maxHeartbeats 4000000 in
theorem walk (A : Option Addr) (n c : Nat) (T : List ANode) (i k : Int) (w : World) (h : IsTree w A n T) :
    Calls Try.prog 4 #[.agg #[.slice A n c], .int .i64 i, .int .i64 k] w fun e w' => e = .returned (.bool true) ∧ Below w.heap.size w w' := by
  have hT := hide h
  have hl := h.1
  clear h
  have hB0 := below_alloc (Below.refl w.heap.size w) (.cells #[.slice A n c] 24)
  have hbox0 : (w.alloc (.cells #[.slice A n c] 24)).cell? ⟨w.heap.size, 0, none⟩ = some (.slice A n c) := by go_simp
  cases hsm : smallTB T
  · go_enter Try.func4, Try.ntmps4
    go_wp2_with fail
    refine (great_ok _ _ _ T _ (hT.out.below hB0)).mono ?_
    rintro e w1 ⟨rfl, hb1⟩
    have hbox1 := cell_later hb1 hbox0
    have hB1 := Below.on hB0 hb1
    go_wp2
    go_ret
    exact ⟨rfl, hB1⟩
  · obtain ⟨hn70, hfit⟩ := smallT_bounds hsm
    have hfit' := hide hfit
    have hn70' : n ≤ 70 := by omega
    obtain ⟨X, hX0⟩ : ∃ X, appT T i k = X := ⟨_, rfl⟩
    obtain ⟨Y, hY0⟩ : ∃ Y, befT T i k = Y := ⟨_, rfl⟩
    obtain ⟨Z, hZ0⟩ : ∃ Z, takeT T i = Z := ⟨_, rfl⟩
    obtain ⟨p, hp⟩ : ∃ p, X.length = p := ⟨_, rfl⟩
    obtain ⟨q, hq⟩ : ∃ q, Y.length = q := ⟨_, rfl⟩
    obtain ⟨r, hr⟩ : ∃ r, Z.length = r := ⟨_, rfl⟩
    have hX := hide hX0
    have hY := hide hY0
    have hZ := hide hZ0
    have hp' := hide hp
    have hq' := hide hq
    have hr' := hide hr
    clear hfit hX0 hY0 hZ0 hp hq hr
    go_enter Try.func4, Try.ntmps4
    go_wp2_with fail
    refine (great_ok _ _ _ T _ (hT.out.below hB0)).mono ?_
    rintro e w1 ⟨rfl, hb1⟩
    have hbox1 := cell_later hb1 hbox0
    have hB1 := Below.on hB0 hb1
    go_wp2_with fail
    refine (twin_ok _ _ _ T _ (hT.out.below hB1) hn70' hfit'.out).mono ?_
    rintro e w2 ⟨A2, c2, rfl, -, hR, hb2⟩
    have hz2 := below_alloc hb2 (.cells #[.slice A2 n c2] 24)
    have hbox2 := cell_later hz2 hbox1
    have hB2 := Below.on hB1 hz2
    have b_own2 : (w2.alloc (.cells #[.slice A2 n c2] 24)).cell? ⟨w2.heap.size, 0, none⟩ = some (.slice A2 n c2) := by clear hbox2; go_simp
    have t_own2 := hide (hR.below (below_alloc (Below.refl _ _) (.cells #[.slice A2 n c2] 24)))
    clear hz2 hbox1 hB1 hR hb2
    go_wp2_with fail
    have hx := append_ok _ _ c2 T i k _ t_own2.out
    rw [hX.out] at hx
    refine hx.mono ?_
    clear hx
    rintro e w3 ⟨A3, c3, rfl, -, hR, hb3⟩
    rw [hp'.out] at hR ⊢
    have hz3 := below_alloc hb3 (.cells #[.slice A3 p c3] 24)
    have hbox3 := cell_later hz3 hbox2
    have hB3 := Below.on hB2 hz3
    have b_own3 := cell_later hz3 b_own2
    have t_own3 := hide (t_own2.out.below hz3)
    have b_a3 : (w3.alloc (.cells #[.slice A3 p c3] 24)).cell? ⟨w3.heap.size, 0, none⟩ = some (.slice A3 p c3) := by clear hbox3 b_own3; go_simp
    have t_a3 := hide (hR.below (below_alloc (Below.refl _ _) (.cells #[.slice A3 p c3] 24)))
    clear hz3 hbox2 hB2 b_own2 t_own2 hR hb3
    go_wp2_with fail
    have hx := rappend_ok _ _ c T i k _ (hT.out.below hB3)
    rw [hX.out] at hx
    refine hx.mono ?_
    clear hx
    rintro e w4 ⟨A4, c4, rfl, -, hR, hb4⟩
    rw [hp'.out] at hR ⊢
    have hz4 := below_alloc hb4 (.cells #[.slice A4 p c4] 24)
    have hbox4 := cell_later hz4 hbox3
    have hB4 := Below.on hB3 hz4
    have b_own4 := cell_later hz4 b_own3
    have t_own4 := hide (t_own3.out.below hz4)
    have b_a4 := cell_later hz4 b_a3
    have t_a4 := hide (t_a3.out.below hz4)
    have b_b4 : (w4.alloc (.cells #[.slice A4 p c4] 24)).cell? ⟨w4.heap.size, 0, none⟩ = some (.slice A4 p c4) := by clear hbox4 b_own4 b_a4; go_simp
    have t_b4 := hide (hR.below (below_alloc (Below.refl _ _) (.cells #[.slice A4 p c4] 24)))
    clear hz4 hbox3 hB3 b_own3 t_own3 b_a3 t_a3 hR hb4
    go_wp2_with fail
    have hx := before_ok _ _ c2 T i k _ t_own4.out
    rw [hY.out] at hx
    refine hx.mono ?_
    clear hx
    rintro e w5 ⟨A5, c5, rfl, -, hR, hb5⟩
    rw [hq'.out] at hR ⊢
    have hz5 := below_alloc hb5 (.cells #[.slice A5 q c5] 24)
    have hbox5 := cell_later hz5 hbox4
    have hB5 := Below.on hB4 hz5
    have b_own5 := cell_later hz5 b_own4
    have t_own5 := hide (t_own4.out.below hz5)
    have b_a5 := cell_later hz5 b_a4
    have t_a5 := hide (t_a4.out.below hz5)
    have b_b5 := cell_later hz5 b_b4
    have t_b5 := hide (t_b4.out.below hz5)
    have b_c5 : (w5.alloc (.cells #[.slice A5 q c5] 24)).cell? ⟨w5.heap.size, 0, none⟩ = some (.slice A5 q c5) := by clear hbox5 b_own5 b_a5 b_b5; go_simp
    have t_c5 := hide (hR.below (below_alloc (Below.refl _ _) (.cells #[.slice A5 q c5] 24)))
    clear hz5 hbox4 hB4 b_own4 t_own4 b_a4 t_a4 b_b4 t_b4 hR hb5
    go_wp2_with fail
    have hx := rbefore_ok _ _ c T i k _ (hT.out.below hB5)
    rw [hY.out] at hx
    refine hx.mono ?_
    clear hx
    rintro e w6 ⟨A6, c6, rfl, -, hR, hb6⟩
    rw [hq'.out] at hR ⊢
    have hz6 := below_alloc hb6 (.cells #[.slice A6 q c6] 24)
    have hbox6 := cell_later hz6 hbox5
    have hB6 := Below.on hB5 hz6
    have b_own6 := cell_later hz6 b_own5
    have t_own6 := hide (t_own5.out.below hz6)
    have b_a6 := cell_later hz6 b_a5
    have t_a6 := hide (t_a5.out.below hz6)
    have b_b6 := cell_later hz6 b_b5
    have t_b6 := hide (t_b5.out.below hz6)
    have b_c6 := cell_later hz6 b_c5
    have t_c6 := hide (t_c5.out.below hz6)
    have b_d6 : (w6.alloc (.cells #[.slice A6 q c6] 24)).cell? ⟨w6.heap.size, 0, none⟩ = some (.slice A6 q c6) := by clear hbox6 b_own6 b_a6 b_b6 b_c6; go_simp
    have t_d6 := hide (hR.below (below_alloc (Below.refl _ _) (.cells #[.slice A6 q c6] 24)))
    clear hz6 hbox5 hB5 b_own5 t_own5 b_a5 t_a5 b_b5 t_b5 b_c5 t_c5 hR hb6
    go_wp2_with fail
    have hx := take_ok _ _ c2 T i _ t_own6.out
    rw [hZ.out] at hx
    refine hx.mono ?_
    clear hx
    rintro e w7 ⟨A7, c7, rfl, -, hR, hb7⟩
    rw [hr'.out] at hR ⊢
    have hz7 := below_alloc hb7 (.cells #[.slice A7 r c7] 24)
    have hbox7 := cell_later hz7 hbox6
    have hB7 := Below.on hB6 hz7
    have b_own7 := cell_later hz7 b_own6
    have t_own7 := hide (t_own6.out.below hz7)
    have b_a7 := cell_later hz7 b_a6
    have t_a7 := hide (t_a6.out.below hz7)
    have b_b7 := cell_later hz7 b_b6
    have t_b7 := hide (t_b6.out.below hz7)
    have b_c7 := cell_later hz7 b_c6
    have t_c7 := hide (t_c6.out.below hz7)
    have b_d7 := cell_later hz7 b_d6
    have t_d7 := hide (t_d6.out.below hz7)
    have b_x7 : (w7.alloc (.cells #[.slice A7 r c7] 24)).cell? ⟨w7.heap.size, 0, none⟩ = some (.slice A7 r c7) := by clear hbox7 b_own7 b_a7 b_b7 b_c7 b_d7; go_simp
    have t_x7 := hide (hR.below (below_alloc (Below.refl _ _) (.cells #[.slice A7 r c7] 24)))
    clear hz7 hbox6 hB6 b_own6 t_own6 b_a6 t_a6 b_b6 t_b6 b_c6 t_c6 b_d6 t_d6 hR hb7
    go_wp2_with fail
    have hx := rtake_ok _ _ c T i _ (hT.out.below hB7)
    rw [hZ.out] at hx
    refine hx.mono ?_
    clear hx
    rintro e w8 ⟨A8, c8, rfl, -, hR, hb8⟩
    rw [hr'.out] at hR ⊢
    have hz8 := below_alloc hb8 (.cells #[.slice A8 r c8] 24)
    have hbox8 := cell_later hz8 hbox7
    have hB8 := Below.on hB7 hz8
    have b_own8 := cell_later hz8 b_own7
    have t_own8 := hide (t_own7.out.below hz8)
    have b_a8 := cell_later hz8 b_a7
    have t_a8 := hide (t_a7.out.below hz8)
    have b_b8 := cell_later hz8 b_b7
    have t_b8 := hide (t_b7.out.below hz8)
    have b_c8 := cell_later hz8 b_c7
    have t_c8 := hide (t_c7.out.below hz8)
    have b_d8 := cell_later hz8 b_d7
    have t_d8 := hide (t_d7.out.below hz8)
    have b_x8 := cell_later hz8 b_x7
    have t_x8 := hide (t_x7.out.below hz8)
    have b_y8 : (w8.alloc (.cells #[.slice A8 r c8] 24)).cell? ⟨w8.heap.size, 0, none⟩ = some (.slice A8 r c8) := by clear hbox8 b_own8 b_a8 b_b8 b_c8 b_d8 b_x8; go_simp
    have t_y8 := hide (hR.below (below_alloc (Below.refl _ _) (.cells #[.slice A8 r c8] 24)))
    clear hz8 hbox7 hB7 b_own7 t_own7 b_a7 t_a7 b_b7 t_b7 b_c7 t_c7 b_d7 t_d7 b_x7 t_x7 hR hb8
    go_wp2_with fail
    refine (same_ok _ _ _ _ _ X _ t_a8.out t_b8.out).mono ?_
    rintro e w9 ⟨rfl, hz9⟩
    have hbox9 := cell_later hz9 hbox8
    have hB9 := Below.on hB8 hz9
    have b_own9 := cell_later hz9 b_own8
    have t_own9 := hide (t_own8.out.below hz9)
    have b_a9 := cell_later hz9 b_a8
    have t_a9 := hide (t_a8.out.below hz9)
    have b_b9 := cell_later hz9 b_b8
    have t_b9 := hide (t_b8.out.below hz9)
    have b_c9 := cell_later hz9 b_c8
    have t_c9 := hide (t_c8.out.below hz9)
    have b_d9 := cell_later hz9 b_d8
    have t_d9 := hide (t_d8.out.below hz9)
    have b_x9 := cell_later hz9 b_x8
    have t_x9 := hide (t_x8.out.below hz9)
    have b_y9 := cell_later hz9 b_y8
    have t_y9 := hide (t_y8.out.below hz9)
    clear hz9 hbox8 hB8 b_own8 t_own8 b_a8 t_a8 b_b8 t_b8 b_c8 t_c8 b_d8 t_d8 b_x8 t_x8 b_y8 t_y8
    go_wp2_with fail
    refine (same_ok _ _ _ _ _ Y _ t_c9.out t_d9.out).mono ?_
    rintro e w10 ⟨rfl, hz10⟩
    have hbox10 := cell_later hz10 hbox9
    have hB10 := Below.on hB9 hz10
    have b_own10 := cell_later hz10 b_own9
    have t_own10 := hide (t_own9.out.below hz10)
    have b_a10 := cell_later hz10 b_a9
    have t_a10 := hide (t_a9.out.below hz10)
    have b_b10 := cell_later hz10 b_b9
    have t_b10 := hide (t_b9.out.below hz10)
    have b_c10 := cell_later hz10 b_c9
    have t_c10 := hide (t_c9.out.below hz10)
    have b_d10 := cell_later hz10 b_d9
    have t_d10 := hide (t_d9.out.below hz10)
    have b_x10 := cell_later hz10 b_x9
    have t_x10 := hide (t_x9.out.below hz10)
    have b_y10 := cell_later hz10 b_y9
    have t_y10 := hide (t_y9.out.below hz10)
    clear hz10 hbox9 hB9 b_own9 t_own9 b_a9 t_a9 b_b9 t_b9 b_c9 t_c9 b_d9 t_d9 b_x9 t_x9 b_y9 t_y9
    go_wp2_with fail
    refine (same_ok _ _ _ _ _ Z _ t_x10.out t_y10.out).mono ?_
    rintro e w11 ⟨rfl, hz11⟩
    have hbox11 := cell_later hz11 hbox10
    have hB11 := Below.on hB10 hz11
    have b_own11 := cell_later hz11 b_own10
    have t_own11 := hide (t_own10.out.below hz11)
    have b_a11 := cell_later hz11 b_a10
    have t_a11 := hide (t_a10.out.below hz11)
    have b_b11 := cell_later hz11 b_b10
    have t_b11 := hide (t_b10.out.below hz11)
    have b_c11 := cell_later hz11 b_c10
    have t_c11 := hide (t_c10.out.below hz11)
    have b_d11 := cell_later hz11 b_d10
    have t_d11 := hide (t_d10.out.below hz11)
    have b_x11 := cell_later hz11 b_x10
    have t_x11 := hide (t_x10.out.below hz11)
    have b_y11 := cell_later hz11 b_y10
    have t_y11 := hide (t_y10.out.below hz11)
    clear hz11 hbox10 hB10 b_own10 t_own10 b_a10 t_a10 b_b10 t_b10 b_c10 t_c10 b_d10 t_d10 b_x10 t_x10 b_y10 t_y10
    go_wp2_with fail
    refine (same_ok _ _ _ _ _ T _ t_own11.out (hT.out.below hB11)).mono ?_
    rintro e w12 ⟨rfl, hz12⟩
    have hbox12 := cell_later hz12 hbox11
    have hB12 := Below.on hB11 hz12
    have b_own12 := cell_later hz12 b_own11
    have t_own12 := hide (t_own11.out.below hz12)
    have b_a12 := cell_later hz12 b_a11
    have t_a12 := hide (t_a11.out.below hz12)
    have b_b12 := cell_later hz12 b_b11
    have t_b12 := hide (t_b11.out.below hz12)
    have b_c12 := cell_later hz12 b_c11
    have t_c12 := hide (t_c11.out.below hz12)
    have b_d12 := cell_later hz12 b_d11
    have t_d12 := hide (t_d11.out.below hz12)
    have b_x12 := cell_later hz12 b_x11
    have t_x12 := hide (t_x11.out.below hz12)
    have b_y12 := cell_later hz12 b_y11
    have t_y12 := hide (t_y11.out.below hz12)
    clear hz12 hbox11 hB11 b_own11 t_own11 b_a11 t_a11 b_b11 t_b11 b_c11 t_c11 b_d11 t_d11 b_x11 t_x11 b_y11 t_y11
    go_wp2
    go_ret
    exact ⟨rfl, hB12⟩

set_option maxRecDepth 100000 in
theorem lifted (os : Os) (started : os.Started) (H : Type) (enc : TypeId × Value → H) :
    ReturnsInHanded {} Try.checked os 4 .any (Rows.mutateDoesSpec.pre6 enc Try.prog Try.f4 Rows.mutateDoesRow.domain false) (Rows.mutateDoesSpec.post enc Try.prog Try.f4 false true false false) := by
  refine returnsInHanded_of_change (C := Try.checked) own started (by kernel_rfl) Try.func4
    (ChangeSpec.witness6 (enc := enc) (C := Try.checked) false ⟨#[], #[.agg #[.slice none 0 0], .int .i64 0, .int .i64 0], []⟩ 8 (by kernel_rfl) (by kernel_rfl) (by kernel_rfl) (by kernel_rfl)) ?_
  intro W base args ds gs before hval0 hW hcnd _
  have hval : ∀ (j : Nat) t v, Try.f4.params[j]? = some t → args[j]? = some v → Value.okWide Try.prog W .any base t v := hval0
  have hW' := hW
  obtain ⟨p, q, hA0, hV, rfl, hfz, hnd⟩ := hW
  have hA : DataW.TrodAll enc Try.prog W 0 (fun _ => true) true Try.f4.params.toList args.toList ds p := hA0
  rw [Try.params4] at hA hval
  obtain ⟨v0, vs0, d0, ds0, p0, q0, hargs, rfl, rfl, h0, r0⟩ := trodAll_cons hA
  obtain ⟨v1, vs1, d1, ds1, p1, q1, rfl, rfl, rfl, h1, r1⟩ := trodAll_cons r0
  obtain ⟨v2, vs2, d2, ds2, p2, q2, rfl, rfl, rfl, h2, r2⟩ := trodAll_cons r1
  obtain ⟨rfl, rfl, rfl⟩ := trodAll_nil r2
  obtain rfl : args = #[v0, v1, v2] := by cases args; simp_all
  obtain ⟨rfl, rfl⟩ := trodVars_none hV
  have lt0 : ∀ x ∈ p0, x.block < W.heap.size := by obtain ⟨m, hm⟩ := h0; exact DataW.trod_lt m _ _ _ hm
  have k0 := h0
  have lt1 : ∀ x ∈ p1, x.block < W.heap.size := by obtain ⟨m, hm⟩ := h1; exact DataW.trod_lt m _ _ _ hm
  have k1 := h1
  have lt2 : ∀ x ∈ p2, x.block < W.heap.size := by obtain ⟨m, hm⟩ := h2; exact DataW.trod_lt m _ _ _ hm
  have k2 := h2
  obtain ⟨A0, n0, c0, T0, rfl, hT0⟩ := tree_open (hval 0 _ v0 rfl rfl) h0
  obtain ⟨a1, rfl, rfl, rfl, w1⟩ := open_int Try.underlying3 (hval 1 _ v1 rfl rfl) h1
  obtain ⟨a2, rfl, rfl, rfl, w2⟩ := open_int Try.underlying3 (hval 2 _ v2 rfl rfl) h2
  clear hA0 hval0
  refine (walk A0 n0 c0 T0 a1 a2 W hT0  ).mono fun e W' ⟨he, bel⟩ => ?_
  subst he
  exact ⟨_, rfl, _, _, _, [], _, [], hW', trodAll_mk1 (shut_bool Try.underlying4 _), (trodAll_cons_mk (Below.trod laidOut (by kernel_rfl) (of_decide_eq_true (by kernel_rfl)) k0 bel lt0) (trodAll_cons_mk (Below.trod laidOut (by kernel_rfl) (of_decide_eq_true (by kernel_rfl)) k1 bel lt1) (trodAll_cons_mk (Below.trod laidOut (by kernel_rfl) (of_decide_eq_true (by kernel_rfl)) k2 bel lt2) trodAll_mk0))), rfl, bel.frame _, fun h => by cases h⟩

theorem proved : Rows.MutateDoesSaid :=
  OpenClaim.holds_of_wide 4 Try.f4 rfl rfl rfl rfl rfl rfl rfl ⟨rfl, rfl, rfl, rfl, rfl⟩ rfl rfl rfl rfl rfl (by kernel_rfl) Try.func4 (by kernel_rfl)
    (of_decide_eq_true (by kernel_rfl)) (by unfold Func.isWrapper; first | (rw [if_pos (by decide +kernel)]; kernel_rfl) | (rw [if_neg (by decide +kernel)]; exact ⟨rfl, rfl⟩))
    (fun os started H enc _ => lifted os started H enc)
#print axioms proved
end Go.Proofs.Ytkimjpcmcfnmkaa.mutateDoes
