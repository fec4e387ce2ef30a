/- The errors of counted places, tops, and the ends of progressions. No condition. -/
import Derived.Test.YtankambfobfnfaaOpenb
import Derived.Test.YtankambfobfnfaaNh
import Derived.Deep.RegionHeld3
namespace Go.Proofs.Ytankambfobfnfaa.nthNames
open Go.ChangeShapes Go.WideShapes Go.ChangeAt Go.RowKit

theorem isTree_nil (w : World) : IsTree w none 0 [] := ⟨rfl, by omega, fun x hx => by simp at hx, fun h => absurd h (by omega)⟩
theorem isBools_nil (w : World) : IsBools w none 0 [] := ⟨rfl, by omega, fun h => absurd h (by omega)⟩
theorem isBools_take {w : World} {A : Option Addr} {n m : Nat} {xs ys : List Bool} (h : IsBools w A n xs) (hm : m ≤ n) (he : xs.take m = ys) : IsBools w A m ys := by
  subst he
  have hl := h.1
  refine ⟨by rw [List.length_take]; omega, by have := h.2.1; omega, fun h0 => ?_⟩
  obtain ⟨b, off, hA, hb, hc⟩ := h.2.2 (by omega)
  refine ⟨b, off, hA, hb, fun j hj => ?_⟩
  rw [hc j (by omega)]
  simp [bx, hj]

theorem made_false (W : World) (n : Nat) (hn : n ≤ 1000) : IsBools (W.alloc (.cells (madeCells #[.bool false] n) 4)) (some ⟨W.heap.size, 0, none⟩) n ((List.range n).map fun _ => false) := by
  refine ⟨by simp, by omega, fun _ => ⟨W.heap.size, 0, rfl, by simp, fun j hj => ?_⟩⟩
  rw [Nat.zero_add, (World.rowIs_made W (.bool false) n 4).cell hj, bx_map hj]


set_option maxRecDepth 100000 in
set_option maxHeartbeats 10000000 in
theorem walk (w : World) :
    Calls Try.prog 11 #[] w fun e w' => e = .returned (.bool true) ∧ Below w.heap.size w w' := by
  have hmk : ∀ W : World, (Instr.makeSlice 52 (.int .i64 5) (.int .i64 5)).run Try.prog W = .ok (.slice (some ⟨W.heap.size, 0, none⟩) 5 5) (W.alloc (.cells (madeCells #[.bool false] 5) 4)) := mk_bools 5 (by omega)
  go_enter Try.func11, Try.ntmps11
  go_wp2_with fail
  refine (example20_ok _).mono ?_
  rintro e w1 ⟨A, AB, c, rfl, hT0, hL0, hb1⟩
  have hW := below_alloc (below_alloc (below_alloc hb1 (.cells #[.slice A 5 c] 24)) (.cells #[.int .i64 1000000001, .int .i64 0] 57)) (.cells #[.int .i64 0, .int .i64 1] 57)
  have hUp := below_alloc (below_alloc (below_alloc (Below.refl w1.heap.size w1) (.cells #[.slice A 5 c] 24)) (.cells #[.int .i64 1000000001, .int .i64 0] 57)) (.cells #[.int .i64 0, .int .i64 1] 57)
  have hT := hT0.below hUp
  have hL := hL0.below hUp
  have hbox1 : (((w1.alloc (.cells #[.slice A 5 c] 24)).alloc (.cells #[.int .i64 1000000001, .int .i64 0] 57)).alloc (.cells #[.int .i64 0, .int .i64 1] 57)).cell? ⟨w1.heap.size, 0, none⟩ = some (.slice A 5 c) := by go_simp
  have hp1 : (((w1.alloc (.cells #[.slice A 5 c] 24)).alloc (.cells #[.int .i64 1000000001, .int .i64 0] 57)).alloc (.cells #[.int .i64 0, .int .i64 1] 57)).cell? ⟨w1.heap.size + 1, 0, none⟩ = some (.int .i64 1000000001) := by go_simp
  have hq1 : (((w1.alloc (.cells #[.slice A 5 c] 24)).alloc (.cells #[.int .i64 1000000001, .int .i64 0] 57)).alloc (.cells #[.int .i64 0, .int .i64 1] 57)).cell? ⟨w1.heap.size + 1, 1, none⟩ = some (.int .i64 0) := by go_simp
  have hr1 : (((w1.alloc (.cells #[.slice A 5 c] 24)).alloc (.cells #[.int .i64 1000000001, .int .i64 0] 57)).alloc (.cells #[.int .i64 0, .int .i64 1] 57)).cell? ⟨w1.heap.size + 1 + 1, 0, none⟩ = some (.int .i64 0) := by go_simp
  have hs1 : (((w1.alloc (.cells #[.slice A 5 c] 24)).alloc (.cells #[.int .i64 1000000001, .int .i64 0] 57)).alloc (.cells #[.int .i64 0, .int .i64 1] 57)).cell? ⟨w1.heap.size + 1 + 1, 1, none⟩ = some (.int .i64 1) := by go_simp
  have hB1 := Below.refl (((w1.alloc (.cells #[.slice A 5 c] 24)).alloc (.cells #[.int .i64 1000000001, .int .i64 0] 57)).alloc (.cells #[.int .i64 0, .int .i64 1] 57)).heap.size (((w1.alloc (.cells #[.slice A 5 c] 24)).alloc (.cells #[.int .i64 1000000001, .int .i64 0] 57)).alloc (.cells #[.int .i64 0, .int .i64 1] 57))
  have hL4 := isBools_take (m := 4) (ys := [true, true, false, true]) hL (by omega) rfl
  have hTn := isTree_nil (((w1.alloc (.cells #[.slice A 5 c] 24)).alloc (.cells #[.int .i64 1000000001, .int .i64 0] 57)).alloc (.cells #[.int .i64 0, .int .i64 1] 57))
  have hLn := isBools_nil (((w1.alloc (.cells #[.slice A 5 c] 24)).alloc (.cells #[.int .i64 1000000001, .int .i64 0] 57)).alloc (.cells #[.int .i64 0, .int .i64 1] 57))
  have hT' := hide hT
  have hL' := hide hL
  have hL4' := hide hL4
  have hTn' := hide hTn
  have hLn' := hide hLn
  have hW' := hide hW
  clear hT hL hL4 hTn hLn hT0 hL0 hb1 hUp hW
  go_wp2_with fail
  refine (nplace_at [] [] (-1) 0 8 false (by kernel_rfl) (by kernel_rfl) _ _ _ _ _ _ _ (hTn'.out.below hB1) (hLn'.out.below hB1)).mono ?_
  rintro e w2 ⟨rfl, hb2⟩
  have hB2 := Below.on hB1 hb2
  have hbox2 := cell_later hb2 hbox1
  have hp2 := cell_later hb2 hp1
  have hq2 := cell_later hb2 hq1
  have hr2 := cell_later hb2 hr1
  have hs2 := cell_later hb2 hs1
  clear hbox1 hp1 hq1 hr1 hs1
  go_wp2_with fail
  refine (nmatch_at [] [] (-1) 1000000001 0 false 8 false 0 (by kernel_rfl) (by kernel_rfl) _ _ _ _ _ _ (hTn'.out.below hB2) (hLn'.out.below hB2)).mono ?_
  rintro e w3 ⟨rfl, hb3⟩
  have hB3 := Below.on hB2 hb3
  have hbox3 := cell_later hb3 hbox2
  have hp3 := cell_later hb3 hp2
  have hq3 := cell_later hb3 hq2
  have hr3 := cell_later hb3 hr2
  have hs3 := cell_later hb3 hs2
  clear hbox2 hp2 hq2 hr2 hs2
  go_wp2_with fail
  refine (nall_at [] [] 1000000001 0 [] 8 false 0 (by kernel_rfl) (by kernel_rfl) _ _ _ _ _ _ (hTn'.out.below hB3) (hLn'.out.below hB3)).mono ?_
  rintro e w4 ⟨A4, c4, rfl, hI4, hb4⟩
  have hI4' := hide hI4
  clear hI4
  have hB4 := Below.on hB3 hb4
  have hbox4 := cell_later hb4 hbox3
  have hp4 := cell_later hb4 hp3
  have hq4 := cell_later hb4 hq3
  have hr4 := cell_later hb4 hr3
  have hs4 := cell_later hb4 hs3
  clear hbox3 hp3 hq3 hr3 hs3
  go_wp2_with fail
  refine (nplace_at ex20T ex20B 5 0 2 false (by kernel_rfl) (by kernel_rfl) _ _ _ _ _ _ _ (hT'.out.below hB4) (hL'.out.below hB4)).mono ?_
  rintro e w5 ⟨rfl, hb5⟩
  have hB5 := Below.on hB4 hb5
  have hbox5 := cell_later hb5 hbox4
  have hp5 := cell_later hb5 hp4
  have hq5 := cell_later hb5 hq4
  have hr5 := cell_later hb5 hr4
  have hs5 := cell_later hb5 hs4
  clear hbox4 hp4 hq4 hr4 hs4
  go_wp2_with fail
  refine (nmatch_at ex20T ex20B (-1) 1000000001 0 false 2 false 5 (by kernel_rfl) (by kernel_rfl) _ _ _ _ _ _ (hT'.out.below hB5) (hL'.out.below hB5)).mono ?_
  rintro e w6 ⟨rfl, hb6⟩
  have hB6 := Below.on hB5 hb6
  have hbox6 := cell_later hb6 hbox5
  have hp6 := cell_later hb6 hp5
  have hq6 := cell_later hb6 hq5
  have hr6 := cell_later hb6 hr5
  have hs6 := cell_later hb6 hs5
  clear hbox5 hp5 hq5 hr5 hs5
  go_wp2
  go_region_held3 (fun X => X.cell? ⟨w1.heap.size, 0, none⟩ = some (.slice A 5 c) ∧ X.cell? ⟨w1.heap.size + 1, 0, none⟩ = some (.int .i64 1000000001) ∧ X.cell? ⟨w1.heap.size + 1, 1, none⟩ = some (.int .i64 0)) (first | exact ⟨hbox6, hp6, hq6⟩ | exact ⟨r0, r1, r2⟩) (first | (go_at_call 38; refine (nplace_at ex20T [true, true, false, true] 0 0 2 false (by kernel_rfl) (by kernel_rfl) _ _ _ _ _ _ _ ?_ ?_).mono ?_; (exact hT'.out.below hB6.drew); (exact hL4'.out.below hB6.drew); rintro e w7 ⟨rfl, hb7⟩; have r0 := cell_later hb7 hbox6; have r1 := cell_later hb7 hp6; have r2 := cell_later hb7 hq6))
  clear r0 r1 r2
  have hB7 := Below.on hB6.drew hb7
  have hbox7 := cell_later hb7 hbox6
  have hp7 := cell_later hb7 hp6
  have hq7 := cell_later hb7 hq6
  have hr7 := cell_later hb7 hr6
  have hs7 := cell_later hb7 hs6
  clear hb7 hbox6 hp6 hq6 hr6 hs6
  go_wp2
  go_region_held3 (fun X => X.cell? ⟨w1.heap.size, 0, none⟩ = some (.slice A 5 c) ∧ X.cell? ⟨w1.heap.size + 1, 0, none⟩ = some (.int .i64 1000000001) ∧ X.cell? ⟨w1.heap.size + 1, 1, none⟩ = some (.int .i64 0)) (first | exact ⟨hbox7, hp7, hq7⟩ | exact ⟨r0, r1, r2⟩) (first | (go_at_call 40; refine (nmatch_at ex20T [true, true, false, true] 0 1000000001 0 false 2 false 4 (by kernel_rfl) (by kernel_rfl) _ _ _ _ _ _ ?_ ?_).mono ?_; (exact hT'.out.below hB7.drew); (exact hL4'.out.below hB7.drew); rintro e w8 ⟨rfl, hb8⟩; have r0 := cell_later hb8 hbox7; have r1 := cell_later hb8 hp7; have r2 := cell_later hb8 hq7))
  clear r0 r1 r2
  have hB8 := Below.on hB7.drew hb8
  have hbox8 := cell_later hb8 hbox7
  have hp8 := cell_later hb8 hp7
  have hq8 := cell_later hb8 hq7
  have hr8 := cell_later hb8 hr7
  have hs8 := cell_later hb8 hs7
  clear hb8 hbox7 hp7 hq7 hr7 hs7
  go_wp2
  go_region_held3 (fun X => X.cell? ⟨w1.heap.size, 0, none⟩ = some (.slice A 5 c) ∧ X.cell? ⟨w1.heap.size + 1, 0, none⟩ = some (.int .i64 1000000001) ∧ X.cell? ⟨w1.heap.size + 1, 1, none⟩ = some (.int .i64 0)) (first | exact ⟨hbox8, hp8, hq8⟩ | exact ⟨r0, r1, r2⟩) (first | (go_at_call 36; refine (nall_at ex20T [true, true, false, true] 1000000001 0 [] 2 false 4 (by kernel_rfl) (by kernel_rfl) _ _ _ _ _ _ ?_ ?_).mono ?_; (exact hT'.out.below hB8.drew); (exact hL4'.out.below hB8.drew); rintro e w9 ⟨A9, c9, rfl, -, hb9⟩; have r0 := cell_later hb9 hbox8; have r1 := cell_later hb9 hp8; have r2 := cell_later hb9 hq8))
  clear r0 r1 r2
  have hB9 := Below.on hB8.drew hb9
  have hbox9 := cell_later hb9 hbox8
  have hp9 := cell_later hb9 hp8
  have hq9 := cell_later hb9 hq8
  have hr9 := cell_later hb9 hr8
  have hs9 := cell_later hb9 hs8
  clear hb9 hbox8 hp8 hq8 hr8 hs8
  go_wp2_with fail
  refine (nmatch_at ex20T ex20B 0 1000000001 0 false 8 false 5 (by kernel_rfl) (by kernel_rfl) _ _ _ _ _ _ (hT'.out.below hB9) (hL'.out.below hB9)).mono ?_
  rintro e w10 ⟨rfl, hb10⟩
  have hB10 := Below.on hB9 hb10
  have hbox10 := cell_later hb10 hbox9
  have hp10 := cell_later hb10 hp9
  have hq10 := cell_later hb10 hq9
  have hr10 := cell_later hb10 hr9
  have hs10 := cell_later hb10 hs9
  clear hbox9 hp9 hq9 hr9 hs9
  go_wp2_with fail
  refine (nall_at ex20T ex20B 1000000001 0 [] 8 true 5 (by kernel_rfl) (by kernel_rfl) _ _ _ _ _ _ (hT'.out.below hB10) (hL'.out.below hB10)).mono ?_
  rintro e w11 ⟨A11, c11, rfl, hI11, hb11⟩
  have hI11' := hide hI11
  clear hI11
  have hB11 := Below.on hB10 hb11
  have hbox11 := cell_later hb11 hbox10
  have hp11 := cell_later hb11 hp10
  have hq11 := cell_later hb11 hq10
  have hr11 := cell_later hb11 hr10
  have hs11 := cell_later hb11 hs10
  clear hbox10 hp10 hq10 hr10 hs10
  go_wp2_with fail
  refine (nplace_at ex20T ex20B 2 0 6 true (by kernel_rfl) (by kernel_rfl) _ _ _ _ _ _ _ (hT'.out.below hB11) (hL'.out.below hB11)).mono ?_
  rintro e w12 ⟨rfl, hb12⟩
  have hB12 := Below.on hB11 hb12
  have hbox12 := cell_later hb12 hbox11
  have hp12 := cell_later hb12 hp11
  have hq12 := cell_later hb12 hq11
  have hr12 := cell_later hb12 hr11
  have hs12 := cell_later hb12 hs11
  clear hbox11 hp11 hq11 hr11 hs11
  go_wp2_with fail
  refine (nmatch_at ex20T ex20B 2 1 0 false 0 false 5 (by kernel_rfl) (by kernel_rfl) _ _ _ _ _ _ (hT'.out.below hB12) (hL'.out.below hB12)).mono ?_
  rintro e w13 ⟨rfl, hb13⟩
  have hB13 := Below.on hB12 hb13
  have hbox13 := cell_later hb13 hbox12
  have hp13 := cell_later hb13 hp12
  have hq13 := cell_later hb13 hq12
  have hr13 := cell_later hb13 hr12
  have hs13 := cell_later hb13 hs12
  clear hbox12 hp12 hq12 hr12 hs12
  go_wp2_with fail
  refine (nplace_at ex20T ex20B 0 1 0 true (by kernel_rfl) (by kernel_rfl) _ _ _ _ _ _ _ (hT'.out.below hB13) (hL'.out.below hB13)).mono ?_
  rintro e w14 ⟨rfl, hb14⟩
  have hB14 := Below.on hB13 hb14
  have hbox14 := cell_later hb14 hbox13
  have hp14 := cell_later hb14 hp13
  have hq14 := cell_later hb14 hq13
  have hr14 := cell_later hb14 hr13
  have hs14 := cell_later hb14 hs13
  clear hbox13 hp13 hq13 hr13 hs13
  go_wp2_with fail
  refine (nall_at ex20T ex20B 0 1 [true, false, false, false, true] 0 true 5 (by kernel_rfl) (by kernel_rfl) _ _ _ _ _ _ (hT'.out.below hB14) (hL'.out.below hB14)).mono ?_
  rintro e w15 ⟨A15, c15, rfl, hI15, hb15⟩
  have hI15' := hide hI15
  clear hI15
  have hB15 := Below.on hB14 hb15
  have hbox15 := cell_later hb15 hbox14
  have hp15 := cell_later hb15 hp14
  have hq15 := cell_later hb15 hq14
  have hr15 := cell_later hb15 hr14
  have hs15 := cell_later hb15 hs14
  clear hbox14 hp14 hq14 hr14 hs14
  clear hI11' hI4'
  go_wp2_with fail
  refine (nall_at ex20T ex20B 1000000000 (-1000000000) [false, false, false, false, false] 0 false 5 (by kernel_rfl) (by kernel_rfl) _ _ _ _ _ _ (hT'.out.below hB15) (hL'.out.below hB15)).mono ?_
  rintro e w16 ⟨A16, c16, rfl, hI16, hb16⟩
  have hI16' := hide hI16
  clear hI16
  have hB16 := Below.on hB15 hb16
  have hbox16 := cell_later hb16 hbox15
  have hp16 := cell_later hb16 hp15
  have hq16 := cell_later hb16 hq15
  have hr16 := cell_later hb16 hr15
  have hs16 := cell_later hb16 hs15
  clear hbox15 hp15 hq15 hr15 hs15
  have hI15' := hide (hI15'.out.below hb16)
  go_wp2_with fail
  refine (nall_at ex20T ex20B 1 (-1000000000) ex20B 0 true 5 (by kernel_rfl) (by kernel_rfl) _ _ _ _ _ _ (hT'.out.below hB16) (hL'.out.below hB16)).mono ?_
  rintro e w17 ⟨A17, c17, rfl, hI17, hb17⟩
  have hI17' := hide hI17
  clear hI17
  have hB17 := Below.on hB16 hb17
  have hbox17 := cell_later hb17 hbox16
  have hp17 := cell_later hb17 hp16
  have hq17 := cell_later hb17 hq16
  have hr17 := cell_later hb17 hr16
  have hs17 := cell_later hb17 hs16
  clear hbox16 hp16 hq16 hr16 hs16
  have hI15' := hide (hI15'.out.below hb17)
  have hI16' := hide (hI16'.out.below hb17)
  go_wp2_with fail
  refine (alive20_ok _).mono ?_
  rintro e w18 ⟨rfl, hb18⟩
  have hB18 := Below.on hB17 hb18
  have hI15' := hide (hI15'.out.below hb18)
  have hI16' := hide (hI16'.out.below hb18)
  have hI17' := hide (hI17'.out.below hb18)
  clear hbox17 hp17 hq17 hr17 hs17
  go_wp2_with fail
  refine (sameBools_yes _ _ 5 5 _ _ [true, false, false, false, true] _ (hI15'.out.below (below_alloc (Below.refl _ _) _)) (isBools_lit _ _ _ [true, false, false, false, true] (by decide) rfl)).mono ?_
  rintro e w19 ⟨rfl, hb19⟩
  have hB19 := Below.on (below_alloc hB18 _) hb19
  have hI16' := hide ((hI16'.out.below (below_alloc (Below.refl _ _) _)).below hb19)
  have hI17' := hide ((hI17'.out.below (below_alloc (Below.refl _ _) _)).below hb19)
  go_wp2_with fail
  refine (sameBools_yes _ _ 5 5 _ _ [false, false, false, false, false] _ (hI16'.out.below (below_alloc (Below.refl _ _) _)) (made_false w19 5 (by omega))).mono ?_
  rintro e w20 ⟨rfl, hb20⟩
  have hB20 := Below.on (below_alloc hB19 _) hb20
  have hI17' := hide ((hI17'.out.below (below_alloc (Below.refl _ _) _)).below hb20)
  go_wp2_with fail
  refine (sameBools_yes _ _ 5 5 _ _ ex20B _ hI17'.out (hL'.out.below hB20)).mono ?_
  rintro e w21 ⟨rfl, hb21⟩
  go_wp2
  go_ret
  exact ⟨rfl, Below.on hW'.out (Below.on hB20 hb21)⟩

set_option maxRecDepth 100000 in
theorem lifted (os : Os) (started : os.Started) (H : Type) (enc : TypeId × Value → H) :
    ReturnsInHanded {} Try.checked os 11 .any (Rows.nthNamesSpec.pre6 enc Try.prog Try.f11 Rows.nthNamesRow.domain false) (Rows.nthNamesSpec.post enc Try.prog Try.f11 false true false false) := by
  refine returnsInHanded_of_change (C := Try.checked) own started (by kernel_rfl) Try.func11
    (ChangeSpec.witness6 (enc := enc) (C := Try.checked) false ⟨#[], #[], []⟩ 8 (by kernel_rfl) (by kernel_rfl) (by kernel_rfl) (by kernel_rfl)) ?_
  intro W base args ds gs before hval0 hW hcnd _
  have hW' := hW
  obtain ⟨p, q, hA0, hV, rfl, hfz, hnd⟩ := hW
  have hA : DataW.TrodAll enc Try.prog W 0 (fun _ => true) true Try.f11.params.toList args.toList ds p := hA0
  rw [Try.params11] at hA
  obtain ⟨h1, rfl, rfl⟩ := trodAll_nil hA
  obtain rfl : args = #[] := by cases args; simp_all
  obtain ⟨rfl, rfl⟩ := trodVars_none hV
  clear hA0 hval0
  refine (walk W).mono fun e W' ⟨he, bel⟩ => ?_
  subst he
  exact ⟨_, rfl, _, _, _, [], _, [], hW', trodAll_mk1 (shut_bool Try.underlying4 _), trodAll_mk0, rfl, bel.frame _, fun h => by cases h⟩

theorem proved : Rows.NthNamesSaid :=
  OpenClaim.holds_of_wide 11 Try.f11 rfl rfl rfl rfl rfl rfl rfl ⟨rfl, rfl, rfl, rfl, rfl⟩ rfl rfl rfl rfl rfl (by kernel_rfl) Try.func11 (by kernel_rfl)
    (of_decide_eq_true (by kernel_rfl)) (by unfold Func.isWrapper; first | (rw [if_pos (by decide +kernel)]; kernel_rfl) | (rw [if_neg (by decide +kernel)]; exact ⟨rfl, rfl⟩))
    (fun os started H enc _ => lifted os started H enc)
#print axioms proved
end Go.Proofs.Ytankambfobfnfaa.nthNames
