/- For every tree and every text, New, Check and Add answer as the reference does and leave the tree as it is, unless the tree is greater than the statement considers. No condition. -/
import Derived.Test.YtfidpmjjddkffaaOpen
import Derived.Test.YtfidpmjjddkffaaWk
import Derived.Test.YtfidpmjjddkffaaWl
import Derived.Deep.RegionHeld3
namespace Go.Proofs.Ytfidpmjjddkffaa.treeMakes
open Go.ChangeShapes Go.WideShapes Go.ChangeAt Go.RowKit

set_option maxRecDepth 100000 in
set_option maxHeartbeats 8000000 in
theorem walk (A : Option Addr) (n c : Nat) (T : List ANode) (tag : ByteArray) (w : World) (h : IsTree w A n T) (hs : tag.size ≤ 9223372036854775807) :
    Calls Try.prog 3 #[.agg #[.slice A n c], .string tag] w fun e w' => e = .returned (.bool true) ∧ Below w.heap.size w w' := by
  have hT := hide h
  have hl := h.1
  clear h
  have hB0 := below_alloc (Below.refl w.heap.size w) (.cells #[.slice A n c] 24)
  have hbox0 : (w.alloc (.cells #[.slice A n c] 24)).cell? ⟨w.heap.size, 0, none⟩ = some (.slice A n c) := by go_simp
  cases hsm : smallTB T
  · go_enter Try.func3, Try.ntmps3
    go_wp2_with fail
    refine (great_ok _ _ _ T _ (hT.out.below hB0)).mono ?_
    rintro e w1 ⟨rfl, hb1⟩
    have hbox1 := cell_later hb1 hbox0
    have hB1 := Below.on hB0 hb1
    go_wp2
    go_ret
    exact ⟨rfl, hB1⟩
  · obtain ⟨hn70, hfit⟩ := smallT_bounds hsm
    have hn : n ≤ 70 := by omega
    have hf := hide hfit
    clear hfit hn70
    go_enter Try.func3, Try.ntmps3
    go_wp2_with fail
    refine (great_ok _ _ _ T _ (hT.out.below hB0)).mono ?_
    rintro e w1 ⟨rfl, hb1⟩
    have hbox1 := cell_later hb1 hbox0
    have hB1 := Below.on hB0 hb1
    go_wp2_with fail
    refine (twin_ok _ _ _ T _ (hT.out.below hB1) hn hf.out).mono ?_
    rintro e w2 ⟨A2, c2, rfl, hO2, hT2, hb2⟩
    have hB2 := Below.on hB1 hb2
    have hbox2 := cell_later hb2 hbox1
    have l2 : w.heap.size < w2.heap.size := cell_in hbox2
    clear hO2
    have hT2' := hide hT2
    clear hT2
    have f0 : (w2.alloc (.cells #[.slice A2 n c2] 24)).cell? ⟨w.heap.size, 0, none⟩ = some (.slice A n c) := by go_simp
    have f1 : (w2.alloc (.cells #[.slice A2 n c2] 24)).cell? ⟨w2.heap.size, 0, none⟩ = some (.slice A2 n c2) := by go_simp
    have hW2 := below_alloc (Below.refl w2.heap.size w2) (.cells #[.slice A2 n c2] 24)
    go_wp2_with fail
    refine (new_ok tag _ hs).mono ?_
    rintro e w3 ⟨A3, c3, rfl, hO3, hT3, hb3⟩
    have g0 := cell_later hb3 f0
    have g1 := cell_later hb3 f1
    have hW3 := Below.on hW2 hb3
    have l3 : w2.heap.size < w3.heap.size := cell_in g1
    have hT3' := hide hT3
    clear hO3 f0 f1 hT3
    have f0 : (w3.alloc (.cells #[.slice A3 (newT tag).length c3] 24)).cell? ⟨w.heap.size, 0, none⟩ = some (.slice A n c) := by rw [World.cell?_alloc_lt _ _ _ (by simp; omega)]; exact g0
    have f1 : (w3.alloc (.cells #[.slice A3 (newT tag).length c3] 24)).cell? ⟨w2.heap.size, 0, none⟩ = some (.slice A2 n c2) := by go_simp
    have f2 : (w3.alloc (.cells #[.slice A3 (newT tag).length c3] 24)).cell? ⟨w3.heap.size, 0, none⟩ = some (.slice A3 (newT tag).length c3) := by go_simp
    have hX3 := below_alloc (Below.refl w3.heap.size w3) (.cells #[.slice A3 (newT tag).length c3] 24)
    clear g0 g1
    go_wp2_with fail
    refine (rnew_ok tag _ hs).mono ?_
    rintro e w4 ⟨A4, c4, rfl, hO4, hT4, hb4⟩
    have g0 := cell_later hb4 f0
    have g1 := cell_later hb4 f1
    have g2 := cell_later hb4 f2
    have hX4 := Below.on hX3 hb4
    have l4 : w3.heap.size < w4.heap.size := cell_in g2
    have hT4' := hide hT4
    clear hO4 f0 f1 f2 hT4
    have hY4 := below_alloc (Below.refl w4.heap.size w4) (.cells #[.slice A4 (newT tag).length c4] 24)
    have f0 : (w4.alloc (.cells #[.slice A4 (newT tag).length c4] 24)).cell? ⟨w.heap.size, 0, none⟩ = some (.slice A n c) := by rw [World.cell?_alloc_lt _ _ _ (by simp; omega)]; exact g0
    have f1 : (w4.alloc (.cells #[.slice A4 (newT tag).length c4] 24)).cell? ⟨w2.heap.size, 0, none⟩ = some (.slice A2 n c2) := by rw [World.cell?_alloc_lt _ _ _ (by simp; omega)]; exact g1
    have f2 : (w4.alloc (.cells #[.slice A4 (newT tag).length c4] 24)).cell? ⟨w3.heap.size, 0, none⟩ = some (.slice A3 (newT tag).length c3) := by go_simp
    have f3 : (w4.alloc (.cells #[.slice A4 (newT tag).length c4] 24)).cell? ⟨w4.heap.size, 0, none⟩ = some (.slice A4 (newT tag).length c4) := by go_simp
    clear g0 g1 g2
    have hT2_4 := hide (hT2'.out.below (Below.on (Below.on hW3 hX4) hY4))
    go_wp2_with fail
    refine (add_ok _ _ _ T tag _ hT2_4.out hn hf.out hs).mono ?_
    rintro e w5 ⟨A5, c5, rfl, hO5, hT5, hb5⟩
    have g0 := cell_later hb5 f0
    have g1 := cell_later hb5 f1
    have g2 := cell_later hb5 f2
    have g3 := cell_later hb5 f3
    have hY5 := Below.on hY4 hb5
    have l5 : w4.heap.size < w5.heap.size := cell_in g3
    have hT5' := hide hT5
    clear hO5 f0 f1 f2 f3 hT5
    have hZ5 := below_alloc (Below.refl w5.heap.size w5) (.cells #[.slice A5 (addT T tag).length c5] 24)
    have f0 : (w5.alloc (.cells #[.slice A5 (addT T tag).length c5] 24)).cell? ⟨w.heap.size, 0, none⟩ = some (.slice A n c) := by rw [World.cell?_alloc_lt _ _ _ (by simp; omega)]; exact g0
    have f1 : (w5.alloc (.cells #[.slice A5 (addT T tag).length c5] 24)).cell? ⟨w2.heap.size, 0, none⟩ = some (.slice A2 n c2) := by rw [World.cell?_alloc_lt _ _ _ (by simp; omega)]; exact g1
    have f2 : (w5.alloc (.cells #[.slice A5 (addT T tag).length c5] 24)).cell? ⟨w3.heap.size, 0, none⟩ = some (.slice A3 (newT tag).length c3) := by rw [World.cell?_alloc_lt _ _ _ (by simp; omega)]; exact g2
    have f3 : (w5.alloc (.cells #[.slice A5 (addT T tag).length c5] 24)).cell? ⟨w4.heap.size, 0, none⟩ = some (.slice A4 (newT tag).length c4) := by go_simp
    have f4 : (w5.alloc (.cells #[.slice A5 (addT T tag).length c5] 24)).cell? ⟨w5.heap.size, 0, none⟩ = some (.slice A5 (addT T tag).length c5) := by go_simp
    clear g0 g1 g2 g3
    have hB5 := Below.on (Below.on (Below.on (Below.on (Below.on hB2 hW2) hb3) hX4) hY5) hZ5
    go_wp2_with fail
    refine (radd_ok _ _ _ T tag _ (hT.out.below hB5) hn hf.out hs).mono ?_
    rintro e w6 ⟨A6, c6, rfl, hO6, hT6, hb6⟩
    have g0 := cell_later hb6 f0
    have g1 := cell_later hb6 f1
    have g2 := cell_later hb6 f2
    have g3 := cell_later hb6 f3
    have g4 := cell_later hb6 f4
    have hZ6 := Below.on hZ5 hb6
    have l6 : w5.heap.size < w6.heap.size := cell_in g4
    clear hO6 f0 f1 f2 f3 f4
    obtain ⟨W, hW⟩ : ∃ W, W = w6.alloc (.cells #[.slice A6 (addT T tag).length c6] 24) := ⟨_, rfl⟩
    have hWb : Below w6.heap.size w6 W := by rw [hW]; exact below_alloc (Below.refl _ _) _
    have f0 : W.cell? ⟨w.heap.size, 0, none⟩ = some (.slice A n c) := cell_later hWb g0
    have f1 : W.cell? ⟨w2.heap.size, 0, none⟩ = some (.slice A2 n c2) := cell_later hWb g1
    have f2 : W.cell? ⟨w3.heap.size, 0, none⟩ = some (.slice A3 (newT tag).length c3) := cell_later hWb g2
    have f3 : W.cell? ⟨w4.heap.size, 0, none⟩ = some (.slice A4 (newT tag).length c4) := cell_later hWb g3
    have f4 : W.cell? ⟨w5.heap.size, 0, none⟩ = some (.slice A5 (addT T tag).length c5) := cell_later hWb g4
    have f5 : W.cell? ⟨w6.heap.size, 0, none⟩ = some (.slice A6 (addT T tag).length c6) := by rw [hW]; go_simp
    have tt := hide (hT.out.below (Below.on (Below.on hB5 hb6) hWb))
    have to := hide (hT2_4.out.below (Below.on hb5 (Below.on hZ6 hWb)))
    have ta := hide (hT3'.out.below (Below.on hX4 (Below.on hY5 (Below.on hZ6 hWb))))
    have tb := hide (hT4'.out.below (Below.on hY5 (Below.on hZ6 hWb)))
    have tx := hide (hT5'.out.below (Below.on hZ6 hWb))
    have ty := hide (hT6.below hWb)
    have hBW := hide (Below.on (Below.on hB5 hb6) hWb)
    clear g0 g1 g2 g3 g4 hT6
    have k1 : (newE tag == newE tag) = true := by simp
    have k2 : (chk T == chk T) = true := by simp
    have k3 : (addN T tag == addN T tag) = true := by simp
    have k4 : (addE T tag == addE T tag) = true := by simp
    go_wp2
    rw [← hW]
    clear hW
    go_region_held3 (fun X => X.cell? ⟨w.heap.size, 0, none⟩ = some (.slice A n c) ∧ X.cell? ⟨w2.heap.size, 0, none⟩ = some (.slice A2 n c2) ∧ X.cell? ⟨w3.heap.size, 0, none⟩ = some (.slice A3 (newT tag).length c3) ∧ X.cell? ⟨w4.heap.size, 0, none⟩ = some (.slice A4 (newT tag).length c4) ∧ X.cell? ⟨w5.heap.size, 0, none⟩ = some (.slice A5 (addT T tag).length c5) ∧ X.cell? ⟨w6.heap.size, 0, none⟩ = some (.slice A6 (addT T tag).length c6)) (first | exact ⟨v0, v1, v2, v3, v4, v5⟩ | exact ⟨q0, q1, q2, q3, q4, q5⟩ | exact ⟨t0, t1, t2, t3, t4, t5⟩ | exact ⟨s0, s1, s2, s3, s4, s5⟩ | exact ⟨r0, r1, r2, r3, r4, r5⟩ | exact ⟨f0, f1, f2, f3, f4, f5⟩) (first | (go_at_call_of 15 A3; refine (same_ok _ _ _ _ _ (newT tag) _ ?_ ?_).mono ?_; (exact ta.out); (exact tb.out); rintro e u1 ⟨rfl, hu1⟩; have r0 := cell_later hu1 f0; have r1 := cell_later hu1 f1; have r2 := cell_later hu1 f2; have r3 := cell_later hu1 f3; have r4 := cell_later hu1 f4; have r5 := cell_later hu1 f5) | (go_at_call 16; refine (check_ok _ _ _ T _ ?_).mono ?_; (exact ((show IsTree W.drew A2 n T from to.out).below hu1)); rintro e u2 ⟨rfl, hu2⟩; have s0 := cell_later hu2 r0; have s1 := cell_later hu2 r1; have s2 := cell_later hu2 r2; have s3 := cell_later hu2 r3; have s4 := cell_later hu2 r4; have s5 := cell_later hu2 r5) | (go_at_call 17; refine (rcheck_ok _ _ _ T _ ?_).mono ?_; (exact (((show IsTree W.drew A n T from tt.out).below hu1).below hu2)); rintro e u3 ⟨rfl, hu3⟩; have t0 := cell_later hu3 s0; have t1 := cell_later hu3 s1; have t2 := cell_later hu3 s2; have t3 := cell_later hu3 s3; have t4 := cell_later hu3 s4; have t5 := cell_later hu3 s5) | (go_at_call_of 15 A5; refine (same_ok _ _ _ _ _ (addT T tag) _ ?_ ?_).mono ?_; (exact ((((show IsTree W.drew A5 _ (addT T tag) from tx.out).below hu1).below hu2).below hu3)); (exact ((((show IsTree W.drew A6 _ (addT T tag) from ty.out).below hu1).below hu2).below hu3)); rintro e u4 ⟨rfl, hu4⟩; have q0 := cell_later hu4 t0; have q1 := cell_later hu4 t1; have q2 := cell_later hu4 t2; have q3 := cell_later hu4 t3; have q4 := cell_later hu4 t4; have q5 := cell_later hu4 t5) | (go_at_call_of 15 A2; refine (same_ok _ _ _ _ _ T _ ?_ ?_).mono ?_; (exact (((((show IsTree W.drew A2 n T from to.out).below hu1).below hu2).below hu3).below hu4)); (exact (((((show IsTree W.drew A n T from tt.out).below hu1).below hu2).below hu3).below hu4)); rintro e u5 ⟨rfl, hu5⟩; have v0 := cell_later hu5 q0; have v1 := cell_later hu5 q1; have v2 := cell_later hu5 q2; have v3 := cell_later hu5 q3; have v4 := cell_later hu5 q4; have v5 := cell_later hu5 q5))
    all_goals
      go_wp2
      go_ret
      exact ⟨rfl, Below.on (Below.on (Below.on (Below.on (Below.on hBW.out.drew hu1) hu2) hu3) hu4) hu5⟩

set_option maxRecDepth 100000 in
theorem lifted (os : Os) (started : os.Started) (H : Type) (enc : TypeId × Value → H) :
    ReturnsInHanded {} Try.checked os 3 .any (Rows.treeMakesSpec.pre6 enc Try.prog Try.f3 Rows.treeMakesRow.domain false) (Rows.treeMakesSpec.post enc Try.prog Try.f3 false true false false) := by
  refine returnsInHanded_of_change (C := Try.checked) own started (by kernel_rfl) Try.func3
    (ChangeSpec.witness6 (enc := enc) (C := Try.checked) false ⟨#[], #[.agg #[.slice none 0 0], .string .empty], []⟩ 8 (by kernel_rfl) (by kernel_rfl) (by kernel_rfl) (by kernel_rfl)) ?_
  intro W base args ds gs before hval0 hW hcnd _
  have hval : ∀ (j : Nat) t v, Try.f3.params[j]? = some t → args[j]? = some v → Value.okWide Try.prog W .any base t v := hval0
  have hW' := hW
  obtain ⟨p, q, hA0, hV, rfl, hfz, hnd⟩ := hW
  have hA : DataW.TrodAll enc Try.prog W 0 (fun _ => true) true Try.f3.params.toList args.toList ds p := hA0
  rw [Try.params3] at hA hval
  obtain ⟨v0, vs0, d0, ds0, p0, q0, hargs, rfl, rfl, h0, r0⟩ := trodAll_cons hA
  obtain ⟨v1, vs1, d1, ds1, p1, q1, rfl, rfl, rfl, h1, r1⟩ := trodAll_cons r0
  obtain ⟨rfl, rfl, rfl⟩ := trodAll_nil r1
  obtain rfl : args = #[v0, v1] := by cases args; simp_all
  obtain ⟨rfl, rfl⟩ := trodVars_none hV
  have lt0 : ∀ x ∈ p0, x.block < W.heap.size := by obtain ⟨m, hm⟩ := h0; exact DataW.trod_lt m _ _ _ hm
  have k0 := h0
  obtain ⟨A0, n0, c0, T0, rfl, hT0⟩ := tree_open (hval 0 _ v0 rfl rfl) h0
  obtain ⟨a1, rfl, rfl, rfl, w1⟩ := Go.ChangeMaps.open_string Try.underlying9 (hval 1 _ v1 rfl rfl) h1
  have w1' : a1.size ≤ 9223372036854775807 := by unfold maxLen at w1; omega
  clear hA0 hval0
  refine (walk A0 n0 c0 T0 a1 W hT0 w1').mono fun e W' ⟨he, bel⟩ => ?_
  subst he
  exact ⟨_, rfl, _, _, _, [], _, [], hW', trodAll_mk1 (shut_bool Try.underlying4 _), (trodAll_cons_mk (Below.trod laidOut (by kernel_rfl) (of_decide_eq_true (by kernel_rfl)) k0 bel lt0) (trodAll_cons_mk (Go.ChangeMaps.shut_string Try.underlying9 w1) trodAll_mk0)), rfl, bel.frame _, fun h => by cases h⟩

theorem proved : Rows.TreeMakesSaid :=
  OpenClaim.holds_of_wide 3 Try.f3 rfl rfl rfl rfl rfl rfl rfl ⟨rfl, rfl, rfl, rfl, rfl⟩ rfl rfl rfl rfl rfl (by kernel_rfl) Try.func3 (by kernel_rfl)
    (of_decide_eq_true (by kernel_rfl)) (by unfold Func.isWrapper; first | (rw [if_pos (by decide +kernel)]; kernel_rfl) | (rw [if_neg (by decide +kernel)]; exact ⟨rfl, rfl⟩))
    (fun os started H enc _ => lifted os started H enc)
#print axioms proved
end Go.Proofs.Ytfidpmjjddkffaa.treeMakes
