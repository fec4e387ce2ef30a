/- The errors of Reach, Match and All, and the reach for each combinator at the chapter's example. No condition. -/
import Derived.Test.YtaliekkdamghbaaHx
import Derived.Test.YtaliekkdamghbaaOpen
import Derived.Test.YtaliekkdamghbaaCs
namespace Go.Proofs.Ytaliekkdamghbaa.hasNames
open Go.ChangeShapes Go.WideShapes Go.ChangeAt Go.RowKit

theorem isTree_nil (w : World) : IsTree w none 0 [] := ⟨rfl, by omega, fun _ h => by simp at h, fun h => absurd h (by omega)⟩
theorem one_row (W : World) (g g1 : Nat) (t : TypeId) (hg : g = W.heap.size) (h1 : IsBools W (some ⟨g1, 0, none⟩) 1 [true]) :
    IsBB (W.alloc (.cells #[.slice (some ⟨g1, 0, none⟩) 1 1] t)) (some ⟨g, 0, none⟩) 1 [[true]] := by
  refine isBB_lt W g t [[true]] (fun _ => some ⟨g1, 0, none⟩) (fun _ => 1) _ (by simp) hg (fun j hj => ?_) (fun j hj => ?_)
  · obtain rfl : j = 0 := by simp at hj; omega
    rfl
  · obtain rfl : j = 0 := by simp at hj; omega
    exact ⟨h1, by decide, by decide⟩
/-- What is wanted of Reach lies in block g: three lists of four lists. -/
def WantsAt (u : World) (g : Nat) : Prop :=
  ∀ x y : Nat, x < 3 → y < 4 → ∃ (b : Nat) (A : Option Addr) (l : Nat), u.cell? ⟨g, x, none⟩ = some (.slice (some ⟨b, 0, none⟩) 4 4) ∧ u.cell? ⟨b, y, none⟩ = some (.slice A l l) ∧ IsInts u A l (rchX ex22 x (y + 1)) ∧ rchC ex22 x (y + 1) = 0
theorem wants_at (u : World) (g b0 b1 b2 : Nat) (p q r s z t : Nat) (h0 : u.cell? ⟨g, 0, none⟩ = some (.slice (some ⟨b0, 0, none⟩) 4 4)) (h1 : u.cell? ⟨g, 1, none⟩ = some (.slice (some ⟨b1, 0, none⟩) 4 4)) (h2 : u.cell? ⟨g, 2, none⟩ = some (.slice (some ⟨b2, 0, none⟩) 4 4))
    (c00 : u.cell? ⟨b0, 0, none⟩ = some (.slice (some ⟨p, 0, none⟩) 3 3)) (c01 : u.cell? ⟨b0, 1, none⟩ = some (.slice (some ⟨q, 0, none⟩) 2 2)) (c02 : u.cell? ⟨b0, 2, none⟩ = some (.slice none 0 0)) (c03 : u.cell? ⟨b0, 3, none⟩ = some (.slice none 0 0))
    (c10 : u.cell? ⟨b1, 0, none⟩ = some (.slice (some ⟨r, 0, none⟩) 1 1)) (c11 : u.cell? ⟨b1, 1, none⟩ = some (.slice (some ⟨s, 0, none⟩) 1 1)) (c12 : u.cell? ⟨b1, 2, none⟩ = some (.slice (some ⟨z, 0, none⟩) 1 1)) (c13 : u.cell? ⟨b1, 3, none⟩ = some (.slice (some ⟨t, 0, none⟩) 1 1))
    (c2 : ∀ y, y < 4 → u.cell? ⟨b2, y, none⟩ = some (.slice none 0 0))
    (i1 : IsInts u (some ⟨p, 0, none⟩) 3 [1, 3, 2]) (i2 : IsInts u (some ⟨q, 0, none⟩) 2 [1, 2]) (i3 : IsInts u (some ⟨r, 0, none⟩) 1 [3]) (i4 : IsInts u (some ⟨s, 0, none⟩) 1 [3]) (i5 : IsInts u (some ⟨z, 0, none⟩) 1 [2]) (i6 : IsInts u (some ⟨t, 0, none⟩) 1 [2]) : WantsAt u g := by
  intro x y hx hy
  obtain rfl | rfl | rfl : x = 0 ∨ x = 1 ∨ x = 2 := by omega
  · rcases lt4h hy with rfl | rfl | rfl | rfl
    · exact ⟨b0, _, _, h0, c00, by rw [show rchX ex22 (0 : Nat) ((0 : Nat) + 1) = [1, 3, 2] by kernel_rfl]; exact i1, by kernel_rfl⟩
    · exact ⟨b0, _, _, h0, c01, by rw [show rchX ex22 (0 : Nat) ((1 : Nat) + 1) = [1, 2] by kernel_rfl]; exact i2, by kernel_rfl⟩
    · exact ⟨b0, _, _, h0, c02, by rw [show rchX ex22 (0 : Nat) ((2 : Nat) + 1) = [] by kernel_rfl]; exact isInts_nil u, by kernel_rfl⟩
    · exact ⟨b0, _, _, h0, c03, by rw [show rchX ex22 (0 : Nat) ((3 : Nat) + 1) = [] by kernel_rfl]; exact isInts_nil u, by kernel_rfl⟩
  · rcases lt4h hy with rfl | rfl | rfl | rfl
    · exact ⟨b1, _, _, h1, c10, by rw [show rchX ex22 (1 : Nat) ((0 : Nat) + 1) = [3] by kernel_rfl]; exact i3, by kernel_rfl⟩
    · exact ⟨b1, _, _, h1, c11, by rw [show rchX ex22 (1 : Nat) ((1 : Nat) + 1) = [3] by kernel_rfl]; exact i4, by kernel_rfl⟩
    · exact ⟨b1, _, _, h1, c12, by rw [show rchX ex22 (1 : Nat) ((2 : Nat) + 1) = [2] by kernel_rfl]; exact i5, by kernel_rfl⟩
    · exact ⟨b1, _, _, h1, c13, by rw [show rchX ex22 (1 : Nat) ((3 : Nat) + 1) = [2] by kernel_rfl]; exact i6, by kernel_rfl⟩
  · have hn : rchX ex22 (2 : Nat) (y + 1) = [] ∧ rchC ex22 (2 : Nat) (y + 1) = 0 := by
      rcases lt4h hy with rfl | rfl | rfl | rfl <;> exact ⟨by kernel_rfl, by kernel_rfl⟩
    exact ⟨b2, _, _, h2, c2 y hy, by rw [hn.1]; exact isInts_nil u, hn.2⟩
theorem WantsAt.below {u v : World} {g : Nat} (h : WantsAt u g) (hb : Below u.heap.size u v) : WantsAt v g := fun x y hx hy => by
  obtain ⟨b, A, l, h1, h2, h3, h4⟩ := h x y hx hy
  exact ⟨b, A, l, cell_later hb h1, cell_later hb h2, h3.below hb, h4⟩
theorem u8_small (y : Nat) (h : y < 4) : IntKind.u8.wrap ((y : Int) + 1) = (y : Int) + 1 := by
  rcases lt4h h with rfl | rfl | rfl | rfl <;> decide +kernel

set_option maxRecDepth 100000 in
set_option maxHeartbeats 4000000 in
theorem walk (w : World) :
    Calls Try.prog 10 #[] w fun e w' => e = .returned (.bool true) ∧ Below w.heap.size w w' := by
  go_enter Try.func10, Try.ntmps10
  go_wp2_with fail
  refine (example22_ok _).mono ?_
  rintro e w1 ⟨A, C, D, c, rfl, hT, hX, hY, hb1⟩
  have hz1 : Below w1.heap.size w1 (w1.alloc (.cells #[.slice A 4 c] 24)) := below_alloc (Below.refl _ _) _
  have hX := hide (hX.below hz1)
  clear hY
  have hT := hide (hT.below (below_alloc (Below.refl _ _) (.cells #[.slice A 4 c] 24)))
  have hW := below_alloc hb1 (.cells #[.slice A 4 c] 24)
  have hB1 := Below.refl (w1.alloc (.cells #[.slice A 4 c] 24)).heap.size (w1.alloc (.cells #[.slice A 4 c] 24))
  have hbox1 : (w1.alloc (.cells #[.slice A 4 c] 24)).cell? ⟨w1.heap.size, 0, none⟩ = some (.slice A 4 c) := by go_simp
  go_wp2_with fail
  refine (hReach_at [] (-1) 0 [] 8 (by kernel_rfl) (by kernel_rfl) none 0 0 _ (isTree_nil _)).mono ?_
  rintro e w2 ⟨A2, c2, rfl, -, hb2⟩
  have hB2 := Below.on hB1 hb2
  have hbox2 := cell_later hb2 hbox1
  clear hb2 hbox1
  go_wp2_with fail
  refine (hMatch_at [] (-1) 0 [] [] false 8 (by kernel_rfl) (by kernel_rfl) none none none 0 0 0 0 0 0 _ (isTree_nil _) (isU8_nil _) (isBB_nil _) (by decide) (by decide)).mono ?_
  rintro e w3 ⟨rfl, hb3⟩
  have hB3 := Below.on hB2 hb3
  have hbox3 := cell_later hb3 hbox2
  clear hb3 hbox2
  go_wp2_with fail
  refine (hAll_at [] 0 [] [] [] 8 (by kernel_rfl) (by kernel_rfl) none none none 0 0 0 0 0 0 _ (isTree_nil _) (isU8_nil _) (isBB_nil _) (by decide) (by decide)).mono ?_
  rintro e w4 ⟨A4, c4, rfl, -, -, -, hb4⟩
  have hB4 := Below.on hB3 hb4
  have hbox4 := cell_later hb4 hbox3
  clear hb4 hbox3
  go_wp2_with fail
  refine (hReach_at ex22 4 0 [] 2 (by kernel_rfl) (by kernel_rfl) _ _ c _ (hT.out.below hB4)).mono ?_
  rintro e w5 ⟨A5, c5, rfl, -, hb5⟩
  have hB5 := Below.on hB4 hb5
  have hbox5 := cell_later hb5 hbox4
  clear hb5 hbox4
  go_wp2_with fail
  refine (hMatch_at ex22 (-1) 0 [] [] false 2 (by kernel_rfl) (by kernel_rfl) _ none none _ c 0 0 0 0 _ (hT.out.below hB5) (isU8_nil _) (isBB_nil _) (by decide) (by decide)).mono ?_
  rintro e w6 ⟨rfl, hb6⟩
  have hB6 := Below.on hB5 hb6
  have hbox6 := cell_later hb6 hbox5
  clear hb6 hbox5
  go_wp2_with fail
  refine (hReach_at ex22 0 0 [] 2 (by kernel_rfl) (by kernel_rfl) _ _ c _ (hT.out.below hB6)).mono ?_
  rintro e w7 ⟨A7, c7, rfl, -, hb7⟩
  have hB7 := Below.on hB6 hb7
  have hbox7 := cell_later hb7 hbox6
  clear hb7 hbox6
  go_wp2_with fail
  refine (hReach_at ex22 0 5 [] 2 (by kernel_rfl) (by kernel_rfl) _ _ c _ (hT.out.below hB7)).mono ?_
  rintro e w8 ⟨A8, c8, rfl, -, hb8⟩
  have hB8 := Below.on hB7 hb8
  have hbox8 := cell_later hb8 hbox7
  clear hb8 hbox7
  go_wp2_with fail
  refine (hMatch_at ex22 0 5 [] ex22X false 2 (by kernel_rfl) (by kernel_rfl) _ none _ _ c 0 0 1 1 _ (hT.out.below hB8) (isU8_nil _) (hX.out.below hB8) (by decide) (by decide)).mono ?_
  rintro e w9 ⟨rfl, hb9⟩
  have hB9 := Below.on hB8 hb9
  have hbox9 := cell_later hb9 hbox8
  clear hb9 hbox8
  go_wp2_with fail
  refine (hAll_at ex22 0 [] ex22X [] 2 (by kernel_rfl) (by kernel_rfl) _ none _ _ c 0 0 1 1 _ (hT.out.below hB9) (isU8_nil _) (hX.out.below hB9) (by decide) (by decide)).mono ?_
  rintro e w10 ⟨A10, c10, rfl, -, -, -, hb10⟩
  have hB10 := Below.on hB9 hb10
  have hbox10 := cell_later hb10 hbox9
  clear hb10 hbox9
  go_wp2_with fail
  refine (hMatch_at ex22 0 1 [] [] false 2 (by kernel_rfl) (by kernel_rfl) _ none none _ c 0 0 0 0 _ (hT.out.below hB10) (isU8_nil _) (isBB_nil _) (by decide) (by decide)).mono ?_
  rintro e w11 ⟨rfl, hb11⟩
  have hB11 := Below.on hB10 hb11
  have hbox11 := cell_later hb11 hbox10
  clear hb11 hbox10
  go_wp2_with fail
  have z := below_alloc (Below.refl w11.heap.size w11) (.cells #[.int .u8 1] 5)
  refine (hAll_at ex22 1 [1] ex22X [] 2 (by kernel_rfl) (by kernel_rfl) _ _ _ _ c 1 _ 1 1 _ (hT.out.below (Below.on hB11 z)) (isU8_lt _ _ _ [1] (by decide) (by decide) (by simp)) (hX.out.below (Below.on hB11 z)) (by decide) (by decide)).mono ?_
  rintro e w12 ⟨A12, c12, rfl, -, -, -, hb12⟩
  have hb12 := Below.on z hb12
  clear z
  have hB12 := Below.on hB11 hb12
  have hbox12 := cell_later hb12 hbox11
  clear hb12 hbox11
  go_wp2_with fail
  have z := below_alloc (below_alloc (Below.refl w12.heap.size w12) (.cells #[.bool true] 4)) (.cells #[.slice (some ⟨w12.heap.size, 0, none⟩) 1 1] 31)
  refine (hAll_at ex22 1 [] [[true]] [] 2 (by kernel_rfl) (by kernel_rfl) _ none _ _ c 0 0 1 1 _ (hT.out.below (Below.on hB12 z)) (isU8_nil _) (one_row _ _ _ _ (by simp) (isBools_lt _ _ _ [true] (by decide) (by simp))) (by decide) (by decide)).mono ?_
  rintro e w13 ⟨A13, c13, rfl, -, -, -, hb13⟩
  have hb13 := Below.on z hb13
  clear z
  have hB13 := Below.on hB12 hb13
  have hbox13 := cell_later hb13 hbox12
  clear hb13 hbox12
  go_wp2
  go_loopw [29] (fun s wr => ∃ x : Nat, x ≤ 3 ∧ s = .int .i64 x ∧ Below w13.heap.size w13 wr ∧ WantsAt wr (w13.heap.size + 1 + 1 + 1 + 1 + 1 + 1 + 1 + 1 + 1)) (fun s _ => 3 - (intOf s).toNat)
  case atStart =>
    refine ⟨0, by omega, rfl, ?_, ?_⟩
    · exact below_alloc (below_alloc (below_alloc (below_alloc (below_alloc (below_alloc (below_alloc (below_alloc (below_alloc (below_alloc (Below.refl _ _) _) _) _) _) _) _) _) _) _) _
    · refine wants_at _ _ (w13.heap.size + 1 + 1) (w13.heap.size + 1 + 1 + 1 + 1 + 1 + 1 + 1) (w13.heap.size + 1 + 1 + 1 + 1 + 1 + 1 + 1 + 1) w13.heap.size (w13.heap.size + 1) (w13.heap.size + 1 + 1 + 1) (w13.heap.size + 1 + 1 + 1 + 1) (w13.heap.size + 1 + 1 + 1 + 1 + 1) (w13.heap.size + 1 + 1 + 1 + 1 + 1 + 1)
        (by go_simp) (by go_simp) (by go_simp) (by go_simp) (by go_simp) (by go_simp) (by go_simp) (by go_simp) (by go_simp) (by go_simp) (by go_simp) (fun y hy => by rcases lt4h hy with rfl | rfl | rfl | rfl <;> go_simp) ?_ ?_ ?_ ?_ ?_ ?_
      · exact (isInts_lit _ _ _ [1, 3, 2] (by decide) (by simp)).below (below_alloc (below_alloc (below_alloc (below_alloc (below_alloc (below_alloc (below_alloc (below_alloc (below_alloc (Below.refl _ _) _) _) _) _) _) _) _) _) _)
      · exact (isInts_lit _ _ _ [1, 2] (by decide) (by simp)).below (below_alloc (below_alloc (below_alloc (below_alloc (below_alloc (below_alloc (below_alloc (below_alloc (Below.refl _ _) _) _) _) _) _) _) _) _)
      · exact (isInts_build1 _ _ _ _ (by simp)).below (below_alloc (below_alloc (below_alloc (below_alloc (below_alloc (below_alloc (Below.refl _ _) _) _) _) _) _) _)
      · exact (isInts_build1 _ _ _ _ (by simp)).below (below_alloc (below_alloc (below_alloc (below_alloc (below_alloc (Below.refl _ _) _) _) _) _) _)
      · exact (isInts_build1 _ _ _ _ (by simp)).below (below_alloc (below_alloc (below_alloc (below_alloc (Below.refl _ _) _) _) _) _)
      · exact (isInts_build1 _ _ _ _ (by simp)).below (below_alloc (below_alloc (below_alloc (Below.refl _ _) _) _) _)
  case round =>
    obtain ⟨x, hx, rfl, hb, hWt⟩ := hrel
    have hBr := Below.on hB13 hb
    have hboxr := cell_later hb hbox13
    by_cases hlx : x < 3
    · have x1 : (x : Int) < 3 := by omega
      have x0 : (0 : Int) ≤ (x : Int) := by omega
      have hWr := hide hWt
      clear hWt hbox13
      go_wp2
      go_loopw [30] (fun s wz => ∃ y : Nat, y ≤ 4 ∧ s = .int .i64 y ∧ Below wr.heap.size wr wz) (fun s _ => 4 - (intOf s).toNat)
      case atStart => exact ⟨0, by omega, rfl, Below.refl _ _⟩
      case round =>
        obtain ⟨y, hy, rfl, hbz⟩ := hrel
        have hBz := Below.on hBr hbz
        have hboxz := cell_later hbz hboxr
        by_cases hly : y < 4
        · have y1 : (y : Int) < 4 := by omega
          have y0 : (0 : Int) ≤ (y : Int) := by omega
          have u8 := u8_small y hly
          obtain ⟨b, AA, l, g1, g2, g3, g4⟩ := hWr.out.below hbz x y hlx hly
          have g3' := hide g3
          have g4' := hide g4
          clear g3 g4 hboxr
          go_wp2_with fail
          have hx := hReach_ok _ _ c ex22 x (y + 1) _ (hT.out.below hBz)
          rw [g4'.out] at hx
          refine hx.mono ?_
          clear hx
          rintro e u1 ⟨A1, k1, rfl, hI1, hb1⟩
          have hB1z := Below.on hBz hb1
          have q1 := cell_later hb1 g1
          have q2 := cell_later hb1 g2
          have hI1' := hide hI1
          have g5 := hide (g3'.out.below hb1)
          have hbz1 := hide (Below.on hbz hb1)
          clear g1 g2 g3' hI1 hboxz hb1 hbz hBz
          go_wp2_with fail
          refine (sameInts_yes _ _ _ _ _ _ _ _ hI1'.out g5.out).mono ?_
          rintro e u2 ⟨rfl, hb2⟩
          have hbz2 := hide (Below.on hbz1.out hb2)
          clear hb2
          go_wp2
          go_roundw
          case rel => exact ⟨y + 1, by omega, by go_num, hbz2.out⟩
          case measure => simp [intOf]; omega
        · go_wp2
          go_roundw
          case rel => exact ⟨x + 1, by omega, by go_num, Below.on hb hbz, hWr.out.below hbz⟩
          case measure => simp [intOf]; omega
    · go_wp2_with fail
      refine (alive22_ok _).mono ?_
      rintro e u1 ⟨rfl, hb1⟩
      go_wp2
      go_ret
      exact ⟨rfl, Below.on hW (Below.on hBr hb1)⟩

set_option maxRecDepth 100000 in
theorem lifted (os : Os) (started : os.Started) (H : Type) (enc : TypeId × Value → H) :
    ReturnsInHanded {} Try.checked os 10 .any (Rows.hasNamesSpec.pre6 enc Try.prog Try.f10 Rows.hasNamesRow.domain false) (Rows.hasNamesSpec.post enc Try.prog Try.f10 false true false false) := by
  refine returnsInHanded_of_change (C := Try.checked) own started (by kernel_rfl) Try.func10
    (ChangeSpec.witness6 (enc := enc) (C := Try.checked) false ⟨#[], #[], []⟩ 8 (by kernel_rfl) (by kernel_rfl) (by kernel_rfl) (by kernel_rfl)) ?_
  intro W base args ds gs before hval0 hW hcnd _
  have hW' := hW
  obtain ⟨p, q, hA0, hV, rfl, hfz, hnd⟩ := hW
  have hA : DataW.TrodAll enc Try.prog W 0 (fun _ => true) true Try.f10.params.toList args.toList ds p := hA0
  rw [Try.params10] at hA
  obtain ⟨h1, rfl, rfl⟩ := trodAll_nil hA
  obtain rfl : args = #[] := by cases args; simp_all
  obtain ⟨rfl, rfl⟩ := trodVars_none hV
  clear hA0 hval0
  refine (walk W).mono fun e W' ⟨he, bel⟩ => ?_
  subst he
  exact ⟨_, rfl, _, _, _, [], _, [], hW', trodAll_mk1 (shut_bool Try.underlying4 _), trodAll_mk0, rfl, bel.frame _, fun h => by cases h⟩

theorem proved : Rows.HasNamesSaid :=
  OpenClaim.holds_of_wide 10 Try.f10 rfl rfl rfl rfl rfl rfl rfl ⟨rfl, rfl, rfl, rfl, rfl⟩ rfl rfl rfl rfl rfl (by kernel_rfl) Try.func10 (by kernel_rfl)
    (of_decide_eq_true (by kernel_rfl)) (by unfold Func.isWrapper; first | (rw [if_pos (by decide +kernel)]; kernel_rfl) | (rw [if_neg (by decide +kernel)]; exact ⟨rfl, rfl⟩))
    (fun os started H enc _ => lifted os started H enc)
#print axioms proved
end Go.Proofs.Ytaliekkdamghbaa.hasNames
