/- The errors of the document order, and elements without siblings. No condition. -/
import Derived.Test.YtankambfobfnfaaOpen
import Derived.Test.YtankambfobfnfaaEx16
namespace Go.Proofs.Ytankambfobfnfaa.orderNames
open Go.ChangeShapes Go.WideShapes Go.ChangeAt Go.RowKit

theorem list_c (T : List ANode) (i code : Int) (h0 : askI T [i] = code) (A : Option Addr) (n c : Nat) (w : World) (h : IsTree w A n T) :
    Calls Try.prog 22 #[.agg #[.slice A n c], .int .i64 i] w (MadeIntsE w (listE T i) code) := by
  have := list_ok A n c T i w h
  rw [h0] at this
  exact this
theorem isTree_nil (w : World) : IsTree w none 0 [] := ⟨rfl, by omega, fun x hx => by simp at hx, fun h => absurd h (by omega)⟩


set_option maxRecDepth 100000 in
set_option maxHeartbeats 4000000 in
theorem walk (w : World) :
    Calls Try.prog 6 #[] w fun e w' => e = .returned (.bool true) ∧ Below w.heap.size w w' := by
  go_enter Try.func6, Try.ntmps6
  go_wp2
  go_loopw [1] (fun s wr => ∃ k : Nat, k ≤ 2 ∧ s = .int .i64 k ∧ Below w.heap.size w wr) (fun s _ => 2 - (intOf s).toNat)
  case atStart => exact ⟨0, by omega, rfl, Below.refl _ _⟩
  case round =>
    obtain ⟨k, hk, rfl, hb0⟩ := hrel
    rcases (by omega : k = 0 ∨ k = 1 ∨ k = 2) with rfl | rfl | rfl
    · go_wp2_with fail
      refine (example16_ok _).mono ?_
      intro e w1 hm
      obtain ⟨A, c, rfl, -, hb1⟩ := made_at 5 rfl hm
      have hT := isTree_nil w1
      have hk1 : 0 + 1 ≤ 2 := by omega
      clear hm
      go_wp2
      go_loopw [4] (fun s wr => ∃ j : Nat, j ≤ 2 ∧ s = .int .i64 j ∧ Below w1.heap.size w1 wr ∧ wr.cell? ⟨w1.heap.size + 1, 0, none⟩ = some (.slice none 0 0)) (fun s _ => 2 - (intOf s).toNat)
      case atStart => exact ⟨0, by omega, rfl, below_alloc (below_alloc (below_alloc (Below.refl _ _) _) _) _, by go_simp⟩
      case round =>
        obtain ⟨j, hj, rfl, hb, hbx⟩ := hrel
        rcases (by omega : j = 0 ∨ j = 1 ∨ j = 2) with rfl | rfl | rfl
        · have hz : w1.heap.size + 1 < wr.heap.size := cell_in hbx
          have hbz := below_alloc hb (.cells #[.int .i64 (-1), .int .i64 5] 3)
          have hbxz := cell_later (below_alloc (Below.refl _ _) (.cells #[.int .i64 (-1), .int .i64 5] 3)) hbx
          go_wp2_with fail
          refine (list_c [] (-1) 8 (by kernel_rfl) _ _ _ _ (hT.below hbz)).mono ?_
          rintro e u1 ⟨A1, c1, rfl, -, -, -, hb1⟩
          have hbx1 := cell_later hb1 hbxz
          have hB1 := Below.on hbz hb1
          go_wp2_with fail
          refine (above_at [] (-1) _ 8 (by kernel_rfl) rfl _ _ _ _ (hT.below hB1)).mono ?_
          rintro e u2 ⟨A2, c2, rfl, -, -, -, hb2⟩
          have hbx2 := cell_later hb2 hbx1
          have hB2 := Below.on hB1 hb2
          go_wp2_with fail
          refine (compare_at [] (-1) 0 0 8 (by kernel_rfl) (by kernel_rfl) _ _ _ _ (hT.below hB2)).mono ?_
          rintro e u3 ⟨rfl, hb3⟩
          have hbx3 := cell_later hb3 hbx2
          have hB3 := Below.on hB2 hb3
          go_wp2_with fail
          refine (compare_at [] 0 (-1) 0 8 (by kernel_rfl) (by kernel_rfl) _ _ _ _ (hT.below hB3)).mono ?_
          rintro e u4 ⟨rfl, hb4⟩
          have hbx4 := cell_later hb4 hbx3
          have hB4 := Below.on hB3 hb4
          go_wp2_with fail
          refine (place_at [] (-1) 0 8 (by kernel_rfl) (by kernel_rfl) _ _ _ _ (hT.below hB4)).mono ?_
          rintro e u5 ⟨rfl, hb5⟩
          have hbx5 := cell_later hb5 hbx4
          have hB5 := Below.on hB4 hb5
          go_wp2_with fail
          refine (previous_at [] (-1) 0 8 (by kernel_rfl) (by kernel_rfl) _ _ _ _ (hT.below hB5)).mono ?_
          rintro e u6 ⟨rfl, hb6⟩
          have hbx6 := cell_later hb6 hbx5
          have hB6 := Below.on hB5 hb6
          go_wp2_with fail
          refine (next_at [] (-1) 0 8 (by kernel_rfl) (by kernel_rfl) _ _ _ _ (hT.below hB6)).mono ?_
          rintro e u7 ⟨rfl, hb7⟩
          have hbx7 := cell_later hb7 hbx6
          have hB7 := Below.on hB6 hb7
          go_wp2
          go_roundw
          case rel => exact ⟨0 + 1, by omega, by go_num, hB7, hbx7⟩
          case measure => simp [intOf]
        · have hz : w1.heap.size + 1 < wr.heap.size := cell_in hbx
          have hbz := below_alloc hb (.cells #[.int .i64 (-1), .int .i64 5] 3)
          have hbxz := cell_later (below_alloc (Below.refl _ _) (.cells #[.int .i64 (-1), .int .i64 5] 3)) hbx
          go_wp2_with fail
          refine (list_c [] 5 8 (by kernel_rfl) _ _ _ _ (hT.below hbz)).mono ?_
          rintro e u1 ⟨A1, c1, rfl, -, -, -, hb1⟩
          have hbx1 := cell_later hb1 hbxz
          have hB1 := Below.on hbz hb1
          go_wp2_with fail
          refine (above_at [] 5 _ 8 (by kernel_rfl) rfl _ _ _ _ (hT.below hB1)).mono ?_
          rintro e u2 ⟨A2, c2, rfl, -, -, -, hb2⟩
          have hbx2 := cell_later hb2 hbx1
          have hB2 := Below.on hB1 hb2
          go_wp2_with fail
          refine (compare_at [] 5 0 0 8 (by kernel_rfl) (by kernel_rfl) _ _ _ _ (hT.below hB2)).mono ?_
          rintro e u3 ⟨rfl, hb3⟩
          have hbx3 := cell_later hb3 hbx2
          have hB3 := Below.on hB2 hb3
          go_wp2_with fail
          refine (compare_at [] 0 5 0 8 (by kernel_rfl) (by kernel_rfl) _ _ _ _ (hT.below hB3)).mono ?_
          rintro e u4 ⟨rfl, hb4⟩
          have hbx4 := cell_later hb4 hbx3
          have hB4 := Below.on hB3 hb4
          go_wp2_with fail
          refine (place_at [] 5 0 8 (by kernel_rfl) (by kernel_rfl) _ _ _ _ (hT.below hB4)).mono ?_
          rintro e u5 ⟨rfl, hb5⟩
          have hbx5 := cell_later hb5 hbx4
          have hB5 := Below.on hB4 hb5
          go_wp2_with fail
          refine (previous_at [] 5 0 8 (by kernel_rfl) (by kernel_rfl) _ _ _ _ (hT.below hB5)).mono ?_
          rintro e u6 ⟨rfl, hb6⟩
          have hbx6 := cell_later hb6 hbx5
          have hB6 := Below.on hB5 hb6
          go_wp2_with fail
          refine (next_at [] 5 0 8 (by kernel_rfl) (by kernel_rfl) _ _ _ _ (hT.below hB6)).mono ?_
          rintro e u7 ⟨rfl, hb7⟩
          have hbx7 := cell_later hb7 hbx6
          have hB7 := Below.on hB6 hb7
          go_wp2
          go_roundw
          case rel => exact ⟨1 + 1, by omega, by go_num, hB7, hbx7⟩
          case measure => simp [intOf]
        · go_wp2
          go_roundw
          case rel => exact ⟨_, hk1, by go_num, Below.on (Below.on hb0 hb1) hb⟩
          case measure => simp [intOf]
    · go_wp2_with fail
      refine (example16_ok _).mono ?_
      intro e w1 hm
      obtain ⟨A, c, rfl, hT, hb1⟩ := made_at 5 rfl hm
      have hk1 : 1 + 1 ≤ 2 := by omega
      clear hm
      go_wp2
      go_loopw [4] (fun s wr => ∃ j : Nat, j ≤ 2 ∧ s = .int .i64 j ∧ Below w1.heap.size w1 wr ∧ wr.cell? ⟨w1.heap.size + 1, 0, none⟩ = some (.slice A 5 c)) (fun s _ => 2 - (intOf s).toNat)
      case atStart => exact ⟨0, by omega, rfl, below_alloc (below_alloc (below_alloc (Below.refl _ _) _) _) _, by go_simp⟩
      case round =>
        obtain ⟨j, hj, rfl, hb, hbx⟩ := hrel
        rcases (by omega : j = 0 ∨ j = 1 ∨ j = 2) with rfl | rfl | rfl
        · have hz : w1.heap.size + 1 < wr.heap.size := cell_in hbx
          have hbz := below_alloc hb (.cells #[.int .i64 (-1), .int .i64 5] 3)
          have hbxz := cell_later (below_alloc (Below.refl _ _) (.cells #[.int .i64 (-1), .int .i64 5] 3)) hbx
          go_wp2_with fail
          refine (list_c exT (-1) 2 (by kernel_rfl) _ _ _ _ (hT.below hbz)).mono ?_
          rintro e u1 ⟨A1, c1, rfl, -, -, -, hb1⟩
          have hbx1 := cell_later hb1 hbxz
          have hB1 := Below.on hbz hb1
          go_wp2_with fail
          refine (above_at exT (-1) _ 2 (by kernel_rfl) rfl _ _ _ _ (hT.below hB1)).mono ?_
          rintro e u2 ⟨A2, c2, rfl, -, -, -, hb2⟩
          have hbx2 := cell_later hb2 hbx1
          have hB2 := Below.on hB1 hb2
          go_wp2_with fail
          refine (compare_at exT (-1) 0 0 2 (by kernel_rfl) (by kernel_rfl) _ _ _ _ (hT.below hB2)).mono ?_
          rintro e u3 ⟨rfl, hb3⟩
          have hbx3 := cell_later hb3 hbx2
          have hB3 := Below.on hB2 hb3
          go_wp2_with fail
          refine (compare_at exT 0 (-1) 0 2 (by kernel_rfl) (by kernel_rfl) _ _ _ _ (hT.below hB3)).mono ?_
          rintro e u4 ⟨rfl, hb4⟩
          have hbx4 := cell_later hb4 hbx3
          have hB4 := Below.on hB3 hb4
          go_wp2_with fail
          refine (place_at exT (-1) 0 2 (by kernel_rfl) (by kernel_rfl) _ _ _ _ (hT.below hB4)).mono ?_
          rintro e u5 ⟨rfl, hb5⟩
          have hbx5 := cell_later hb5 hbx4
          have hB5 := Below.on hB4 hb5
          go_wp2_with fail
          refine (previous_at exT (-1) 0 2 (by kernel_rfl) (by kernel_rfl) _ _ _ _ (hT.below hB5)).mono ?_
          rintro e u6 ⟨rfl, hb6⟩
          have hbx6 := cell_later hb6 hbx5
          have hB6 := Below.on hB5 hb6
          go_wp2_with fail
          refine (next_at exT (-1) 0 2 (by kernel_rfl) (by kernel_rfl) _ _ _ _ (hT.below hB6)).mono ?_
          rintro e u7 ⟨rfl, hb7⟩
          have hbx7 := cell_later hb7 hbx6
          have hB7 := Below.on hB6 hb7
          go_wp2
          go_roundw
          case rel => exact ⟨0 + 1, by omega, by go_num, hB7, hbx7⟩
          case measure => simp [intOf]
        · have hz : w1.heap.size + 1 < wr.heap.size := cell_in hbx
          have hbz := below_alloc hb (.cells #[.int .i64 (-1), .int .i64 5] 3)
          have hbxz := cell_later (below_alloc (Below.refl _ _) (.cells #[.int .i64 (-1), .int .i64 5] 3)) hbx
          go_wp2_with fail
          refine (list_c exT 5 2 (by kernel_rfl) _ _ _ _ (hT.below hbz)).mono ?_
          rintro e u1 ⟨A1, c1, rfl, -, -, -, hb1⟩
          have hbx1 := cell_later hb1 hbxz
          have hB1 := Below.on hbz hb1
          go_wp2_with fail
          refine (above_at exT 5 _ 2 (by kernel_rfl) rfl _ _ _ _ (hT.below hB1)).mono ?_
          rintro e u2 ⟨A2, c2, rfl, -, -, -, hb2⟩
          have hbx2 := cell_later hb2 hbx1
          have hB2 := Below.on hB1 hb2
          go_wp2_with fail
          refine (compare_at exT 5 0 0 2 (by kernel_rfl) (by kernel_rfl) _ _ _ _ (hT.below hB2)).mono ?_
          rintro e u3 ⟨rfl, hb3⟩
          have hbx3 := cell_later hb3 hbx2
          have hB3 := Below.on hB2 hb3
          go_wp2_with fail
          refine (compare_at exT 0 5 0 2 (by kernel_rfl) (by kernel_rfl) _ _ _ _ (hT.below hB3)).mono ?_
          rintro e u4 ⟨rfl, hb4⟩
          have hbx4 := cell_later hb4 hbx3
          have hB4 := Below.on hB3 hb4
          go_wp2_with fail
          refine (place_at exT 5 0 2 (by kernel_rfl) (by kernel_rfl) _ _ _ _ (hT.below hB4)).mono ?_
          rintro e u5 ⟨rfl, hb5⟩
          have hbx5 := cell_later hb5 hbx4
          have hB5 := Below.on hB4 hb5
          go_wp2_with fail
          refine (previous_at exT 5 0 2 (by kernel_rfl) (by kernel_rfl) _ _ _ _ (hT.below hB5)).mono ?_
          rintro e u6 ⟨rfl, hb6⟩
          have hbx6 := cell_later hb6 hbx5
          have hB6 := Below.on hB5 hb6
          go_wp2_with fail
          refine (next_at exT 5 0 2 (by kernel_rfl) (by kernel_rfl) _ _ _ _ (hT.below hB6)).mono ?_
          rintro e u7 ⟨rfl, hb7⟩
          have hbx7 := cell_later hb7 hbx6
          have hB7 := Below.on hB6 hb7
          go_wp2
          go_roundw
          case rel => exact ⟨1 + 1, by omega, by go_num, hB7, hbx7⟩
          case measure => simp [intOf]
        · go_wp2
          go_roundw
          case rel => exact ⟨_, hk1, by go_num, Below.on (Below.on hb0 hb1) hb⟩
          case measure => simp [intOf]
    · go_wp2_with fail
      refine (example16_ok _).mono ?_
      intro e w1 hm
      obtain ⟨A, c, rfl, hT, hb1⟩ := made_at 5 rfl hm
      clear hm
      have hT := hide (hT.below (below_alloc (Below.refl _ _) (.cells #[.slice A 5 c] 24)))
      have hW := below_alloc hb1 (.cells #[.slice A 5 c] 24)
      have hB1 := Below.refl (w1.alloc (.cells #[.slice A 5 c] 24)).heap.size (w1.alloc (.cells #[.slice A 5 c] 24))
      have hbox1 : (w1.alloc (.cells #[.slice A 5 c] 24)).cell? ⟨w1.heap.size, 0, none⟩ = some (.slice A 5 c) := by go_simp
      go_wp2_with fail
      refine (above_at exT 3 [2, 0] 0 (by kernel_rfl) (by kernel_rfl) _ _ _ _ hT.out).mono ?_
      rintro e w2 ⟨A2, c2, rfl, hI2, -, -, hb2⟩
      have hbox2 := cell_later hb2 hbox1
      have hB2 := Below.on hB1 hb2
      have hI2' := hide hI2
      clear hI2
      go_wp2_with fail
      refine (above_at exT 0 [] 0 (by kernel_rfl) (by kernel_rfl) _ _ _ _ (hT.out.below hB2)).mono ?_
      rintro e w3 ⟨A3, c3, rfl, -, -, -, hb3⟩
      have hbox3 := cell_later hb3 hbox2
      have hB3 := Below.on hB2 hb3
      go_wp2_with fail
      refine (compare_at exT 2 2 0 0 (by kernel_rfl) (by kernel_rfl) _ _ _ _ (hT.out.below hB3)).mono ?_
      rintro e w4 ⟨rfl, hb4⟩
      have hbox4 := cell_later hb4 hbox3
      have hB4 := Below.on hB3 hb4
      go_wp2_with fail
      refine (previous_at exT 0 (-1) 0 (by kernel_rfl) (by kernel_rfl) _ _ _ _ (hT.out.below hB4)).mono ?_
      rintro e w5 ⟨rfl, hb5⟩
      have hbox5 := cell_later hb5 hbox4
      have hB5 := Below.on hB4 hb5
      go_wp2_with fail
      refine (next_at exT 4 (-1) 0 (by kernel_rfl) (by kernel_rfl) _ _ _ _ (hT.out.below hB5)).mono ?_
      rintro e w6 ⟨rfl, hb6⟩
      have hbox6 := cell_later hb6 hbox5
      have hB6 := Below.on hB5 hb6
      go_wp2_with fail
      refine (place_at exT 4 0 0 (by kernel_rfl) (by kernel_rfl) _ _ _ _ (hT.out.below hB6)).mono ?_
      rintro e w7 ⟨rfl, hb7⟩
      have hbox7 := cell_later hb7 hbox6
      have hB7 := Below.on hB6 hb7
      go_wp2_with fail
      refine (next_at exT 1 (-1) 0 (by kernel_rfl) (by kernel_rfl) _ _ _ _ (hT.out.below hB7)).mono ?_
      rintro e w8 ⟨rfl, hb8⟩
      have hbox8 := cell_later hb8 hbox7
      have hB8 := Below.on hB7 hb8
      go_wp2_with fail
      refine (previous_at exT 2 (-1) 0 (by kernel_rfl) (by kernel_rfl) _ _ _ _ (hT.out.below hB8)).mono ?_
      rintro e w9 ⟨rfl, hb9⟩
      have hbox9 := cell_later hb9 hbox8
      have hB9 := Below.on hB8 hb9
      go_wp2_with fail
      refine (alive16_ok _).mono ?_
      rintro e w10 ⟨rfl, hb10⟩
      have hB10 := Below.on hB9 hb10
      have hI2' := hide ((((((((hI2'.out.below hb3).below hb4).below hb5).below hb6).below hb7).below hb8).below hb9).below hb10)
      go_wp2_with fail
      refine (sameInts_yes _ _ 2 2 _ _ [2, 0] _ (hI2'.out.below (below_alloc (Below.refl _ _) _)) (isInts_lit _ _ _ [2, 0] (by decide) rfl)).mono ?_
      rintro e w11 ⟨rfl, hb11⟩
      have hB11 := Below.on (below_alloc hB10 _) hb11
      go_wp2
      go_ret
      exact ⟨rfl, Below.on hb0 (Below.on hW hB11)⟩

set_option maxRecDepth 100000 in
theorem lifted (os : Os) (started : os.Started) (H : Type) (enc : TypeId × Value → H) :
    ReturnsInHanded {} Try.checked os 6 .any (Rows.orderNamesSpec.pre6 enc Try.prog Try.f6 Rows.orderNamesRow.domain false) (Rows.orderNamesSpec.post enc Try.prog Try.f6 false true false false) := by
  refine returnsInHanded_of_change (C := Try.checked) own started (by kernel_rfl) Try.func6
    (ChangeSpec.witness6 (enc := enc) (C := Try.checked) false ⟨#[], #[], []⟩ 8 (by kernel_rfl) (by kernel_rfl) (by kernel_rfl) (by kernel_rfl)) ?_
  intro W base args ds gs before hval0 hW hcnd _
  have hW' := hW
  obtain ⟨p, q, hA0, hV, rfl, hfz, hnd⟩ := hW
  have hA : DataW.TrodAll enc Try.prog W 0 (fun _ => true) true Try.f6.params.toList args.toList ds p := hA0
  rw [Try.params6] at hA
  obtain ⟨h1, rfl, rfl⟩ := trodAll_nil hA
  obtain rfl : args = #[] := by cases args; simp_all
  obtain ⟨rfl, rfl⟩ := trodVars_none hV
  clear hA0 hval0
  refine (walk W).mono fun e W' ⟨he, bel⟩ => ?_
  subst he
  exact ⟨_, rfl, _, _, _, [], _, [], hW', trodAll_mk1 (shut_bool Try.underlying4 _), trodAll_mk0, rfl, bel.frame _, fun h => by cases h⟩

theorem proved : Rows.OrderNamesSaid :=
  OpenClaim.holds_of_wide 6 Try.f6 rfl rfl rfl rfl rfl rfl rfl ⟨rfl, rfl, rfl, rfl, rfl⟩ rfl rfl rfl rfl rfl (by kernel_rfl) Try.func6 (by kernel_rfl)
    (of_decide_eq_true (by kernel_rfl)) (by unfold Func.isWrapper; first | (rw [if_pos (by decide +kernel)]; kernel_rfl) | (rw [if_neg (by decide +kernel)]; exact ⟨rfl, rfl⟩))
    (fun os started H enc _ => lifted os started H enc)
#print axioms proved
end Go.Proofs.Ytankambfobfnfaa.orderNames
