/- Walks: chapter 16's example, and what is checked of it. No condition. -/
import Derived.Test.YtankambfobfnfaaOe
namespace Go.Proofs.Ytankambfobfnfaa
open Go.RowKit

theorem example16_ok (w : World) : Calls Try.prog 31 #[] w (MadeTree w exT) := by
  go_enter Try.func31, Try.ntmps31
  go_wp2
  refine bodyPost_ret (v := .agg #[.slice (some ⟨w.heap.size + 1 + 1 + 1, 0, none⟩) 5 5]) (by simp [results, Try.results31, go_sem]) rfl ⟨_, _, rfl, ?_, below_alloc (below_alloc (below_alloc (below_alloc (Below.refl _ _) _) _) _) _⟩
  refine ex_tree (g1 := w.heap.size + 1) (g2 := w.heap.size + 1 + 1) (fun j hj => ?_) ?_ ?_
  · rw [World.cell?_alloc_at _ _ _ _ (by simp)]; rfl
  · exact (isInts_build2 _ _ _ _ _ (by simp)).below (below_alloc (below_alloc (Below.refl _ _) _) _)
  · exact (isInts_build1 _ _ _ _ (by simp)).below (below_alloc (Below.refl _ _) _)

theorem list_at (i : Int) (xs : List Int) (h0 : askI exT [i] = 0) (hl : preT exT i = xs) (A : Option Addr) (n c : Nat) (w : World) (h : IsTree w A n exT) :
    Calls Try.prog 22 #[.agg #[.slice A n c], .int .i64 i] w (MadeIntsE w xs 0) := by
  have := list_ok A n c exT i w h
  rw [listE_ok h0, h0, hl] at this
  exact this
theorem above_at (T : List ANode) (i : Int) (xs : List Int) (c0 : Int) (h0 : askI T [i] = c0) (hl : aboveE T i = xs) (A : Option Addr) (n c : Nat) (w : World) (h : IsTree w A n T) :
    Calls Try.prog 24 #[.agg #[.slice A n c], .int .i64 i] w (MadeIntsE w xs c0) := by
  have := above_ok A n c T i w h
  rw [hl, h0] at this
  exact this
theorem compare_at (T : List ANode) (i k v c0 : Int) (h0 : cmpE T i k = c0) (hl : cmpV T i k = v) (A : Option Addr) (n c : Nat) (w : World) (h : IsTree w A n T) :
    Calls Try.prog 26 #[.agg #[.slice A n c], .int .i64 i, .int .i64 k] w fun e w' => e = .returned (.tuple #[.int .i64 v, .int .i64 c0]) ∧ Below w.heap.size w w' := by
  have := compare_ok A n c T i k w h
  rw [hl, h0] at this
  exact this
theorem place_at (T : List ANode) (i v c0 : Int) (h0 : askI T [i] = c0) (hl : placeE T i = v) (A : Option Addr) (n c : Nat) (w : World) (h : IsTree w A n T) :
    Calls Try.prog 16 #[.agg #[.slice A n c], .int .i64 i] w fun e w' => e = .returned (.tuple #[.int .i64 v, .int .i64 c0]) ∧ Below w.heap.size w w' := by
  have := place_ok A n c T i w h
  rw [hl, h0] at this
  exact this
theorem previous_at (T : List ANode) (i v c0 : Int) (h0 : askI T [i] = c0) (hl : besE T i (-1) = v) (A : Option Addr) (n c : Nat) (w : World) (h : IsTree w A n T) :
    Calls Try.prog 18 #[.agg #[.slice A n c], .int .i64 i] w fun e w' => e = .returned (.tuple #[.int .i64 v, .int .i64 c0]) ∧ Below w.heap.size w w' := by
  have := previous_ok A n c T i w h
  rw [hl, h0] at this
  exact this
theorem next_at (T : List ANode) (i v c0 : Int) (h0 : askI T [i] = c0) (hl : besE T i 1 = v) (A : Option Addr) (n c : Nat) (w : World) (h : IsTree w A n T) :
    Calls Try.prog 20 #[.agg #[.slice A n c], .int .i64 i] w fun e w' => e = .returned (.tuple #[.int .i64 v, .int .i64 c0]) ∧ Below w.heap.size w w' := by
  have := next_ok A n c T i w h
  rw [hl, h0] at this
  exact this

theorem made_at {w : World} {T : List ANode} {e : Ending} {w1 : World} (n : Nat) (hn : T.length = n) (h : MadeTree w T e w1) : ∃ (A : Option Addr) (c : Nat), e = .returned (.agg #[.slice A n c]) ∧ IsTree w1 A n T ∧ Below w.heap.size w w1 := by
  subst hn; exact h
set_option maxRecDepth 100000 in
set_option maxHeartbeats 1000000 in
theorem alive16_ok (w : World) : Calls Try.prog 29 #[] w fun e w' => e = .returned (.bool true) ∧ Below w.heap.size w w' := by
  go_enter Try.func29, Try.ntmps29
  go_wp2_with fail
  refine (example16_ok _).mono ?_
  intro e w1 hm
  obtain ⟨A, c, rfl, hT, hb1⟩ := made_at 5 rfl hm
  clear hm
  have hT := hide (hT.below (below_alloc (Below.refl _ _) (.cells #[.slice A 5 c] 24)))
  have hW := below_alloc hb1 (.cells #[.slice A 5 c] 24)
  have hB1 := Below.refl (w1.alloc (.cells #[.slice A 5 c] 24)).heap.size (w1.alloc (.cells #[.slice A 5 c] 24))
  have hbox1 : (w1.alloc (.cells #[.slice A 5 c] 24)).cell? ⟨w1.heap.size, 0, none⟩ = some (.slice A 5 c) := by go_simp
  go_wp2_with fail
  refine (list_at 0 [0, 2, 3, 1] (by kernel_rfl) (by kernel_rfl) _ _ _ _ (hT.out.below hB1)).mono ?_
  rintro e w2 ⟨A2, c2, rfl, hI2, -, -, hb2⟩
  have hbox2 := cell_later hb2 hbox1
  have hB2 := Below.on hB1 hb2
  have hI2' := hide hI2
  clear hI2
  go_wp2_with fail
  refine (compare_at exT 3 1 (-1) 0 (by kernel_rfl) (by kernel_rfl) _ _ _ _ (hT.out.below hB2)).mono ?_
  rintro e w3 ⟨rfl, hb3⟩
  have hbox3 := cell_later hb3 hbox2
  have hB3 := Below.on hB2 hb3
  go_wp2_with fail
  refine (place_at exT 1 1 0 (by kernel_rfl) (by kernel_rfl) _ _ _ _ (hT.out.below hB3)).mono ?_
  rintro e w4 ⟨rfl, hb4⟩
  have hbox4 := cell_later hb4 hbox3
  have hB4 := Below.on hB3 hb4
  go_wp2_with fail
  refine (previous_at exT 1 2 0 (by kernel_rfl) (by kernel_rfl) _ _ _ _ (hT.out.below hB4)).mono ?_
  rintro e w5 ⟨rfl, hb5⟩
  have hbox5 := cell_later hb5 hbox4
  have hB5 := Below.on hB4 hb5
  go_wp2_with fail
  refine (compare_at exT 4 0 0 6 (by kernel_rfl) (by kernel_rfl) _ _ _ _ (hT.out.below hB5)).mono ?_
  rintro e w6 ⟨rfl, hb6⟩
  have hbox6 := cell_later hb6 hbox5
  have hB6 := Below.on hB5 hb6
  go_wp2_with fail
  refine (sameInts_yes _ _ 4 4 _ _ [0, 2, 3, 1] _ ((((hI2'.out.below hb3).below hb4).below hb5).below hb6 |>.below (below_alloc (Below.refl _ _) _)) (isInts_lit _ _ _ [0, 2, 3, 1] (by decide) rfl)).mono ?_
  rintro e w7 ⟨rfl, hb7⟩
  have hB7 := Below.on (below_alloc hB6 _) hb7
  go_wp2
  go_ret
  exact ⟨rfl, Below.on hW hB7⟩
end Go.Proofs.Ytankambfobfnfaa
