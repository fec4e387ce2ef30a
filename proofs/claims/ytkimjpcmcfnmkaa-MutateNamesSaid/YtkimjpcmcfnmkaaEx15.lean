/- Walks: chapter 15's example, and what is checked of it. No condition. -/
import Derived.Test.YtkimjpcmcfnmkaaMuh
import Derived.Test.YtkimjpcmcfnmkaaOe
namespace Go.Proofs.Ytkimjpcmcfnmkaa
open Go.RowKit

/-- The chapter's tree: html, p, p, a. -/
def ex15 : List ANode :=
  [⟨bs [104, 116, 109, 108], [], -1, [1, 2]⟩, ⟨bs [112], [], 0, [3]⟩, ⟨bs [112], [], 0, []⟩, ⟨bs [97], [], 1, []⟩]
def ex15a : List ANode :=
  [⟨bs [104, 116, 109, 108], [], -1, [2]⟩, ⟨bs [112], [], 2, [3]⟩, ⟨bs [112], [], 0, [1]⟩, ⟨bs [97], [], 1, []⟩]
def ex15b : List ANode :=
  [⟨bs [104, 116, 109, 108], [], -1, [1, 3, 2]⟩, ⟨bs [112], [], 0, []⟩, ⟨bs [112], [], 0, []⟩, ⟨bs [97], [], 0, []⟩]
theorem goodB_ex15 : goodB ex15 = true := by kernel_rfl
theorem ex15_app : appT ex15 2 1 = ex15a := by kernel_rfl
theorem ex15_appE : appE ex15 2 1 = 0 := by kernel_rfl
theorem ex15_cycT : appT ex15 3 1 = [] := by kernel_rfl
theorem ex15_cycE : appE ex15 3 1 = 40 := by kernel_rfl
theorem ex15_bef : befT ex15 3 2 = ex15b := by kernel_rfl
theorem ex15_befE : befE ex15 3 2 = 0 := by kernel_rfl

theorem lt4 {j : Nat} (h : j < 4) : j = 0 ∨ j = 1 ∨ j = 2 ∨ j = 3 := by omega
def exCells15 (g1 g2 : Nat) : Array Value :=
  #[.string (bs [104, 116, 109, 108]), .slice none 0 0, .int .i64 (-1), .slice (some ⟨g1, 0, none⟩) 2 2,
    .string (bs [112]), .slice none 0 0, .int .i64 0, .slice (some ⟨g2, 0, none⟩) 1 1,
    .string (bs [112]), .slice none 0 0, .int .i64 0, .slice none 0 0,
    .string (bs [97]), .slice none 0 0, .int .i64 1, .slice none 0 0]
theorem ex_tree15 {w : World} {g g1 g2 : Nat} (hc : ∀ j, j < 16 → w.cell? ⟨g, j, none⟩ = (exCells15 g1 g2)[j]?) (h1 : IsInts w (some ⟨g1, 0, none⟩) 2 [1, 2]) (h2 : IsInts w (some ⟨g2, 0, none⟩) 1 [3]) : IsTree w (some ⟨g, 0, none⟩) 4 ex15 := by
  refine ⟨rfl, by omega, fun x hx => ?_, fun _ => ⟨g, 0, fun _ => none, fun j => if j = 0 then some ⟨g1, 0, none⟩ else if j = 1 then some ⟨g2, 0, none⟩ else none, fun _ => 0, fun j => if j = 0 then 2 else if j = 1 then 1 else 0, rfl, ?_, ?_, ?_, ?_, ?_, ?_, ?_⟩⟩
  · simp [ex15] at hx
    rcases hx with rfl | rfl | rfl | rfl <;> decide
  · exact cell_in (p := ⟨g, 0, none⟩) (v := .string (bs [104, 116, 109, 108])) (hc 0 (by omega))
  · intro j hj; rw [Nat.zero_add, hc _ (by omega)]
    rcases lt4 hj with rfl | rfl | rfl | rfl <;> rfl
  · intro j hj; rw [Nat.zero_add, hc _ (by omega)]
    rcases lt4 hj with rfl | rfl | rfl | rfl <;> rfl
  · intro j hj; rw [Nat.zero_add, hc _ (by omega)]
    rcases lt4 hj with rfl | rfl | rfl | rfl <;> rfl
  · intro j hj; rw [Nat.zero_add, hc _ (by omega)]
    rcases lt4 hj with rfl | rfl | rfl | rfl <;> rfl
  · intro j hj
    have ha : (nd ex15 j).attrs = [] := by rcases lt4 hj with rfl | rfl | rfl | rfl <;> rfl
    rw [ha]
    exact ⟨isAttrs_nil w, Nat.le_refl _, Nat.zero_le _⟩
  · intro j hj
    rcases lt4 hj with rfl | rfl | rfl | rfl
    · exact ⟨h1, by decide, by decide⟩
    · exact ⟨h2, by decide, by decide⟩
    · exact ⟨isInts_nil w, by decide, by decide⟩
    · exact ⟨isInts_nil w, by decide, by decide⟩
def MadeEx15 (w : World) (e : Ending) (w' : World) : Prop :=
  ∃ (A : Option Addr) (c : Nat), e = .returned (.agg #[.slice A 4 c]) ∧ IsTree w' A 4 ex15 ∧ Below w.heap.size w w'
theorem example15_ok (w : World) : Calls Try.prog 21 #[] w (MadeEx15 w) := by
  go_enter Try.func21, Try.ntmps21
  go_wp2
  refine bodyPost_ret (v := .agg #[.slice (some ⟨w.heap.size + 1 + 1 + 1, 0, none⟩) 4 4]) (by simp [results, Try.results21, go_sem]) rfl ⟨_, _, rfl, ?_, below_alloc (below_alloc (below_alloc (below_alloc (Below.refl _ _) _) _) _) _⟩
  refine ex_tree15 (g1 := w.heap.size + 1) (g2 := w.heap.size + 1 + 1) (fun j hj => ?_) ?_ ?_
  · rw [World.cell?_alloc_at _ _ _ _ (by simp)]; rfl
  · exact (isInts_build2 _ _ _ _ _ (by simp)).below (below_alloc (below_alloc (Below.refl _ _) _) _)
  · exact (isInts_build1 _ _ _ _ (by simp)).below (below_alloc (Below.refl _ _) _)

/-- The contracts at known answers. -/
theorem append_at {T X : List ANode} {p k e0 : Int} {m : Nat} (he : appE T p k = e0) (hX : appT T p k = X) (hm : X.length = m) (A : Option Addr) (n c : Nat) (w : World) (h : IsTree w A n T) :
    Calls Try.prog 13 #[.agg #[.slice A n c], .int .i64 p, .int .i64 k] w fun e w' => ∃ (A' : Option Addr) (c' : Nat), e = .returned (.tuple #[.agg #[.slice A' m c'], .int .i64 e0]) ∧ True ∧ IsTree w' A' m X ∧ Below w.heap.size w w' := by
  have := append_ok A n c T p k w h
  rw [hX, he] at this
  subst hm
  exact this.mono fun e w' ⟨A', c', h1, _, h3, h4⟩ => ⟨A', c', h1, trivial, h3, h4⟩
theorem before_at {T X : List ANode} {p k e0 : Int} {m : Nat} (he : befE T p k = e0) (hX : befT T p k = X) (hm : X.length = m) (A : Option Addr) (n c : Nat) (w : World) (h : IsTree w A n T) :
    Calls Try.prog 11 #[.agg #[.slice A n c], .int .i64 p, .int .i64 k] w fun e w' => ∃ (A' : Option Addr) (c' : Nat), e = .returned (.tuple #[.agg #[.slice A' m c'], .int .i64 e0]) ∧ True ∧ IsTree w' A' m X ∧ Below w.heap.size w w' := by
  have := before_ok A n c T p k w h
  rw [hX, he] at this
  subst hm
  exact this.mono fun e w' ⟨A', c', h1, _, h3, h4⟩ => ⟨A', c', h1, trivial, h3, h4⟩
theorem take_at {T X : List ANode} {k e0 : Int} {m : Nat} (he : takeE T k = e0) (hX : takeT T k = X) (hm : X.length = m) (A : Option Addr) (n c : Nat) (w : World) (h : IsTree w A n T) :
    Calls Try.prog 19 #[.agg #[.slice A n c], .int .i64 k] w fun e w' => ∃ (A' : Option Addr) (c' : Nat), e = .returned (.tuple #[.agg #[.slice A' m c'], .int .i64 e0]) ∧ True ∧ IsTree w' A' m X ∧ Below w.heap.size w w' := by
  have := take_ok A n c T k w h
  rw [hX, he] at this
  subst hm
  exact this.mono fun e w' ⟨A', c', h1, _, h3, h4⟩ => ⟨A', c', h1, trivial, h3, h4⟩

set_option maxRecDepth 100000 in
set_option maxHeartbeats 2000000 in
theorem alive15_ok (w : World) : Calls Try.prog 9 #[] w fun e w' => e = .returned (.bool true) ∧ Below w.heap.size w w' := by
  go_enter Try.func9, Try.ntmps9
  go_wp2_with fail
  refine (example15_ok _).mono ?_
  rintro e w1 ⟨A1, c1, rfl, hT1, hb1⟩
  have hT1' := hide hT1
  clear hT1
  go_wp2_with fail
  refine (append_at ex15_appE ex15_app (m := 4) rfl _ _ c1 _ hT1'.out).mono ?_
  rintro e w2 ⟨A2, c2, rfl, -, hR, hb2⟩
  have hz2 := below_alloc hb2 (.cells #[.slice A2 4 c2] 24)
  have hB2 := Below.on hb1 hz2
  have hX2 := hide (hR.below (below_alloc (Below.refl _ _) (.cells #[.slice A2 4 c2] 24)))
  have b2 : (w2.alloc (.cells #[.slice A2 4 c2] 24)).cell? ⟨w2.heap.size, 0, none⟩ = some (.slice A2 4 c2) := by go_simp
  clear hR hb2 hz2 hb1 hT1'
  go_wp2_with fail
  refine (example15_ok _).mono ?_
  rintro e w3 ⟨A3, c3, rfl, hT3, hb3⟩
  have hT3' := hide hT3
  have hB3 := Below.on hB2 hb3
  have hX3 := hide (hX2.out.below hb3)
  have b3 := cell_later hb3 b2
  clear hT3 hX2 b2 hB2 hb3
  go_wp2_with fail
  refine (append_at ex15_cycE ex15_cycT (m := 0) rfl _ _ c3 _ hT3'.out).mono ?_
  rintro e w4 ⟨A4, c4, rfl, -, -, hb4⟩
  have hz4 := below_alloc hb4 (.cells #[.slice A4 0 c4] 24)
  have hB4 := Below.on hB3 hz4
  have hX4 := hide (hX3.out.below hz4)
  have b4 := cell_later hz4 b3
  clear hX3 b3 hB3 hb4 hz4 hT3'
  go_wp2_with fail
  refine (example15_ok _).mono ?_
  rintro e w5 ⟨A5, c5, rfl, hT5, hb5⟩
  have hT5' := hide hT5
  have hB5 := Below.on hB4 hb5
  have hX5 := hide (hX4.out.below hb5)
  have b5 := cell_later hb5 b4
  clear hT5 hX4 b4 hB4 hb5
  go_wp2_with fail
  refine (before_at ex15_befE ex15_bef (m := 4) rfl _ _ c5 _ hT5'.out).mono ?_
  rintro e w6 ⟨A6, c6, rfl, -, hR, hb6⟩
  have hz6 := below_alloc hb6 (.cells #[.slice A6 4 c6] 24)
  have hB6 := Below.on hB5 hz6
  have hX6 := hide (hX5.out.below hz6)
  have b6 := cell_later hz6 b5
  have hY6 := hide (hR.below (below_alloc (Below.refl _ _) (.cells #[.slice A6 4 c6] 24)))
  have d6 : (w6.alloc (.cells #[.slice A6 4 c6] 24)).cell? ⟨w6.heap.size, 0, none⟩ = some (.slice A6 4 c6) := by clear b6; go_simp
  clear hX5 b5 hB5 hb6 hz6 hR hT5'
  obtain ⟨-, -, -, hx⟩ := hX6.out
  obtain ⟨bx, ox, -, cA, -, cC, rfl, hbx, -, -, -, x3, -, hxC⟩ := hx (by omega)
  obtain ⟨-, -, -, hy⟩ := hY6.out
  obtain ⟨by', oy, -, dA, -, dC, rfl, hby, -, -, -, y3, -, hyC⟩ := hy (by omega)
  have x30 := x3 0 (by omega)
  have x31 := x3 1 (by omega)
  have x32 := x3 2 (by omega)
  have y30 := y3 0 (by omega)
  have y31 := y3 1 (by omega)
  have i0 := hide (hxC 0 (by omega)).1
  have i1 := hide (hxC 1 (by omega)).1
  have i2 := hide (hxC 2 (by omega)).1
  have k0 := hide (hyC 0 (by omega)).1
  change _ = some (Value.slice (cA 0) 1 (cC 0)) at x30
  change _ = some (Value.slice (cA 1) 1 (cC 1)) at x31
  change _ = some (Value.slice (cA 2) 1 (cC 2)) at x32
  change _ = some (Value.slice (dA 0) 3 (dC 0)) at y30
  change _ = some (Value.slice (dA 1) 0 (dC 1)) at y31
  change Hid (IsInts _ (cA 0) 1 [2]) at i0
  change Hid (IsInts _ (cA 1) 1 [3]) at i1
  change Hid (IsInts _ (cA 2) 1 [1]) at i2
  change Hid (IsInts _ (dA 0) 3 [1, 3, 2]) at k0
  simp only [Nat.zero_mul, Nat.one_mul, Nat.add_zero] at x30 x31 x32 y30 y31
  generalize cA 0 = B0 at x30 i0
  generalize cA 1 = B1 at x31 i1
  generalize cA 2 = B2 at x32 i2
  generalize dA 0 = D0 at y30 k0
  generalize cC 0 = e0 at x30
  generalize cC 1 = e1 at x31
  generalize cC 2 = e2 at x32
  generalize dC 0 = f0 at y30
  generalize dA 1 = D1 at y31
  generalize dC 1 = f1 at y31
  clear hX6 hY6 hx hy x3 y3 hxC hyC
  go_wp2_with fail
  have ha7 := below_alloc (Below.refl (w6.alloc (.cells #[.slice (some ⟨by', oy, none⟩) 4 c6] 24)).heap.size (w6.alloc (.cells #[.slice (some ⟨by', oy, none⟩) 4 c6] 24))) (.cells #[.int .i64 2] 3)
  refine (sameInts_yes B0 (some ⟨w6.heap.size + 1, 0, none⟩) 1 1 _ _ [2] _ (i0.out.below ha7) (isInts_lit _ _ _ [2] (by decide) (by simp))).mono ?_
  rintro e w7 ⟨rfl, hb7⟩
  have hz7 := Below.on ha7 hb7
  have hB7 := Below.on hB6 hz7
  have b6_7 := cell_later hz7 b6
  have d6_7 := cell_later hz7 d6
  have x30_7 := cell_later hz7 x30
  have x31_7 := cell_later hz7 x31
  have x32_7 := cell_later hz7 x32
  have y30_7 := cell_later hz7 y30
  have y31_7 := cell_later hz7 y31
  have i0_7 := hide (i0.out.below hz7)
  have i1_7 := hide (i1.out.below hz7)
  have i2_7 := hide (i2.out.below hz7)
  have k0_7 := hide (k0.out.below hz7)
  clear hz7 ha7 hb7 hB6 b6 d6 x30 x31 x32 y30 y31 i0 i1 i2 k0
  go_wp2_with fail
  have ha8 := below_alloc (Below.refl w7.heap.size w7) (.cells #[.int .i64 1] 3)
  refine (sameInts_yes _ _ 1 1 _ _ [1] _ (i2_7.out.below ha8) (isInts_lit _ _ _ [1] (by decide) rfl)).mono ?_
  rintro e w8 ⟨rfl, hb8⟩
  have hz8 := Below.on ha8 hb8
  have hB8 := Below.on hB7 hz8
  have b6_8 := cell_later hz8 b6_7
  have d6_8 := cell_later hz8 d6_7
  have x30_8 := cell_later hz8 x30_7
  have x31_8 := cell_later hz8 x31_7
  have x32_8 := cell_later hz8 x32_7
  have y30_8 := cell_later hz8 y30_7
  have y31_8 := cell_later hz8 y31_7
  have i0_8 := hide (i0_7.out.below hz8)
  have i1_8 := hide (i1_7.out.below hz8)
  have i2_8 := hide (i2_7.out.below hz8)
  have k0_8 := hide (k0_7.out.below hz8)
  clear hz8 ha8 hb8 hB7 b6_7 d6_7 x30_7 x31_7 x32_7 y30_7 y31_7 i0_7 i1_7 i2_7 k0_7
  go_wp2_with fail
  have ha9 := below_alloc (Below.refl w8.heap.size w8) (.cells #[.int .i64 3] 3)
  refine (sameInts_yes _ _ 1 1 _ _ [3] _ (i1_8.out.below ha9) (isInts_lit _ _ _ [3] (by decide) rfl)).mono ?_
  rintro e w9 ⟨rfl, hb9⟩
  have hz9 := Below.on ha9 hb9
  have hB9 := Below.on hB8 hz9
  have b6_9 := cell_later hz9 b6_8
  have d6_9 := cell_later hz9 d6_8
  have x30_9 := cell_later hz9 x30_8
  have x31_9 := cell_later hz9 x31_8
  have x32_9 := cell_later hz9 x32_8
  have y30_9 := cell_later hz9 y30_8
  have y31_9 := cell_later hz9 y31_8
  have i0_9 := hide (i0_8.out.below hz9)
  have i1_9 := hide (i1_8.out.below hz9)
  have i2_9 := hide (i2_8.out.below hz9)
  have k0_9 := hide (k0_8.out.below hz9)
  clear hz9 ha9 hb9 hB8 b6_8 d6_8 x30_8 x31_8 x32_8 y30_8 y31_8 i0_8 i1_8 i2_8 k0_8
  go_wp2_with fail
  have ha10 := below_alloc (Below.refl w9.heap.size w9) (.cells #[.int .i64 1, .int .i64 3, .int .i64 2] 3)
  refine (sameInts_yes _ _ 3 3 _ _ [1, 3, 2] _ (k0_9.out.below ha10) (isInts_lit _ _ _ [1, 3, 2] (by decide) rfl)).mono ?_
  rintro e w10 ⟨rfl, hb10⟩
  have hz10 := Below.on ha10 hb10
  have hB10 := Below.on hB9 hz10
  have b6_10 := cell_later hz10 b6_9
  have d6_10 := cell_later hz10 d6_9
  have x30_10 := cell_later hz10 x30_9
  have x31_10 := cell_later hz10 x31_9
  have x32_10 := cell_later hz10 x32_9
  have y30_10 := cell_later hz10 y30_9
  have y31_10 := cell_later hz10 y31_9
  have i0_10 := hide (i0_9.out.below hz10)
  have i1_10 := hide (i1_9.out.below hz10)
  have i2_10 := hide (i2_9.out.below hz10)
  have k0_10 := hide (k0_9.out.below hz10)
  clear hz10 ha10 hb10 hB9 b6_9 d6_9 x30_9 x31_9 x32_9 y30_9 y31_9 i0_9 i1_9 i2_9 k0_9
  go_wp2
  go_ret
  exact ⟨rfl, hB10⟩
end Go.Proofs.Ytkimjpcmcfnmkaa
