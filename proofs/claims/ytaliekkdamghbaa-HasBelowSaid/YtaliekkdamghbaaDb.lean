/- Walks: chapter 21's example, and what is checked of it. No condition. -/
import Derived.Test.YtaliekkdamghbaaDd
import Derived.Test.YtaliekkdamghbaaLt
import Derived.Test.YtaliekkdamghbaaCx
import Derived.Test.YtaliekkdamghbaaSb
namespace Go.Proofs.Ytaliekkdamghbaa
open Go.RowKit

/-- The chapter's tree: ul, li, b, b, b. -/
def ex21 : List ANode := [⟨bs [117, 108], [], -1, [1]⟩, ⟨bs [108, 105], [], 0, [2, 3, 4]⟩, ⟨bs [98], [], 1, []⟩, ⟨bs [98], [], 1, []⟩, ⟨bs [98], [], 1, []⟩]
def ex21H : List (List Bool) := [[true, false, true, false, false], [false, true, false, true, false], [true, true, true, true, true]]
theorem goodB_ex21 : goodB ex21 = true := by kernel_rfl
def exCells21 (g1 g2 : Nat) : Array Value :=
  #[.string (bs [117, 108]), .slice none 0 0, .int .i64 (-1), .slice (some ⟨g1, 0, none⟩) 1 1,
    .string (bs [108, 105]), .slice none 0 0, .int .i64 0, .slice (some ⟨g2, 0, none⟩) 3 3,
    .string (bs [98]), .slice none 0 0, .int .i64 1, .slice none 0 0,
    .string (bs [98]), .slice none 0 0, .int .i64 1, .slice none 0 0,
    .string (bs [98]), .slice none 0 0, .int .i64 1, .slice none 0 0]
theorem ex_tree21 {w : World} {g g1 g2 : Nat} (hc : ∀ j, j < 20 → w.cell? ⟨g, j, none⟩ = (exCells21 g1 g2)[j]?) (h1 : IsInts w (some ⟨g1, 0, none⟩) 1 [1]) (h2 : IsInts w (some ⟨g2, 0, none⟩) 3 [2, 3, 4]) : IsTree w (some ⟨g, 0, none⟩) 5 ex21 := by
  refine isTree_lt ex21 rfl (by omega) (by decide) (fun _ => none) (fun j => if j = 0 then some ⟨g1, 0, none⟩ else if j = 1 then some ⟨g2, 0, none⟩ else none) (fun _ => 0) (fun j => if j = 0 then 1 else if j = 1 then 3 else 0)
    (fun _ => cell_in (p := ⟨g, 0, none⟩) (v := .string (bs [117, 108])) (hc 0 (by omega))) (fun j hj => ?_) (fun j hj => ?_) (fun j hj => ?_)
  · refine ⟨(hc _ (by omega)).trans ?_, (hc _ (by omega)).trans ?_, (hc _ (by omega)).trans ?_, (hc _ (by omega)).trans ?_⟩
    all_goals (rcases lt5 hj with rfl | rfl | rfl | rfl | rfl <;> rfl)
  · have ha : (nd ex21 j).attrs = [] := by rcases lt5 hj with rfl | rfl | rfl | rfl | rfl <;> rfl
    rw [ha]
    exact ⟨isAttrs_nil w, Nat.le_refl _, Nat.zero_le _⟩
  · rcases lt5 hj with rfl | rfl | rfl | rfl | rfl
    · exact ⟨h1, by decide, by decide⟩
    · exact ⟨h2, by decide, by decide⟩
    all_goals exact ⟨isInts_nil w, by decide, by decide⟩
/-- The rows of the example's lists are in blocks g1, g2, g3. -/
def rows3 (g1 g2 g3 : Nat) (j : Nat) : Option Addr := if j = 0 then some ⟨g1, 0, none⟩ else if j = 1 then some ⟨g2, 0, none⟩ else some ⟨g3, 0, none⟩
theorem lt3 {j : Nat} (h : j < 3) : j = 0 ∨ j = 1 ∨ j = 2 := by omega
theorem ex_hits21 (W : World) (g g1 g2 g3 : Nat) (t : TypeId) (hg : g = W.heap.size) (h1 : IsBools W (some ⟨g1, 0, none⟩) 5 [true, false, true, false, false]) (h2 : IsBools W (some ⟨g2, 0, none⟩) 5 [false, true, false, true, false]) (h3 : IsBools W (some ⟨g3, 0, none⟩) 5 [true, true, true, true, true]) :
    IsBB (W.alloc (.cells #[.slice (some ⟨g1, 0, none⟩) 5 5, .slice (some ⟨g2, 0, none⟩) 5 5, .slice (some ⟨g3, 0, none⟩) 5 5] t)) (some ⟨g, 0, none⟩) 3 ex21H := by
  refine isBB_lt W g t ex21H (rows3 g1 g2 g3) (fun _ => 5) _ (by decide) hg (fun j hj => ?_) (fun j hj => ?_)
  · rcases lt3 hj with rfl | rfl | rfl <;> rfl
  · rcases lt3 hj with rfl | rfl | rfl
    · exact ⟨h1, by decide, by decide⟩
    · exact ⟨h2, by decide, by decide⟩
    · exact ⟨h3, by decide, by decide⟩
def MadeEx21 (w : World) (e : Ending) (w' : World) : Prop :=
  ∃ (A C : Option Addr) (c : Nat), e = .returned (.tuple #[.agg #[.slice A 5 c], .slice C 3 3]) ∧ IsTree w' A 5 ex21 ∧ IsBB w' C 3 ex21H ∧ Below w.heap.size w w'
set_option maxRecDepth 100000 in
theorem example21_ok (w : World) : Calls Try.prog 28 #[] w (MadeEx21 w) := by
  go_enter Try.func28, Try.ntmps28
  go_wp2
  refine bodyPost_ret (v := .tuple #[.agg #[.slice (some ⟨w.heap.size + 1 + 1 + 1, 0, none⟩) 5 5], .slice (some ⟨w.heap.size + 1 + 1 + 1 + 1 + 1 + 1 + 1 + 1, 0, none⟩) 3 3]) (by simp [results, Try.results28, go_sem]) rfl ⟨_, _, _, rfl, ?_, ?_, ?_⟩
  · refine IsTree.below ?_ (below_alloc (below_alloc (below_alloc (below_alloc (below_alloc (Below.refl _ _) _) _) _) _) _)
    refine ex_tree21 (g1 := w.heap.size + 1) (g2 := w.heap.size + 1 + 1) (fun j hj => ?_) ?_ ?_
    · rw [World.cell?_alloc_at _ _ _ _ (by simp)]; rfl
    · exact (isInts_build1 _ _ _ _ (by simp)).below (below_alloc (below_alloc (Below.refl _ _) _) _)
    · exact (isInts_lit _ _ _ [2, 3, 4] (by decide) (by simp)).below (below_alloc (Below.refl _ _) _)
  · refine ex_hits21 _ _ (w.heap.size + 1 + 1 + 1 + 1 + 1) (w.heap.size + 1 + 1 + 1 + 1 + 1 + 1) (w.heap.size + 1 + 1 + 1 + 1 + 1 + 1 + 1) _ (by simp) ?_ ?_ ?_
    · exact (isBools_lt _ _ _ [true, false, true, false, false] (by decide) (by simp)).below (below_alloc (below_alloc (Below.refl _ _) _) _)
    · exact (isBools_lt _ _ _ [false, true, false, true, false] (by decide) (by simp)).below (below_alloc (Below.refl _ _) _)
    · exact isBools_lt _ _ _ [true, true, true, true, true] (by decide) (by simp)
  · exact below_alloc (below_alloc (below_alloc (below_alloc (below_alloc (below_alloc (below_alloc (below_alloc (below_alloc (Below.refl _ _) _) _) _) _) _) _) _) _) _
/-- The contracts at known answers. -/
theorem call_at (T : List ANode) (cs : List Int) (H : List (List Bool)) (xs : List Bool) (c0 : Int) (h0 : cchk T cs H = c0) (hl : allE T cs H = xs) (A B C : Option Addr) (n c m d k e : Nat) (w : World) (h : IsTree w A n T) (hcs : IsU8 w B m cs) (hH : IsBB w C k H) :
    Calls Try.prog 19 #[.agg #[.slice A n c], .slice B m d, .slice C k e] w (MadeBoolsE w xs c0) := by
  have := call_ok A B C n c m d k e T cs H w h hcs hH
  rw [hl, h0] at this
  exact this
theorem cways_at (T : List ANode) (i : Int) (cs : List Int) (H : List (List Bool)) (xs : List Int) (c0 : Int) (h0 : wayE T i cs H = c0) (hl : wayL T i cs H = xs) (A B C : Option Addr) (n c m d k e : Nat) (w : World) (h : IsTree w A n T) (hcs : IsU8 w B m cs) (hH : IsBB w C k H) :
    Calls Try.prog 24 #[.agg #[.slice A n c], .int .i64 i, .slice B m d, .slice C k e] w (MadeIntsE w xs c0) := by
  have := cways_ok A B C n c m d k e T i cs H w h hcs hH
  rw [hl, h0] at this
  exact this
theorem cmatch_at (T : List ANode) (i : Int) (cs : List Int) (H : List (List Bool)) (v : Bool) (c0 : Int) (h0 : cask T i cs H = c0) (hl : matE T i cs H = v) (A B C : Option Addr) (n c m d k e : Nat) (w : World) (h : IsTree w A n T) (hcs : IsU8 w B m cs) (hH : IsBB w C k H) :
    Calls Try.prog 21 #[.agg #[.slice A n c], .int .i64 i, .slice B m d, .slice C k e] w fun r w' => r = .returned (.tuple #[.bool v, .int .i64 c0]) ∧ Below w.heap.size w w' := by
  have := cmatch_ok A B C n c m d k e T i cs H w h hcs hH
  rw [hl, h0] at this
  exact this

set_option maxRecDepth 100000 in
set_option maxHeartbeats 1000000 in
theorem alive21_ok (w : World) : Calls Try.prog 15 #[] w fun e w' => e = .returned (.bool true) ∧ Below w.heap.size w w' := by
  go_enter Try.func15, Try.ntmps15
  go_wp2_with fail
  refine (example21_ok _).mono ?_
  rintro e w1 ⟨A, C, c, rfl, hT, hH, hb1⟩
  have hz1 : Below w1.heap.size w1 (w1.alloc (.cells #[.slice A 5 c] 24)) := below_alloc (Below.refl _ _) _
  have hH := hide (hH.below hz1)
  have hT := hide (hT.below (below_alloc (Below.refl _ _) (.cells #[.slice A 5 c] 24)))
  have hW := below_alloc hb1 (.cells #[.slice A 5 c] 24)
  have hB1 := Below.refl (w1.alloc (.cells #[.slice A 5 c] 24)).heap.size (w1.alloc (.cells #[.slice A 5 c] 24))
  have hbox1 : (w1.alloc (.cells #[.slice A 5 c] 24)).cell? ⟨w1.heap.size, 0, none⟩ = some (.slice A 5 c) := by go_simp
  go_wp2_with fail
  have z2 := below_alloc (Below.refl (w1.alloc (.cells #[.slice A 5 c] 24)).heap.size (w1.alloc (.cells #[.slice A 5 c] 24))) (.cells #[.int .u8 1, .int .u8 1] 5)
  refine (call_at ex21 [1, 1] ex21H [false, false, true, true, true] 0 (by kernel_rfl) (by kernel_rfl) _ _ _ _ c 2 _ 3 _ _ (hT.out.below z2) (isU8_lt _ _ _ [1, 1] (by decide) (by decide) (by simp)) (hH.out.below z2)).mono ?_
  rintro e w2 ⟨A2, c2, rfl, hI2, -, -, hb2⟩
  have hB2 := Below.on z2 hb2
  have hbox2 := cell_later hB2 hbox1
  have hI2' := hide hI2
  clear hI2 z2 hb2
  go_wp2_with fail
  have z3 := below_alloc (Below.refl w2.heap.size w2) (.cells #[.int .u8 3, .int .u8 3] 5)
  refine (call_at ex21 [3, 3] ex21H [false, false, false, false, true] 0 (by kernel_rfl) (by kernel_rfl) _ _ _ _ c 2 _ 3 _ _ (hT.out.below (Below.on hB2 z3)) (isU8_lt _ _ _ [3, 3] (by decide) (by decide) (by simp)) (hH.out.below (Below.on hB2 z3))).mono ?_
  rintro e w3 ⟨A3, c3, rfl, hI3, -, -, hb3⟩
  have hz := Below.on z3 hb3
  have hB3 := Below.on hB2 hz
  have hbox3 := cell_later hz hbox2
  have hI3' := hide hI3
  have hJ3 := hide (hI2'.out.below hz)
  clear hI3 z3 hb3 hI2' hz
  go_wp2_with fail
  have z4 := below_alloc (Below.refl w3.heap.size w3) (.cells #[.int .u8 1, .int .u8 1] 5)
  refine (cways_at ex21 4 [1, 1] ex21H [0, 1, 4] 0 (by kernel_rfl) (by kernel_rfl) _ _ _ _ c 2 _ 3 _ _ (hT.out.below (Below.on hB3 z4)) (isU8_lt _ _ _ [1, 1] (by decide) (by decide) (by simp)) (hH.out.below (Below.on hB3 z4))).mono ?_
  rintro e w4 ⟨A4, c4, rfl, hI4, -, -, hb4⟩
  have hz := Below.on z4 hb4
  have hB4 := Below.on hB3 hz
  have hbox4 := cell_later hz hbox3
  have hI4' := hide hI4
  have hJ4 := hide (hJ3.out.below hz)
  have hK4 := hide (hI3'.out.below hz)
  clear hI4 z4 hb4 hJ3 hI3' hz
  go_wp2_with fail
  have z5 := below_alloc (Below.refl w4.heap.size w4) (.cells #[.int .u8 3, .int .u8 3] 5)
  refine (cways_at ex21 4 [3, 3] ex21H [2, 3, 4] 0 (by kernel_rfl) (by kernel_rfl) _ _ _ _ c 2 _ 3 _ _ (hT.out.below (Below.on hB4 z5)) (isU8_lt _ _ _ [3, 3] (by decide) (by decide) (by simp)) (hH.out.below (Below.on hB4 z5))).mono ?_
  rintro e w5 ⟨A5, c5, rfl, hI5, -, -, hb5⟩
  have hz := Below.on z5 hb5
  have hB5 := Below.on hB4 hz
  have hI5' := hide hI5
  have hJ5 := hide (hJ4.out.below hz)
  have hK5 := hide (hK4.out.below hz)
  have hL5 := hide (hI4'.out.below hz)
  clear hI5 z5 hb5 hJ4 hK4 hI4' hz
  go_wp2_with fail
  have y1 := below_alloc (Below.refl w5.heap.size w5) (.cells (bools [false, false, true, true, true]).toArray 4)
  refine (sameBools_yes _ _ 5 5 _ _ [false, false, true, true, true] _ (hJ5.out.below y1) (isBools_lt _ _ _ [false, false, true, true, true] (by decide) rfl)).mono ?_
  rintro e w6 ⟨rfl, hb6⟩
  have hz := Below.on y1 hb6
  clear y1 hb6
  go_wp2_with fail
  have y1 := below_alloc (Below.refl w6.heap.size w6) (.cells (bools [false, false, false, false, true]).toArray 4)
  refine (sameBools_yes _ _ 5 5 _ _ [false, false, false, false, true] _ (hK5.out.below (Below.on hz y1)) (isBools_lt _ _ _ [false, false, false, false, true] (by decide) rfl)).mono ?_
  rintro e w7 ⟨rfl, hb7⟩
  have hz := Below.on (Below.on hz y1) hb7
  clear y1 hb7
  go_wp2_with fail
  have y1 := below_alloc (Below.refl w7.heap.size w7) (.cells (ints [0, 1, 4]).toArray 3)
  refine (sameInts_yes _ _ 3 3 _ _ [0, 1, 4] _ (hL5.out.below (Below.on hz y1)) (isInts_lit _ _ _ [0, 1, 4] (by decide) rfl)).mono ?_
  rintro e w8 ⟨rfl, hb8⟩
  have hz := Below.on (Below.on hz y1) hb8
  clear y1 hb8
  go_wp2_with fail
  have y1 := below_alloc (Below.refl w8.heap.size w8) (.cells (ints [2, 3, 4]).toArray 3)
  refine (sameInts_yes _ _ 3 3 _ _ [2, 3, 4] _ (hI5'.out.below (Below.on hz y1)) (isInts_lit _ _ _ [2, 3, 4] (by decide) rfl)).mono ?_
  rintro e w9 ⟨rfl, hb9⟩
  have hz := Below.on (Below.on hz y1) hb9
  go_wp2
  go_ret
  exact ⟨rfl, Below.on (Below.on hW hB5) hz⟩
end Go.Proofs.Ytaliekkdamghbaa
