/- Walks: chapter 22's example, and what is checked of it. No condition. -/
import Derived.Test.YtaliekkdamghbaaHc
import Derived.Test.YtaliekkdamghbaaLt
import Derived.Test.YtaliekkdamghbaaSb
namespace Go.Proofs.Ytaliekkdamghbaa
open Go.RowKit

/-- The chapter's tree: ul, li, li, b. -/
def ex22 : List ANode := [⟨bs [117, 108], [], -1, [1, 2]⟩, ⟨bs [108, 105], [], 0, [3]⟩, ⟨bs [108, 105], [], 0, []⟩, ⟨bs [98], [], 1, []⟩]
def ex22X : List (List Bool) := [[false, false, false, true]]
def ex22Y : List (List Bool) := [[false, false, true, false]]
theorem goodB_ex22 : goodB ex22 = true := by kernel_rfl
theorem lt4h {j : Nat} (h : j < 4) : j = 0 ∨ j = 1 ∨ j = 2 ∨ j = 3 := by omega
def exCells22 (g1 g2 : Nat) : Array Value :=
  #[.string (bs [117, 108]), .slice none 0 0, .int .i64 (-1), .slice (some ⟨g1, 0, none⟩) 2 2,
    .string (bs [108, 105]), .slice none 0 0, .int .i64 0, .slice (some ⟨g2, 0, none⟩) 1 1,
    .string (bs [108, 105]), .slice none 0 0, .int .i64 0, .slice none 0 0,
    .string (bs [98]), .slice none 0 0, .int .i64 1, .slice none 0 0]
theorem ex_tree22 {w : World} {g g1 g2 : Nat} (hc : ∀ j, j < 16 → w.cell? ⟨g, j, none⟩ = (exCells22 g1 g2)[j]?) (h1 : IsInts w (some ⟨g1, 0, none⟩) 2 [1, 2]) (h2 : IsInts w (some ⟨g2, 0, none⟩) 1 [3]) : IsTree w (some ⟨g, 0, none⟩) 4 ex22 := by
  refine isTree_lt ex22 rfl (by omega) (by decide) (fun _ => none) (fun j => if j = 0 then some ⟨g1, 0, none⟩ else if j = 1 then some ⟨g2, 0, none⟩ else none) (fun _ => 0) (fun j => if j = 0 then 2 else if j = 1 then 1 else 0)
    (fun _ => cell_in (p := ⟨g, 0, none⟩) (v := .string (bs [117, 108])) (hc 0 (by omega))) (fun j hj => ?_) (fun j hj => ?_) (fun j hj => ?_)
  · refine ⟨(hc _ (by omega)).trans ?_, (hc _ (by omega)).trans ?_, (hc _ (by omega)).trans ?_, (hc _ (by omega)).trans ?_⟩
    all_goals (rcases lt4h hj with rfl | rfl | rfl | rfl <;> rfl)
  · have ha : (nd ex22 j).attrs = [] := by rcases lt4h hj with rfl | rfl | rfl | rfl <;> rfl
    rw [ha]
    exact ⟨isAttrs_nil w, Nat.le_refl _, Nat.zero_le _⟩
  · rcases lt4h hj with rfl | rfl | rfl | rfl
    · exact ⟨h1, by decide, by decide⟩
    · exact ⟨h2, by decide, by decide⟩
    all_goals exact ⟨isInts_nil w, by decide, by decide⟩
theorem row1_lt (W : World) (g g1 : Nat) (t : TypeId) (r : List Bool) (hr4 : r.length = 4) (hg : g = W.heap.size) (h1 : IsBools W (some ⟨g1, 0, none⟩) 4 r) :
    IsBB (W.alloc (.cells #[.slice (some ⟨g1, 0, none⟩) 4 4] t)) (some ⟨g, 0, none⟩) 1 [r] := by
  refine isBB_lt W g t [r] (fun _ => some ⟨g1, 0, none⟩) (fun _ => 4) _ (by simp) hg (fun j hj => ?_) (fun j hj => ?_)
  · obtain rfl : j = 0 := by simp at hj; omega
    show some (Value.slice _ 4 4) = some (.slice _ (rowB [r] 0).length 4)
    rw [show (rowB [r] 0).length = 4 from hr4]
  · obtain rfl : j = 0 := by simp at hj; omega
    show IsBools W _ (rowB [r] 0).length (rowB [r] 0) ∧ (rowB [r] 0).length ≤ 4 ∧ _
    rw [show (rowB [r] 0).length = 4 from hr4]
    exact ⟨h1, by decide, by decide⟩
def MadeEx22 (w : World) (e : Ending) (w' : World) : Prop :=
  ∃ (A C D : Option Addr) (c : Nat), e = .returned (.tuple #[.agg #[.slice A 4 c], .slice C 1 1, .slice D 1 1]) ∧ IsTree w' A 4 ex22 ∧ IsBB w' C 1 ex22X ∧ IsBB w' D 1 ex22Y ∧ Below w.heap.size w w'
set_option maxRecDepth 100000 in
theorem example22_ok (w : World) : Calls Try.prog 38 #[] w (MadeEx22 w) := by
  go_enter Try.func38, Try.ntmps38
  go_wp2
  refine bodyPost_ret (v := .tuple #[.agg #[.slice (some ⟨w.heap.size + 1 + 1 + 1, 0, none⟩) 4 4], .slice (some ⟨w.heap.size + 1 + 1 + 1 + 1 + 1 + 1, 0, none⟩) 1 1, .slice (some ⟨w.heap.size + 1 + 1 + 1 + 1 + 1 + 1 + 1 + 1, 0, none⟩) 1 1]) (by simp [results, Try.results38, go_sem]) rfl ⟨_, _, _, _, rfl, ?_, ?_, ?_, ?_⟩
  · refine IsTree.below ?_ (below_alloc (below_alloc (below_alloc (below_alloc (below_alloc (Below.refl _ _) _) _) _) _) _)
    refine ex_tree22 (g1 := w.heap.size + 1) (g2 := w.heap.size + 1 + 1) (fun j hj => ?_) ?_ ?_
    · rw [World.cell?_alloc_at _ _ _ _ (by simp)]; rfl
    · exact (isInts_lit _ _ _ [1, 2] (by decide) (by simp)).below (below_alloc (below_alloc (Below.refl _ _) _) _)
    · exact (isInts_build1 _ _ _ _ (by simp)).below (below_alloc (Below.refl _ _) _)
  · refine IsBB.below ?_ (below_alloc (below_alloc (Below.refl _ _) _) _)
    refine row1_lt _ _ (w.heap.size + 1 + 1 + 1 + 1 + 1) _ _ rfl (by simp) ?_
    exact isBools_lt _ _ _ [false, false, false, true] (by decide) (by simp)
  · refine row1_lt _ _ (w.heap.size + 1 + 1 + 1 + 1 + 1 + 1 + 1) _ _ rfl (by simp) ?_
    exact isBools_lt _ _ _ [false, false, true, false] (by decide) (by simp)
  · exact below_alloc (below_alloc (below_alloc (below_alloc (below_alloc (below_alloc (below_alloc (below_alloc (below_alloc (Below.refl _ _) _) _) _) _) _) _) _) _) _
theorem f4_cells : madeCells #[.bool false] 4 = (bools [false, false, false, false]).toArray := by
  refine Array.ext' ?_
  rw [toList_madeCells_one]
  rfl
/-- The contracts at known answers. -/
theorem hAll_at (T : List ANode) (ld : Int) (cs : List Int) (H : List (List Bool)) (xs : List Bool) (c0 : Int) (h0 : haE T ld cs H = c0) (hl : haV T ld cs H = xs) (A B C : Option Addr) (n c m d k e : Nat) (w : World) (h : IsTree w A n T) (hcs : IsU8 w B m cs) (hH : IsBB w C k H) (he1 : k ≤ e) (he2 : e ≤ 9223372036854775807) :
    Calls Try.prog 36 #[.agg #[.slice A n c], .int .u8 ld, .slice B m d, .slice C k e] w (MadeBoolsE w xs c0) := by
  have := hAll_ok A B C n c m d k e T ld cs H w h hcs hH he1 he2
  rw [hl, h0] at this
  exact this
theorem hMatch_at (T : List ANode) (i ld : Int) (cs : List Int) (H : List (List Bool)) (v : Bool) (c0 : Int) (h0 : hmE T i ld cs H = c0) (hl : hmV T i ld cs H = v) (A B C : Option Addr) (n c m d k e : Nat) (w : World) (h : IsTree w A n T) (hcs : IsU8 w B m cs) (hH : IsBB w C k H) (he1 : k ≤ e) (he2 : e ≤ 9223372036854775807) :
    Calls Try.prog 34 #[.agg #[.slice A n c], .int .i64 i, .int .u8 ld, .slice B m d, .slice C k e] w fun r w' => r = .returned (.tuple #[.bool v, .int .i64 c0]) ∧ Below w.heap.size w w' := by
  have := hMatch_ok A B C n c m d k e T i ld cs H w h hcs hH he1 he2
  rw [hl, h0] at this
  exact this
theorem hReach_at (T : List ANode) (i ld : Int) (xs : List Int) (c0 : Int) (h0 : rchC T i ld = c0) (hl : rchX T i ld = xs) (A : Option Addr) (n c : Nat) (w : World) (h : IsTree w A n T) :
    Calls Try.prog 32 #[.agg #[.slice A n c], .int .i64 i, .int .u8 ld] w (MadeIntsR w xs c0) := by
  have := hReach_ok A n c T i ld w h
  rw [hl, h0] at this
  exact this

set_option maxRecDepth 100000 in
set_option maxHeartbeats 1000000 in
theorem alive22_ok (w : World) : Calls Try.prog 39 #[] w fun e w' => e = .returned (.bool true) ∧ Below w.heap.size w w' := by
  have hmk : ∀ W : World, (Instr.makeSlice 31 (.int .i64 4) (.int .i64 4)).run Try.prog W = .ok (.slice (some ⟨W.heap.size, 0, none⟩) 4 4) (W.alloc (.cells (madeCells #[.bool false] 4) 4)) := mk_bools 4 (by omega)
  go_enter Try.func39, Try.ntmps39
  go_wp2_with fail
  refine (example22_ok _).mono ?_
  rintro e w1 ⟨A, C, D, c, rfl, hT, hX, hY, hb1⟩
  have hz1 : Below w1.heap.size w1 (w1.alloc (.cells #[.slice A 4 c] 24)) := below_alloc (Below.refl _ _) _
  have hX := hide (hX.below hz1)
  have hY := hide (hY.below hz1)
  have hT := hide (hT.below (below_alloc (Below.refl _ _) (.cells #[.slice A 4 c] 24)))
  have hW := below_alloc hb1 (.cells #[.slice A 4 c] 24)
  have hB1 := Below.refl (w1.alloc (.cells #[.slice A 4 c] 24)).heap.size (w1.alloc (.cells #[.slice A 4 c] 24))
  have hbox1 : (w1.alloc (.cells #[.slice A 4 c] 24)).cell? ⟨w1.heap.size, 0, none⟩ = some (.slice A 4 c) := by go_simp
  go_wp2_with fail
  refine (hAll_at ex22 1 [] ex22X [true, true, false, false] 0 (by kernel_rfl) (by kernel_rfl) _ _ _ _ c 0 _ 1 1 _ hT.out (isU8_nil _) hX.out (by decide) (by decide)).mono ?_
  rintro e w2 ⟨A2, c2, rfl, hI2, -, -, hb2⟩
  have hB2 := hb2
  have hbox2 := cell_later hB2 hbox1
  have hI2' := hide hI2
  clear hI2 hb2
  go_wp2_with fail
  refine (hAll_at ex22 2 [] ex22X [false, true, false, false] 0 (by kernel_rfl) (by kernel_rfl) _ _ _ _ c 0 _ 1 1 _ (hT.out.below hB2) (isU8_nil _) (hX.out.below hB2) (by decide) (by decide)).mono ?_
  rintro e w3 ⟨A3, c3, rfl, hI3, -, -, hb3⟩
  have hB3 := Below.on hB2 hb3
  have hbox3 := cell_later hb3 hbox2
  have hI3' := hide hI3
  have hJ3 := hide (hI2'.out.below hb3)
  clear hI3 hb3 hI2'
  go_wp2_with fail
  refine (hAll_at ex22 3 [] ex22X [false, false, false, false] 0 (by kernel_rfl) (by kernel_rfl) _ _ _ _ c 0 _ 1 1 _ (hT.out.below hB3) (isU8_nil _) (hX.out.below hB3) (by decide) (by decide)).mono ?_
  rintro e w4 ⟨A4, c4, rfl, hI4, -, -, hb4⟩
  have hB4 := Below.on hB3 hb4
  have hbox4 := cell_later hb4 hbox3
  have hI4' := hide hI4
  have hJ4 := hide (hJ3.out.below hb4)
  have hK4 := hide (hI3'.out.below hb4)
  clear hI4 hb4 hJ3 hI3'
  go_wp2_with fail
  refine (hAll_at ex22 3 [] ex22Y [false, true, false, false] 0 (by kernel_rfl) (by kernel_rfl) _ _ _ _ c 0 _ 1 1 _ (hT.out.below hB4) (isU8_nil _) (hY.out.below hB4) (by decide) (by decide)).mono ?_
  rintro e w5 ⟨A5, c5, rfl, hI5, -, -, hb5⟩
  have hB5 := Below.on hB4 hb5
  have hI5' := hide hI5
  have hJ5 := hide (hJ4.out.below hb5)
  have hK5 := hide (hK4.out.below hb5)
  have hL5 := hide (hI4'.out.below hb5)
  clear hI5 hb5 hJ4 hK4 hI4'
  go_wp2_with fail
  have y1 := below_alloc (Below.refl w5.heap.size w5) (.cells (bools [true, true, false, false]).toArray 4)
  refine (sameBools_yes _ _ 4 4 _ _ [true, true, false, false] _ (hJ5.out.below y1) (isBools_lt _ _ _ [true, true, false, false] (by decide) rfl)).mono ?_
  rintro e w6 ⟨rfl, hb6⟩
  have hz := Below.on y1 hb6
  clear y1 hb6
  go_wp2_with fail
  have y1 := below_alloc (Below.refl w6.heap.size w6) (.cells (bools [false, true, false, false]).toArray 4)
  refine (sameBools_yes _ _ 4 4 _ _ [false, true, false, false] _ (hK5.out.below (Below.on hz y1)) (isBools_lt _ _ _ [false, true, false, false] (by decide) rfl)).mono ?_
  rintro e w7 ⟨rfl, hb7⟩
  have hz := Below.on (Below.on hz y1) hb7
  clear y1 hb7
  go_wp2_with fail
  rw [f4_cells]
  have y1 := below_alloc (Below.refl w7.heap.size w7) (.cells (bools [false, false, false, false]).toArray 4)
  refine (sameBools_yes _ _ 4 4 _ _ [false, false, false, false] _ (hL5.out.below (Below.on hz y1)) (isBools_lt _ _ _ [false, false, false, false] (by decide) rfl)).mono ?_
  rintro e w8 ⟨rfl, hb8⟩
  have hz := Below.on (Below.on hz y1) hb8
  clear y1 hb8
  go_wp2_with fail
  have y1 := below_alloc (Below.refl w8.heap.size w8) (.cells (bools [false, true, false, false]).toArray 4)
  refine (sameBools_yes _ _ 4 4 _ _ [false, true, false, false] _ (hI5'.out.below (Below.on hz y1)) (isBools_lt _ _ _ [false, true, false, false] (by decide) rfl)).mono ?_
  rintro e w9 ⟨rfl, hb9⟩
  have hz := Below.on (Below.on hz y1) hb9
  go_wp2
  go_ret
  exact ⟨rfl, Below.on (Below.on hW hB5) hz⟩
end Go.Proofs.Ytaliekkdamghbaa
