/- Walks: chapter 22's example, and what is checked of it. No condition. -/
import Derived.Test.YtaliekkdamghbaaHc
import Derived.Test.YtaliekkdamghbaaLt
import Derived.Test.YtaliekkdamghbaaSb
import Derived.Test.YtaliekkdamghbaaDe
namespace Go.Proofs.Ytaliekkdamghbaa
open Go.RowKit

/-- The chapter's tree: ul, li, li, b. -/
def ex22 : List ANode := [⟨bs [117, 108], [], -1, [1, 2]⟩, ⟨bs [108, 105], [], 0, [3]⟩, ⟨bs [108, 105], [], 0, []⟩, ⟨bs [98], [], 1, []⟩]
def ex22X : List (List Bool) := [[false, false, false, true]]
def ex22Y : List (List Bool) := [[false, false, true, false]]
theorem goodB_ex22 : goodB ex22 = true := by kernel_rfl
theorem lt4h {j : Nat} (h : j < 4) : j = 0 ∨ j = 1 ∨ j = 2 ∨ j = 3 := by omega
def exCells22 (g1 g2 : Nat) : Array Value :=
  #[.string (bs [117, 108]), .slice none 0 0, .int .i64 (-1), .slice (some ⟨g1, 0, none⟩) 2 2,
    .string (bs [108, 105]), .slice none 0 0, .int .i64 0, .slice (some ⟨g2, 0, none⟩) 1 1,
    .string (bs [108, 105]), .slice none 0 0, .int .i64 0, .slice none 0 0,
    .string (bs [98]), .slice none 0 0, .int .i64 1, .slice none 0 0]
theorem ex_tree22 {w : World} {g g1 g2 : Nat} (hc : ∀ j, j < 16 → w.cell? ⟨g, j, none⟩ = (exCells22 g1 g2)[j]?) (h1 : IsInts w (some ⟨g1, 0, none⟩) 2 [1, 2]) (h2 : IsInts w (some ⟨g2, 0, none⟩) 1 [3]) : IsTree w (some ⟨g, 0, none⟩) 4 ex22 := by
  refine isTree_lt ex22 rfl (by omega) (by decide) (fun _ => none) (fun j => if j = 0 then some ⟨g1, 0, none⟩ else if j = 1 then some ⟨g2, 0, none⟩ else none) (fun _ => 0) (fun j => if j = 0 then 2 else if j = 1 then 1 else 0)
    (fun _ => cell_in (p := ⟨g, 0, none⟩) (v := .string (bs [117, 108])) (hc 0 (by omega))) (fun j hj => ?_) (fun j hj => ?_) (fun j hj => ?_)
  · refine ⟨(hc _ (by omega)).trans ?_, (hc _ (by omega)).trans ?_, (hc _ (by omega)).trans ?_, (hc _ (by omega)).trans ?_⟩
    all_goals (rcases lt4h hj with rfl | rfl | rfl | rfl <;> rfl)
  · have ha : (nd ex22 j).attrs = [] := by rcases lt4h hj with rfl | rfl | rfl | rfl <;> rfl
    rw [ha]
    exact ⟨isAttrs_nil w, Nat.le_refl _, Nat.zero_le _⟩
  · rcases lt4h hj with rfl | rfl | rfl | rfl
    · exact ⟨h1, by decide, by decide⟩
    · exact ⟨h2, by decide, by decide⟩
    all_goals exact ⟨isInts_nil w, by decide, by decide⟩
theorem row1_lt (W : World) (g g1 : Nat) (t : TypeId) (r : List Bool) (hr4 : r.length = 4) (hg : g = W.heap.size) (h1 : IsBools W (some ⟨g1, 0, none⟩) 4 r) :
    IsBB (W.alloc (.cells #[.slice (some ⟨g1, 0, none⟩) 4 4] t)) (some ⟨g, 0, none⟩) 1 [r] := by
  refine isBB_lt W g t [r] (fun _ => some ⟨g1, 0, none⟩) (fun _ => 4) _ (by simp) hg (fun j hj => ?_) (fun j hj => ?_)
  · obtain rfl : j = 0 := by simp at hj; omega
    show some (Value.slice _ 4 4) = some (.slice _ (rowB [r] 0).length 4)
    rw [show (rowB [r] 0).length = 4 from hr4]
  · obtain rfl : j = 0 := by simp at hj; omega
    show IsBools W _ (rowB [r] 0).length (rowB [r] 0) ∧ (rowB [r] 0).length ≤ 4 ∧ _
    rw [show (rowB [r] 0).length = 4 from hr4]
    exact ⟨h1, by decide, by decide⟩
def MadeEx22 (w : World) (e : Ending) (w' : World) : Prop :=
  ∃ (A C D : Option Addr) (c : Nat), e = .returned (.tuple #[.agg #[.slice A 4 c], .slice C 1 1, .slice D 1 1]) ∧ IsTree w' A 4 ex22 ∧ IsBB w' C 1 ex22X ∧ IsBB w' D 1 ex22Y ∧ Below w.heap.size w w'
set_option maxRecDepth 100000 in
theorem example22_ok (w : World) : Calls Try.prog 38 #[] w (MadeEx22 w) := by
  go_enter Try.func38, Try.ntmps38
  go_wp2
  refine bodyPost_ret (v := .tuple #[.agg #[.slice (some ⟨w.heap.size + 1 + 1 + 1, 0, none⟩) 4 4], .slice (some ⟨w.heap.size + 1 + 1 + 1 + 1 + 1 + 1, 0, none⟩) 1 1, .slice (some ⟨w.heap.size + 1 + 1 + 1 + 1 + 1 + 1 + 1 + 1, 0, none⟩) 1 1]) (by simp [results, Try.results38, go_sem]) rfl ⟨_, _, _, _, rfl, ?_, ?_, ?_, ?_⟩
  · refine IsTree.below ?_ (below_alloc (below_alloc (below_alloc (below_alloc (below_alloc (Below.refl _ _) _) _) _) _) _)
    refine ex_tree22 (g1 := w.heap.size + 1) (g2 := w.heap.size + 1 + 1) (fun j hj => ?_) ?_ ?_
    · rw [World.cell?_alloc_at _ _ _ _ (by simp)]; rfl
    · exact (isInts_lit _ _ _ [1, 2] (by decide) (by simp)).below (below_alloc (below_alloc (Below.refl _ _) _) _)
    · exact (isInts_build1 _ _ _ _ (by simp)).below (below_alloc (Below.refl _ _) _)
  · refine IsBB.below ?_ (below_alloc (below_alloc (Below.refl _ _) _) _)
    refine row1_lt _ _ (w.heap.size + 1 + 1 + 1 + 1 + 1) _ _ rfl (by simp) ?_
    exact isBools_lt _ _ _ [false, false, false, true] (by decide) (by simp)
  · refine row1_lt _ _ (w.heap.size + 1 + 1 + 1 + 1 + 1 + 1 + 1) _ _ rfl (by simp) ?_
    exact isBools_lt _ _ _ [false, false, true, false] (by decide) (by simp)
  · exact below_alloc (below_alloc (below_alloc (below_alloc (below_alloc (below_alloc (below_alloc (below_alloc (below_alloc (Below.refl _ _) _) _) _) _) _) _) _) _) _
theorem f4_cells : madeCells #[.bool false] 4 = (bools [false, false, false, false]).toArray := by
  refine Array.ext' ?_
  rw [toList_madeCells_one]
  rfl
/-- The contracts at known answers. -/
theorem hAll_at (T : List ANode) (ld : Int) (cs : List Int) (H : List (List Bool)) (xs : List Bool) (c0 : Int) (h0 : haE T ld cs H = c0) (hl : haV T ld cs H = xs) (A B C : Option Addr) (n c m d k e : Nat) (w : World) (h : IsTree w A n T) (hcs : IsU8 w B m cs) (hH : IsBB w C k H) (he1 : k ≤ e) (he2 : e ≤ 9223372036854775807) :
    Calls Try.prog 36 #[.agg #[.slice A n c], .int .u8 ld, .slice B m d, .slice C k e] w (MadeBoolsE w xs c0) := by
  have := hAll_ok A B C n c m d k e T ld cs H w h hcs hH he1 he2
  rw [hl, h0] at this
  exact this
theorem hMatch_at (T : List ANode) (i ld : Int) (cs : List Int) (H : List (List Bool)) (v : Bool) (c0 : Int) (h0 : hmE T i ld cs H = c0) (hl : hmV T i ld cs H = v) (A B C : Option Addr) (n c m d k e : Nat) (w : World) (h : IsTree w A n T) (hcs : IsU8 w B m cs) (hH : IsBB w C k H) (he1 : k ≤ e) (he2 : e ≤ 9223372036854775807) :
    Calls Try.prog 34 #[.agg #[.slice A n c], .int .i64 i, .int .u8 ld, .slice B m d, .slice C k e] w fun r w' => r = .returned (.tuple #[.bool v, .int .i64 c0]) ∧ Below w.heap.size w w' := by
  have := hMatch_ok A B C n c m d k e T i ld cs H w h hcs hH he1 he2
  rw [hl, h0] at this
  exact this
theorem hReach_at (T : List ANode) (i ld : Int) (xs : List Int) (c0 : Int) (h0 : rchC T i ld = c0) (hl : rchX T i ld = xs) (A : Option Addr) (n c : Nat) (w : World) (h : IsTree w A n T) :
    Calls Try.prog 32 #[.agg #[.slice A n c], .int .i64 i, .int .u8 ld] w (MadeIntsR w xs c0) := by
  have := hReach_ok A n c T i ld w h
  rw [hl, h0] at this
  exact this

set_option maxRecDepth 100000 in
set_option maxHeartbeats 1000000 in
theorem alive22_ok (w : World) : Calls Try.prog 39 #[] w fun e w' => e = .returned (.bool true) ∧ Below w.heap.size w w' := by
  have hmk : ∀ W : World, (Instr.makeSlice 31 (.int .i64 4) (.int .i64 4)).run Try.prog W = .ok (.slice (some ⟨W.heap.size, 0, none⟩) 4 4) (W.alloc (.cells (madeCells #[.bool false] 4) 4)) := mk_bools 4 (by omega)
  go_enter Try.func39, Try.ntmps39
  go_wp2_with fail
  refine (example22_ok _).mono ?_
  rintro e w1 ⟨A, C, D, c, rfl, hT, hX, hY, hb1⟩
  have hz1 : Below w1.heap.size w1 (w1.alloc (.cells #[.slice A 4 c] 24)) := below_alloc (Below.refl _ _) _
  have hX := hide (hX.below hz1)
  have hY := hide (hY.below hz1)
  have hT := hide (hT.below (below_alloc (Below.refl _ _) (.cells #[.slice A 4 c] 24)))
  have hW := below_alloc hb1 (.cells #[.slice A 4 c] 24)
  have hB1 := Below.refl (w1.alloc (.cells #[.slice A 4 c] 24)).heap.size (w1.alloc (.cells #[.slice A 4 c] 24))
  have hbox1 : (w1.alloc (.cells #[.slice A 4 c] 24)).cell? ⟨w1.heap.size, 0, none⟩ = some (.slice A 4 c) := by go_simp
  go_wp2_with fail
  refine (hAll_at ex22 1 [] ex22X [true, true, false, false] 0 (by kernel_rfl) (by kernel_rfl) _ _ _ _ c 0 _ 1 1 _ hT.out (isU8_nil _) hX.out (by decide) (by decide)).mono ?_
  rintro e w2 ⟨A2, c2, rfl, hI2, -, -, hb2⟩
  have hB2 := hb2
  have hbox2 := cell_later hB2 hbox1
  have hI2' := hide hI2
  clear hI2 hb2
  go_wp2_with fail
  refine (hAll_at ex22 2 [] ex22X [false, true, false, false] 0 (by kernel_rfl) (by kernel_rfl) _ _ _ _ c 0 _ 1 1 _ (hT.out.below hB2) (isU8_nil _) (hX.out.below hB2) (by decide) (by decide)).mono ?_
  rintro e w3 ⟨A3, c3, rfl, hI3, -, -, hb3⟩
  have hB3 := Below.on hB2 hb3
  have hbox3 := cell_later hb3 hbox2
  have hI3' := hide hI3
  have hJ3 := hide (hI2'.out.below hb3)
  clear hI3 hb3 hI2'
  go_wp2_with fail
  refine (hAll_at ex22 3 [] ex22X [false, false, false, false] 0 (by kernel_rfl) (by kernel_rfl) _ _ _ _ c 0 _ 1 1 _ (hT.out.below hB3) (isU8_nil _) (hX.out.below hB3) (by decide) (by decide)).mono ?_
  rintro e w4 ⟨A4, c4, rfl, hI4, -, -, hb4⟩
  have hB4 := Below.on hB3 hb4
  have hbox4 := cell_later hb4 hbox3
  have hI4' := hide hI4
  have hJ4 := hide (hJ3.out.below hb4)
  have hK4 := hide (hI3'.out.below hb4)
  clear hI4 hb4 hJ3 hI3'
  go_wp2_with fail
  refine (hAll_at ex22 3 [] ex22Y [false, true, false, false] 0 (by kernel_rfl) (by kernel_rfl) _ _ _ _ c 0 _ 1 1 _ (hT.out.below hB4) (isU8_nil _) (hY.out.below hB4) (by decide) (by decide)).mono ?_
  rintro e w5 ⟨A5, c5, rfl, hI5, -, -, hb5⟩
  have hB5 := Below.on hB4 hb5
  have hI5' := hide hI5
  have hJ5 := hide (hJ4.out.below hb5)
  have hK5 := hide (hK4.out.below hb5)
  have hL5 := hide (hI4'.out.below hb5)
  clear hI5 hb5 hJ4 hK4 hI4'
  go_wp2_with fail
  have y1 := below_alloc (Below.refl w5.heap.size w5) (.cells (bools [true, true, false, false]).toArray 4)
  refine (sameBools_yes _ _ 4 4 _ _ [true, true, false, false] _ (hJ5.out.below y1) (isBools_lt _ _ _ [true, true, false, false] (by decide) rfl)).mono ?_
  rintro e w6 ⟨rfl, hb6⟩
  have hz := Below.on y1 hb6
  clear y1 hb6
  go_wp2_with fail
  have y1 := below_alloc (Below.refl w6.heap.size w6) (.cells (bools [false, true, false, false]).toArray 4)
  refine (sameBools_yes _ _ 4 4 _ _ [false, true, false, false] _ (hK5.out.below (Below.on hz y1)) (isBools_lt _ _ _ [false, true, false, false] (by decide) rfl)).mono ?_
  rintro e w7 ⟨rfl, hb7⟩
  have hz := Below.on (Below.on hz y1) hb7
  clear y1 hb7
  go_wp2_with fail
  rw [f4_cells]
  have y1 := below_alloc (Below.refl w7.heap.size w7) (.cells (bools [false, false, false, false]).toArray 4)
  refine (sameBools_yes _ _ 4 4 _ _ [false, false, false, false] _ (hL5.out.below (Below.on hz y1)) (isBools_lt _ _ _ [false, false, false, false] (by decide) rfl)).mono ?_
  rintro e w8 ⟨rfl, hb8⟩
  have hz := Below.on (Below.on hz y1) hb8
  clear y1 hb8
  go_wp2_with fail
  have y1 := below_alloc (Below.refl w8.heap.size w8) (.cells (bools [false, true, false, false]).toArray 4)
  refine (sameBools_yes _ _ 4 4 _ _ [false, true, false, false] _ (hI5'.out.below (Below.on hz y1)) (isBools_lt _ _ _ [false, true, false, false] (by decide) rfl)).mono ?_
  rintro e w9 ⟨rfl, hb9⟩
  have hz := Below.on (Below.on hz y1) hb9
  go_wp2
  go_ret
  exact ⟨rfl, Below.on (Below.on hW hB5) hz⟩
end Go.Proofs.Ytaliekkdamghbaa
/- Words on memory for chapter 22's laws: a list of lists copied by append, one of its lists changed; lists just made. Condition: not great. -/
namespace Go.Proofs.Ytaliekkdamghbaa
open Go.RowKit

theorem far_alloc' {w : World} {a : Addr} {u : Value} (h : w.cell? a = some u) (o : Obj) : (w.alloc o).cell? a = some u := cell_later (below_alloc (Below.refl _ _) _) h
theorem isBools_far {w : World} {g1 n : Nat} {xs : List Bool} (h : IsBools w (some ⟨g1, 0, none⟩) n xs) {p : Addr} (hp : p.block ≠ g1) (v : Value) : IsBools (w.setCell p v) (some ⟨g1, 0, none⟩) n xs := by
  refine ⟨h.1, h.2.1, fun h0 => ?_⟩
  obtain ⟨b, o, e, hb, hc⟩ := h.2.2 h0
  injection e with e1
  injection e1 with e1 e2
  subst e1 e2
  refine ⟨g1, 0, rfl, by simpa using hb, fun j hj => ?_⟩
  rw [World.cell?_setCell_far _ p _ _ hp]
  exact hc j hj
theorem fill_set' (n q : Nat) (hq : q < n) : (List.replicate q true ++ List.replicate (n - q) false).set q true = List.replicate (q + 1) true ++ List.replicate (n - (q + 1)) false := by
  obtain ⟨d, rfl⟩ : ∃ d, n = q + 1 + d := ⟨n - (q + 1), by omega⟩
  rw [show q + 1 + d - q = d + 1 by omega, show q + 1 + d - (q + 1) = d by omega, List.set_append_right _ _ (by simp), List.length_replicate, Nat.sub_self, List.replicate_succ, List.set_cons_zero, List.replicate_succ']
  simp
theorem own_mk' (W : World) (g base n : Nat) (hg : g = W.heap.size) (hb : base ≤ g) (hn : n ≤ 140737488351232) : (W.alloc (.cells (madeCells #[.bool false] n) 4)).ownsRow base 4 1 (.slice (some ⟨g, 0, none⟩) n n) n (bools (List.replicate n false)) := by
  subst hg
  have h := World.ownsRow_lit W (e := 4) (base := base) (size := 1) (madeCells #[.bool false] n) n hb (by unfold maxLen; omega) (by rw [← Array.length_toList, toList_madeCells_one, List.length_replicate]; omega)
  rw [toList_madeCells_one] at h
  have e : bools (List.replicate n false) = List.replicate n (.bool false) := by unfold bools; simp
  rw [e]; exact h
theorem own_bools' {w : World} {base n : Nat} {v : Value} {xs : List Bool} (h : w.ownsRow base 4 1 v n (bools xs)) (hn : n ≤ 9223372036854775807) :
    ∃ A c, v = .slice A n c ∧ IsBools w A n xs := by
  obtain ⟨A, c, rfl, -, -⟩ := sl_of_own h
  have hx : xs.length = n := by have := h.1; simpa [bools] using this
  refine ⟨A, c, rfl, hx, hn, fun h0 => ?_⟩
  obtain ⟨g, cap, cs, hv, -, -, -, hb⟩ := own_blk h h0
  injection hv with e1 e2 e3
  refine ⟨g, 0, e1, blk_lt hb, fun j hj => ?_⟩
  subst e1
  rw [Nat.zero_add, World.ownsRow.cellAt h j (by omega), bools_get (by omega)]
theorem own_isBools {w : World} {base n g c : Nat} {xs : List Bool} (h : w.ownsRow base 4 1 (.slice (some ⟨g, 0, none⟩) n c) n (bools xs)) (hn : n ≤ 140737488351232) : IsBools w (some ⟨g, 0, none⟩) n xs := by
  obtain ⟨A, c', hv, hI⟩ := own_bools' h (by omega)
  injection hv with e1 e2 e3
  subst e1
  exact hI
theorem mk_isBools (W : World) (g n : Nat) (hg : g = W.heap.size) (hn : n ≤ 140737488351232) : IsBools (W.alloc (.cells (madeCells #[.bool false] n) 4)) (some ⟨g, 0, none⟩) n (List.replicate n false) :=
  own_isBools (own_mk' W g g n hg (Nat.le_refl _) hn) hn
theorem slicesR_set (H : List (List Bool)) (hA : Nat → Option Addr) (hC : Nat → Nat) (n k m c : Nat) (a : Option Addr) (xs : List Bool) (hm : xs.length = m) (hk : k < H.length) :
    (slicesR H hA hC n).set k (.slice a m c) = slicesR (H.set k xs) (fun j => if j = k then a else hA j) (fun j => if j = k then c else hC j) n := by
  refine List.ext_getElem? fun j => ?_
  rw [List.getElem?_set]
  by_cases hj : j < n
  · rw [slicesR_get _ _ _ hj, slicesR_get _ _ _ hj, rowB_set, slicesR_len]
    by_cases hjk : k = j
    · subst hjk
      rw [if_pos rfl, if_pos hj, if_pos rfl, if_pos rfl, if_pos ⟨rfl, hk⟩, hm]
    · rw [if_neg hjk, if_neg (by omega), if_neg (by omega), if_neg (by omega)]
  · rw [List.getElem?_eq_none (l := slicesR _ _ _ n) (by rw [slicesR_len]; omega), List.getElem?_eq_none (l := slicesR _ _ _ n) (by rw [slicesR_len]; omega), slicesR_len]
    split
    · rw [if_neg (by omega)]
    · rfl
/-- A row of lists that the call has made, with its lists. -/
theorem isBB_of_own {w : World} {base n : Nat} {v : Value} {R : List (List Bool)} {hA : Nat → Option Addr} {hC : Nat → Nat} (h : w.ownsRow base 31 1 v n (slicesR R hA hC n)) (hl : R.length = n) (hn : n ≤ 1000000)
    (hr : ∀ j, j < n → IsBools w (hA j) (rowB R j).length (rowB R j) ∧ (rowB R j).length ≤ hC j ∧ hC j ≤ 9223372036854775807) : ∃ A c, v = .slice A n c ∧ n ≤ c ∧ c ≤ 9223372036854775807 ∧ IsBB w A n R := by
  obtain ⟨A, c, rfl, h1, h2⟩ := sl_of_own h
  unfold maxLen at h2
  refine ⟨A, c, rfl, h1, by omega, hl, by omega, fun h0 => ?_⟩
  obtain ⟨g, cap, cs, hv, -, -, -, hb⟩ := own_blk h h0
  injection hv with e1 e2 e3
  subst e1
  refine ⟨g, 0, hA, hC, rfl, blk_lt hb, fun j hj => ?_, fun j hj => hr j hj⟩
  rw [Nat.zero_add, World.ownsRow.cellAt h j (by omega), slicesR_get _ _ _ hj]
section
variable {W : World} {ops : Array Oper} {rest : List Oper} {o : Oper} {a : Act} {Q : Exit → Act → World → Prop}
set_option maxRecDepth 100000 in
/-- 'append([][]bool{}, in...)'. -/
theorem wpList_dupBB (hgd : o.guard = none) (s x : Operand) (ho : o.op = .call { callee := .builtin .append, args := #[s, x], argTypes := #[26, 26] })
    {A : Option Addr} {n c : Nat} {H : List (List Bool)} (hL : IsBB W A n H) (hn : n ≤ 1000) (tt : TypeId) (htt : tt = 31) (hs : a.eval s = .slice (some ⟨W.heap.size, 0, none⟩) 0 0) (hx : a.eval x = .slice A n c)
    (h : ∀ v' w' hA hC, w'.ownsRow W.heap.size 31 1 v' n (slicesR H hA hC n) → (∀ j, j < n → IsBools W (hA j) (rowB H j).length (rowB H j) ∧ (rowB H j).length ≤ hC j ∧ hC j ≤ 9223372036854775807) → Below W.heap.size W w' → wpList Try.prog ops Q rest (a.put o.dst v') w') :
    wpList Try.prog ops Q (o :: rest) a (W.alloc (.cells #[] tt)) := by
  subst htt
  obtain ⟨i0, hI, hz0, hz1, hz2⟩ := info_parts info_bb
  obtain ⟨hA, hC, hnone, hat, hrow⟩ : ∃ hA hC, (A = none → n = 0) ∧ (∀ ad, A = some ad → ∀ j u, (slicesR H hA hC n)[j]? = some u → (W.alloc (.cells #[] 31)).cell? (ad.add j) = some u) ∧ (∀ j, j < n → IsBools W (hA j) (rowB H j).length (rowB H j) ∧ (rowB H j).length ≤ hC j ∧ hC j ≤ 9223372036854775807) := by
    rcases Nat.eq_zero_or_pos n with h0 | h0
    · subst h0
      exact ⟨fun _ => none, fun _ => 0, fun _ => rfl, fun ad _ j u hj => by simp [slicesR] at hj, fun j hj => absurd hj (by omega)⟩
    · obtain ⟨b, off, hA, hC, rfl, hb, hc, hr⟩ := hL.2.2 h0
      refine ⟨hA, hC, fun h => by simp at h, fun ad had j u hj => ?_, hr⟩
      have hjn : j < n := by
        rcases Nat.lt_or_ge j n with h | h
        · exact h
        · rw [List.getElem?_eq_none (by rw [slicesR_len]; omega)] at hj; cases hj
      rw [slicesR_get _ _ _ hjn] at hj
      injection hj with hj
      subst hj
      injection had with had
      subst had
      rw [show (⟨b, off, none⟩ : Addr).add j = ⟨b, off + j, none⟩ by unfold Addr.add; split <;> simp_all]
      exact far_alloc' (hc j hjn) _
  refine wpList_append_from hgd s x 26 ho W.heap.size 31 i0 (.slice none 0 0) 1 24 Try.underlying26 hI hz0 hz1 hz2 rfl (by decide) _ _ _ hs (World.ownsRow_lit W #[] 0 (Nat.le_refl _) (Nat.zero_le _) rfl) A n c (slicesR H hA hC n) hx (by rw [slicesR_len]; omega) hnone hat (fun u hu => by
    unfold slicesR at hu
    obtain ⟨j, -, rfl⟩ := List.mem_map.1 hu
    rfl) (by unfold maxLen; omega) (by omega) (by simp) ?_
  intro v' w' hown' hgrow
  exact h v' w' hA hC (by simpa using hown') hrow ((below_alloc (Below.refl W.heap.size W) (.cells #[] 31)).grown hgrow (by simp) (fun k hk => by simp [Value.ownBlock] at hk; omega))
end
end Go.Proofs.Ytaliekkdamghbaa
