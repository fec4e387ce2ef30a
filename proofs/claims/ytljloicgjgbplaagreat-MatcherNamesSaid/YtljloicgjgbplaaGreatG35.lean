/- Walks: whether a simple selector is right, by the reference, kind by kind. Conditions as each states. -/
import Derived.Test.YtljloicgjgbplaaGreatG34
namespace Go.Proofs.YtljloicgjgbplaaGreat
open Go.RowKit

section
variable {X : Type} {V : Lies X} (hV : Stays V) {Wf : Nat → Bool → Bool → X → Bool} (hW : RWholeT V Wf)
include hV hW
omit hV hW in
set_option maxRecDepth 100000 in
set_option maxHeartbeats 4000000 in
theorem rsimT1_ok (d : Nat) (h : Bool) (nm : ByteArray) (op : Int) (vl : ByteArray) (fo : Bool) (a b : Int) (f : Bool) (LA : Option Addr) (ln lc : Nat) (l : List X) (w : World) (hns : nm.size ≤ 9223372036854775807) (_ : vl.size ≤ 9223372036854775807) (hl : ln = l.length) :
    Calls Tryz.prog 106 #[.agg #[.int .u8 1, .string nm, .int .u8 op, .string vl, .bool fo, .int .i64 a, .int .i64 b, .bool f, .slice LA ln lc], .agg #[.int .i64 d, .bool h]] w fun e w' => e = .returned (.bool (simB Wf d h ⟨1, nm, op, vl, fo, a, b, f, l⟩)) ∧ Below w.heap.size w w' := by
  have hl' := hide hl
  clear hl
  have hbo := fun W => bareOf_ok 1 nm op vl fo a b f LA ln lc W
  have hX : ((w.alloc (.cells #[.int .u8 1, .string nm, .int .u8 op, .string vl, .bool fo, .int .i64 a, .int .i64 b, .bool f, .slice LA ln lc] 41)).alloc (.cells #[.int .i64 d, .bool h] 104)).heap[w.heap.size]? = some (.cells #[.int .u8 1, .string nm, .int .u8 op, .string vl, .bool fo, .int .i64 a, .int .i64 b, .bool f, .slice LA ln lc] 41 (0, 0)) := blk_alloc (blk_new _ _ _) _
  have hY : ((w.alloc (.cells #[.int .u8 1, .string nm, .int .u8 op, .string vl, .bool fo, .int .i64 a, .int .i64 b, .bool f, .slice LA ln lc] 41)).alloc (.cells #[.int .i64 d, .bool h] 104)).heap[w.heap.size + 1]? = some (.cells #[.int .i64 d, .bool h] 104 (0, 0)) := blk_at _ _ _ _ (by simp)
  have hB0 := below_alloc (below_alloc (Below.refl w.heap.size w) (.cells #[.int .u8 1, .string nm, .int .u8 op, .string vl, .bool fo, .int .i64 a, .int .i64 b, .bool f, .slice LA ln lc] 41)) (.cells #[.int .i64 d, .bool h] 104)
  go_enter Tryz.func106, Tryz.ntmps106
  go_wp2_with fail
  refine (hbo _).mono ?_
  rintro e w1 ⟨rfl, hb1⟩
  have hX1 := (hb1.block _ (blk_lt hX)).trans hX
  have hY1 := (hb1.block _ (blk_lt hY)).trans hY
  have hB1 := Below.on hB0 hb1
  clear hX hY hB0 hb1 hbo
  have x0 : w1.cell? ⟨w.heap.size, 0, none⟩ = some (.int .u8 1) := blk_cell hX1 0
  have x1 : w1.cell? ⟨w.heap.size, 1, none⟩ = some (.string nm) := blk_cell hX1 1
  have x2 : w1.cell? ⟨w.heap.size, 2, none⟩ = some (.int .u8 op) := blk_cell hX1 2
  have x3 : w1.cell? ⟨w.heap.size, 3, none⟩ = some (.string vl) := blk_cell hX1 3
  have x4 : w1.cell? ⟨w.heap.size, 4, none⟩ = some (.bool fo) := blk_cell hX1 4
  have x5 : w1.cell? ⟨w.heap.size, 5, none⟩ = some (.int .i64 a) := blk_cell hX1 5
  have x6 : w1.cell? ⟨w.heap.size, 6, none⟩ = some (.int .i64 b) := blk_cell hX1 6
  have x7 : w1.cell? ⟨w.heap.size, 7, none⟩ = some (.bool f) := blk_cell hX1 7
  have x8 : w1.cell? ⟨w.heap.size, 8, none⟩ = some (.slice LA ln lc) := blk_cell hX1 8
  have y0 : w1.cell? ⟨w.heap.size + 1, 0, none⟩ = some (.int .i64 d) := blk_cell hY1 0
  have y1 : w1.cell? ⟨w.heap.size + 1, 1, none⟩ = some (.bool h) := blk_cell hY1 1
  have xl : w.heap.size + 1 < w1.heap.size := blk_lt hY1
  have xl2 : w.heap.size < w1.heap.size := blk_lt hX1
  clear hY1
  go_wp2_with ((go_at_call 141; refine (rnamed8_ok _ _ hns).mono ?_; rintro e w2 ⟨rfl, rfl⟩))
  all_goals go_ret
  all_goals refine ⟨ret_bool (Eq.symm ?_), by first | exact below_alloc hB1 _ | exact Below.on (below_alloc hB1 _) hb2 | exact Below.on (below_alloc hB1 _) hb5 | exact Below.on (Below.on (below_alloc hB1 _) hb6) hb5 | exact Below.on (below_alloc hB1 _) hb6⟩
  all_goals rw [simB_name (by omega)]
  all_goals (try rw [← hl'.out])
  all_goals clear xl xl2 x0 x1 x2 x3 x4 x5 x6 x7 x8 y0 y1 hX1 hl'
  all_goals (try clear hb2)
  all_goals (try clear hb5)
  all_goals (try clear hb6)
  all_goals clear hB1
  all_goals (first | (simp_all; done) | (rcases Nat.eq_zero_or_pos ln with hz | hz <;> simp_all <;> omega) | (simp_all; omega) | (simp_all; intros; omega))
omit hV hW in
set_option maxRecDepth 100000 in
set_option maxHeartbeats 4000000 in
theorem rsimT2_ok (d : Nat) (h : Bool) (nm : ByteArray) (op : Int) (vl : ByteArray) (fo : Bool) (a b : Int) (f : Bool) (LA : Option Addr) (ln lc : Nat) (l : List X) (w : World) (hns : nm.size ≤ 9223372036854775807) (_ : vl.size ≤ 9223372036854775807) (hl : ln = l.length) :
    Calls Tryz.prog 106 #[.agg #[.int .u8 2, .string nm, .int .u8 op, .string vl, .bool fo, .int .i64 a, .int .i64 b, .bool f, .slice LA ln lc], .agg #[.int .i64 d, .bool h]] w fun e w' => e = .returned (.bool (simB Wf d h ⟨2, nm, op, vl, fo, a, b, f, l⟩)) ∧ Below w.heap.size w w' := by
  have hl' := hide hl
  clear hl
  have hbo := fun W => bareOf_ok 2 nm op vl fo a b f LA ln lc W
  have hX : ((w.alloc (.cells #[.int .u8 2, .string nm, .int .u8 op, .string vl, .bool fo, .int .i64 a, .int .i64 b, .bool f, .slice LA ln lc] 41)).alloc (.cells #[.int .i64 d, .bool h] 104)).heap[w.heap.size]? = some (.cells #[.int .u8 2, .string nm, .int .u8 op, .string vl, .bool fo, .int .i64 a, .int .i64 b, .bool f, .slice LA ln lc] 41 (0, 0)) := blk_alloc (blk_new _ _ _) _
  have hY : ((w.alloc (.cells #[.int .u8 2, .string nm, .int .u8 op, .string vl, .bool fo, .int .i64 a, .int .i64 b, .bool f, .slice LA ln lc] 41)).alloc (.cells #[.int .i64 d, .bool h] 104)).heap[w.heap.size + 1]? = some (.cells #[.int .i64 d, .bool h] 104 (0, 0)) := blk_at _ _ _ _ (by simp)
  have hB0 := below_alloc (below_alloc (Below.refl w.heap.size w) (.cells #[.int .u8 2, .string nm, .int .u8 op, .string vl, .bool fo, .int .i64 a, .int .i64 b, .bool f, .slice LA ln lc] 41)) (.cells #[.int .i64 d, .bool h] 104)
  go_enter Tryz.func106, Tryz.ntmps106
  go_wp2_with fail
  refine (hbo _).mono ?_
  rintro e w1 ⟨rfl, hb1⟩
  have hX1 := (hb1.block _ (blk_lt hX)).trans hX
  have hY1 := (hb1.block _ (blk_lt hY)).trans hY
  have hB1 := Below.on hB0 hb1
  clear hX hY hB0 hb1 hbo
  have x0 : w1.cell? ⟨w.heap.size, 0, none⟩ = some (.int .u8 2) := blk_cell hX1 0
  have x1 : w1.cell? ⟨w.heap.size, 1, none⟩ = some (.string nm) := blk_cell hX1 1
  have x2 : w1.cell? ⟨w.heap.size, 2, none⟩ = some (.int .u8 op) := blk_cell hX1 2
  have x3 : w1.cell? ⟨w.heap.size, 3, none⟩ = some (.string vl) := blk_cell hX1 3
  have x4 : w1.cell? ⟨w.heap.size, 4, none⟩ = some (.bool fo) := blk_cell hX1 4
  have x5 : w1.cell? ⟨w.heap.size, 5, none⟩ = some (.int .i64 a) := blk_cell hX1 5
  have x6 : w1.cell? ⟨w.heap.size, 6, none⟩ = some (.int .i64 b) := blk_cell hX1 6
  have x7 : w1.cell? ⟨w.heap.size, 7, none⟩ = some (.bool f) := blk_cell hX1 7
  have x8 : w1.cell? ⟨w.heap.size, 8, none⟩ = some (.slice LA ln lc) := blk_cell hX1 8
  have y0 : w1.cell? ⟨w.heap.size + 1, 0, none⟩ = some (.int .i64 d) := blk_cell hY1 0
  have y1 : w1.cell? ⟨w.heap.size + 1, 1, none⟩ = some (.bool h) := blk_cell hY1 1
  have xl : w.heap.size + 1 < w1.heap.size := blk_lt hY1
  have xl2 : w.heap.size < w1.heap.size := blk_lt hX1
  clear hY1
  go_wp2_with ((go_at_call 141; refine (rnamed8_ok _ _ hns).mono ?_; rintro e w2 ⟨rfl, rfl⟩))
  all_goals go_ret
  all_goals refine ⟨ret_bool (Eq.symm ?_), by first | exact below_alloc hB1 _ | exact Below.on (below_alloc hB1 _) hb2 | exact Below.on (below_alloc hB1 _) hb5 | exact Below.on (Below.on (below_alloc hB1 _) hb6) hb5 | exact Below.on (below_alloc hB1 _) hb6⟩
  all_goals rw [simB_name (by omega)]
  all_goals (try rw [← hl'.out])
  all_goals clear xl xl2 x0 x1 x2 x3 x4 x5 x6 x7 x8 y0 y1 hX1 hl'
  all_goals (try clear hb2)
  all_goals (try clear hb5)
  all_goals (try clear hb6)
  all_goals clear hB1
  all_goals (first | (simp_all; done) | (rcases Nat.eq_zero_or_pos ln with hz | hz <;> simp_all <;> omega) | (simp_all; omega) | (simp_all; intros; omega))
omit hV hW in
set_option maxRecDepth 100000 in
set_option maxHeartbeats 4000000 in
theorem rsimT3z_ok (d : Nat) (h : Bool) (nm : ByteArray) (vl : ByteArray) (fo : Bool) (a b : Int) (f : Bool) (LA : Option Addr) (ln lc : Nat) (l : List X) (w : World) (hns : nm.size ≤ 9223372036854775807) (hvs : vl.size ≤ 9223372036854775807) (hl : ln = l.length) :
    Calls Tryz.prog 106 #[.agg #[.int .u8 3, .string nm, .int .u8 0, .string vl, .bool fo, .int .i64 a, .int .i64 b, .bool f, .slice LA ln lc], .agg #[.int .i64 d, .bool h]] w fun e w' => e = .returned (.bool (simB Wf d h ⟨3, nm, 0, vl, fo, a, b, f, l⟩)) ∧ Below w.heap.size w w' := by
  have hl' := hide hl
  clear hl
  have hbo := fun W => bareOf_ok 3 nm 0 vl fo a b f LA ln lc W
  have hX : ((w.alloc (.cells #[.int .u8 3, .string nm, .int .u8 0, .string vl, .bool fo, .int .i64 a, .int .i64 b, .bool f, .slice LA ln lc] 41)).alloc (.cells #[.int .i64 d, .bool h] 104)).heap[w.heap.size]? = some (.cells #[.int .u8 3, .string nm, .int .u8 0, .string vl, .bool fo, .int .i64 a, .int .i64 b, .bool f, .slice LA ln lc] 41 (0, 0)) := blk_alloc (blk_new _ _ _) _
  have hY : ((w.alloc (.cells #[.int .u8 3, .string nm, .int .u8 0, .string vl, .bool fo, .int .i64 a, .int .i64 b, .bool f, .slice LA ln lc] 41)).alloc (.cells #[.int .i64 d, .bool h] 104)).heap[w.heap.size + 1]? = some (.cells #[.int .i64 d, .bool h] 104 (0, 0)) := blk_at _ _ _ _ (by simp)
  have hB0 := below_alloc (below_alloc (Below.refl w.heap.size w) (.cells #[.int .u8 3, .string nm, .int .u8 0, .string vl, .bool fo, .int .i64 a, .int .i64 b, .bool f, .slice LA ln lc] 41)) (.cells #[.int .i64 d, .bool h] 104)
  go_enter Tryz.func106, Tryz.ntmps106
  go_wp2_with fail
  refine (hbo _).mono ?_
  rintro e w1 ⟨rfl, hb1⟩
  have hX1 := (hb1.block _ (blk_lt hX)).trans hX
  have hY1 := (hb1.block _ (blk_lt hY)).trans hY
  have hB1 := Below.on hB0 hb1
  clear hX hY hB0 hb1 hbo
  have x0 : w1.cell? ⟨w.heap.size, 0, none⟩ = some (.int .u8 3) := blk_cell hX1 0
  have x1 : w1.cell? ⟨w.heap.size, 1, none⟩ = some (.string nm) := blk_cell hX1 1
  have x2 : w1.cell? ⟨w.heap.size, 2, none⟩ = some (.int .u8 0) := blk_cell hX1 2
  have x3 : w1.cell? ⟨w.heap.size, 3, none⟩ = some (.string vl) := blk_cell hX1 3
  have x4 : w1.cell? ⟨w.heap.size, 4, none⟩ = some (.bool fo) := blk_cell hX1 4
  have x5 : w1.cell? ⟨w.heap.size, 5, none⟩ = some (.int .i64 a) := blk_cell hX1 5
  have x6 : w1.cell? ⟨w.heap.size, 6, none⟩ = some (.int .i64 b) := blk_cell hX1 6
  have x7 : w1.cell? ⟨w.heap.size, 7, none⟩ = some (.bool f) := blk_cell hX1 7
  have x8 : w1.cell? ⟨w.heap.size, 8, none⟩ = some (.slice LA ln lc) := blk_cell hX1 8
  have y0 : w1.cell? ⟨w.heap.size + 1, 0, none⟩ = some (.int .i64 d) := blk_cell hY1 0
  have y1 : w1.cell? ⟨w.heap.size + 1, 1, none⟩ = some (.bool h) := blk_cell hY1 1
  have xl : w.heap.size + 1 < w1.heap.size := blk_lt hY1
  have xl2 : w.heap.size < w1.heap.size := blk_lt hX1
  have hz : ∀ W : World, Calls Tryz.prog 143 #[.string vl, .int .i64 400] W fun e w' => e = .returned (.bool (zeroB vl 400)) ∧ W = w' := fun W => rbytes_ok vl 400 W hvs
  clear hY1
  go_wp2_with (first | (go_at_call 105; refine (rsmallT_ok _ _ hns).mono ?_; rintro e w2 ⟨rfl, hb2⟩; have hX2 := (hb2.block _ (blk_lt (blk_alloc hX1 _))).trans (blk_alloc hX1 _); have hY2 := (hb2.block w1.heap.size (by simp)).trans (blk_new _ _ _); have x0 : w2.cell? ⟨w.heap.size, 0, none⟩ = some (.int .u8 3) := blk_cell hX2 0; have x1 : w2.cell? ⟨w.heap.size, 1, none⟩ = some (.string nm) := blk_cell hX2 1; have x2 : w2.cell? ⟨w.heap.size, 2, none⟩ = some (.int .u8 0) := blk_cell hX2 2; have x3 : w2.cell? ⟨w.heap.size, 3, none⟩ = some (.string vl) := blk_cell hX2 3; have x4 : w2.cell? ⟨w.heap.size, 4, none⟩ = some (.bool fo) := blk_cell hX2 4; have x5 : w2.cell? ⟨w.heap.size, 5, none⟩ = some (.int .i64 a) := blk_cell hX2 5; have x6 : w2.cell? ⟨w.heap.size, 6, none⟩ = some (.int .i64 b) := blk_cell hX2 6; have x7 : w2.cell? ⟨w.heap.size, 7, none⟩ = some (.bool f) := blk_cell hX2 7; have x8 : w2.cell? ⟨w.heap.size, 8, none⟩ = some (.slice LA ln lc) := blk_cell hX2 8; have z0 : w2.cell? ⟨w1.heap.size, 0, none⟩ = some (.int .u8 3) := blk_cell hY2 0; have z1 : w2.cell? ⟨w1.heap.size, 1, none⟩ = some (.string nm) := blk_cell hY2 1; have z2 : w2.cell? ⟨w1.heap.size, 2, none⟩ = some (.int .u8 0) := blk_cell hY2 2; have z3 : w2.cell? ⟨w1.heap.size, 3, none⟩ = some (.string vl) := blk_cell hY2 3; have z4 : w2.cell? ⟨w1.heap.size, 4, none⟩ = some (.bool fo) := blk_cell hY2 4; have z5 : w2.cell? ⟨w1.heap.size, 5, none⟩ = some (.int .i64 a) := blk_cell hY2 5; have z6 : w2.cell? ⟨w1.heap.size, 6, none⟩ = some (.int .i64 b) := blk_cell hY2 6; have z7 : w2.cell? ⟨w1.heap.size, 7, none⟩ = some (.bool f) := blk_cell hY2 7; clear hX2 hY2) | (go_at_call 143; refine (hz _).mono ?_; rintro e w3 ⟨rfl, rfl⟩))
  all_goals go_ret
  all_goals refine ⟨ret_bool (Eq.symm ?_), by first | exact below_alloc hB1 _ | exact Below.on (below_alloc hB1 _) hb2 | exact Below.on (below_alloc hB1 _) hb5 | exact Below.on (Below.on (below_alloc hB1 _) hb6) hb5 | exact Below.on (below_alloc hB1 _) hb6⟩
  all_goals rw [simB_attr]
  all_goals (try rw [← hl'.out])
  all_goals clear xl xl2 x0 x1 x2 x3 x4 x5 x6 x7 x8 y0 y1 hX1 hl'
  all_goals (try clear hb2)
  all_goals (try clear hb5)
  all_goals (try clear hb6)
  all_goals clear hB1
  all_goals (first | (simp_all; done) | (rcases Nat.eq_zero_or_pos ln with hz | hz <;> simp_all <;> omega) | (simp_all; omega) | (simp_all; intros; omega))
omit hV hW in
set_option maxRecDepth 100000 in
set_option maxHeartbeats 4000000 in
theorem rsimT3_ok (d : Nat) (h : Bool) (nm : ByteArray) (op : Int) (vl : ByteArray) (fo : Bool) (a b : Int) (f : Bool) (LA : Option Addr) (ln lc : Nat) (l : List X) (w : World) (ho : ¬ op = 0) (hns : nm.size ≤ 9223372036854775807) (hvs : vl.size ≤ 9223372036854775807) (hl : ln = l.length) :
    Calls Tryz.prog 106 #[.agg #[.int .u8 3, .string nm, .int .u8 op, .string vl, .bool fo, .int .i64 a, .int .i64 b, .bool f, .slice LA ln lc], .agg #[.int .i64 d, .bool h]] w fun e w' => e = .returned (.bool (simB Wf d h ⟨3, nm, op, vl, fo, a, b, f, l⟩)) ∧ Below w.heap.size w w' := by
  have hl' := hide hl
  clear hl
  have hbo := fun W => bareOf_ok 3 nm op vl fo a b f LA ln lc W
  have hX : ((w.alloc (.cells #[.int .u8 3, .string nm, .int .u8 op, .string vl, .bool fo, .int .i64 a, .int .i64 b, .bool f, .slice LA ln lc] 41)).alloc (.cells #[.int .i64 d, .bool h] 104)).heap[w.heap.size]? = some (.cells #[.int .u8 3, .string nm, .int .u8 op, .string vl, .bool fo, .int .i64 a, .int .i64 b, .bool f, .slice LA ln lc] 41 (0, 0)) := blk_alloc (blk_new _ _ _) _
  have hY : ((w.alloc (.cells #[.int .u8 3, .string nm, .int .u8 op, .string vl, .bool fo, .int .i64 a, .int .i64 b, .bool f, .slice LA ln lc] 41)).alloc (.cells #[.int .i64 d, .bool h] 104)).heap[w.heap.size + 1]? = some (.cells #[.int .i64 d, .bool h] 104 (0, 0)) := blk_at _ _ _ _ (by simp)
  have hB0 := below_alloc (below_alloc (Below.refl w.heap.size w) (.cells #[.int .u8 3, .string nm, .int .u8 op, .string vl, .bool fo, .int .i64 a, .int .i64 b, .bool f, .slice LA ln lc] 41)) (.cells #[.int .i64 d, .bool h] 104)
  go_enter Tryz.func106, Tryz.ntmps106
  go_wp2_with fail
  refine (hbo _).mono ?_
  rintro e w1 ⟨rfl, hb1⟩
  have hX1 := (hb1.block _ (blk_lt hX)).trans hX
  have hY1 := (hb1.block _ (blk_lt hY)).trans hY
  have hB1 := Below.on hB0 hb1
  clear hX hY hB0 hb1 hbo
  have x0 : w1.cell? ⟨w.heap.size, 0, none⟩ = some (.int .u8 3) := blk_cell hX1 0
  have x1 : w1.cell? ⟨w.heap.size, 1, none⟩ = some (.string nm) := blk_cell hX1 1
  have x2 : w1.cell? ⟨w.heap.size, 2, none⟩ = some (.int .u8 op) := blk_cell hX1 2
  have x3 : w1.cell? ⟨w.heap.size, 3, none⟩ = some (.string vl) := blk_cell hX1 3
  have x4 : w1.cell? ⟨w.heap.size, 4, none⟩ = some (.bool fo) := blk_cell hX1 4
  have x5 : w1.cell? ⟨w.heap.size, 5, none⟩ = some (.int .i64 a) := blk_cell hX1 5
  have x6 : w1.cell? ⟨w.heap.size, 6, none⟩ = some (.int .i64 b) := blk_cell hX1 6
  have x7 : w1.cell? ⟨w.heap.size, 7, none⟩ = some (.bool f) := blk_cell hX1 7
  have x8 : w1.cell? ⟨w.heap.size, 8, none⟩ = some (.slice LA ln lc) := blk_cell hX1 8
  have y0 : w1.cell? ⟨w.heap.size + 1, 0, none⟩ = some (.int .i64 d) := blk_cell hY1 0
  have y1 : w1.cell? ⟨w.heap.size + 1, 1, none⟩ = some (.bool h) := blk_cell hY1 1
  have xl : w.heap.size + 1 < w1.heap.size := blk_lt hY1
  have xl2 : w.heap.size < w1.heap.size := blk_lt hX1
  have hz : ∀ W : World, Calls Tryz.prog 143 #[.string vl, .int .i64 400] W fun e w' => e = .returned (.bool (zeroB vl 400)) ∧ W = w' := fun W => rbytes_ok vl 400 W hvs
  clear hY1
  go_wp2_with (first | (go_at_call 105; refine (rsmallT_ok _ _ hns).mono ?_; rintro e w2 ⟨rfl, hb2⟩; have hX2 := (hb2.block _ (blk_lt (blk_alloc hX1 _))).trans (blk_alloc hX1 _); have hY2 := (hb2.block w1.heap.size (by simp)).trans (blk_new _ _ _); have x0 : w2.cell? ⟨w.heap.size, 0, none⟩ = some (.int .u8 3) := blk_cell hX2 0; have x1 : w2.cell? ⟨w.heap.size, 1, none⟩ = some (.string nm) := blk_cell hX2 1; have x2 : w2.cell? ⟨w.heap.size, 2, none⟩ = some (.int .u8 op) := blk_cell hX2 2; have x3 : w2.cell? ⟨w.heap.size, 3, none⟩ = some (.string vl) := blk_cell hX2 3; have x4 : w2.cell? ⟨w.heap.size, 4, none⟩ = some (.bool fo) := blk_cell hX2 4; have x5 : w2.cell? ⟨w.heap.size, 5, none⟩ = some (.int .i64 a) := blk_cell hX2 5; have x6 : w2.cell? ⟨w.heap.size, 6, none⟩ = some (.int .i64 b) := blk_cell hX2 6; have x7 : w2.cell? ⟨w.heap.size, 7, none⟩ = some (.bool f) := blk_cell hX2 7; have x8 : w2.cell? ⟨w.heap.size, 8, none⟩ = some (.slice LA ln lc) := blk_cell hX2 8; have z0 : w2.cell? ⟨w1.heap.size, 0, none⟩ = some (.int .u8 3) := blk_cell hY2 0; have z1 : w2.cell? ⟨w1.heap.size, 1, none⟩ = some (.string nm) := blk_cell hY2 1; have z2 : w2.cell? ⟨w1.heap.size, 2, none⟩ = some (.int .u8 op) := blk_cell hY2 2; have z3 : w2.cell? ⟨w1.heap.size, 3, none⟩ = some (.string vl) := blk_cell hY2 3; have z4 : w2.cell? ⟨w1.heap.size, 4, none⟩ = some (.bool fo) := blk_cell hY2 4; have z5 : w2.cell? ⟨w1.heap.size, 5, none⟩ = some (.int .i64 a) := blk_cell hY2 5; have z6 : w2.cell? ⟨w1.heap.size, 6, none⟩ = some (.int .i64 b) := blk_cell hY2 6; have z7 : w2.cell? ⟨w1.heap.size, 7, none⟩ = some (.bool f) := blk_cell hY2 7; clear hX2 hY2) | (go_at_call 143; refine (hz _).mono ?_; rintro e w3 ⟨rfl, rfl⟩))
  all_goals go_ret
  all_goals refine ⟨ret_bool (Eq.symm ?_), by first | exact below_alloc hB1 _ | exact Below.on (below_alloc hB1 _) hb2 | exact Below.on (below_alloc hB1 _) hb5 | exact Below.on (Below.on (below_alloc hB1 _) hb6) hb5 | exact Below.on (below_alloc hB1 _) hb6⟩
  all_goals rw [simB_attr]
  all_goals (try rw [← hl'.out])
  all_goals clear xl xl2 x0 x1 x2 x3 x4 x5 x6 x7 x8 y0 y1 hX1 hl'
  all_goals (try clear hb2)
  all_goals (try clear hb5)
  all_goals (try clear hb6)
  all_goals clear hB1
  all_goals (first | (simp_all; done) | (rcases Nat.eq_zero_or_pos ln with hz | hz <;> simp_all <;> omega) | (simp_all; omega) | (simp_all; intros; omega))
omit hV hW in
set_option maxRecDepth 100000 in
set_option maxHeartbeats 4000000 in
theorem rsimT4_ok (d : Nat) (h : Bool) (nm : ByteArray) (op : Int) (vl : ByteArray) (fo : Bool) (a b : Int) (f : Bool) (LA : Option Addr) (ln lc : Nat) (l : List X) (w : World) (_ : nm.size ≤ 9223372036854775807) (_ : vl.size ≤ 9223372036854775807) (hl : ln = l.length) :
    Calls Tryz.prog 106 #[.agg #[.int .u8 4, .string nm, .int .u8 op, .string vl, .bool fo, .int .i64 a, .int .i64 b, .bool f, .slice LA ln lc], .agg #[.int .i64 d, .bool h]] w fun e w' => e = .returned (.bool (simB Wf d h ⟨4, nm, op, vl, fo, a, b, f, l⟩)) ∧ Below w.heap.size w w' := by
  have hl' := hide hl
  clear hl
  have hbo := fun W => bareOf_ok 4 nm op vl fo a b f LA ln lc W
  have hX : ((w.alloc (.cells #[.int .u8 4, .string nm, .int .u8 op, .string vl, .bool fo, .int .i64 a, .int .i64 b, .bool f, .slice LA ln lc] 41)).alloc (.cells #[.int .i64 d, .bool h] 104)).heap[w.heap.size]? = some (.cells #[.int .u8 4, .string nm, .int .u8 op, .string vl, .bool fo, .int .i64 a, .int .i64 b, .bool f, .slice LA ln lc] 41 (0, 0)) := blk_alloc (blk_new _ _ _) _
  have hY : ((w.alloc (.cells #[.int .u8 4, .string nm, .int .u8 op, .string vl, .bool fo, .int .i64 a, .int .i64 b, .bool f, .slice LA ln lc] 41)).alloc (.cells #[.int .i64 d, .bool h] 104)).heap[w.heap.size + 1]? = some (.cells #[.int .i64 d, .bool h] 104 (0, 0)) := blk_at _ _ _ _ (by simp)
  have hB0 := below_alloc (below_alloc (Below.refl w.heap.size w) (.cells #[.int .u8 4, .string nm, .int .u8 op, .string vl, .bool fo, .int .i64 a, .int .i64 b, .bool f, .slice LA ln lc] 41)) (.cells #[.int .i64 d, .bool h] 104)
  go_enter Tryz.func106, Tryz.ntmps106
  go_wp2_with fail
  refine (hbo _).mono ?_
  rintro e w1 ⟨rfl, hb1⟩
  have hX1 := (hb1.block _ (blk_lt hX)).trans hX
  have hY1 := (hb1.block _ (blk_lt hY)).trans hY
  have hB1 := Below.on hB0 hb1
  clear hX hY hB0 hb1 hbo
  have x0 : w1.cell? ⟨w.heap.size, 0, none⟩ = some (.int .u8 4) := blk_cell hX1 0
  have x1 : w1.cell? ⟨w.heap.size, 1, none⟩ = some (.string nm) := blk_cell hX1 1
  have x2 : w1.cell? ⟨w.heap.size, 2, none⟩ = some (.int .u8 op) := blk_cell hX1 2
  have x3 : w1.cell? ⟨w.heap.size, 3, none⟩ = some (.string vl) := blk_cell hX1 3
  have x4 : w1.cell? ⟨w.heap.size, 4, none⟩ = some (.bool fo) := blk_cell hX1 4
  have x5 : w1.cell? ⟨w.heap.size, 5, none⟩ = some (.int .i64 a) := blk_cell hX1 5
  have x6 : w1.cell? ⟨w.heap.size, 6, none⟩ = some (.int .i64 b) := blk_cell hX1 6
  have x7 : w1.cell? ⟨w.heap.size, 7, none⟩ = some (.bool f) := blk_cell hX1 7
  have x8 : w1.cell? ⟨w.heap.size, 8, none⟩ = some (.slice LA ln lc) := blk_cell hX1 8
  have y0 : w1.cell? ⟨w.heap.size + 1, 0, none⟩ = some (.int .i64 d) := blk_cell hY1 0
  have y1 : w1.cell? ⟨w.heap.size + 1, 1, none⟩ = some (.bool h) := blk_cell hY1 1
  have xl : w.heap.size + 1 < w1.heap.size := blk_lt hY1
  have xl2 : w.heap.size < w1.heap.size := blk_lt hX1
  clear hY1
  go_wp2
  all_goals go_ret
  all_goals refine ⟨ret_bool (Eq.symm ?_), by first | exact below_alloc hB1 _ | exact Below.on (below_alloc hB1 _) hb2 | exact Below.on (below_alloc hB1 _) hb5 | exact Below.on (Below.on (below_alloc hB1 _) hb6) hb5 | exact Below.on (below_alloc hB1 _) hb6⟩
  all_goals rw [simB_plain (by omega) (by omega)]
  all_goals (try rw [← hl'.out])
  all_goals clear xl xl2 x0 x1 x2 x3 x4 x5 x6 x7 x8 y0 y1 hX1 hl'
  all_goals (try clear hb2)
  all_goals (try clear hb5)
  all_goals (try clear hb6)
  all_goals clear hB1
  all_goals (first | (simp_all; done) | (rcases Nat.eq_zero_or_pos ln with hz | hz <;> simp_all <;> omega) | (simp_all; omega) | (simp_all; intros; omega))
omit hV hW in
set_option maxRecDepth 100000 in
set_option maxHeartbeats 4000000 in
theorem rsimT5_ok (d : Nat) (h : Bool) (nm : ByteArray) (op : Int) (vl : ByteArray) (fo : Bool) (a b : Int) (f : Bool) (LA : Option Addr) (ln lc : Nat) (l : List X) (w : World) (_ : nm.size ≤ 9223372036854775807) (_ : vl.size ≤ 9223372036854775807) (hl : ln = l.length) :
    Calls Tryz.prog 106 #[.agg #[.int .u8 5, .string nm, .int .u8 op, .string vl, .bool fo, .int .i64 a, .int .i64 b, .bool f, .slice LA ln lc], .agg #[.int .i64 d, .bool h]] w fun e w' => e = .returned (.bool (simB Wf d h ⟨5, nm, op, vl, fo, a, b, f, l⟩)) ∧ Below w.heap.size w w' := by
  have hl' := hide hl
  clear hl
  have hbo := fun W => bareOf_ok 5 nm op vl fo a b f LA ln lc W
  have hX : ((w.alloc (.cells #[.int .u8 5, .string nm, .int .u8 op, .string vl, .bool fo, .int .i64 a, .int .i64 b, .bool f, .slice LA ln lc] 41)).alloc (.cells #[.int .i64 d, .bool h] 104)).heap[w.heap.size]? = some (.cells #[.int .u8 5, .string nm, .int .u8 op, .string vl, .bool fo, .int .i64 a, .int .i64 b, .bool f, .slice LA ln lc] 41 (0, 0)) := blk_alloc (blk_new _ _ _) _
  have hY : ((w.alloc (.cells #[.int .u8 5, .string nm, .int .u8 op, .string vl, .bool fo, .int .i64 a, .int .i64 b, .bool f, .slice LA ln lc] 41)).alloc (.cells #[.int .i64 d, .bool h] 104)).heap[w.heap.size + 1]? = some (.cells #[.int .i64 d, .bool h] 104 (0, 0)) := blk_at _ _ _ _ (by simp)
  have hB0 := below_alloc (below_alloc (Below.refl w.heap.size w) (.cells #[.int .u8 5, .string nm, .int .u8 op, .string vl, .bool fo, .int .i64 a, .int .i64 b, .bool f, .slice LA ln lc] 41)) (.cells #[.int .i64 d, .bool h] 104)
  go_enter Tryz.func106, Tryz.ntmps106
  go_wp2_with fail
  refine (hbo _).mono ?_
  rintro e w1 ⟨rfl, hb1⟩
  have hX1 := (hb1.block _ (blk_lt hX)).trans hX
  have hY1 := (hb1.block _ (blk_lt hY)).trans hY
  have hB1 := Below.on hB0 hb1
  clear hX hY hB0 hb1 hbo
  have x0 : w1.cell? ⟨w.heap.size, 0, none⟩ = some (.int .u8 5) := blk_cell hX1 0
  have x1 : w1.cell? ⟨w.heap.size, 1, none⟩ = some (.string nm) := blk_cell hX1 1
  have x2 : w1.cell? ⟨w.heap.size, 2, none⟩ = some (.int .u8 op) := blk_cell hX1 2
  have x3 : w1.cell? ⟨w.heap.size, 3, none⟩ = some (.string vl) := blk_cell hX1 3
  have x4 : w1.cell? ⟨w.heap.size, 4, none⟩ = some (.bool fo) := blk_cell hX1 4
  have x5 : w1.cell? ⟨w.heap.size, 5, none⟩ = some (.int .i64 a) := blk_cell hX1 5
  have x6 : w1.cell? ⟨w.heap.size, 6, none⟩ = some (.int .i64 b) := blk_cell hX1 6
  have x7 : w1.cell? ⟨w.heap.size, 7, none⟩ = some (.bool f) := blk_cell hX1 7
  have x8 : w1.cell? ⟨w.heap.size, 8, none⟩ = some (.slice LA ln lc) := blk_cell hX1 8
  have y0 : w1.cell? ⟨w.heap.size + 1, 0, none⟩ = some (.int .i64 d) := blk_cell hY1 0
  have y1 : w1.cell? ⟨w.heap.size + 1, 1, none⟩ = some (.bool h) := blk_cell hY1 1
  have xl : w.heap.size + 1 < w1.heap.size := blk_lt hY1
  have xl2 : w.heap.size < w1.heap.size := blk_lt hX1
  clear hY1
  go_wp2
  all_goals go_ret
  all_goals refine ⟨ret_bool (Eq.symm ?_), by first | exact below_alloc hB1 _ | exact Below.on (below_alloc hB1 _) hb2 | exact Below.on (below_alloc hB1 _) hb5 | exact Below.on (Below.on (below_alloc hB1 _) hb6) hb5 | exact Below.on (below_alloc hB1 _) hb6⟩
  all_goals rw [simB_plain (by omega) (by omega)]
  all_goals (try rw [← hl'.out])
  all_goals clear xl xl2 x0 x1 x2 x3 x4 x5 x6 x7 x8 y0 y1 hX1 hl'
  all_goals (try clear hb2)
  all_goals (try clear hb5)
  all_goals (try clear hb6)
  all_goals clear hB1
  all_goals (first | (simp_all; done) | (rcases Nat.eq_zero_or_pos ln with hz | hz <;> simp_all <;> omega) | (simp_all; omega) | (simp_all; intros; omega))
omit hV hW in
set_option maxRecDepth 100000 in
set_option maxHeartbeats 4000000 in
theorem rsimT6_ok (d : Nat) (h : Bool) (nm : ByteArray) (op : Int) (vl : ByteArray) (fo : Bool) (a b : Int) (f : Bool) (LA : Option Addr) (ln lc : Nat) (l : List X) (w : World) (_ : nm.size ≤ 9223372036854775807) (_ : vl.size ≤ 9223372036854775807) (hl : ln = l.length) :
    Calls Tryz.prog 106 #[.agg #[.int .u8 6, .string nm, .int .u8 op, .string vl, .bool fo, .int .i64 a, .int .i64 b, .bool f, .slice LA ln lc], .agg #[.int .i64 d, .bool h]] w fun e w' => e = .returned (.bool (simB Wf d h ⟨6, nm, op, vl, fo, a, b, f, l⟩)) ∧ Below w.heap.size w w' := by
  have hl' := hide hl
  clear hl
  have hbo := fun W => bareOf_ok 6 nm op vl fo a b f LA ln lc W
  have hX : ((w.alloc (.cells #[.int .u8 6, .string nm, .int .u8 op, .string vl, .bool fo, .int .i64 a, .int .i64 b, .bool f, .slice LA ln lc] 41)).alloc (.cells #[.int .i64 d, .bool h] 104)).heap[w.heap.size]? = some (.cells #[.int .u8 6, .string nm, .int .u8 op, .string vl, .bool fo, .int .i64 a, .int .i64 b, .bool f, .slice LA ln lc] 41 (0, 0)) := blk_alloc (blk_new _ _ _) _
  have hY : ((w.alloc (.cells #[.int .u8 6, .string nm, .int .u8 op, .string vl, .bool fo, .int .i64 a, .int .i64 b, .bool f, .slice LA ln lc] 41)).alloc (.cells #[.int .i64 d, .bool h] 104)).heap[w.heap.size + 1]? = some (.cells #[.int .i64 d, .bool h] 104 (0, 0)) := blk_at _ _ _ _ (by simp)
  have hB0 := below_alloc (below_alloc (Below.refl w.heap.size w) (.cells #[.int .u8 6, .string nm, .int .u8 op, .string vl, .bool fo, .int .i64 a, .int .i64 b, .bool f, .slice LA ln lc] 41)) (.cells #[.int .i64 d, .bool h] 104)
  go_enter Tryz.func106, Tryz.ntmps106
  go_wp2_with fail
  refine (hbo _).mono ?_
  rintro e w1 ⟨rfl, hb1⟩
  have hX1 := (hb1.block _ (blk_lt hX)).trans hX
  have hY1 := (hb1.block _ (blk_lt hY)).trans hY
  have hB1 := Below.on hB0 hb1
  clear hX hY hB0 hb1 hbo
  have x0 : w1.cell? ⟨w.heap.size, 0, none⟩ = some (.int .u8 6) := blk_cell hX1 0
  have x1 : w1.cell? ⟨w.heap.size, 1, none⟩ = some (.string nm) := blk_cell hX1 1
  have x2 : w1.cell? ⟨w.heap.size, 2, none⟩ = some (.int .u8 op) := blk_cell hX1 2
  have x3 : w1.cell? ⟨w.heap.size, 3, none⟩ = some (.string vl) := blk_cell hX1 3
  have x4 : w1.cell? ⟨w.heap.size, 4, none⟩ = some (.bool fo) := blk_cell hX1 4
  have x5 : w1.cell? ⟨w.heap.size, 5, none⟩ = some (.int .i64 a) := blk_cell hX1 5
  have x6 : w1.cell? ⟨w.heap.size, 6, none⟩ = some (.int .i64 b) := blk_cell hX1 6
  have x7 : w1.cell? ⟨w.heap.size, 7, none⟩ = some (.bool f) := blk_cell hX1 7
  have x8 : w1.cell? ⟨w.heap.size, 8, none⟩ = some (.slice LA ln lc) := blk_cell hX1 8
  have y0 : w1.cell? ⟨w.heap.size + 1, 0, none⟩ = some (.int .i64 d) := blk_cell hY1 0
  have y1 : w1.cell? ⟨w.heap.size + 1, 1, none⟩ = some (.bool h) := blk_cell hY1 1
  have xl : w.heap.size + 1 < w1.heap.size := blk_lt hY1
  have xl2 : w.heap.size < w1.heap.size := blk_lt hX1
  clear hY1
  go_wp2
  all_goals go_ret
  all_goals refine ⟨ret_bool (Eq.symm ?_), by first | exact below_alloc hB1 _ | exact Below.on (below_alloc hB1 _) hb2 | exact Below.on (below_alloc hB1 _) hb5 | exact Below.on (Below.on (below_alloc hB1 _) hb6) hb5 | exact Below.on (below_alloc hB1 _) hb6⟩
  all_goals rw [simB_plain (by omega) (by omega)]
  all_goals (try rw [← hl'.out])
  all_goals clear xl xl2 x0 x1 x2 x3 x4 x5 x6 x7 x8 y0 y1 hX1 hl'
  all_goals (try clear hb2)
  all_goals (try clear hb5)
  all_goals (try clear hb6)
  all_goals clear hB1
  all_goals (first | (simp_all; done) | (rcases Nat.eq_zero_or_pos ln with hz | hz <;> simp_all <;> omega) | (simp_all; omega) | (simp_all; intros; omega))
omit hV hW in
set_option maxRecDepth 100000 in
set_option maxHeartbeats 4000000 in
theorem rsimT7_ok (d : Nat) (h : Bool) (nm : ByteArray) (op : Int) (vl : ByteArray) (fo : Bool) (a b : Int) (f : Bool) (LA : Option Addr) (ln lc : Nat) (l : List X) (w : World) (_ : nm.size ≤ 9223372036854775807) (_ : vl.size ≤ 9223372036854775807) (hl : ln = l.length) :
    Calls Tryz.prog 106 #[.agg #[.int .u8 7, .string nm, .int .u8 op, .string vl, .bool fo, .int .i64 a, .int .i64 b, .bool f, .slice LA ln lc], .agg #[.int .i64 d, .bool h]] w fun e w' => e = .returned (.bool (simB Wf d h ⟨7, nm, op, vl, fo, a, b, f, l⟩)) ∧ Below w.heap.size w w' := by
  have hl' := hide hl
  clear hl
  have hbo := fun W => bareOf_ok 7 nm op vl fo a b f LA ln lc W
  have hX : ((w.alloc (.cells #[.int .u8 7, .string nm, .int .u8 op, .string vl, .bool fo, .int .i64 a, .int .i64 b, .bool f, .slice LA ln lc] 41)).alloc (.cells #[.int .i64 d, .bool h] 104)).heap[w.heap.size]? = some (.cells #[.int .u8 7, .string nm, .int .u8 op, .string vl, .bool fo, .int .i64 a, .int .i64 b, .bool f, .slice LA ln lc] 41 (0, 0)) := blk_alloc (blk_new _ _ _) _
  have hY : ((w.alloc (.cells #[.int .u8 7, .string nm, .int .u8 op, .string vl, .bool fo, .int .i64 a, .int .i64 b, .bool f, .slice LA ln lc] 41)).alloc (.cells #[.int .i64 d, .bool h] 104)).heap[w.heap.size + 1]? = some (.cells #[.int .i64 d, .bool h] 104 (0, 0)) := blk_at _ _ _ _ (by simp)
  have hB0 := below_alloc (below_alloc (Below.refl w.heap.size w) (.cells #[.int .u8 7, .string nm, .int .u8 op, .string vl, .bool fo, .int .i64 a, .int .i64 b, .bool f, .slice LA ln lc] 41)) (.cells #[.int .i64 d, .bool h] 104)
  go_enter Tryz.func106, Tryz.ntmps106
  go_wp2_with fail
  refine (hbo _).mono ?_
  rintro e w1 ⟨rfl, hb1⟩
  have hX1 := (hb1.block _ (blk_lt hX)).trans hX
  have hY1 := (hb1.block _ (blk_lt hY)).trans hY
  have hB1 := Below.on hB0 hb1
  clear hX hY hB0 hb1 hbo
  have x0 : w1.cell? ⟨w.heap.size, 0, none⟩ = some (.int .u8 7) := blk_cell hX1 0
  have x1 : w1.cell? ⟨w.heap.size, 1, none⟩ = some (.string nm) := blk_cell hX1 1
  have x2 : w1.cell? ⟨w.heap.size, 2, none⟩ = some (.int .u8 op) := blk_cell hX1 2
  have x3 : w1.cell? ⟨w.heap.size, 3, none⟩ = some (.string vl) := blk_cell hX1 3
  have x4 : w1.cell? ⟨w.heap.size, 4, none⟩ = some (.bool fo) := blk_cell hX1 4
  have x5 : w1.cell? ⟨w.heap.size, 5, none⟩ = some (.int .i64 a) := blk_cell hX1 5
  have x6 : w1.cell? ⟨w.heap.size, 6, none⟩ = some (.int .i64 b) := blk_cell hX1 6
  have x7 : w1.cell? ⟨w.heap.size, 7, none⟩ = some (.bool f) := blk_cell hX1 7
  have x8 : w1.cell? ⟨w.heap.size, 8, none⟩ = some (.slice LA ln lc) := blk_cell hX1 8
  have y0 : w1.cell? ⟨w.heap.size + 1, 0, none⟩ = some (.int .i64 d) := blk_cell hY1 0
  have y1 : w1.cell? ⟨w.heap.size + 1, 1, none⟩ = some (.bool h) := blk_cell hY1 1
  have xl : w.heap.size + 1 < w1.heap.size := blk_lt hY1
  have xl2 : w.heap.size < w1.heap.size := blk_lt hX1
  clear hY1
  go_wp2
  all_goals go_ret
  all_goals refine ⟨ret_bool (Eq.symm ?_), by first | exact below_alloc hB1 _ | exact Below.on (below_alloc hB1 _) hb2 | exact Below.on (below_alloc hB1 _) hb5 | exact Below.on (Below.on (below_alloc hB1 _) hb6) hb5 | exact Below.on (below_alloc hB1 _) hb6⟩
  all_goals rw [simB_plain (by omega) (by omega)]
  all_goals (try rw [← hl'.out])
  all_goals clear xl xl2 x0 x1 x2 x3 x4 x5 x6 x7 x8 y0 y1 hX1 hl'
  all_goals (try clear hb2)
  all_goals (try clear hb5)
  all_goals (try clear hb6)
  all_goals clear hB1
  all_goals (first | (simp_all; done) | (rcases Nat.eq_zero_or_pos ln with hz | hz <;> simp_all <;> omega) | (simp_all; omega) | (simp_all; intros; omega))
omit hV hW in
set_option maxRecDepth 100000 in
set_option maxHeartbeats 4000000 in
theorem rsimT8_ok (d : Nat) (h : Bool) (nm : ByteArray) (op : Int) (vl : ByteArray) (fo : Bool) (a b : Int) (f : Bool) (LA : Option Addr) (ln lc : Nat) (l : List X) (w : World) (_ : nm.size ≤ 9223372036854775807) (_ : vl.size ≤ 9223372036854775807) (hl : ln = l.length) :
    Calls Tryz.prog 106 #[.agg #[.int .u8 8, .string nm, .int .u8 op, .string vl, .bool fo, .int .i64 a, .int .i64 b, .bool f, .slice LA ln lc], .agg #[.int .i64 d, .bool h]] w fun e w' => e = .returned (.bool (simB Wf d h ⟨8, nm, op, vl, fo, a, b, f, l⟩)) ∧ Below w.heap.size w w' := by
  have hl' := hide hl
  clear hl
  have hbo := fun W => bareOf_ok 8 nm op vl fo a b f LA ln lc W
  have hX : ((w.alloc (.cells #[.int .u8 8, .string nm, .int .u8 op, .string vl, .bool fo, .int .i64 a, .int .i64 b, .bool f, .slice LA ln lc] 41)).alloc (.cells #[.int .i64 d, .bool h] 104)).heap[w.heap.size]? = some (.cells #[.int .u8 8, .string nm, .int .u8 op, .string vl, .bool fo, .int .i64 a, .int .i64 b, .bool f, .slice LA ln lc] 41 (0, 0)) := blk_alloc (blk_new _ _ _) _
  have hY : ((w.alloc (.cells #[.int .u8 8, .string nm, .int .u8 op, .string vl, .bool fo, .int .i64 a, .int .i64 b, .bool f, .slice LA ln lc] 41)).alloc (.cells #[.int .i64 d, .bool h] 104)).heap[w.heap.size + 1]? = some (.cells #[.int .i64 d, .bool h] 104 (0, 0)) := blk_at _ _ _ _ (by simp)
  have hB0 := below_alloc (below_alloc (Below.refl w.heap.size w) (.cells #[.int .u8 8, .string nm, .int .u8 op, .string vl, .bool fo, .int .i64 a, .int .i64 b, .bool f, .slice LA ln lc] 41)) (.cells #[.int .i64 d, .bool h] 104)
  go_enter Tryz.func106, Tryz.ntmps106
  go_wp2_with fail
  refine (hbo _).mono ?_
  rintro e w1 ⟨rfl, hb1⟩
  have hX1 := (hb1.block _ (blk_lt hX)).trans hX
  have hY1 := (hb1.block _ (blk_lt hY)).trans hY
  have hB1 := Below.on hB0 hb1
  clear hX hY hB0 hb1 hbo
  have x0 : w1.cell? ⟨w.heap.size, 0, none⟩ = some (.int .u8 8) := blk_cell hX1 0
  have x1 : w1.cell? ⟨w.heap.size, 1, none⟩ = some (.string nm) := blk_cell hX1 1
  have x2 : w1.cell? ⟨w.heap.size, 2, none⟩ = some (.int .u8 op) := blk_cell hX1 2
  have x3 : w1.cell? ⟨w.heap.size, 3, none⟩ = some (.string vl) := blk_cell hX1 3
  have x4 : w1.cell? ⟨w.heap.size, 4, none⟩ = some (.bool fo) := blk_cell hX1 4
  have x5 : w1.cell? ⟨w.heap.size, 5, none⟩ = some (.int .i64 a) := blk_cell hX1 5
  have x6 : w1.cell? ⟨w.heap.size, 6, none⟩ = some (.int .i64 b) := blk_cell hX1 6
  have x7 : w1.cell? ⟨w.heap.size, 7, none⟩ = some (.bool f) := blk_cell hX1 7
  have x8 : w1.cell? ⟨w.heap.size, 8, none⟩ = some (.slice LA ln lc) := blk_cell hX1 8
  have y0 : w1.cell? ⟨w.heap.size + 1, 0, none⟩ = some (.int .i64 d) := blk_cell hY1 0
  have y1 : w1.cell? ⟨w.heap.size + 1, 1, none⟩ = some (.bool h) := blk_cell hY1 1
  have xl : w.heap.size + 1 < w1.heap.size := blk_lt hY1
  have xl2 : w.heap.size < w1.heap.size := blk_lt hX1
  clear hY1
  go_wp2
  all_goals go_ret
  all_goals refine ⟨ret_bool (Eq.symm ?_), by first | exact below_alloc hB1 _ | exact Below.on (below_alloc hB1 _) hb2 | exact Below.on (below_alloc hB1 _) hb5 | exact Below.on (Below.on (below_alloc hB1 _) hb6) hb5 | exact Below.on (below_alloc hB1 _) hb6⟩
  all_goals rw [simB_plain (by omega) (by omega)]
  all_goals (try rw [← hl'.out])
  all_goals clear xl xl2 x0 x1 x2 x3 x4 x5 x6 x7 x8 y0 y1 hX1 hl'
  all_goals (try clear hb2)
  all_goals (try clear hb5)
  all_goals (try clear hb6)
  all_goals clear hB1
  all_goals (first | (simp_all; done) | (rcases Nat.eq_zero_or_pos ln with hz | hz <;> simp_all <;> omega) | (simp_all; omega) | (simp_all; intros; omega))
set_option maxRecDepth 100000 in
set_option maxHeartbeats 4000000 in
theorem rsimT11_ok (d : Nat) (h : Bool) (nm : ByteArray) (op : Int) (vl : ByteArray) (fo : Bool) (a b : Int) (f : Bool) (LA : Option Addr) (ln lc : Nat) (l : List X) (w : World) (hd : d ≤ 3) (_ : nm.size ≤ 9223372036854775807) (_ : vl.size ≤ 9223372036854775807) (hl : ln = l.length) (hrow0 : IsRow V w LA ln l) :
    Calls Tryz.prog 106 #[.agg #[.int .u8 11, .string nm, .int .u8 op, .string vl, .bool fo, .int .i64 a, .int .i64 b, .bool f, .slice LA ln lc], .agg #[.int .i64 d, .bool h]] w fun e w' => e = .returned (.bool (simB Wf d h ⟨11, nm, op, vl, fo, a, b, f, l⟩)) ∧ Below w.heap.size w w' := by
  have hl' := hide hl
  clear hl
  have hbo := fun W => bareOf_ok 11 nm op vl fo a b f LA ln lc W
  have hX : ((w.alloc (.cells #[.int .u8 11, .string nm, .int .u8 op, .string vl, .bool fo, .int .i64 a, .int .i64 b, .bool f, .slice LA ln lc] 41)).alloc (.cells #[.int .i64 d, .bool h] 104)).heap[w.heap.size]? = some (.cells #[.int .u8 11, .string nm, .int .u8 op, .string vl, .bool fo, .int .i64 a, .int .i64 b, .bool f, .slice LA ln lc] 41 (0, 0)) := blk_alloc (blk_new _ _ _) _
  have hY : ((w.alloc (.cells #[.int .u8 11, .string nm, .int .u8 op, .string vl, .bool fo, .int .i64 a, .int .i64 b, .bool f, .slice LA ln lc] 41)).alloc (.cells #[.int .i64 d, .bool h] 104)).heap[w.heap.size + 1]? = some (.cells #[.int .i64 d, .bool h] 104 (0, 0)) := blk_at _ _ _ _ (by simp)
  have hB0 := below_alloc (below_alloc (Below.refl w.heap.size w) (.cells #[.int .u8 11, .string nm, .int .u8 op, .string vl, .bool fo, .int .i64 a, .int .i64 b, .bool f, .slice LA ln lc] 41)) (.cells #[.int .i64 d, .bool h] 104)
  go_enter Tryz.func106, Tryz.ntmps106
  go_wp2_with fail
  refine (hbo _).mono ?_
  rintro e w1 ⟨rfl, hb1⟩
  have hX1 := (hb1.block _ (blk_lt hX)).trans hX
  have hY1 := (hb1.block _ (blk_lt hY)).trans hY
  have hB1 := Below.on hB0 hb1
  clear hX hY hB0 hb1 hbo
  have x0 : w1.cell? ⟨w.heap.size, 0, none⟩ = some (.int .u8 11) := blk_cell hX1 0
  have x1 : w1.cell? ⟨w.heap.size, 1, none⟩ = some (.string nm) := blk_cell hX1 1
  have x2 : w1.cell? ⟨w.heap.size, 2, none⟩ = some (.int .u8 op) := blk_cell hX1 2
  have x3 : w1.cell? ⟨w.heap.size, 3, none⟩ = some (.string vl) := blk_cell hX1 3
  have x4 : w1.cell? ⟨w.heap.size, 4, none⟩ = some (.bool fo) := blk_cell hX1 4
  have x5 : w1.cell? ⟨w.heap.size, 5, none⟩ = some (.int .i64 a) := blk_cell hX1 5
  have x6 : w1.cell? ⟨w.heap.size, 6, none⟩ = some (.int .i64 b) := blk_cell hX1 6
  have x7 : w1.cell? ⟨w.heap.size, 7, none⟩ = some (.bool f) := blk_cell hX1 7
  have x8 : w1.cell? ⟨w.heap.size, 8, none⟩ = some (.slice LA ln lc) := blk_cell hX1 8
  have y0 : w1.cell? ⟨w.heap.size + 1, 0, none⟩ = some (.int .i64 d) := blk_cell hY1 0
  have y1 : w1.cell? ⟨w.heap.size + 1, 1, none⟩ = some (.bool h) := blk_cell hY1 1
  have xl : w.heap.size + 1 < w1.heap.size := blk_lt hY1
  have xl2 : w.heap.size < w1.heap.size := blk_lt hX1
  have hls := hide (fun (W : World) (hb : Below w1.heap.size w1 W) => listed8_ok hV hW d h 11 LA ln lc l W hd (hrow0.below hV (Below.on hB1 hb)))
  clear hY1
  go_wp2_with ((go_at_call 145; (with_reducible refine (hls.out _ (by first | exact Below.refl _ _ | exact below_alloc (Below.refl _ _) _)).mono ?_); rintro e w5 ⟨rfl, hb5⟩))
  all_goals go_ret
  all_goals refine ⟨ret_bool (Eq.symm ?_), by first | exact below_alloc hB1 _ | exact Below.on (below_alloc hB1 _) hb2 | exact Below.on (below_alloc hB1 _) hb5 | exact Below.on (Below.on (below_alloc hB1 _) hb6) hb5 | exact Below.on (below_alloc hB1 _) hb6⟩
  all_goals rw [simB_list (by omega) (by omega)]
  all_goals (try rw [← hl'.out])
  all_goals clear xl xl2 x0 x1 x2 x3 x4 x5 x6 x7 x8 y0 y1 hX1 hl'
  all_goals (try clear hb2)
  all_goals (try clear hb5)
  all_goals (try clear hb6)
  all_goals clear hB1
  all_goals (first | (simp_all; done) | (rcases Nat.eq_zero_or_pos ln with hz | hz <;> simp_all <;> omega) | (simp_all; omega) | (simp_all; intros; omega))
set_option maxRecDepth 100000 in
set_option maxHeartbeats 4000000 in
theorem rsimT12_ok (d : Nat) (h : Bool) (nm : ByteArray) (op : Int) (vl : ByteArray) (fo : Bool) (a b : Int) (f : Bool) (LA : Option Addr) (ln lc : Nat) (l : List X) (w : World) (hd : d ≤ 3) (_ : nm.size ≤ 9223372036854775807) (_ : vl.size ≤ 9223372036854775807) (hl : ln = l.length) (hrow0 : IsRow V w LA ln l) :
    Calls Tryz.prog 106 #[.agg #[.int .u8 12, .string nm, .int .u8 op, .string vl, .bool fo, .int .i64 a, .int .i64 b, .bool f, .slice LA ln lc], .agg #[.int .i64 d, .bool h]] w fun e w' => e = .returned (.bool (simB Wf d h ⟨12, nm, op, vl, fo, a, b, f, l⟩)) ∧ Below w.heap.size w w' := by
  have hl' := hide hl
  clear hl
  have hbo := fun W => bareOf_ok 12 nm op vl fo a b f LA ln lc W
  have hX : ((w.alloc (.cells #[.int .u8 12, .string nm, .int .u8 op, .string vl, .bool fo, .int .i64 a, .int .i64 b, .bool f, .slice LA ln lc] 41)).alloc (.cells #[.int .i64 d, .bool h] 104)).heap[w.heap.size]? = some (.cells #[.int .u8 12, .string nm, .int .u8 op, .string vl, .bool fo, .int .i64 a, .int .i64 b, .bool f, .slice LA ln lc] 41 (0, 0)) := blk_alloc (blk_new _ _ _) _
  have hY : ((w.alloc (.cells #[.int .u8 12, .string nm, .int .u8 op, .string vl, .bool fo, .int .i64 a, .int .i64 b, .bool f, .slice LA ln lc] 41)).alloc (.cells #[.int .i64 d, .bool h] 104)).heap[w.heap.size + 1]? = some (.cells #[.int .i64 d, .bool h] 104 (0, 0)) := blk_at _ _ _ _ (by simp)
  have hB0 := below_alloc (below_alloc (Below.refl w.heap.size w) (.cells #[.int .u8 12, .string nm, .int .u8 op, .string vl, .bool fo, .int .i64 a, .int .i64 b, .bool f, .slice LA ln lc] 41)) (.cells #[.int .i64 d, .bool h] 104)
  go_enter Tryz.func106, Tryz.ntmps106
  go_wp2_with fail
  refine (hbo _).mono ?_
  rintro e w1 ⟨rfl, hb1⟩
  have hX1 := (hb1.block _ (blk_lt hX)).trans hX
  have hY1 := (hb1.block _ (blk_lt hY)).trans hY
  have hB1 := Below.on hB0 hb1
  clear hX hY hB0 hb1 hbo
  have x0 : w1.cell? ⟨w.heap.size, 0, none⟩ = some (.int .u8 12) := blk_cell hX1 0
  have x1 : w1.cell? ⟨w.heap.size, 1, none⟩ = some (.string nm) := blk_cell hX1 1
  have x2 : w1.cell? ⟨w.heap.size, 2, none⟩ = some (.int .u8 op) := blk_cell hX1 2
  have x3 : w1.cell? ⟨w.heap.size, 3, none⟩ = some (.string vl) := blk_cell hX1 3
  have x4 : w1.cell? ⟨w.heap.size, 4, none⟩ = some (.bool fo) := blk_cell hX1 4
  have x5 : w1.cell? ⟨w.heap.size, 5, none⟩ = some (.int .i64 a) := blk_cell hX1 5
  have x6 : w1.cell? ⟨w.heap.size, 6, none⟩ = some (.int .i64 b) := blk_cell hX1 6
  have x7 : w1.cell? ⟨w.heap.size, 7, none⟩ = some (.bool f) := blk_cell hX1 7
  have x8 : w1.cell? ⟨w.heap.size, 8, none⟩ = some (.slice LA ln lc) := blk_cell hX1 8
  have y0 : w1.cell? ⟨w.heap.size + 1, 0, none⟩ = some (.int .i64 d) := blk_cell hY1 0
  have y1 : w1.cell? ⟨w.heap.size + 1, 1, none⟩ = some (.bool h) := blk_cell hY1 1
  have xl : w.heap.size + 1 < w1.heap.size := blk_lt hY1
  have xl2 : w.heap.size < w1.heap.size := blk_lt hX1
  have hls := hide (fun (W : World) (hb : Below w1.heap.size w1 W) => listed8_ok hV hW d h 12 LA ln lc l W hd (hrow0.below hV (Below.on hB1 hb)))
  clear hY1
  go_wp2_with ((go_at_call 145; (with_reducible refine (hls.out _ (by first | exact Below.refl _ _ | exact below_alloc (Below.refl _ _) _)).mono ?_); rintro e w5 ⟨rfl, hb5⟩))
  all_goals go_ret
  all_goals refine ⟨ret_bool (Eq.symm ?_), by first | exact below_alloc hB1 _ | exact Below.on (below_alloc hB1 _) hb2 | exact Below.on (below_alloc hB1 _) hb5 | exact Below.on (Below.on (below_alloc hB1 _) hb6) hb5 | exact Below.on (below_alloc hB1 _) hb6⟩
  all_goals rw [simB_list (by omega) (by omega)]
  all_goals (try rw [← hl'.out])
  all_goals clear xl xl2 x0 x1 x2 x3 x4 x5 x6 x7 x8 y0 y1 hX1 hl'
  all_goals (try clear hb2)
  all_goals (try clear hb5)
  all_goals (try clear hb6)
  all_goals clear hB1
  all_goals (first | (simp_all; done) | (rcases Nat.eq_zero_or_pos ln with hz | hz <;> simp_all <;> omega) | (simp_all; omega) | (simp_all; intros; omega))
set_option maxRecDepth 100000 in
set_option maxHeartbeats 4000000 in
theorem rsimT13_ok (d : Nat) (h : Bool) (nm : ByteArray) (op : Int) (vl : ByteArray) (fo : Bool) (a b : Int) (f : Bool) (LA : Option Addr) (ln lc : Nat) (l : List X) (w : World) (hd : d ≤ 3) (_ : nm.size ≤ 9223372036854775807) (_ : vl.size ≤ 9223372036854775807) (hl : ln = l.length) (hrow0 : IsRow V w LA ln l) :
    Calls Tryz.prog 106 #[.agg #[.int .u8 13, .string nm, .int .u8 op, .string vl, .bool fo, .int .i64 a, .int .i64 b, .bool f, .slice LA ln lc], .agg #[.int .i64 d, .bool h]] w fun e w' => e = .returned (.bool (simB Wf d h ⟨13, nm, op, vl, fo, a, b, f, l⟩)) ∧ Below w.heap.size w w' := by
  have hl' := hide hl
  clear hl
  have hbo := fun W => bareOf_ok 13 nm op vl fo a b f LA ln lc W
  have hX : ((w.alloc (.cells #[.int .u8 13, .string nm, .int .u8 op, .string vl, .bool fo, .int .i64 a, .int .i64 b, .bool f, .slice LA ln lc] 41)).alloc (.cells #[.int .i64 d, .bool h] 104)).heap[w.heap.size]? = some (.cells #[.int .u8 13, .string nm, .int .u8 op, .string vl, .bool fo, .int .i64 a, .int .i64 b, .bool f, .slice LA ln lc] 41 (0, 0)) := blk_alloc (blk_new _ _ _) _
  have hY : ((w.alloc (.cells #[.int .u8 13, .string nm, .int .u8 op, .string vl, .bool fo, .int .i64 a, .int .i64 b, .bool f, .slice LA ln lc] 41)).alloc (.cells #[.int .i64 d, .bool h] 104)).heap[w.heap.size + 1]? = some (.cells #[.int .i64 d, .bool h] 104 (0, 0)) := blk_at _ _ _ _ (by simp)
  have hB0 := below_alloc (below_alloc (Below.refl w.heap.size w) (.cells #[.int .u8 13, .string nm, .int .u8 op, .string vl, .bool fo, .int .i64 a, .int .i64 b, .bool f, .slice LA ln lc] 41)) (.cells #[.int .i64 d, .bool h] 104)
  go_enter Tryz.func106, Tryz.ntmps106
  go_wp2_with fail
  refine (hbo _).mono ?_
  rintro e w1 ⟨rfl, hb1⟩
  have hX1 := (hb1.block _ (blk_lt hX)).trans hX
  have hY1 := (hb1.block _ (blk_lt hY)).trans hY
  have hB1 := Below.on hB0 hb1
  clear hX hY hB0 hb1 hbo
  have x0 : w1.cell? ⟨w.heap.size, 0, none⟩ = some (.int .u8 13) := blk_cell hX1 0
  have x1 : w1.cell? ⟨w.heap.size, 1, none⟩ = some (.string nm) := blk_cell hX1 1
  have x2 : w1.cell? ⟨w.heap.size, 2, none⟩ = some (.int .u8 op) := blk_cell hX1 2
  have x3 : w1.cell? ⟨w.heap.size, 3, none⟩ = some (.string vl) := blk_cell hX1 3
  have x4 : w1.cell? ⟨w.heap.size, 4, none⟩ = some (.bool fo) := blk_cell hX1 4
  have x5 : w1.cell? ⟨w.heap.size, 5, none⟩ = some (.int .i64 a) := blk_cell hX1 5
  have x6 : w1.cell? ⟨w.heap.size, 6, none⟩ = some (.int .i64 b) := blk_cell hX1 6
  have x7 : w1.cell? ⟨w.heap.size, 7, none⟩ = some (.bool f) := blk_cell hX1 7
  have x8 : w1.cell? ⟨w.heap.size, 8, none⟩ = some (.slice LA ln lc) := blk_cell hX1 8
  have y0 : w1.cell? ⟨w.heap.size + 1, 0, none⟩ = some (.int .i64 d) := blk_cell hY1 0
  have y1 : w1.cell? ⟨w.heap.size + 1, 1, none⟩ = some (.bool h) := blk_cell hY1 1
  have xl : w.heap.size + 1 < w1.heap.size := blk_lt hY1
  have xl2 : w.heap.size < w1.heap.size := blk_lt hX1
  have hls := hide (fun (W : World) (hb : Below w1.heap.size w1 W) => listed8_ok hV hW d h 13 LA ln lc l W hd (hrow0.below hV (Below.on hB1 hb)))
  clear hY1
  go_wp2_with ((go_at_call 145; (with_reducible refine (hls.out _ (by first | exact Below.refl _ _ | exact below_alloc (Below.refl _ _) _)).mono ?_); rintro e w5 ⟨rfl, hb5⟩))
  all_goals go_ret
  all_goals refine ⟨ret_bool (Eq.symm ?_), by first | exact below_alloc hB1 _ | exact Below.on (below_alloc hB1 _) hb2 | exact Below.on (below_alloc hB1 _) hb5 | exact Below.on (Below.on (below_alloc hB1 _) hb6) hb5 | exact Below.on (below_alloc hB1 _) hb6⟩
  all_goals rw [simB_list (by omega) (by omega)]
  all_goals (try rw [← hl'.out])
  all_goals clear xl xl2 x0 x1 x2 x3 x4 x5 x6 x7 x8 y0 y1 hX1 hl'
  all_goals (try clear hb2)
  all_goals (try clear hb5)
  all_goals (try clear hb6)
  all_goals clear hB1
  all_goals (first | (simp_all; done) | (rcases Nat.eq_zero_or_pos ln with hz | hz <;> simp_all <;> omega) | (simp_all; omega) | (simp_all; intros; omega))
set_option maxRecDepth 100000 in
set_option maxHeartbeats 4000000 in
theorem rsimT14_ok (d : Nat) (h : Bool) (nm : ByteArray) (op : Int) (vl : ByteArray) (fo : Bool) (a b : Int) (f : Bool) (LA : Option Addr) (ln lc : Nat) (l : List X) (w : World) (hd : d ≤ 3) (_ : nm.size ≤ 9223372036854775807) (_ : vl.size ≤ 9223372036854775807) (hl : ln = l.length) (hrow0 : IsRow V w LA ln l) :
    Calls Tryz.prog 106 #[.agg #[.int .u8 14, .string nm, .int .u8 op, .string vl, .bool fo, .int .i64 a, .int .i64 b, .bool f, .slice LA ln lc], .agg #[.int .i64 d, .bool h]] w fun e w' => e = .returned (.bool (simB Wf d h ⟨14, nm, op, vl, fo, a, b, f, l⟩)) ∧ Below w.heap.size w w' := by
  have hl' := hide hl
  clear hl
  have hbo := fun W => bareOf_ok 14 nm op vl fo a b f LA ln lc W
  have hX : ((w.alloc (.cells #[.int .u8 14, .string nm, .int .u8 op, .string vl, .bool fo, .int .i64 a, .int .i64 b, .bool f, .slice LA ln lc] 41)).alloc (.cells #[.int .i64 d, .bool h] 104)).heap[w.heap.size]? = some (.cells #[.int .u8 14, .string nm, .int .u8 op, .string vl, .bool fo, .int .i64 a, .int .i64 b, .bool f, .slice LA ln lc] 41 (0, 0)) := blk_alloc (blk_new _ _ _) _
  have hY : ((w.alloc (.cells #[.int .u8 14, .string nm, .int .u8 op, .string vl, .bool fo, .int .i64 a, .int .i64 b, .bool f, .slice LA ln lc] 41)).alloc (.cells #[.int .i64 d, .bool h] 104)).heap[w.heap.size + 1]? = some (.cells #[.int .i64 d, .bool h] 104 (0, 0)) := blk_at _ _ _ _ (by simp)
  have hB0 := below_alloc (below_alloc (Below.refl w.heap.size w) (.cells #[.int .u8 14, .string nm, .int .u8 op, .string vl, .bool fo, .int .i64 a, .int .i64 b, .bool f, .slice LA ln lc] 41)) (.cells #[.int .i64 d, .bool h] 104)
  go_enter Tryz.func106, Tryz.ntmps106
  go_wp2_with fail
  refine (hbo _).mono ?_
  rintro e w1 ⟨rfl, hb1⟩
  have hX1 := (hb1.block _ (blk_lt hX)).trans hX
  have hY1 := (hb1.block _ (blk_lt hY)).trans hY
  have hB1 := Below.on hB0 hb1
  clear hX hY hB0 hb1 hbo
  have x0 : w1.cell? ⟨w.heap.size, 0, none⟩ = some (.int .u8 14) := blk_cell hX1 0
  have x1 : w1.cell? ⟨w.heap.size, 1, none⟩ = some (.string nm) := blk_cell hX1 1
  have x2 : w1.cell? ⟨w.heap.size, 2, none⟩ = some (.int .u8 op) := blk_cell hX1 2
  have x3 : w1.cell? ⟨w.heap.size, 3, none⟩ = some (.string vl) := blk_cell hX1 3
  have x4 : w1.cell? ⟨w.heap.size, 4, none⟩ = some (.bool fo) := blk_cell hX1 4
  have x5 : w1.cell? ⟨w.heap.size, 5, none⟩ = some (.int .i64 a) := blk_cell hX1 5
  have x6 : w1.cell? ⟨w.heap.size, 6, none⟩ = some (.int .i64 b) := blk_cell hX1 6
  have x7 : w1.cell? ⟨w.heap.size, 7, none⟩ = some (.bool f) := blk_cell hX1 7
  have x8 : w1.cell? ⟨w.heap.size, 8, none⟩ = some (.slice LA ln lc) := blk_cell hX1 8
  have y0 : w1.cell? ⟨w.heap.size + 1, 0, none⟩ = some (.int .i64 d) := blk_cell hY1 0
  have y1 : w1.cell? ⟨w.heap.size + 1, 1, none⟩ = some (.bool h) := blk_cell hY1 1
  have xl : w.heap.size + 1 < w1.heap.size := blk_lt hY1
  have xl2 : w.heap.size < w1.heap.size := blk_lt hX1
  have hls := hide (fun (W : World) (hb : Below w1.heap.size w1 W) => listed8_ok hV hW d h 14 LA ln lc l W hd (hrow0.below hV (Below.on hB1 hb)))
  clear hY1
  go_wp2_with ((go_at_call 145; (with_reducible refine (hls.out _ (by first | exact Below.refl _ _ | exact below_alloc (Below.refl _ _) _)).mono ?_); rintro e w5 ⟨rfl, hb5⟩))
  all_goals go_ret
  all_goals refine ⟨ret_bool (Eq.symm ?_), by first | exact below_alloc hB1 _ | exact Below.on (below_alloc hB1 _) hb2 | exact Below.on (below_alloc hB1 _) hb5 | exact Below.on (Below.on (below_alloc hB1 _) hb6) hb5 | exact Below.on (below_alloc hB1 _) hb6⟩
  all_goals rw [simB_list (by omega) (by omega)]
  all_goals (try rw [← hl'.out])
  all_goals clear xl xl2 x0 x1 x2 x3 x4 x5 x6 x7 x8 y0 y1 hX1 hl'
  all_goals (try clear hb2)
  all_goals (try clear hb5)
  all_goals (try clear hb6)
  all_goals clear hB1
  all_goals (first | (simp_all; done) | (rcases Nat.eq_zero_or_pos ln with hz | hz <;> simp_all <;> omega) | (simp_all; omega) | (simp_all; intros; omega))
set_option maxRecDepth 100000 in
set_option maxHeartbeats 4000000 in
theorem rsimT9_ok (d : Nat) (h : Bool) (nm : ByteArray) (op : Int) (vl : ByteArray) (fo : Bool) (a b : Int) (f : Bool) (LA : Option Addr) (ln lc : Nat) (l : List X) (w : World) (hd : d ≤ 3) (_ : nm.size ≤ 9223372036854775807) (_ : vl.size ≤ 9223372036854775807) (hl : ln = l.length) (hrow0 : IsRow V w LA ln l) :
    Calls Tryz.prog 106 #[.agg #[.int .u8 9, .string nm, .int .u8 op, .string vl, .bool fo, .int .i64 a, .int .i64 b, .bool f, .slice LA ln lc], .agg #[.int .i64 d, .bool h]] w fun e w' => e = .returned (.bool (simB Wf d h ⟨9, nm, op, vl, fo, a, b, f, l⟩)) ∧ Below w.heap.size w w' := by
  have hl' := hide hl
  clear hl
  have hbo := fun W => bareOf_ok 9 nm op vl fo a b f LA ln lc W
  have hX : ((w.alloc (.cells #[.int .u8 9, .string nm, .int .u8 op, .string vl, .bool fo, .int .i64 a, .int .i64 b, .bool f, .slice LA ln lc] 41)).alloc (.cells #[.int .i64 d, .bool h] 104)).heap[w.heap.size]? = some (.cells #[.int .u8 9, .string nm, .int .u8 op, .string vl, .bool fo, .int .i64 a, .int .i64 b, .bool f, .slice LA ln lc] 41 (0, 0)) := blk_alloc (blk_new _ _ _) _
  have hY : ((w.alloc (.cells #[.int .u8 9, .string nm, .int .u8 op, .string vl, .bool fo, .int .i64 a, .int .i64 b, .bool f, .slice LA ln lc] 41)).alloc (.cells #[.int .i64 d, .bool h] 104)).heap[w.heap.size + 1]? = some (.cells #[.int .i64 d, .bool h] 104 (0, 0)) := blk_at _ _ _ _ (by simp)
  have hB0 := below_alloc (below_alloc (Below.refl w.heap.size w) (.cells #[.int .u8 9, .string nm, .int .u8 op, .string vl, .bool fo, .int .i64 a, .int .i64 b, .bool f, .slice LA ln lc] 41)) (.cells #[.int .i64 d, .bool h] 104)
  go_enter Tryz.func106, Tryz.ntmps106
  go_wp2_with fail
  refine (hbo _).mono ?_
  rintro e w1 ⟨rfl, hb1⟩
  have hX1 := (hb1.block _ (blk_lt hX)).trans hX
  have hY1 := (hb1.block _ (blk_lt hY)).trans hY
  have hB1 := Below.on hB0 hb1
  clear hX hY hB0 hb1 hbo
  have x0 : w1.cell? ⟨w.heap.size, 0, none⟩ = some (.int .u8 9) := blk_cell hX1 0
  have x1 : w1.cell? ⟨w.heap.size, 1, none⟩ = some (.string nm) := blk_cell hX1 1
  have x2 : w1.cell? ⟨w.heap.size, 2, none⟩ = some (.int .u8 op) := blk_cell hX1 2
  have x3 : w1.cell? ⟨w.heap.size, 3, none⟩ = some (.string vl) := blk_cell hX1 3
  have x4 : w1.cell? ⟨w.heap.size, 4, none⟩ = some (.bool fo) := blk_cell hX1 4
  have x5 : w1.cell? ⟨w.heap.size, 5, none⟩ = some (.int .i64 a) := blk_cell hX1 5
  have x6 : w1.cell? ⟨w.heap.size, 6, none⟩ = some (.int .i64 b) := blk_cell hX1 6
  have x7 : w1.cell? ⟨w.heap.size, 7, none⟩ = some (.bool f) := blk_cell hX1 7
  have x8 : w1.cell? ⟨w.heap.size, 8, none⟩ = some (.slice LA ln lc) := blk_cell hX1 8
  have y0 : w1.cell? ⟨w.heap.size + 1, 0, none⟩ = some (.int .i64 d) := blk_cell hY1 0
  have y1 : w1.cell? ⟨w.heap.size + 1, 1, none⟩ = some (.bool h) := blk_cell hY1 1
  have xl : w.heap.size + 1 < w1.heap.size := blk_lt hY1
  have xl2 : w.heap.size < w1.heap.size := blk_lt hX1
  have hls := hide (fun (W : World) (hb : Below w1.heap.size w1 W) => listed8_ok hV hW d h 9 LA ln lc l W hd (hrow0.below hV (Below.on hB1 hb)))
  have hab : Hid ((anbE a b == 0) = anbB a b) := by show _ = _; unfold anbE; cases anbB a b <;> rfl
  clear hY1
  go_wp2_with (first | (go_at_call 144; refine (rvalid_ok _ _ _).mono ?_; rintro e w6 ⟨rfl, hb6⟩; have hX6 := (hb6.block _ (blk_lt (blk_alloc hX1 _))).trans (blk_alloc hX1 _); have hY6 := (hb6.block w1.heap.size (by simp)).trans (blk_new _ _ _); have x0 : w6.cell? ⟨w.heap.size, 0, none⟩ = some (.int .u8 9) := blk_cell hX6 0; have x1 : w6.cell? ⟨w.heap.size, 1, none⟩ = some (.string nm) := blk_cell hX6 1; have x2 : w6.cell? ⟨w.heap.size, 2, none⟩ = some (.int .u8 op) := blk_cell hX6 2; have x3 : w6.cell? ⟨w.heap.size, 3, none⟩ = some (.string vl) := blk_cell hX6 3; have x4 : w6.cell? ⟨w.heap.size, 4, none⟩ = some (.bool fo) := blk_cell hX6 4; have x5 : w6.cell? ⟨w.heap.size, 5, none⟩ = some (.int .i64 a) := blk_cell hX6 5; have x6 : w6.cell? ⟨w.heap.size, 6, none⟩ = some (.int .i64 b) := blk_cell hX6 6; have x7 : w6.cell? ⟨w.heap.size, 7, none⟩ = some (.bool f) := blk_cell hX6 7; have x8 : w6.cell? ⟨w.heap.size, 8, none⟩ = some (.slice LA ln lc) := blk_cell hX6 8; have z0 : w6.cell? ⟨w1.heap.size, 0, none⟩ = some (.int .u8 9) := blk_cell hY6 0; have z1 : w6.cell? ⟨w1.heap.size, 1, none⟩ = some (.string nm) := blk_cell hY6 1; have z2 : w6.cell? ⟨w1.heap.size, 2, none⟩ = some (.int .u8 op) := blk_cell hY6 2; have z3 : w6.cell? ⟨w1.heap.size, 3, none⟩ = some (.string vl) := blk_cell hY6 3; have z4 : w6.cell? ⟨w1.heap.size, 4, none⟩ = some (.bool fo) := blk_cell hY6 4; have z5 : w6.cell? ⟨w1.heap.size, 5, none⟩ = some (.int .i64 a) := blk_cell hY6 5; have z6 : w6.cell? ⟨w1.heap.size, 6, none⟩ = some (.int .i64 b) := blk_cell hY6 6; have z7 : w6.cell? ⟨w1.heap.size, 7, none⟩ = some (.bool f) := blk_cell hY6 7; have y0 := cell_later hb6 (cell_later (below_alloc (Below.refl _ _) _) y0); have y1 := cell_later hb6 (cell_later (below_alloc (Below.refl _ _) _) y1); have hb7 := Below.on (below_alloc (Below.refl w1.heap.size w1) _) hb6; clear hX6 hY6) | (go_at_call 145; (with_reducible refine (hls.out _ hb7).mono ?_); rintro e w5 ⟨rfl, hb5⟩))
  all_goals go_ret
  all_goals refine ⟨ret_bool (Eq.symm ?_), by first | exact below_alloc hB1 _ | exact Below.on (below_alloc hB1 _) hb2 | exact Below.on (below_alloc hB1 _) hb5 | exact Below.on (Below.on (below_alloc hB1 _) hb6) hb5 | exact Below.on (below_alloc hB1 _) hb6⟩
  all_goals rw [simB_nth (by omega)]
  all_goals (try rw [← hl'.out])
  all_goals rw [hab.out]
  all_goals clear hab
  all_goals (try clear hb7)
  all_goals (try clear hls)
  all_goals clear xl xl2 x0 x1 x2 x3 x4 x5 x6 x7 x8 y0 y1 hX1 hl'
  all_goals (try clear hb2)
  all_goals (try clear hb5)
  all_goals (try clear hb6)
  all_goals clear hB1
  all_goals (first | (simp_all; done) | (rcases Nat.eq_zero_or_pos ln with hz | hz <;> simp_all <;> omega) | (simp_all; omega) | (simp_all; intros; omega))
set_option maxRecDepth 100000 in
set_option maxHeartbeats 4000000 in
theorem rsimT10_ok (d : Nat) (h : Bool) (nm : ByteArray) (op : Int) (vl : ByteArray) (fo : Bool) (a b : Int) (f : Bool) (LA : Option Addr) (ln lc : Nat) (l : List X) (w : World) (hd : d ≤ 3) (_ : nm.size ≤ 9223372036854775807) (_ : vl.size ≤ 9223372036854775807) (hl : ln = l.length) (hrow0 : IsRow V w LA ln l) :
    Calls Tryz.prog 106 #[.agg #[.int .u8 10, .string nm, .int .u8 op, .string vl, .bool fo, .int .i64 a, .int .i64 b, .bool f, .slice LA ln lc], .agg #[.int .i64 d, .bool h]] w fun e w' => e = .returned (.bool (simB Wf d h ⟨10, nm, op, vl, fo, a, b, f, l⟩)) ∧ Below w.heap.size w w' := by
  have hl' := hide hl
  clear hl
  have hbo := fun W => bareOf_ok 10 nm op vl fo a b f LA ln lc W
  have hX : ((w.alloc (.cells #[.int .u8 10, .string nm, .int .u8 op, .string vl, .bool fo, .int .i64 a, .int .i64 b, .bool f, .slice LA ln lc] 41)).alloc (.cells #[.int .i64 d, .bool h] 104)).heap[w.heap.size]? = some (.cells #[.int .u8 10, .string nm, .int .u8 op, .string vl, .bool fo, .int .i64 a, .int .i64 b, .bool f, .slice LA ln lc] 41 (0, 0)) := blk_alloc (blk_new _ _ _) _
  have hY : ((w.alloc (.cells #[.int .u8 10, .string nm, .int .u8 op, .string vl, .bool fo, .int .i64 a, .int .i64 b, .bool f, .slice LA ln lc] 41)).alloc (.cells #[.int .i64 d, .bool h] 104)).heap[w.heap.size + 1]? = some (.cells #[.int .i64 d, .bool h] 104 (0, 0)) := blk_at _ _ _ _ (by simp)
  have hB0 := below_alloc (below_alloc (Below.refl w.heap.size w) (.cells #[.int .u8 10, .string nm, .int .u8 op, .string vl, .bool fo, .int .i64 a, .int .i64 b, .bool f, .slice LA ln lc] 41)) (.cells #[.int .i64 d, .bool h] 104)
  go_enter Tryz.func106, Tryz.ntmps106
  go_wp2_with fail
  refine (hbo _).mono ?_
  rintro e w1 ⟨rfl, hb1⟩
  have hX1 := (hb1.block _ (blk_lt hX)).trans hX
  have hY1 := (hb1.block _ (blk_lt hY)).trans hY
  have hB1 := Below.on hB0 hb1
  clear hX hY hB0 hb1 hbo
  have x0 : w1.cell? ⟨w.heap.size, 0, none⟩ = some (.int .u8 10) := blk_cell hX1 0
  have x1 : w1.cell? ⟨w.heap.size, 1, none⟩ = some (.string nm) := blk_cell hX1 1
  have x2 : w1.cell? ⟨w.heap.size, 2, none⟩ = some (.int .u8 op) := blk_cell hX1 2
  have x3 : w1.cell? ⟨w.heap.size, 3, none⟩ = some (.string vl) := blk_cell hX1 3
  have x4 : w1.cell? ⟨w.heap.size, 4, none⟩ = some (.bool fo) := blk_cell hX1 4
  have x5 : w1.cell? ⟨w.heap.size, 5, none⟩ = some (.int .i64 a) := blk_cell hX1 5
  have x6 : w1.cell? ⟨w.heap.size, 6, none⟩ = some (.int .i64 b) := blk_cell hX1 6
  have x7 : w1.cell? ⟨w.heap.size, 7, none⟩ = some (.bool f) := blk_cell hX1 7
  have x8 : w1.cell? ⟨w.heap.size, 8, none⟩ = some (.slice LA ln lc) := blk_cell hX1 8
  have y0 : w1.cell? ⟨w.heap.size + 1, 0, none⟩ = some (.int .i64 d) := blk_cell hY1 0
  have y1 : w1.cell? ⟨w.heap.size + 1, 1, none⟩ = some (.bool h) := blk_cell hY1 1
  have xl : w.heap.size + 1 < w1.heap.size := blk_lt hY1
  have xl2 : w.heap.size < w1.heap.size := blk_lt hX1
  have hls := hide (fun (W : World) (hb : Below w1.heap.size w1 W) => listed8_ok hV hW d h 10 LA ln lc l W hd (hrow0.below hV (Below.on hB1 hb)))
  have hab : Hid ((anbE a b == 0) = anbB a b) := by show _ = _; unfold anbE; cases anbB a b <;> rfl
  clear hY1
  go_wp2_with (first | (go_at_call 144; refine (rvalid_ok _ _ _).mono ?_; rintro e w6 ⟨rfl, hb6⟩; have hX6 := (hb6.block _ (blk_lt (blk_alloc hX1 _))).trans (blk_alloc hX1 _); have hY6 := (hb6.block w1.heap.size (by simp)).trans (blk_new _ _ _); have x0 : w6.cell? ⟨w.heap.size, 0, none⟩ = some (.int .u8 10) := blk_cell hX6 0; have x1 : w6.cell? ⟨w.heap.size, 1, none⟩ = some (.string nm) := blk_cell hX6 1; have x2 : w6.cell? ⟨w.heap.size, 2, none⟩ = some (.int .u8 op) := blk_cell hX6 2; have x3 : w6.cell? ⟨w.heap.size, 3, none⟩ = some (.string vl) := blk_cell hX6 3; have x4 : w6.cell? ⟨w.heap.size, 4, none⟩ = some (.bool fo) := blk_cell hX6 4; have x5 : w6.cell? ⟨w.heap.size, 5, none⟩ = some (.int .i64 a) := blk_cell hX6 5; have x6 : w6.cell? ⟨w.heap.size, 6, none⟩ = some (.int .i64 b) := blk_cell hX6 6; have x7 : w6.cell? ⟨w.heap.size, 7, none⟩ = some (.bool f) := blk_cell hX6 7; have x8 : w6.cell? ⟨w.heap.size, 8, none⟩ = some (.slice LA ln lc) := blk_cell hX6 8; have z0 : w6.cell? ⟨w1.heap.size, 0, none⟩ = some (.int .u8 10) := blk_cell hY6 0; have z1 : w6.cell? ⟨w1.heap.size, 1, none⟩ = some (.string nm) := blk_cell hY6 1; have z2 : w6.cell? ⟨w1.heap.size, 2, none⟩ = some (.int .u8 op) := blk_cell hY6 2; have z3 : w6.cell? ⟨w1.heap.size, 3, none⟩ = some (.string vl) := blk_cell hY6 3; have z4 : w6.cell? ⟨w1.heap.size, 4, none⟩ = some (.bool fo) := blk_cell hY6 4; have z5 : w6.cell? ⟨w1.heap.size, 5, none⟩ = some (.int .i64 a) := blk_cell hY6 5; have z6 : w6.cell? ⟨w1.heap.size, 6, none⟩ = some (.int .i64 b) := blk_cell hY6 6; have z7 : w6.cell? ⟨w1.heap.size, 7, none⟩ = some (.bool f) := blk_cell hY6 7; have y0 := cell_later hb6 (cell_later (below_alloc (Below.refl _ _) _) y0); have y1 := cell_later hb6 (cell_later (below_alloc (Below.refl _ _) _) y1); have hb7 := Below.on (below_alloc (Below.refl w1.heap.size w1) _) hb6; clear hX6 hY6) | (go_at_call 145; (with_reducible refine (hls.out _ hb7).mono ?_); rintro e w5 ⟨rfl, hb5⟩))
  all_goals go_ret
  all_goals refine ⟨ret_bool (Eq.symm ?_), by first | exact below_alloc hB1 _ | exact Below.on (below_alloc hB1 _) hb2 | exact Below.on (below_alloc hB1 _) hb5 | exact Below.on (Below.on (below_alloc hB1 _) hb6) hb5 | exact Below.on (below_alloc hB1 _) hb6⟩
  all_goals rw [simB_nth (by omega)]
  all_goals (try rw [← hl'.out])
  all_goals rw [hab.out]
  all_goals clear hab
  all_goals (try clear hb7)
  all_goals (try clear hls)
  all_goals clear xl xl2 x0 x1 x2 x3 x4 x5 x6 x7 x8 y0 y1 hX1 hl'
  all_goals (try clear hb2)
  all_goals (try clear hb5)
  all_goals (try clear hb6)
  all_goals clear hB1
  all_goals (first | (simp_all; done) | (rcases Nat.eq_zero_or_pos ln with hz | hz <;> simp_all <;> omega) | (simp_all; omega) | (simp_all; intros; omega))
end
end Go.Proofs.YtljloicgjgbplaaGreat
