/- Walks: whether a simple selector with a list is right, by the program: what holds of complex ones below is given. Conditions as each states. -/
import Derived.Test.YtljloicgjgbplaaGreatG29
namespace Go.Proofs.YtljloicgjgbplaaGreat
open Go.RowKit

section
variable {X : Type} {V : Lies X} (hV : Stays V) {Wf : Nat → Bool → Bool → X → Bool} (hW : WholeT V Wf)
include hV hW
omit hV hW in
set_option maxRecDepth 100000 in
set_option maxHeartbeats 2000000 in
theorem simT9n_ok (d : Nat) (h : Bool) (nm : ByteArray) (op : Int) (vl : ByteArray) (fo : Bool) (a b : Int) (LA : Option Addr) (ln lc : Nat) (l : List X) (w : World) (_ : d ≤ 3) (hl : ln = l.length) :
    Calls Tryz.prog 79 #[.agg #[.int .u8 9, .string nm, .int .u8 op, .string vl, .bool fo, .int .i64 a, .int .i64 b, .bool false, .slice LA ln lc], .agg #[.int .i64 d, .bool h]] w fun e w' => e = .returned (.bool (simB Wf d h ⟨9, nm, op, vl, fo, a, b, false, l⟩)) ∧ Below w.heap.size w w' := by
  have hl' := hide hl
  clear hl
  have hls := fun W => lists_ok 9 nm op vl fo a b false LA ln lc W
  have e1 : hasK 9 false = false := by decide
  have e2 : emptyK 9 = false := by decide
  simp only [e1, e2] at hls
  clear e1 e2
  have hX : ((w.alloc (.cells #[.int .u8 9, .string nm, .int .u8 op, .string vl, .bool fo, .int .i64 a, .int .i64 b, .bool false, .slice LA ln lc] 41)).alloc (.cells #[.int .i64 d, .bool h] 83)).heap[w.heap.size]? = some (.cells #[.int .u8 9, .string nm, .int .u8 op, .string vl, .bool fo, .int .i64 a, .int .i64 b, .bool false, .slice LA ln lc] 41 (0, 0)) := blk_alloc (blk_new _ _ _) _
  have hY : ((w.alloc (.cells #[.int .u8 9, .string nm, .int .u8 op, .string vl, .bool fo, .int .i64 a, .int .i64 b, .bool false, .slice LA ln lc] 41)).alloc (.cells #[.int .i64 d, .bool h] 83)).heap[w.heap.size + 1]? = some (.cells #[.int .i64 d, .bool h] 83 (0, 0)) := blk_at _ _ _ _ (by simp)
  have hB0 := below_alloc (below_alloc (Below.refl w.heap.size w) (.cells #[.int .u8 9, .string nm, .int .u8 op, .string vl, .bool fo, .int .i64 a, .int .i64 b, .bool false, .slice LA ln lc] 41)) (.cells #[.int .i64 d, .bool h] 83)
  go_enter Tryz.func79, Tryz.ntmps79
  go_wp2_with fail
  refine (hls _).mono ?_
  rintro e w1 ⟨rfl, hb1⟩
  have hX1 := hide ((hb1.block _ (blk_lt hX)).trans hX)
  have hY1 := (hb1.block _ (blk_lt hY)).trans hY
  have hB1 := Below.on hB0 hb1
  have y0 : w1.cell? ⟨w.heap.size + 1, 0, none⟩ = some (.int .i64 d) := blk_cell hY1 0
  have y1 : w1.cell? ⟨w.heap.size + 1, 1, none⟩ = some (.bool h) := blk_cell hY1 1
  clear hX hY hY1 hB0 hb1 hls
  have x0 : w1.cell? ⟨w.heap.size, 0, none⟩ = some (.int .u8 9) := blk_cell hX1.out 0
  have x1 : w1.cell? ⟨w.heap.size, 1, none⟩ = some (.string nm) := blk_cell hX1.out 1
  have x2 : w1.cell? ⟨w.heap.size, 2, none⟩ = some (.int .u8 op) := blk_cell hX1.out 2
  have x3 : w1.cell? ⟨w.heap.size, 3, none⟩ = some (.string vl) := blk_cell hX1.out 3
  have x4 : w1.cell? ⟨w.heap.size, 4, none⟩ = some (.bool fo) := blk_cell hX1.out 4
  have x5 : w1.cell? ⟨w.heap.size, 5, none⟩ = some (.int .i64 a) := blk_cell hX1.out 5
  have x6 : w1.cell? ⟨w.heap.size, 6, none⟩ = some (.int .i64 b) := blk_cell hX1.out 6
  have x7 : w1.cell? ⟨w.heap.size, 7, none⟩ = some (.bool false) := blk_cell hX1.out 7
  have x8 : w1.cell? ⟨w.heap.size, 8, none⟩ = some (.slice LA ln lc) := blk_cell hX1.out 8
  clear y0 y1
  go_wp2_with ((go_at_call 113; refine (anbCheck_ok _ _ _).mono ?_; rintro e w5 ⟨rfl, hb5⟩))
  all_goals go_ret
  all_goals refine ⟨ret_bool (Eq.symm ?_), by first | exact hB1 | exact Below.on hB1 hb5⟩
  all_goals rw [simB_nth (by omega), ← hl'.out]
  all_goals clear x0 x1 x2 x3 x4 x5 x6 x7 x8 hX1 hl'
  all_goals (try clear hb5)
  all_goals clear hB1
  all_goals simp_all
omit hV hW in
set_option maxRecDepth 100000 in
set_option maxHeartbeats 2000000 in
theorem simT10n_ok (d : Nat) (h : Bool) (nm : ByteArray) (op : Int) (vl : ByteArray) (fo : Bool) (a b : Int) (LA : Option Addr) (ln lc : Nat) (l : List X) (w : World) (_ : d ≤ 3) (hl : ln = l.length) :
    Calls Tryz.prog 79 #[.agg #[.int .u8 10, .string nm, .int .u8 op, .string vl, .bool fo, .int .i64 a, .int .i64 b, .bool false, .slice LA ln lc], .agg #[.int .i64 d, .bool h]] w fun e w' => e = .returned (.bool (simB Wf d h ⟨10, nm, op, vl, fo, a, b, false, l⟩)) ∧ Below w.heap.size w w' := by
  have hl' := hide hl
  clear hl
  have hls := fun W => lists_ok 10 nm op vl fo a b false LA ln lc W
  have e1 : hasK 10 false = false := by decide
  have e2 : emptyK 10 = false := by decide
  simp only [e1, e2] at hls
  clear e1 e2
  have hX : ((w.alloc (.cells #[.int .u8 10, .string nm, .int .u8 op, .string vl, .bool fo, .int .i64 a, .int .i64 b, .bool false, .slice LA ln lc] 41)).alloc (.cells #[.int .i64 d, .bool h] 83)).heap[w.heap.size]? = some (.cells #[.int .u8 10, .string nm, .int .u8 op, .string vl, .bool fo, .int .i64 a, .int .i64 b, .bool false, .slice LA ln lc] 41 (0, 0)) := blk_alloc (blk_new _ _ _) _
  have hY : ((w.alloc (.cells #[.int .u8 10, .string nm, .int .u8 op, .string vl, .bool fo, .int .i64 a, .int .i64 b, .bool false, .slice LA ln lc] 41)).alloc (.cells #[.int .i64 d, .bool h] 83)).heap[w.heap.size + 1]? = some (.cells #[.int .i64 d, .bool h] 83 (0, 0)) := blk_at _ _ _ _ (by simp)
  have hB0 := below_alloc (below_alloc (Below.refl w.heap.size w) (.cells #[.int .u8 10, .string nm, .int .u8 op, .string vl, .bool fo, .int .i64 a, .int .i64 b, .bool false, .slice LA ln lc] 41)) (.cells #[.int .i64 d, .bool h] 83)
  go_enter Tryz.func79, Tryz.ntmps79
  go_wp2_with fail
  refine (hls _).mono ?_
  rintro e w1 ⟨rfl, hb1⟩
  have hX1 := hide ((hb1.block _ (blk_lt hX)).trans hX)
  have hY1 := (hb1.block _ (blk_lt hY)).trans hY
  have hB1 := Below.on hB0 hb1
  have y0 : w1.cell? ⟨w.heap.size + 1, 0, none⟩ = some (.int .i64 d) := blk_cell hY1 0
  have y1 : w1.cell? ⟨w.heap.size + 1, 1, none⟩ = some (.bool h) := blk_cell hY1 1
  clear hX hY hY1 hB0 hb1 hls
  have x0 : w1.cell? ⟨w.heap.size, 0, none⟩ = some (.int .u8 10) := blk_cell hX1.out 0
  have x1 : w1.cell? ⟨w.heap.size, 1, none⟩ = some (.string nm) := blk_cell hX1.out 1
  have x2 : w1.cell? ⟨w.heap.size, 2, none⟩ = some (.int .u8 op) := blk_cell hX1.out 2
  have x3 : w1.cell? ⟨w.heap.size, 3, none⟩ = some (.string vl) := blk_cell hX1.out 3
  have x4 : w1.cell? ⟨w.heap.size, 4, none⟩ = some (.bool fo) := blk_cell hX1.out 4
  have x5 : w1.cell? ⟨w.heap.size, 5, none⟩ = some (.int .i64 a) := blk_cell hX1.out 5
  have x6 : w1.cell? ⟨w.heap.size, 6, none⟩ = some (.int .i64 b) := blk_cell hX1.out 6
  have x7 : w1.cell? ⟨w.heap.size, 7, none⟩ = some (.bool false) := blk_cell hX1.out 7
  have x8 : w1.cell? ⟨w.heap.size, 8, none⟩ = some (.slice LA ln lc) := blk_cell hX1.out 8
  clear y0 y1
  go_wp2_with ((go_at_call 113; refine (anbCheck_ok _ _ _).mono ?_; rintro e w5 ⟨rfl, hb5⟩))
  all_goals go_ret
  all_goals refine ⟨ret_bool (Eq.symm ?_), by first | exact hB1 | exact Below.on hB1 hb5⟩
  all_goals rw [simB_nth (by omega), ← hl'.out]
  all_goals clear x0 x1 x2 x3 x4 x5 x6 x7 x8 hX1 hl'
  all_goals (try clear hb5)
  all_goals clear hB1
  all_goals simp_all
set_option maxRecDepth 100000 in
set_option maxHeartbeats 2000000 in
theorem simT11_ok (d : Nat) (h : Bool) (nm : ByteArray) (op : Int) (vl : ByteArray) (fo : Bool) (a b : Int) (f : Bool) (LA : Option Addr) (ln lc : Nat) (l : List X) (w : World) (hd : d ≤ 3) (hl : ln = l.length) (hrow0 : IsRow V w LA ln l) :
    Calls Tryz.prog 79 #[.agg #[.int .u8 11, .string nm, .int .u8 op, .string vl, .bool fo, .int .i64 a, .int .i64 b, .bool f, .slice LA ln lc], .agg #[.int .i64 d, .bool h]] w fun e w' => e = .returned (.bool (simB Wf d h ⟨11, nm, op, vl, fo, a, b, f, l⟩)) ∧ Below w.heap.size w w' := by
  have hl' := hide hl
  clear hl
  have hls := fun W => lists_ok 11 nm op vl fo a b f LA ln lc W
  have e1 : hasK 11 f = true := by cases f <;> decide
  have e2 : emptyK 11 = true := by decide
  simp only [e1, e2] at hls
  clear e1 e2
  have hrow := hide hrow0
  clear hrow0
  cases hpl : plB d h 11
  · have hr : Hid (simB Wf d h ⟨11, nm, op, vl, fo, a, b, f, l⟩ = false) := by
      show _ = _
      rw [simB_list (by omega) (by omega)]
      simp [listB, hpl]
    have hX : ((w.alloc (.cells #[.int .u8 11, .string nm, .int .u8 op, .string vl, .bool fo, .int .i64 a, .int .i64 b, .bool f, .slice LA ln lc] 41)).alloc (.cells #[.int .i64 d, .bool h] 83)).heap[w.heap.size]? = some (.cells #[.int .u8 11, .string nm, .int .u8 op, .string vl, .bool fo, .int .i64 a, .int .i64 b, .bool f, .slice LA ln lc] 41 (0, 0)) := blk_alloc (blk_new _ _ _) _
    have hY : ((w.alloc (.cells #[.int .u8 11, .string nm, .int .u8 op, .string vl, .bool fo, .int .i64 a, .int .i64 b, .bool f, .slice LA ln lc] 41)).alloc (.cells #[.int .i64 d, .bool h] 83)).heap[w.heap.size + 1]? = some (.cells #[.int .i64 d, .bool h] 83 (0, 0)) := blk_at _ _ _ _ (by simp)
    have hB0 := below_alloc (below_alloc (Below.refl w.heap.size w) (.cells #[.int .u8 11, .string nm, .int .u8 op, .string vl, .bool fo, .int .i64 a, .int .i64 b, .bool f, .slice LA ln lc] 41)) (.cells #[.int .i64 d, .bool h] 83)
    go_enter Tryz.func79, Tryz.ntmps79
    go_wp2_with fail
    refine (hls _).mono ?_
    rintro e w1 ⟨rfl, hb1⟩
    have hX1 := hide ((hb1.block _ (blk_lt hX)).trans hX)
    have hY1 := (hb1.block _ (blk_lt hY)).trans hY
    have hB1 := Below.on hB0 hb1
    have y0 : w1.cell? ⟨w.heap.size + 1, 0, none⟩ = some (.int .i64 d) := blk_cell hY1 0
    have y1 : w1.cell? ⟨w.heap.size + 1, 1, none⟩ = some (.bool h) := blk_cell hY1 1
    clear hX hY hY1 hB0 hb1 hls
    have x0 : w1.cell? ⟨w.heap.size, 0, none⟩ = some (.int .u8 11) := blk_cell hX1.out 0
    have x1 : w1.cell? ⟨w.heap.size, 1, none⟩ = some (.string nm) := blk_cell hX1.out 1
    have x2 : w1.cell? ⟨w.heap.size, 2, none⟩ = some (.int .u8 op) := blk_cell hX1.out 2
    have x3 : w1.cell? ⟨w.heap.size, 3, none⟩ = some (.string vl) := blk_cell hX1.out 3
    have x4 : w1.cell? ⟨w.heap.size, 4, none⟩ = some (.bool fo) := blk_cell hX1.out 4
    have x5 : w1.cell? ⟨w.heap.size, 5, none⟩ = some (.int .i64 a) := blk_cell hX1.out 5
    have x6 : w1.cell? ⟨w.heap.size, 6, none⟩ = some (.int .i64 b) := blk_cell hX1.out 6
    have x7 : w1.cell? ⟨w.heap.size, 7, none⟩ = some (.bool f) := blk_cell hX1.out 7
    have x8 : w1.cell? ⟨w.heap.size, 8, none⟩ = some (.slice LA ln lc) := blk_cell hX1.out 8
    go_wp2_with fail
    refine (placeIn_ok d h 11 hd _).mono ?_
    rintro e w2 ⟨d', h', rfl, hdh, hb2⟩
    rw [hpl]
    clear hdh hpl x0 x1 x2 x3 x4 x5 x6 x7 x8 y0 y1
    go_wp2
    go_ret
    exact ⟨ret_bool hr.out.symm, Below.on hB1 (below_alloc hb2 _)⟩
  · have hd3 : d ≤ 2 := by
      have : ¬ d = 3 := fun e => by rw [e] at hpl; simp [plB] at hpl
      omega
    have hX : ((w.alloc (.cells #[.int .u8 11, .string nm, .int .u8 op, .string vl, .bool fo, .int .i64 a, .int .i64 b, .bool f, .slice LA ln lc] 41)).alloc (.cells #[.int .i64 d, .bool h] 83)).heap[w.heap.size]? = some (.cells #[.int .u8 11, .string nm, .int .u8 op, .string vl, .bool fo, .int .i64 a, .int .i64 b, .bool f, .slice LA ln lc] 41 (0, 0)) := blk_alloc (blk_new _ _ _) _
    have hY : ((w.alloc (.cells #[.int .u8 11, .string nm, .int .u8 op, .string vl, .bool fo, .int .i64 a, .int .i64 b, .bool f, .slice LA ln lc] 41)).alloc (.cells #[.int .i64 d, .bool h] 83)).heap[w.heap.size + 1]? = some (.cells #[.int .i64 d, .bool h] 83 (0, 0)) := blk_at _ _ _ _ (by simp)
    have hB0 := below_alloc (below_alloc (Below.refl w.heap.size w) (.cells #[.int .u8 11, .string nm, .int .u8 op, .string vl, .bool fo, .int .i64 a, .int .i64 b, .bool f, .slice LA ln lc] 41)) (.cells #[.int .i64 d, .bool h] 83)
    go_enter Tryz.func79, Tryz.ntmps79
    go_wp2_with fail
    refine (hls _).mono ?_
    rintro e w1 ⟨rfl, hb1⟩
    have hX1 := hide ((hb1.block _ (blk_lt hX)).trans hX)
    have hY1 := (hb1.block _ (blk_lt hY)).trans hY
    have hB1 := Below.on hB0 hb1
    have y0 : w1.cell? ⟨w.heap.size + 1, 0, none⟩ = some (.int .i64 d) := blk_cell hY1 0
    have y1 : w1.cell? ⟨w.heap.size + 1, 1, none⟩ = some (.bool h) := blk_cell hY1 1
    clear hX hY hY1 hB0 hb1 hls
    have x0 : w1.cell? ⟨w.heap.size, 0, none⟩ = some (.int .u8 11) := blk_cell hX1.out 0
    have x1 : w1.cell? ⟨w.heap.size, 1, none⟩ = some (.string nm) := blk_cell hX1.out 1
    have x2 : w1.cell? ⟨w.heap.size, 2, none⟩ = some (.int .u8 op) := blk_cell hX1.out 2
    have x3 : w1.cell? ⟨w.heap.size, 3, none⟩ = some (.string vl) := blk_cell hX1.out 3
    have x4 : w1.cell? ⟨w.heap.size, 4, none⟩ = some (.bool fo) := blk_cell hX1.out 4
    have x5 : w1.cell? ⟨w.heap.size, 5, none⟩ = some (.int .i64 a) := blk_cell hX1.out 5
    have x6 : w1.cell? ⟨w.heap.size, 6, none⟩ = some (.int .i64 b) := blk_cell hX1.out 6
    have x7 : w1.cell? ⟨w.heap.size, 7, none⟩ = some (.bool f) := blk_cell hX1.out 7
    have x8 : w1.cell? ⟨w.heap.size, 8, none⟩ = some (.slice LA ln lc) := blk_cell hX1.out 8
    go_wp2_with fail
    refine (placeIn_ok d h 11 hd _).mono ?_
    rintro e w2 ⟨d', h', rfl, hdh, hb2⟩
    rw [hpl]
    have hdd := hide (hdh hpl)
    have hpl' := hide hpl
    have hd4 : d' ≤ 3 := by have := hdd.out.1; omega
    have hX2 := (hb2.block _ (blk_lt hX1.out)).trans hX1.out
    have hX3 := hide (blk_alloc hX2 (.cells #[.int .i64 (d' : Int), .bool h'] 83))
    have hq0 : (w2.alloc (.cells #[.int .i64 (d' : Int), .bool h'] 83)).cell? ⟨w2.heap.size, 0, none⟩ = some (.int .i64 (d' : Int)) := blk_cell (blk_new _ _ _) 0
    have hq1 : (w2.alloc (.cells #[.int .i64 (d' : Int), .bool h'] 83)).cell? ⟨w2.heap.size, 1, none⟩ = some (.bool h') := blk_cell (blk_new _ _ _) 1
    have hB3 := below_alloc (Below.on hB1 hb2) (.cells #[.int .i64 (d' : Int), .bool h'] 83)
    have g8 : w2.cell? ⟨w.heap.size, 8, none⟩ = some (.slice LA ln lc) := blk_cell hX2 8
    have gl : w.heap.size < w2.heap.size := cell_in g8
    have hk0 : (w2.alloc (.cells #[.int .i64 (d' : Int), .bool h'] 83)).cell? ⟨w.heap.size, 0, none⟩ = some (.int .u8 11) := blk_cell hX3.out 0
    have hany := hide (simple1_any hV LA ln lc l (fun c => !Wf d' h' (decide ((11 : Int) = 14)) c) w2.heap.size w.heap.size _ (hrow.out.below hV hB3) (fun W2 ld PA pn pc KA kn kc x hb hx => simple1_ok hV hW d' h' 11 ld PA pn pc KA kn kc x w2.heap.size w.heap.size W2 hd4 hx (cell_later hb hq0) (cell_later hb hq1) (cell_later hb hk0)))
    clear hpl hdh hX2 hb2 hB1 hX1 x0 x1 x2 x3 x4 x5 x6 x7 x8 y0 y1 hq0 hq1 hk0
    cases hal : l.any (fun c => !Wf d' h' (decide ((11 : Int) = 14)) c)
    · have hlB : listB Wf d h 11 l = true := by
        unfold listB
        rw [hpl'.out, Bool.true_and, ← hdd.out.1, ← hdd.out.2, List.all_eq_true]
        intro x hx
        have := List.any_eq_false.1 hal x hx
        simpa using this
      rw [hal] at hany
      clear hal
      go_wp2_with fail
      refine hany.out.mono ?_
      rintro e w4 ⟨rfl, hb4⟩
      have hX4 := hide ((hb4.block _ (blk_lt hX3.out)).trans hX3.out)
      have hB4 := Below.on hB3 hb4
      clear hb4 hX3 hB3 hany g8 gl hrow
      have x0 : w4.cell? ⟨w.heap.size, 0, none⟩ = some (.int .u8 11) := blk_cell hX4.out 0
      have x1 : w4.cell? ⟨w.heap.size, 1, none⟩ = some (.string nm) := blk_cell hX4.out 1
      have x2 : w4.cell? ⟨w.heap.size, 2, none⟩ = some (.int .u8 op) := blk_cell hX4.out 2
      have x3 : w4.cell? ⟨w.heap.size, 3, none⟩ = some (.string vl) := blk_cell hX4.out 3
      have x4 : w4.cell? ⟨w.heap.size, 4, none⟩ = some (.bool fo) := blk_cell hX4.out 4
      have x5 : w4.cell? ⟨w.heap.size, 5, none⟩ = some (.int .i64 a) := blk_cell hX4.out 5
      have x6 : w4.cell? ⟨w.heap.size, 6, none⟩ = some (.int .i64 b) := blk_cell hX4.out 6
      have x7 : w4.cell? ⟨w.heap.size, 7, none⟩ = some (.bool f) := blk_cell hX4.out 7
      have x8 : w4.cell? ⟨w.heap.size, 8, none⟩ = some (.slice LA ln lc) := blk_cell hX4.out 8
      go_wp2
      all_goals go_ret
      all_goals refine ⟨ret_bool (Eq.symm ?_), hB4⟩
      all_goals rw [simB_list (by omega) (by omega), ← hl'.out, hlB]
      all_goals clear x0 x1 x2 x3 x4 x5 x6 x7 x8 hX4 hl'
      all_goals clear hV hW hlB
      all_goals clear hB4
      all_goals (first | (simp_all; done) | (simp_all; omega))
    · have hr : Hid (simB Wf d h ⟨11, nm, op, vl, fo, a, b, f, l⟩ = false) := by
        show _ = _
        have hlB : listB Wf d h 11 l = false := by
          unfold listB
          rw [← hdd.out.1, ← hdd.out.2]
          obtain ⟨x, hx, hp⟩ := List.any_eq_true.1 hal
          rw [Bool.and_eq_false_iff]
          refine .inr (Bool.eq_false_iff.2 fun e => ?_)
          rw [List.all_eq_true.1 e x hx] at hp
          cases hp
        rw [simB_list (by omega) (by omega), hlB]
        simp
      rw [hal] at hany
      clear hal
      go_wp2_with fail
      refine hany.out.mono ?_
      rintro e w4 ⟨rfl, hb4⟩
      clear hany g8 gl
      go_wp2
      go_ret
      exact ⟨ret_bool hr.out.symm, Below.on hB3 hb4⟩

set_option maxRecDepth 100000 in
set_option maxHeartbeats 2000000 in
theorem simT12_ok (d : Nat) (h : Bool) (nm : ByteArray) (op : Int) (vl : ByteArray) (fo : Bool) (a b : Int) (f : Bool) (LA : Option Addr) (ln lc : Nat) (l : List X) (w : World) (hd : d ≤ 3) (hl : ln = l.length) (hrow0 : IsRow V w LA ln l) :
    Calls Tryz.prog 79 #[.agg #[.int .u8 12, .string nm, .int .u8 op, .string vl, .bool fo, .int .i64 a, .int .i64 b, .bool f, .slice LA ln lc], .agg #[.int .i64 d, .bool h]] w fun e w' => e = .returned (.bool (simB Wf d h ⟨12, nm, op, vl, fo, a, b, f, l⟩)) ∧ Below w.heap.size w w' := by
  have hl' := hide hl
  clear hl
  have hls := fun W => lists_ok 12 nm op vl fo a b f LA ln lc W
  have e1 : hasK 12 f = true := by cases f <;> decide
  have e2 : emptyK 12 = true := by decide
  simp only [e1, e2] at hls
  clear e1 e2
  have hrow := hide hrow0
  clear hrow0
  cases hpl : plB d h 12
  · have hr : Hid (simB Wf d h ⟨12, nm, op, vl, fo, a, b, f, l⟩ = false) := by
      show _ = _
      rw [simB_list (by omega) (by omega)]
      simp [listB, hpl]
    have hX : ((w.alloc (.cells #[.int .u8 12, .string nm, .int .u8 op, .string vl, .bool fo, .int .i64 a, .int .i64 b, .bool f, .slice LA ln lc] 41)).alloc (.cells #[.int .i64 d, .bool h] 83)).heap[w.heap.size]? = some (.cells #[.int .u8 12, .string nm, .int .u8 op, .string vl, .bool fo, .int .i64 a, .int .i64 b, .bool f, .slice LA ln lc] 41 (0, 0)) := blk_alloc (blk_new _ _ _) _
    have hY : ((w.alloc (.cells #[.int .u8 12, .string nm, .int .u8 op, .string vl, .bool fo, .int .i64 a, .int .i64 b, .bool f, .slice LA ln lc] 41)).alloc (.cells #[.int .i64 d, .bool h] 83)).heap[w.heap.size + 1]? = some (.cells #[.int .i64 d, .bool h] 83 (0, 0)) := blk_at _ _ _ _ (by simp)
    have hB0 := below_alloc (below_alloc (Below.refl w.heap.size w) (.cells #[.int .u8 12, .string nm, .int .u8 op, .string vl, .bool fo, .int .i64 a, .int .i64 b, .bool f, .slice LA ln lc] 41)) (.cells #[.int .i64 d, .bool h] 83)
    go_enter Tryz.func79, Tryz.ntmps79
    go_wp2_with fail
    refine (hls _).mono ?_
    rintro e w1 ⟨rfl, hb1⟩
    have hX1 := hide ((hb1.block _ (blk_lt hX)).trans hX)
    have hY1 := (hb1.block _ (blk_lt hY)).trans hY
    have hB1 := Below.on hB0 hb1
    have y0 : w1.cell? ⟨w.heap.size + 1, 0, none⟩ = some (.int .i64 d) := blk_cell hY1 0
    have y1 : w1.cell? ⟨w.heap.size + 1, 1, none⟩ = some (.bool h) := blk_cell hY1 1
    clear hX hY hY1 hB0 hb1 hls
    have x0 : w1.cell? ⟨w.heap.size, 0, none⟩ = some (.int .u8 12) := blk_cell hX1.out 0
    have x1 : w1.cell? ⟨w.heap.size, 1, none⟩ = some (.string nm) := blk_cell hX1.out 1
    have x2 : w1.cell? ⟨w.heap.size, 2, none⟩ = some (.int .u8 op) := blk_cell hX1.out 2
    have x3 : w1.cell? ⟨w.heap.size, 3, none⟩ = some (.string vl) := blk_cell hX1.out 3
    have x4 : w1.cell? ⟨w.heap.size, 4, none⟩ = some (.bool fo) := blk_cell hX1.out 4
    have x5 : w1.cell? ⟨w.heap.size, 5, none⟩ = some (.int .i64 a) := blk_cell hX1.out 5
    have x6 : w1.cell? ⟨w.heap.size, 6, none⟩ = some (.int .i64 b) := blk_cell hX1.out 6
    have x7 : w1.cell? ⟨w.heap.size, 7, none⟩ = some (.bool f) := blk_cell hX1.out 7
    have x8 : w1.cell? ⟨w.heap.size, 8, none⟩ = some (.slice LA ln lc) := blk_cell hX1.out 8
    go_wp2_with fail
    refine (placeIn_ok d h 12 hd _).mono ?_
    rintro e w2 ⟨d', h', rfl, hdh, hb2⟩
    rw [hpl]
    clear hdh hpl x0 x1 x2 x3 x4 x5 x6 x7 x8 y0 y1
    go_wp2
    go_ret
    exact ⟨ret_bool hr.out.symm, Below.on hB1 (below_alloc hb2 _)⟩
  · have hd3 : d ≤ 2 := by
      have : ¬ d = 3 := fun e => by rw [e] at hpl; simp [plB] at hpl
      omega
    have hX : ((w.alloc (.cells #[.int .u8 12, .string nm, .int .u8 op, .string vl, .bool fo, .int .i64 a, .int .i64 b, .bool f, .slice LA ln lc] 41)).alloc (.cells #[.int .i64 d, .bool h] 83)).heap[w.heap.size]? = some (.cells #[.int .u8 12, .string nm, .int .u8 op, .string vl, .bool fo, .int .i64 a, .int .i64 b, .bool f, .slice LA ln lc] 41 (0, 0)) := blk_alloc (blk_new _ _ _) _
    have hY : ((w.alloc (.cells #[.int .u8 12, .string nm, .int .u8 op, .string vl, .bool fo, .int .i64 a, .int .i64 b, .bool f, .slice LA ln lc] 41)).alloc (.cells #[.int .i64 d, .bool h] 83)).heap[w.heap.size + 1]? = some (.cells #[.int .i64 d, .bool h] 83 (0, 0)) := blk_at _ _ _ _ (by simp)
    have hB0 := below_alloc (below_alloc (Below.refl w.heap.size w) (.cells #[.int .u8 12, .string nm, .int .u8 op, .string vl, .bool fo, .int .i64 a, .int .i64 b, .bool f, .slice LA ln lc] 41)) (.cells #[.int .i64 d, .bool h] 83)
    go_enter Tryz.func79, Tryz.ntmps79
    go_wp2_with fail
    refine (hls _).mono ?_
    rintro e w1 ⟨rfl, hb1⟩
    have hX1 := hide ((hb1.block _ (blk_lt hX)).trans hX)
    have hY1 := (hb1.block _ (blk_lt hY)).trans hY
    have hB1 := Below.on hB0 hb1
    have y0 : w1.cell? ⟨w.heap.size + 1, 0, none⟩ = some (.int .i64 d) := blk_cell hY1 0
    have y1 : w1.cell? ⟨w.heap.size + 1, 1, none⟩ = some (.bool h) := blk_cell hY1 1
    clear hX hY hY1 hB0 hb1 hls
    have x0 : w1.cell? ⟨w.heap.size, 0, none⟩ = some (.int .u8 12) := blk_cell hX1.out 0
    have x1 : w1.cell? ⟨w.heap.size, 1, none⟩ = some (.string nm) := blk_cell hX1.out 1
    have x2 : w1.cell? ⟨w.heap.size, 2, none⟩ = some (.int .u8 op) := blk_cell hX1.out 2
    have x3 : w1.cell? ⟨w.heap.size, 3, none⟩ = some (.string vl) := blk_cell hX1.out 3
    have x4 : w1.cell? ⟨w.heap.size, 4, none⟩ = some (.bool fo) := blk_cell hX1.out 4
    have x5 : w1.cell? ⟨w.heap.size, 5, none⟩ = some (.int .i64 a) := blk_cell hX1.out 5
    have x6 : w1.cell? ⟨w.heap.size, 6, none⟩ = some (.int .i64 b) := blk_cell hX1.out 6
    have x7 : w1.cell? ⟨w.heap.size, 7, none⟩ = some (.bool f) := blk_cell hX1.out 7
    have x8 : w1.cell? ⟨w.heap.size, 8, none⟩ = some (.slice LA ln lc) := blk_cell hX1.out 8
    go_wp2_with fail
    refine (placeIn_ok d h 12 hd _).mono ?_
    rintro e w2 ⟨d', h', rfl, hdh, hb2⟩
    rw [hpl]
    have hdd := hide (hdh hpl)
    have hpl' := hide hpl
    have hd4 : d' ≤ 3 := by have := hdd.out.1; omega
    have hX2 := (hb2.block _ (blk_lt hX1.out)).trans hX1.out
    have hX3 := hide (blk_alloc hX2 (.cells #[.int .i64 (d' : Int), .bool h'] 83))
    have hq0 : (w2.alloc (.cells #[.int .i64 (d' : Int), .bool h'] 83)).cell? ⟨w2.heap.size, 0, none⟩ = some (.int .i64 (d' : Int)) := blk_cell (blk_new _ _ _) 0
    have hq1 : (w2.alloc (.cells #[.int .i64 (d' : Int), .bool h'] 83)).cell? ⟨w2.heap.size, 1, none⟩ = some (.bool h') := blk_cell (blk_new _ _ _) 1
    have hB3 := below_alloc (Below.on hB1 hb2) (.cells #[.int .i64 (d' : Int), .bool h'] 83)
    have g8 : w2.cell? ⟨w.heap.size, 8, none⟩ = some (.slice LA ln lc) := blk_cell hX2 8
    have gl : w.heap.size < w2.heap.size := cell_in g8
    have hk0 : (w2.alloc (.cells #[.int .i64 (d' : Int), .bool h'] 83)).cell? ⟨w.heap.size, 0, none⟩ = some (.int .u8 12) := blk_cell hX3.out 0
    have hany := hide (simple1_any hV LA ln lc l (fun c => !Wf d' h' (decide ((12 : Int) = 14)) c) w2.heap.size w.heap.size _ (hrow.out.below hV hB3) (fun W2 ld PA pn pc KA kn kc x hb hx => simple1_ok hV hW d' h' 12 ld PA pn pc KA kn kc x w2.heap.size w.heap.size W2 hd4 hx (cell_later hb hq0) (cell_later hb hq1) (cell_later hb hk0)))
    clear hpl hdh hX2 hb2 hB1 hX1 x0 x1 x2 x3 x4 x5 x6 x7 x8 y0 y1 hq0 hq1 hk0
    cases hal : l.any (fun c => !Wf d' h' (decide ((12 : Int) = 14)) c)
    · have hlB : listB Wf d h 12 l = true := by
        unfold listB
        rw [hpl'.out, Bool.true_and, ← hdd.out.1, ← hdd.out.2, List.all_eq_true]
        intro x hx
        have := List.any_eq_false.1 hal x hx
        simpa using this
      rw [hal] at hany
      clear hal
      go_wp2_with fail
      refine hany.out.mono ?_
      rintro e w4 ⟨rfl, hb4⟩
      have hX4 := hide ((hb4.block _ (blk_lt hX3.out)).trans hX3.out)
      have hB4 := Below.on hB3 hb4
      clear hb4 hX3 hB3 hany g8 gl hrow
      have x0 : w4.cell? ⟨w.heap.size, 0, none⟩ = some (.int .u8 12) := blk_cell hX4.out 0
      have x1 : w4.cell? ⟨w.heap.size, 1, none⟩ = some (.string nm) := blk_cell hX4.out 1
      have x2 : w4.cell? ⟨w.heap.size, 2, none⟩ = some (.int .u8 op) := blk_cell hX4.out 2
      have x3 : w4.cell? ⟨w.heap.size, 3, none⟩ = some (.string vl) := blk_cell hX4.out 3
      have x4 : w4.cell? ⟨w.heap.size, 4, none⟩ = some (.bool fo) := blk_cell hX4.out 4
      have x5 : w4.cell? ⟨w.heap.size, 5, none⟩ = some (.int .i64 a) := blk_cell hX4.out 5
      have x6 : w4.cell? ⟨w.heap.size, 6, none⟩ = some (.int .i64 b) := blk_cell hX4.out 6
      have x7 : w4.cell? ⟨w.heap.size, 7, none⟩ = some (.bool f) := blk_cell hX4.out 7
      have x8 : w4.cell? ⟨w.heap.size, 8, none⟩ = some (.slice LA ln lc) := blk_cell hX4.out 8
      go_wp2
      all_goals go_ret
      all_goals refine ⟨ret_bool (Eq.symm ?_), hB4⟩
      all_goals rw [simB_list (by omega) (by omega), ← hl'.out, hlB]
      all_goals clear x0 x1 x2 x3 x4 x5 x6 x7 x8 hX4 hl'
      all_goals clear hV hW hlB
      all_goals clear hB4
      all_goals (first | (simp_all; done) | (simp_all; omega))
    · have hr : Hid (simB Wf d h ⟨12, nm, op, vl, fo, a, b, f, l⟩ = false) := by
        show _ = _
        have hlB : listB Wf d h 12 l = false := by
          unfold listB
          rw [← hdd.out.1, ← hdd.out.2]
          obtain ⟨x, hx, hp⟩ := List.any_eq_true.1 hal
          rw [Bool.and_eq_false_iff]
          refine .inr (Bool.eq_false_iff.2 fun e => ?_)
          rw [List.all_eq_true.1 e x hx] at hp
          cases hp
        rw [simB_list (by omega) (by omega), hlB]
        simp
      rw [hal] at hany
      clear hal
      go_wp2_with fail
      refine hany.out.mono ?_
      rintro e w4 ⟨rfl, hb4⟩
      clear hany g8 gl
      go_wp2
      go_ret
      exact ⟨ret_bool hr.out.symm, Below.on hB3 hb4⟩

set_option maxRecDepth 100000 in
set_option maxHeartbeats 2000000 in
theorem simT13_ok (d : Nat) (h : Bool) (nm : ByteArray) (op : Int) (vl : ByteArray) (fo : Bool) (a b : Int) (f : Bool) (LA : Option Addr) (ln lc : Nat) (l : List X) (w : World) (hd : d ≤ 3) (hl : ln = l.length) (hrow0 : IsRow V w LA ln l) :
    Calls Tryz.prog 79 #[.agg #[.int .u8 13, .string nm, .int .u8 op, .string vl, .bool fo, .int .i64 a, .int .i64 b, .bool f, .slice LA ln lc], .agg #[.int .i64 d, .bool h]] w fun e w' => e = .returned (.bool (simB Wf d h ⟨13, nm, op, vl, fo, a, b, f, l⟩)) ∧ Below w.heap.size w w' := by
  have hl' := hide hl
  clear hl
  have hls := fun W => lists_ok 13 nm op vl fo a b f LA ln lc W
  have e1 : hasK 13 f = true := by cases f <;> decide
  have e2 : emptyK 13 = false := by decide
  simp only [e1, e2] at hls
  clear e1 e2
  have hrow := hide hrow0
  clear hrow0
  cases hpl : plB d h 13
  · have hr : Hid (simB Wf d h ⟨13, nm, op, vl, fo, a, b, f, l⟩ = false) := by
      show _ = _
      rw [simB_list (by omega) (by omega)]
      simp [listB, hpl]
    have hX : ((w.alloc (.cells #[.int .u8 13, .string nm, .int .u8 op, .string vl, .bool fo, .int .i64 a, .int .i64 b, .bool f, .slice LA ln lc] 41)).alloc (.cells #[.int .i64 d, .bool h] 83)).heap[w.heap.size]? = some (.cells #[.int .u8 13, .string nm, .int .u8 op, .string vl, .bool fo, .int .i64 a, .int .i64 b, .bool f, .slice LA ln lc] 41 (0, 0)) := blk_alloc (blk_new _ _ _) _
    have hY : ((w.alloc (.cells #[.int .u8 13, .string nm, .int .u8 op, .string vl, .bool fo, .int .i64 a, .int .i64 b, .bool f, .slice LA ln lc] 41)).alloc (.cells #[.int .i64 d, .bool h] 83)).heap[w.heap.size + 1]? = some (.cells #[.int .i64 d, .bool h] 83 (0, 0)) := blk_at _ _ _ _ (by simp)
    have hB0 := below_alloc (below_alloc (Below.refl w.heap.size w) (.cells #[.int .u8 13, .string nm, .int .u8 op, .string vl, .bool fo, .int .i64 a, .int .i64 b, .bool f, .slice LA ln lc] 41)) (.cells #[.int .i64 d, .bool h] 83)
    go_enter Tryz.func79, Tryz.ntmps79
    go_wp2_with fail
    refine (hls _).mono ?_
    rintro e w1 ⟨rfl, hb1⟩
    have hX1 := hide ((hb1.block _ (blk_lt hX)).trans hX)
    have hY1 := (hb1.block _ (blk_lt hY)).trans hY
    have hB1 := Below.on hB0 hb1
    have y0 : w1.cell? ⟨w.heap.size + 1, 0, none⟩ = some (.int .i64 d) := blk_cell hY1 0
    have y1 : w1.cell? ⟨w.heap.size + 1, 1, none⟩ = some (.bool h) := blk_cell hY1 1
    clear hX hY hY1 hB0 hb1 hls
    have x0 : w1.cell? ⟨w.heap.size, 0, none⟩ = some (.int .u8 13) := blk_cell hX1.out 0
    have x1 : w1.cell? ⟨w.heap.size, 1, none⟩ = some (.string nm) := blk_cell hX1.out 1
    have x2 : w1.cell? ⟨w.heap.size, 2, none⟩ = some (.int .u8 op) := blk_cell hX1.out 2
    have x3 : w1.cell? ⟨w.heap.size, 3, none⟩ = some (.string vl) := blk_cell hX1.out 3
    have x4 : w1.cell? ⟨w.heap.size, 4, none⟩ = some (.bool fo) := blk_cell hX1.out 4
    have x5 : w1.cell? ⟨w.heap.size, 5, none⟩ = some (.int .i64 a) := blk_cell hX1.out 5
    have x6 : w1.cell? ⟨w.heap.size, 6, none⟩ = some (.int .i64 b) := blk_cell hX1.out 6
    have x7 : w1.cell? ⟨w.heap.size, 7, none⟩ = some (.bool f) := blk_cell hX1.out 7
    have x8 : w1.cell? ⟨w.heap.size, 8, none⟩ = some (.slice LA ln lc) := blk_cell hX1.out 8
    go_wp2_with fail
    refine (placeIn_ok d h 13 hd _).mono ?_
    rintro e w2 ⟨d', h', rfl, hdh, hb2⟩
    rw [hpl]
    clear hdh hpl x0 x1 x2 x3 x4 x5 x6 x7 x8 y0 y1
    go_wp2
    go_ret
    exact ⟨ret_bool hr.out.symm, Below.on hB1 (below_alloc hb2 _)⟩
  · have hd3 : d ≤ 2 := by
      have : ¬ d = 3 := fun e => by rw [e] at hpl; simp [plB] at hpl
      omega
    have hX : ((w.alloc (.cells #[.int .u8 13, .string nm, .int .u8 op, .string vl, .bool fo, .int .i64 a, .int .i64 b, .bool f, .slice LA ln lc] 41)).alloc (.cells #[.int .i64 d, .bool h] 83)).heap[w.heap.size]? = some (.cells #[.int .u8 13, .string nm, .int .u8 op, .string vl, .bool fo, .int .i64 a, .int .i64 b, .bool f, .slice LA ln lc] 41 (0, 0)) := blk_alloc (blk_new _ _ _) _
    have hY : ((w.alloc (.cells #[.int .u8 13, .string nm, .int .u8 op, .string vl, .bool fo, .int .i64 a, .int .i64 b, .bool f, .slice LA ln lc] 41)).alloc (.cells #[.int .i64 d, .bool h] 83)).heap[w.heap.size + 1]? = some (.cells #[.int .i64 d, .bool h] 83 (0, 0)) := blk_at _ _ _ _ (by simp)
    have hB0 := below_alloc (below_alloc (Below.refl w.heap.size w) (.cells #[.int .u8 13, .string nm, .int .u8 op, .string vl, .bool fo, .int .i64 a, .int .i64 b, .bool f, .slice LA ln lc] 41)) (.cells #[.int .i64 d, .bool h] 83)
    go_enter Tryz.func79, Tryz.ntmps79
    go_wp2_with fail
    refine (hls _).mono ?_
    rintro e w1 ⟨rfl, hb1⟩
    have hX1 := hide ((hb1.block _ (blk_lt hX)).trans hX)
    have hY1 := (hb1.block _ (blk_lt hY)).trans hY
    have hB1 := Below.on hB0 hb1
    have y0 : w1.cell? ⟨w.heap.size + 1, 0, none⟩ = some (.int .i64 d) := blk_cell hY1 0
    have y1 : w1.cell? ⟨w.heap.size + 1, 1, none⟩ = some (.bool h) := blk_cell hY1 1
    clear hX hY hY1 hB0 hb1 hls
    have x0 : w1.cell? ⟨w.heap.size, 0, none⟩ = some (.int .u8 13) := blk_cell hX1.out 0
    have x1 : w1.cell? ⟨w.heap.size, 1, none⟩ = some (.string nm) := blk_cell hX1.out 1
    have x2 : w1.cell? ⟨w.heap.size, 2, none⟩ = some (.int .u8 op) := blk_cell hX1.out 2
    have x3 : w1.cell? ⟨w.heap.size, 3, none⟩ = some (.string vl) := blk_cell hX1.out 3
    have x4 : w1.cell? ⟨w.heap.size, 4, none⟩ = some (.bool fo) := blk_cell hX1.out 4
    have x5 : w1.cell? ⟨w.heap.size, 5, none⟩ = some (.int .i64 a) := blk_cell hX1.out 5
    have x6 : w1.cell? ⟨w.heap.size, 6, none⟩ = some (.int .i64 b) := blk_cell hX1.out 6
    have x7 : w1.cell? ⟨w.heap.size, 7, none⟩ = some (.bool f) := blk_cell hX1.out 7
    have x8 : w1.cell? ⟨w.heap.size, 8, none⟩ = some (.slice LA ln lc) := blk_cell hX1.out 8
    go_wp2_with fail
    refine (placeIn_ok d h 13 hd _).mono ?_
    rintro e w2 ⟨d', h', rfl, hdh, hb2⟩
    rw [hpl]
    have hdd := hide (hdh hpl)
    have hpl' := hide hpl
    have hd4 : d' ≤ 3 := by have := hdd.out.1; omega
    have hX2 := (hb2.block _ (blk_lt hX1.out)).trans hX1.out
    have hX3 := hide (blk_alloc hX2 (.cells #[.int .i64 (d' : Int), .bool h'] 83))
    have hq0 : (w2.alloc (.cells #[.int .i64 (d' : Int), .bool h'] 83)).cell? ⟨w2.heap.size, 0, none⟩ = some (.int .i64 (d' : Int)) := blk_cell (blk_new _ _ _) 0
    have hq1 : (w2.alloc (.cells #[.int .i64 (d' : Int), .bool h'] 83)).cell? ⟨w2.heap.size, 1, none⟩ = some (.bool h') := blk_cell (blk_new _ _ _) 1
    have hB3 := below_alloc (Below.on hB1 hb2) (.cells #[.int .i64 (d' : Int), .bool h'] 83)
    have g8 : w2.cell? ⟨w.heap.size, 8, none⟩ = some (.slice LA ln lc) := blk_cell hX2 8
    have gl : w.heap.size < w2.heap.size := cell_in g8
    have hk0 : (w2.alloc (.cells #[.int .i64 (d' : Int), .bool h'] 83)).cell? ⟨w.heap.size, 0, none⟩ = some (.int .u8 13) := blk_cell hX3.out 0
    have hany := hide (simple1_any hV LA ln lc l (fun c => !Wf d' h' (decide ((13 : Int) = 14)) c) w2.heap.size w.heap.size _ (hrow.out.below hV hB3) (fun W2 ld PA pn pc KA kn kc x hb hx => simple1_ok hV hW d' h' 13 ld PA pn pc KA kn kc x w2.heap.size w.heap.size W2 hd4 hx (cell_later hb hq0) (cell_later hb hq1) (cell_later hb hk0)))
    clear hpl hdh hX2 hb2 hB1 hX1 x0 x1 x2 x3 x4 x5 x6 x7 x8 y0 y1 hq0 hq1 hk0
    by_cases hz : ln = 0
    · have hr : Hid (simB Wf d h ⟨13, nm, op, vl, fo, a, b, f, l⟩ = false) := by
        show _ = _
        rw [simB_list (by omega) (by omega), ← hl'.out, hz]
        simp
      clear hany
      go_wp2
      go_ret
      exact ⟨ret_bool hr.out.symm, hB3⟩
    · have hz' := hide hz
      cases hal : l.any (fun c => !Wf d' h' (decide ((13 : Int) = 14)) c)
      · have hlB : listB Wf d h 13 l = true := by
          unfold listB
          rw [hpl'.out, Bool.true_and, ← hdd.out.1, ← hdd.out.2, List.all_eq_true]
          intro x hx
          have := List.any_eq_false.1 hal x hx
          simpa using this
        rw [hal] at hany
        clear hal
        go_wp2_with fail
        refine hany.out.mono ?_
        rintro e w4 ⟨rfl, hb4⟩
        have hX4 := hide ((hb4.block _ (blk_lt hX3.out)).trans hX3.out)
        have hB4 := Below.on hB3 hb4
        clear hb4 hX3 hB3 hany g8 gl hrow
        have x0 : w4.cell? ⟨w.heap.size, 0, none⟩ = some (.int .u8 13) := blk_cell hX4.out 0
        have x1 : w4.cell? ⟨w.heap.size, 1, none⟩ = some (.string nm) := blk_cell hX4.out 1
        have x2 : w4.cell? ⟨w.heap.size, 2, none⟩ = some (.int .u8 op) := blk_cell hX4.out 2
        have x3 : w4.cell? ⟨w.heap.size, 3, none⟩ = some (.string vl) := blk_cell hX4.out 3
        have x4 : w4.cell? ⟨w.heap.size, 4, none⟩ = some (.bool fo) := blk_cell hX4.out 4
        have x5 : w4.cell? ⟨w.heap.size, 5, none⟩ = some (.int .i64 a) := blk_cell hX4.out 5
        have x6 : w4.cell? ⟨w.heap.size, 6, none⟩ = some (.int .i64 b) := blk_cell hX4.out 6
        have x7 : w4.cell? ⟨w.heap.size, 7, none⟩ = some (.bool f) := blk_cell hX4.out 7
        have x8 : w4.cell? ⟨w.heap.size, 8, none⟩ = some (.slice LA ln lc) := blk_cell hX4.out 8
        go_wp2
        all_goals go_ret
        all_goals refine ⟨ret_bool (Eq.symm ?_), hB4⟩
        all_goals rw [simB_list (by omega) (by omega), ← hl'.out, hlB]
        all_goals clear x0 x1 x2 x3 x4 x5 x6 x7 x8 hX4 hl'
        all_goals clear hV hW hlB
        all_goals clear hB4
        all_goals (first | (simp_all; done) | (simp_all; omega))
      · have hr : Hid (simB Wf d h ⟨13, nm, op, vl, fo, a, b, f, l⟩ = false) := by
          show _ = _
          have hlB : listB Wf d h 13 l = false := by
            unfold listB
            rw [← hdd.out.1, ← hdd.out.2]
            obtain ⟨x, hx, hp⟩ := List.any_eq_true.1 hal
            rw [Bool.and_eq_false_iff]
            refine .inr (Bool.eq_false_iff.2 fun e => ?_)
            rw [List.all_eq_true.1 e x hx] at hp
            cases hp
          rw [simB_list (by omega) (by omega), hlB]
          simp
        rw [hal] at hany
        clear hal
        go_wp2_with fail
        refine hany.out.mono ?_
        rintro e w4 ⟨rfl, hb4⟩
        clear hany g8 gl
        go_wp2
        go_ret
        exact ⟨ret_bool hr.out.symm, Below.on hB3 hb4⟩

set_option maxRecDepth 100000 in
set_option maxHeartbeats 2000000 in
theorem simT14_ok (d : Nat) (h : Bool) (nm : ByteArray) (op : Int) (vl : ByteArray) (fo : Bool) (a b : Int) (f : Bool) (LA : Option Addr) (ln lc : Nat) (l : List X) (w : World) (hd : d ≤ 3) (hl : ln = l.length) (hrow0 : IsRow V w LA ln l) :
    Calls Tryz.prog 79 #[.agg #[.int .u8 14, .string nm, .int .u8 op, .string vl, .bool fo, .int .i64 a, .int .i64 b, .bool f, .slice LA ln lc], .agg #[.int .i64 d, .bool h]] w fun e w' => e = .returned (.bool (simB Wf d h ⟨14, nm, op, vl, fo, a, b, f, l⟩)) ∧ Below w.heap.size w w' := by
  have hl' := hide hl
  clear hl
  have hls := fun W => lists_ok 14 nm op vl fo a b f LA ln lc W
  have e1 : hasK 14 f = true := by cases f <;> decide
  have e2 : emptyK 14 = false := by decide
  simp only [e1, e2] at hls
  clear e1 e2
  have hrow := hide hrow0
  clear hrow0
  cases hpl : plB d h 14
  · have hr : Hid (simB Wf d h ⟨14, nm, op, vl, fo, a, b, f, l⟩ = false) := by
      show _ = _
      rw [simB_list (by omega) (by omega)]
      simp [listB, hpl]
    have hX : ((w.alloc (.cells #[.int .u8 14, .string nm, .int .u8 op, .string vl, .bool fo, .int .i64 a, .int .i64 b, .bool f, .slice LA ln lc] 41)).alloc (.cells #[.int .i64 d, .bool h] 83)).heap[w.heap.size]? = some (.cells #[.int .u8 14, .string nm, .int .u8 op, .string vl, .bool fo, .int .i64 a, .int .i64 b, .bool f, .slice LA ln lc] 41 (0, 0)) := blk_alloc (blk_new _ _ _) _
    have hY : ((w.alloc (.cells #[.int .u8 14, .string nm, .int .u8 op, .string vl, .bool fo, .int .i64 a, .int .i64 b, .bool f, .slice LA ln lc] 41)).alloc (.cells #[.int .i64 d, .bool h] 83)).heap[w.heap.size + 1]? = some (.cells #[.int .i64 d, .bool h] 83 (0, 0)) := blk_at _ _ _ _ (by simp)
    have hB0 := below_alloc (below_alloc (Below.refl w.heap.size w) (.cells #[.int .u8 14, .string nm, .int .u8 op, .string vl, .bool fo, .int .i64 a, .int .i64 b, .bool f, .slice LA ln lc] 41)) (.cells #[.int .i64 d, .bool h] 83)
    go_enter Tryz.func79, Tryz.ntmps79
    go_wp2_with fail
    refine (hls _).mono ?_
    rintro e w1 ⟨rfl, hb1⟩
    have hX1 := hide ((hb1.block _ (blk_lt hX)).trans hX)
    have hY1 := (hb1.block _ (blk_lt hY)).trans hY
    have hB1 := Below.on hB0 hb1
    have y0 : w1.cell? ⟨w.heap.size + 1, 0, none⟩ = some (.int .i64 d) := blk_cell hY1 0
    have y1 : w1.cell? ⟨w.heap.size + 1, 1, none⟩ = some (.bool h) := blk_cell hY1 1
    clear hX hY hY1 hB0 hb1 hls
    have x0 : w1.cell? ⟨w.heap.size, 0, none⟩ = some (.int .u8 14) := blk_cell hX1.out 0
    have x1 : w1.cell? ⟨w.heap.size, 1, none⟩ = some (.string nm) := blk_cell hX1.out 1
    have x2 : w1.cell? ⟨w.heap.size, 2, none⟩ = some (.int .u8 op) := blk_cell hX1.out 2
    have x3 : w1.cell? ⟨w.heap.size, 3, none⟩ = some (.string vl) := blk_cell hX1.out 3
    have x4 : w1.cell? ⟨w.heap.size, 4, none⟩ = some (.bool fo) := blk_cell hX1.out 4
    have x5 : w1.cell? ⟨w.heap.size, 5, none⟩ = some (.int .i64 a) := blk_cell hX1.out 5
    have x6 : w1.cell? ⟨w.heap.size, 6, none⟩ = some (.int .i64 b) := blk_cell hX1.out 6
    have x7 : w1.cell? ⟨w.heap.size, 7, none⟩ = some (.bool f) := blk_cell hX1.out 7
    have x8 : w1.cell? ⟨w.heap.size, 8, none⟩ = some (.slice LA ln lc) := blk_cell hX1.out 8
    go_wp2_with fail
    refine (placeIn_ok d h 14 hd _).mono ?_
    rintro e w2 ⟨d', h', rfl, hdh, hb2⟩
    rw [hpl]
    clear hdh hpl x0 x1 x2 x3 x4 x5 x6 x7 x8 y0 y1
    go_wp2
    go_ret
    exact ⟨ret_bool hr.out.symm, Below.on hB1 (below_alloc hb2 _)⟩
  · have hd3 : d ≤ 2 := by
      have : ¬ d = 3 := fun e => by rw [e] at hpl; simp [plB] at hpl
      omega
    have hX : ((w.alloc (.cells #[.int .u8 14, .string nm, .int .u8 op, .string vl, .bool fo, .int .i64 a, .int .i64 b, .bool f, .slice LA ln lc] 41)).alloc (.cells #[.int .i64 d, .bool h] 83)).heap[w.heap.size]? = some (.cells #[.int .u8 14, .string nm, .int .u8 op, .string vl, .bool fo, .int .i64 a, .int .i64 b, .bool f, .slice LA ln lc] 41 (0, 0)) := blk_alloc (blk_new _ _ _) _
    have hY : ((w.alloc (.cells #[.int .u8 14, .string nm, .int .u8 op, .string vl, .bool fo, .int .i64 a, .int .i64 b, .bool f, .slice LA ln lc] 41)).alloc (.cells #[.int .i64 d, .bool h] 83)).heap[w.heap.size + 1]? = some (.cells #[.int .i64 d, .bool h] 83 (0, 0)) := blk_at _ _ _ _ (by simp)
    have hB0 := below_alloc (below_alloc (Below.refl w.heap.size w) (.cells #[.int .u8 14, .string nm, .int .u8 op, .string vl, .bool fo, .int .i64 a, .int .i64 b, .bool f, .slice LA ln lc] 41)) (.cells #[.int .i64 d, .bool h] 83)
    go_enter Tryz.func79, Tryz.ntmps79
    go_wp2_with fail
    refine (hls _).mono ?_
    rintro e w1 ⟨rfl, hb1⟩
    have hX1 := hide ((hb1.block _ (blk_lt hX)).trans hX)
    have hY1 := (hb1.block _ (blk_lt hY)).trans hY
    have hB1 := Below.on hB0 hb1
    have y0 : w1.cell? ⟨w.heap.size + 1, 0, none⟩ = some (.int .i64 d) := blk_cell hY1 0
    have y1 : w1.cell? ⟨w.heap.size + 1, 1, none⟩ = some (.bool h) := blk_cell hY1 1
    clear hX hY hY1 hB0 hb1 hls
    have x0 : w1.cell? ⟨w.heap.size, 0, none⟩ = some (.int .u8 14) := blk_cell hX1.out 0
    have x1 : w1.cell? ⟨w.heap.size, 1, none⟩ = some (.string nm) := blk_cell hX1.out 1
    have x2 : w1.cell? ⟨w.heap.size, 2, none⟩ = some (.int .u8 op) := blk_cell hX1.out 2
    have x3 : w1.cell? ⟨w.heap.size, 3, none⟩ = some (.string vl) := blk_cell hX1.out 3
    have x4 : w1.cell? ⟨w.heap.size, 4, none⟩ = some (.bool fo) := blk_cell hX1.out 4
    have x5 : w1.cell? ⟨w.heap.size, 5, none⟩ = some (.int .i64 a) := blk_cell hX1.out 5
    have x6 : w1.cell? ⟨w.heap.size, 6, none⟩ = some (.int .i64 b) := blk_cell hX1.out 6
    have x7 : w1.cell? ⟨w.heap.size, 7, none⟩ = some (.bool f) := blk_cell hX1.out 7
    have x8 : w1.cell? ⟨w.heap.size, 8, none⟩ = some (.slice LA ln lc) := blk_cell hX1.out 8
    go_wp2_with fail
    refine (placeIn_ok d h 14 hd _).mono ?_
    rintro e w2 ⟨d', h', rfl, hdh, hb2⟩
    rw [hpl]
    have hdd := hide (hdh hpl)
    have hpl' := hide hpl
    have hd4 : d' ≤ 3 := by have := hdd.out.1; omega
    have hX2 := (hb2.block _ (blk_lt hX1.out)).trans hX1.out
    have hX3 := hide (blk_alloc hX2 (.cells #[.int .i64 (d' : Int), .bool h'] 83))
    have hq0 : (w2.alloc (.cells #[.int .i64 (d' : Int), .bool h'] 83)).cell? ⟨w2.heap.size, 0, none⟩ = some (.int .i64 (d' : Int)) := blk_cell (blk_new _ _ _) 0
    have hq1 : (w2.alloc (.cells #[.int .i64 (d' : Int), .bool h'] 83)).cell? ⟨w2.heap.size, 1, none⟩ = some (.bool h') := blk_cell (blk_new _ _ _) 1
    have hB3 := below_alloc (Below.on hB1 hb2) (.cells #[.int .i64 (d' : Int), .bool h'] 83)
    have g8 : w2.cell? ⟨w.heap.size, 8, none⟩ = some (.slice LA ln lc) := blk_cell hX2 8
    have gl : w.heap.size < w2.heap.size := cell_in g8
    have hk0 : (w2.alloc (.cells #[.int .i64 (d' : Int), .bool h'] 83)).cell? ⟨w.heap.size, 0, none⟩ = some (.int .u8 14) := blk_cell hX3.out 0
    have hany := hide (simple1_any hV LA ln lc l (fun c => !Wf d' h' (decide ((14 : Int) = 14)) c) w2.heap.size w.heap.size _ (hrow.out.below hV hB3) (fun W2 ld PA pn pc KA kn kc x hb hx => simple1_ok hV hW d' h' 14 ld PA pn pc KA kn kc x w2.heap.size w.heap.size W2 hd4 hx (cell_later hb hq0) (cell_later hb hq1) (cell_later hb hk0)))
    clear hpl hdh hX2 hb2 hB1 hX1 x0 x1 x2 x3 x4 x5 x6 x7 x8 y0 y1 hq0 hq1 hk0
    by_cases hz : ln = 0
    · have hr : Hid (simB Wf d h ⟨14, nm, op, vl, fo, a, b, f, l⟩ = false) := by
        show _ = _
        rw [simB_list (by omega) (by omega), ← hl'.out, hz]
        simp
      clear hany
      go_wp2
      go_ret
      exact ⟨ret_bool hr.out.symm, hB3⟩
    · have hz' := hide hz
      cases hal : l.any (fun c => !Wf d' h' (decide ((14 : Int) = 14)) c)
      · have hlB : listB Wf d h 14 l = true := by
          unfold listB
          rw [hpl'.out, Bool.true_and, ← hdd.out.1, ← hdd.out.2, List.all_eq_true]
          intro x hx
          have := List.any_eq_false.1 hal x hx
          simpa using this
        rw [hal] at hany
        clear hal
        go_wp2_with fail
        refine hany.out.mono ?_
        rintro e w4 ⟨rfl, hb4⟩
        have hX4 := hide ((hb4.block _ (blk_lt hX3.out)).trans hX3.out)
        have hB4 := Below.on hB3 hb4
        clear hb4 hX3 hB3 hany g8 gl hrow
        have x0 : w4.cell? ⟨w.heap.size, 0, none⟩ = some (.int .u8 14) := blk_cell hX4.out 0
        have x1 : w4.cell? ⟨w.heap.size, 1, none⟩ = some (.string nm) := blk_cell hX4.out 1
        have x2 : w4.cell? ⟨w.heap.size, 2, none⟩ = some (.int .u8 op) := blk_cell hX4.out 2
        have x3 : w4.cell? ⟨w.heap.size, 3, none⟩ = some (.string vl) := blk_cell hX4.out 3
        have x4 : w4.cell? ⟨w.heap.size, 4, none⟩ = some (.bool fo) := blk_cell hX4.out 4
        have x5 : w4.cell? ⟨w.heap.size, 5, none⟩ = some (.int .i64 a) := blk_cell hX4.out 5
        have x6 : w4.cell? ⟨w.heap.size, 6, none⟩ = some (.int .i64 b) := blk_cell hX4.out 6
        have x7 : w4.cell? ⟨w.heap.size, 7, none⟩ = some (.bool f) := blk_cell hX4.out 7
        have x8 : w4.cell? ⟨w.heap.size, 8, none⟩ = some (.slice LA ln lc) := blk_cell hX4.out 8
        go_wp2
        all_goals go_ret
        all_goals refine ⟨ret_bool (Eq.symm ?_), hB4⟩
        all_goals rw [simB_list (by omega) (by omega), ← hl'.out, hlB]
        all_goals clear x0 x1 x2 x3 x4 x5 x6 x7 x8 hX4 hl'
        all_goals clear hV hW hlB
        all_goals clear hB4
        all_goals (first | (simp_all; done) | (simp_all; omega))
      · have hr : Hid (simB Wf d h ⟨14, nm, op, vl, fo, a, b, f, l⟩ = false) := by
          show _ = _
          have hlB : listB Wf d h 14 l = false := by
            unfold listB
            rw [← hdd.out.1, ← hdd.out.2]
            obtain ⟨x, hx, hp⟩ := List.any_eq_true.1 hal
            rw [Bool.and_eq_false_iff]
            refine .inr (Bool.eq_false_iff.2 fun e => ?_)
            rw [List.all_eq_true.1 e x hx] at hp
            cases hp
          rw [simB_list (by omega) (by omega), hlB]
          simp
        rw [hal] at hany
        clear hal
        go_wp2_with fail
        refine hany.out.mono ?_
        rintro e w4 ⟨rfl, hb4⟩
        clear hany g8 gl
        go_wp2
        go_ret
        exact ⟨ret_bool hr.out.symm, Below.on hB3 hb4⟩

set_option maxRecDepth 100000 in
set_option maxHeartbeats 2000000 in
theorem simT9_ok (d : Nat) (h : Bool) (nm : ByteArray) (op : Int) (vl : ByteArray) (fo : Bool) (a b : Int) (LA : Option Addr) (ln lc : Nat) (l : List X) (w : World) (hd : d ≤ 3) (hl : ln = l.length) (hrow0 : IsRow V w LA ln l) :
    Calls Tryz.prog 79 #[.agg #[.int .u8 9, .string nm, .int .u8 op, .string vl, .bool fo, .int .i64 a, .int .i64 b, .bool true, .slice LA ln lc], .agg #[.int .i64 d, .bool h]] w fun e w' => e = .returned (.bool (simB Wf d h ⟨9, nm, op, vl, fo, a, b, true, l⟩)) ∧ Below w.heap.size w w' := by
  have hl' := hide hl
  clear hl
  have hls := fun W => lists_ok 9 nm op vl fo a b true LA ln lc W
  have e1 : hasK 9 true = true := by decide
  have e2 : emptyK 9 = false := by decide
  simp only [e1, e2] at hls
  clear e1 e2
  have hrow := hide hrow0
  clear hrow0
  cases hpl : plB d h 9
  · have hr : Hid (simB Wf d h ⟨9, nm, op, vl, fo, a, b, true, l⟩ = false) := by
      show _ = _
      rw [simB_nth (by omega)]
      simp [listB, hpl]
    have hX : ((w.alloc (.cells #[.int .u8 9, .string nm, .int .u8 op, .string vl, .bool fo, .int .i64 a, .int .i64 b, .bool true, .slice LA ln lc] 41)).alloc (.cells #[.int .i64 d, .bool h] 83)).heap[w.heap.size]? = some (.cells #[.int .u8 9, .string nm, .int .u8 op, .string vl, .bool fo, .int .i64 a, .int .i64 b, .bool true, .slice LA ln lc] 41 (0, 0)) := blk_alloc (blk_new _ _ _) _
    have hY : ((w.alloc (.cells #[.int .u8 9, .string nm, .int .u8 op, .string vl, .bool fo, .int .i64 a, .int .i64 b, .bool true, .slice LA ln lc] 41)).alloc (.cells #[.int .i64 d, .bool h] 83)).heap[w.heap.size + 1]? = some (.cells #[.int .i64 d, .bool h] 83 (0, 0)) := blk_at _ _ _ _ (by simp)
    have hB0 := below_alloc (below_alloc (Below.refl w.heap.size w) (.cells #[.int .u8 9, .string nm, .int .u8 op, .string vl, .bool fo, .int .i64 a, .int .i64 b, .bool true, .slice LA ln lc] 41)) (.cells #[.int .i64 d, .bool h] 83)
    go_enter Tryz.func79, Tryz.ntmps79
    go_wp2_with fail
    refine (hls _).mono ?_
    rintro e w1 ⟨rfl, hb1⟩
    have hX1 := hide ((hb1.block _ (blk_lt hX)).trans hX)
    have hY1 := (hb1.block _ (blk_lt hY)).trans hY
    have hB1 := Below.on hB0 hb1
    have y0 : w1.cell? ⟨w.heap.size + 1, 0, none⟩ = some (.int .i64 d) := blk_cell hY1 0
    have y1 : w1.cell? ⟨w.heap.size + 1, 1, none⟩ = some (.bool h) := blk_cell hY1 1
    clear hX hY hY1 hB0 hb1 hls
    have x0 : w1.cell? ⟨w.heap.size, 0, none⟩ = some (.int .u8 9) := blk_cell hX1.out 0
    have x1 : w1.cell? ⟨w.heap.size, 1, none⟩ = some (.string nm) := blk_cell hX1.out 1
    have x2 : w1.cell? ⟨w.heap.size, 2, none⟩ = some (.int .u8 op) := blk_cell hX1.out 2
    have x3 : w1.cell? ⟨w.heap.size, 3, none⟩ = some (.string vl) := blk_cell hX1.out 3
    have x4 : w1.cell? ⟨w.heap.size, 4, none⟩ = some (.bool fo) := blk_cell hX1.out 4
    have x5 : w1.cell? ⟨w.heap.size, 5, none⟩ = some (.int .i64 a) := blk_cell hX1.out 5
    have x6 : w1.cell? ⟨w.heap.size, 6, none⟩ = some (.int .i64 b) := blk_cell hX1.out 6
    have x7 : w1.cell? ⟨w.heap.size, 7, none⟩ = some (.bool true) := blk_cell hX1.out 7
    have x8 : w1.cell? ⟨w.heap.size, 8, none⟩ = some (.slice LA ln lc) := blk_cell hX1.out 8
    go_wp2_with fail
    refine (placeIn_ok d h 9 hd _).mono ?_
    rintro e w2 ⟨d', h', rfl, hdh, hb2⟩
    rw [hpl]
    clear hdh hpl x0 x1 x2 x3 x4 x5 x6 x7 x8 y0 y1
    go_wp2
    go_ret
    exact ⟨ret_bool hr.out.symm, Below.on hB1 (below_alloc hb2 _)⟩
  · have hd3 : d ≤ 2 := by
      have : ¬ d = 3 := fun e => by rw [e] at hpl; simp [plB] at hpl
      omega
    have hX : ((w.alloc (.cells #[.int .u8 9, .string nm, .int .u8 op, .string vl, .bool fo, .int .i64 a, .int .i64 b, .bool true, .slice LA ln lc] 41)).alloc (.cells #[.int .i64 d, .bool h] 83)).heap[w.heap.size]? = some (.cells #[.int .u8 9, .string nm, .int .u8 op, .string vl, .bool fo, .int .i64 a, .int .i64 b, .bool true, .slice LA ln lc] 41 (0, 0)) := blk_alloc (blk_new _ _ _) _
    have hY : ((w.alloc (.cells #[.int .u8 9, .string nm, .int .u8 op, .string vl, .bool fo, .int .i64 a, .int .i64 b, .bool true, .slice LA ln lc] 41)).alloc (.cells #[.int .i64 d, .bool h] 83)).heap[w.heap.size + 1]? = some (.cells #[.int .i64 d, .bool h] 83 (0, 0)) := blk_at _ _ _ _ (by simp)
    have hB0 := below_alloc (below_alloc (Below.refl w.heap.size w) (.cells #[.int .u8 9, .string nm, .int .u8 op, .string vl, .bool fo, .int .i64 a, .int .i64 b, .bool true, .slice LA ln lc] 41)) (.cells #[.int .i64 d, .bool h] 83)
    go_enter Tryz.func79, Tryz.ntmps79
    go_wp2_with fail
    refine (hls _).mono ?_
    rintro e w1 ⟨rfl, hb1⟩
    have hX1 := hide ((hb1.block _ (blk_lt hX)).trans hX)
    have hY1 := (hb1.block _ (blk_lt hY)).trans hY
    have hB1 := Below.on hB0 hb1
    have y0 : w1.cell? ⟨w.heap.size + 1, 0, none⟩ = some (.int .i64 d) := blk_cell hY1 0
    have y1 : w1.cell? ⟨w.heap.size + 1, 1, none⟩ = some (.bool h) := blk_cell hY1 1
    clear hX hY hY1 hB0 hb1 hls
    have x0 : w1.cell? ⟨w.heap.size, 0, none⟩ = some (.int .u8 9) := blk_cell hX1.out 0
    have x1 : w1.cell? ⟨w.heap.size, 1, none⟩ = some (.string nm) := blk_cell hX1.out 1
    have x2 : w1.cell? ⟨w.heap.size, 2, none⟩ = some (.int .u8 op) := blk_cell hX1.out 2
    have x3 : w1.cell? ⟨w.heap.size, 3, none⟩ = some (.string vl) := blk_cell hX1.out 3
    have x4 : w1.cell? ⟨w.heap.size, 4, none⟩ = some (.bool fo) := blk_cell hX1.out 4
    have x5 : w1.cell? ⟨w.heap.size, 5, none⟩ = some (.int .i64 a) := blk_cell hX1.out 5
    have x6 : w1.cell? ⟨w.heap.size, 6, none⟩ = some (.int .i64 b) := blk_cell hX1.out 6
    have x7 : w1.cell? ⟨w.heap.size, 7, none⟩ = some (.bool true) := blk_cell hX1.out 7
    have x8 : w1.cell? ⟨w.heap.size, 8, none⟩ = some (.slice LA ln lc) := blk_cell hX1.out 8
    go_wp2_with fail
    refine (placeIn_ok d h 9 hd _).mono ?_
    rintro e w2 ⟨d', h', rfl, hdh, hb2⟩
    rw [hpl]
    have hdd := hide (hdh hpl)
    have hpl' := hide hpl
    have hd4 : d' ≤ 3 := by have := hdd.out.1; omega
    have hX2 := (hb2.block _ (blk_lt hX1.out)).trans hX1.out
    have hX3 := hide (blk_alloc hX2 (.cells #[.int .i64 (d' : Int), .bool h'] 83))
    have hq0 : (w2.alloc (.cells #[.int .i64 (d' : Int), .bool h'] 83)).cell? ⟨w2.heap.size, 0, none⟩ = some (.int .i64 (d' : Int)) := blk_cell (blk_new _ _ _) 0
    have hq1 : (w2.alloc (.cells #[.int .i64 (d' : Int), .bool h'] 83)).cell? ⟨w2.heap.size, 1, none⟩ = some (.bool h') := blk_cell (blk_new _ _ _) 1
    have hB3 := below_alloc (Below.on hB1 hb2) (.cells #[.int .i64 (d' : Int), .bool h'] 83)
    have g8 : w2.cell? ⟨w.heap.size, 8, none⟩ = some (.slice LA ln lc) := blk_cell hX2 8
    have gl : w.heap.size < w2.heap.size := cell_in g8
    have hk0 : (w2.alloc (.cells #[.int .i64 (d' : Int), .bool h'] 83)).cell? ⟨w.heap.size, 0, none⟩ = some (.int .u8 9) := blk_cell hX3.out 0
    have hany := hide (simple1_any hV LA ln lc l (fun c => !Wf d' h' (decide ((9 : Int) = 14)) c) w2.heap.size w.heap.size _ (hrow.out.below hV hB3) (fun W2 ld PA pn pc KA kn kc x hb hx => simple1_ok hV hW d' h' 9 ld PA pn pc KA kn kc x w2.heap.size w.heap.size W2 hd4 hx (cell_later hb hq0) (cell_later hb hq1) (cell_later hb hk0)))
    clear hpl hdh hX2 hb2 hB1 hX1 x0 x1 x2 x3 x4 x5 x6 x7 x8 y0 y1 hq0 hq1 hk0
    by_cases hz : ln = 0
    · have hr : Hid (simB Wf d h ⟨9, nm, op, vl, fo, a, b, true, l⟩ = false) := by
        show _ = _
        rw [simB_nth (by omega), ← hl'.out, hz]
        simp
      clear hany
      go_wp2
      go_ret
      exact ⟨ret_bool hr.out.symm, hB3⟩
    · have hz' := hide hz
      cases hal : l.any (fun c => !Wf d' h' (decide ((9 : Int) = 14)) c)
      · have hlB : listB Wf d h 9 l = true := by
          unfold listB
          rw [hpl'.out, Bool.true_and, ← hdd.out.1, ← hdd.out.2, List.all_eq_true]
          intro x hx
          have := List.any_eq_false.1 hal x hx
          simpa using this
        rw [hal] at hany
        clear hal
        go_wp2_with fail
        refine hany.out.mono ?_
        rintro e w4 ⟨rfl, hb4⟩
        have hX4 := hide ((hb4.block _ (blk_lt hX3.out)).trans hX3.out)
        have hB4 := Below.on hB3 hb4
        clear hb4 hX3 hB3 hany g8 gl hrow
        have x0 : w4.cell? ⟨w.heap.size, 0, none⟩ = some (.int .u8 9) := blk_cell hX4.out 0
        have x1 : w4.cell? ⟨w.heap.size, 1, none⟩ = some (.string nm) := blk_cell hX4.out 1
        have x2 : w4.cell? ⟨w.heap.size, 2, none⟩ = some (.int .u8 op) := blk_cell hX4.out 2
        have x3 : w4.cell? ⟨w.heap.size, 3, none⟩ = some (.string vl) := blk_cell hX4.out 3
        have x4 : w4.cell? ⟨w.heap.size, 4, none⟩ = some (.bool fo) := blk_cell hX4.out 4
        have x5 : w4.cell? ⟨w.heap.size, 5, none⟩ = some (.int .i64 a) := blk_cell hX4.out 5
        have x6 : w4.cell? ⟨w.heap.size, 6, none⟩ = some (.int .i64 b) := blk_cell hX4.out 6
        have x7 : w4.cell? ⟨w.heap.size, 7, none⟩ = some (.bool true) := blk_cell hX4.out 7
        have x8 : w4.cell? ⟨w.heap.size, 8, none⟩ = some (.slice LA ln lc) := blk_cell hX4.out 8
        go_wp2_with ((go_at_call 113; refine (anbCheck_ok _ _ _).mono ?_; rintro e w5 ⟨rfl, hb5⟩))
        all_goals go_ret
        all_goals refine ⟨ret_bool (Eq.symm ?_), by first | exact hB4 | exact Below.on hB4 hb5⟩
        all_goals rw [simB_nth (by omega), ← hl'.out, hlB]
        all_goals clear x0 x1 x2 x3 x4 x5 x6 x7 x8 hX4 hl'
        all_goals clear hV hW hlB
        all_goals (try clear hb5)
        all_goals clear hB4
        all_goals (first | (simp_all; done) | (simp_all; omega))
      · have hr : Hid (simB Wf d h ⟨9, nm, op, vl, fo, a, b, true, l⟩ = false) := by
          show _ = _
          have hlB : listB Wf d h 9 l = false := by
            unfold listB
            rw [← hdd.out.1, ← hdd.out.2]
            obtain ⟨x, hx, hp⟩ := List.any_eq_true.1 hal
            rw [Bool.and_eq_false_iff]
            refine .inr (Bool.eq_false_iff.2 fun e => ?_)
            rw [List.all_eq_true.1 e x hx] at hp
            cases hp
          rw [simB_nth (by omega), hlB]
          simp
        rw [hal] at hany
        clear hal
        go_wp2_with fail
        refine hany.out.mono ?_
        rintro e w4 ⟨rfl, hb4⟩
        clear hany g8 gl
        go_wp2
        go_ret
        exact ⟨ret_bool hr.out.symm, Below.on hB3 hb4⟩

set_option maxRecDepth 100000 in
set_option maxHeartbeats 2000000 in
theorem simT10_ok (d : Nat) (h : Bool) (nm : ByteArray) (op : Int) (vl : ByteArray) (fo : Bool) (a b : Int) (LA : Option Addr) (ln lc : Nat) (l : List X) (w : World) (hd : d ≤ 3) (hl : ln = l.length) (hrow0 : IsRow V w LA ln l) :
    Calls Tryz.prog 79 #[.agg #[.int .u8 10, .string nm, .int .u8 op, .string vl, .bool fo, .int .i64 a, .int .i64 b, .bool true, .slice LA ln lc], .agg #[.int .i64 d, .bool h]] w fun e w' => e = .returned (.bool (simB Wf d h ⟨10, nm, op, vl, fo, a, b, true, l⟩)) ∧ Below w.heap.size w w' := by
  have hl' := hide hl
  clear hl
  have hls := fun W => lists_ok 10 nm op vl fo a b true LA ln lc W
  have e1 : hasK 10 true = true := by decide
  have e2 : emptyK 10 = false := by decide
  simp only [e1, e2] at hls
  clear e1 e2
  have hrow := hide hrow0
  clear hrow0
  cases hpl : plB d h 10
  · have hr : Hid (simB Wf d h ⟨10, nm, op, vl, fo, a, b, true, l⟩ = false) := by
      show _ = _
      rw [simB_nth (by omega)]
      simp [listB, hpl]
    have hX : ((w.alloc (.cells #[.int .u8 10, .string nm, .int .u8 op, .string vl, .bool fo, .int .i64 a, .int .i64 b, .bool true, .slice LA ln lc] 41)).alloc (.cells #[.int .i64 d, .bool h] 83)).heap[w.heap.size]? = some (.cells #[.int .u8 10, .string nm, .int .u8 op, .string vl, .bool fo, .int .i64 a, .int .i64 b, .bool true, .slice LA ln lc] 41 (0, 0)) := blk_alloc (blk_new _ _ _) _
    have hY : ((w.alloc (.cells #[.int .u8 10, .string nm, .int .u8 op, .string vl, .bool fo, .int .i64 a, .int .i64 b, .bool true, .slice LA ln lc] 41)).alloc (.cells #[.int .i64 d, .bool h] 83)).heap[w.heap.size + 1]? = some (.cells #[.int .i64 d, .bool h] 83 (0, 0)) := blk_at _ _ _ _ (by simp)
    have hB0 := below_alloc (below_alloc (Below.refl w.heap.size w) (.cells #[.int .u8 10, .string nm, .int .u8 op, .string vl, .bool fo, .int .i64 a, .int .i64 b, .bool true, .slice LA ln lc] 41)) (.cells #[.int .i64 d, .bool h] 83)
    go_enter Tryz.func79, Tryz.ntmps79
    go_wp2_with fail
    refine (hls _).mono ?_
    rintro e w1 ⟨rfl, hb1⟩
    have hX1 := hide ((hb1.block _ (blk_lt hX)).trans hX)
    have hY1 := (hb1.block _ (blk_lt hY)).trans hY
    have hB1 := Below.on hB0 hb1
    have y0 : w1.cell? ⟨w.heap.size + 1, 0, none⟩ = some (.int .i64 d) := blk_cell hY1 0
    have y1 : w1.cell? ⟨w.heap.size + 1, 1, none⟩ = some (.bool h) := blk_cell hY1 1
    clear hX hY hY1 hB0 hb1 hls
    have x0 : w1.cell? ⟨w.heap.size, 0, none⟩ = some (.int .u8 10) := blk_cell hX1.out 0
    have x1 : w1.cell? ⟨w.heap.size, 1, none⟩ = some (.string nm) := blk_cell hX1.out 1
    have x2 : w1.cell? ⟨w.heap.size, 2, none⟩ = some (.int .u8 op) := blk_cell hX1.out 2
    have x3 : w1.cell? ⟨w.heap.size, 3, none⟩ = some (.string vl) := blk_cell hX1.out 3
    have x4 : w1.cell? ⟨w.heap.size, 4, none⟩ = some (.bool fo) := blk_cell hX1.out 4
    have x5 : w1.cell? ⟨w.heap.size, 5, none⟩ = some (.int .i64 a) := blk_cell hX1.out 5
    have x6 : w1.cell? ⟨w.heap.size, 6, none⟩ = some (.int .i64 b) := blk_cell hX1.out 6
    have x7 : w1.cell? ⟨w.heap.size, 7, none⟩ = some (.bool true) := blk_cell hX1.out 7
    have x8 : w1.cell? ⟨w.heap.size, 8, none⟩ = some (.slice LA ln lc) := blk_cell hX1.out 8
    go_wp2_with fail
    refine (placeIn_ok d h 10 hd _).mono ?_
    rintro e w2 ⟨d', h', rfl, hdh, hb2⟩
    rw [hpl]
    clear hdh hpl x0 x1 x2 x3 x4 x5 x6 x7 x8 y0 y1
    go_wp2
    go_ret
    exact ⟨ret_bool hr.out.symm, Below.on hB1 (below_alloc hb2 _)⟩
  · have hd3 : d ≤ 2 := by
      have : ¬ d = 3 := fun e => by rw [e] at hpl; simp [plB] at hpl
      omega
    have hX : ((w.alloc (.cells #[.int .u8 10, .string nm, .int .u8 op, .string vl, .bool fo, .int .i64 a, .int .i64 b, .bool true, .slice LA ln lc] 41)).alloc (.cells #[.int .i64 d, .bool h] 83)).heap[w.heap.size]? = some (.cells #[.int .u8 10, .string nm, .int .u8 op, .string vl, .bool fo, .int .i64 a, .int .i64 b, .bool true, .slice LA ln lc] 41 (0, 0)) := blk_alloc (blk_new _ _ _) _
    have hY : ((w.alloc (.cells #[.int .u8 10, .string nm, .int .u8 op, .string vl, .bool fo, .int .i64 a, .int .i64 b, .bool true, .slice LA ln lc] 41)).alloc (.cells #[.int .i64 d, .bool h] 83)).heap[w.heap.size + 1]? = some (.cells #[.int .i64 d, .bool h] 83 (0, 0)) := blk_at _ _ _ _ (by simp)
    have hB0 := below_alloc (below_alloc (Below.refl w.heap.size w) (.cells #[.int .u8 10, .string nm, .int .u8 op, .string vl, .bool fo, .int .i64 a, .int .i64 b, .bool true, .slice LA ln lc] 41)) (.cells #[.int .i64 d, .bool h] 83)
    go_enter Tryz.func79, Tryz.ntmps79
    go_wp2_with fail
    refine (hls _).mono ?_
    rintro e w1 ⟨rfl, hb1⟩
    have hX1 := hide ((hb1.block _ (blk_lt hX)).trans hX)
    have hY1 := (hb1.block _ (blk_lt hY)).trans hY
    have hB1 := Below.on hB0 hb1
    have y0 : w1.cell? ⟨w.heap.size + 1, 0, none⟩ = some (.int .i64 d) := blk_cell hY1 0
    have y1 : w1.cell? ⟨w.heap.size + 1, 1, none⟩ = some (.bool h) := blk_cell hY1 1
    clear hX hY hY1 hB0 hb1 hls
    have x0 : w1.cell? ⟨w.heap.size, 0, none⟩ = some (.int .u8 10) := blk_cell hX1.out 0
    have x1 : w1.cell? ⟨w.heap.size, 1, none⟩ = some (.string nm) := blk_cell hX1.out 1
    have x2 : w1.cell? ⟨w.heap.size, 2, none⟩ = some (.int .u8 op) := blk_cell hX1.out 2
    have x3 : w1.cell? ⟨w.heap.size, 3, none⟩ = some (.string vl) := blk_cell hX1.out 3
    have x4 : w1.cell? ⟨w.heap.size, 4, none⟩ = some (.bool fo) := blk_cell hX1.out 4
    have x5 : w1.cell? ⟨w.heap.size, 5, none⟩ = some (.int .i64 a) := blk_cell hX1.out 5
    have x6 : w1.cell? ⟨w.heap.size, 6, none⟩ = some (.int .i64 b) := blk_cell hX1.out 6
    have x7 : w1.cell? ⟨w.heap.size, 7, none⟩ = some (.bool true) := blk_cell hX1.out 7
    have x8 : w1.cell? ⟨w.heap.size, 8, none⟩ = some (.slice LA ln lc) := blk_cell hX1.out 8
    go_wp2_with fail
    refine (placeIn_ok d h 10 hd _).mono ?_
    rintro e w2 ⟨d', h', rfl, hdh, hb2⟩
    rw [hpl]
    have hdd := hide (hdh hpl)
    have hpl' := hide hpl
    have hd4 : d' ≤ 3 := by have := hdd.out.1; omega
    have hX2 := (hb2.block _ (blk_lt hX1.out)).trans hX1.out
    have hX3 := hide (blk_alloc hX2 (.cells #[.int .i64 (d' : Int), .bool h'] 83))
    have hq0 : (w2.alloc (.cells #[.int .i64 (d' : Int), .bool h'] 83)).cell? ⟨w2.heap.size, 0, none⟩ = some (.int .i64 (d' : Int)) := blk_cell (blk_new _ _ _) 0
    have hq1 : (w2.alloc (.cells #[.int .i64 (d' : Int), .bool h'] 83)).cell? ⟨w2.heap.size, 1, none⟩ = some (.bool h') := blk_cell (blk_new _ _ _) 1
    have hB3 := below_alloc (Below.on hB1 hb2) (.cells #[.int .i64 (d' : Int), .bool h'] 83)
    have g8 : w2.cell? ⟨w.heap.size, 8, none⟩ = some (.slice LA ln lc) := blk_cell hX2 8
    have gl : w.heap.size < w2.heap.size := cell_in g8
    have hk0 : (w2.alloc (.cells #[.int .i64 (d' : Int), .bool h'] 83)).cell? ⟨w.heap.size, 0, none⟩ = some (.int .u8 10) := blk_cell hX3.out 0
    have hany := hide (simple1_any hV LA ln lc l (fun c => !Wf d' h' (decide ((10 : Int) = 14)) c) w2.heap.size w.heap.size _ (hrow.out.below hV hB3) (fun W2 ld PA pn pc KA kn kc x hb hx => simple1_ok hV hW d' h' 10 ld PA pn pc KA kn kc x w2.heap.size w.heap.size W2 hd4 hx (cell_later hb hq0) (cell_later hb hq1) (cell_later hb hk0)))
    clear hpl hdh hX2 hb2 hB1 hX1 x0 x1 x2 x3 x4 x5 x6 x7 x8 y0 y1 hq0 hq1 hk0
    by_cases hz : ln = 0
    · have hr : Hid (simB Wf d h ⟨10, nm, op, vl, fo, a, b, true, l⟩ = false) := by
        show _ = _
        rw [simB_nth (by omega), ← hl'.out, hz]
        simp
      clear hany
      go_wp2
      go_ret
      exact ⟨ret_bool hr.out.symm, hB3⟩
    · have hz' := hide hz
      cases hal : l.any (fun c => !Wf d' h' (decide ((10 : Int) = 14)) c)
      · have hlB : listB Wf d h 10 l = true := by
          unfold listB
          rw [hpl'.out, Bool.true_and, ← hdd.out.1, ← hdd.out.2, List.all_eq_true]
          intro x hx
          have := List.any_eq_false.1 hal x hx
          simpa using this
        rw [hal] at hany
        clear hal
        go_wp2_with fail
        refine hany.out.mono ?_
        rintro e w4 ⟨rfl, hb4⟩
        have hX4 := hide ((hb4.block _ (blk_lt hX3.out)).trans hX3.out)
        have hB4 := Below.on hB3 hb4
        clear hb4 hX3 hB3 hany g8 gl hrow
        have x0 : w4.cell? ⟨w.heap.size, 0, none⟩ = some (.int .u8 10) := blk_cell hX4.out 0
        have x1 : w4.cell? ⟨w.heap.size, 1, none⟩ = some (.string nm) := blk_cell hX4.out 1
        have x2 : w4.cell? ⟨w.heap.size, 2, none⟩ = some (.int .u8 op) := blk_cell hX4.out 2
        have x3 : w4.cell? ⟨w.heap.size, 3, none⟩ = some (.string vl) := blk_cell hX4.out 3
        have x4 : w4.cell? ⟨w.heap.size, 4, none⟩ = some (.bool fo) := blk_cell hX4.out 4
        have x5 : w4.cell? ⟨w.heap.size, 5, none⟩ = some (.int .i64 a) := blk_cell hX4.out 5
        have x6 : w4.cell? ⟨w.heap.size, 6, none⟩ = some (.int .i64 b) := blk_cell hX4.out 6
        have x7 : w4.cell? ⟨w.heap.size, 7, none⟩ = some (.bool true) := blk_cell hX4.out 7
        have x8 : w4.cell? ⟨w.heap.size, 8, none⟩ = some (.slice LA ln lc) := blk_cell hX4.out 8
        go_wp2_with ((go_at_call 113; refine (anbCheck_ok _ _ _).mono ?_; rintro e w5 ⟨rfl, hb5⟩))
        all_goals go_ret
        all_goals refine ⟨ret_bool (Eq.symm ?_), by first | exact hB4 | exact Below.on hB4 hb5⟩
        all_goals rw [simB_nth (by omega), ← hl'.out, hlB]
        all_goals clear x0 x1 x2 x3 x4 x5 x6 x7 x8 hX4 hl'
        all_goals clear hV hW hlB
        all_goals (try clear hb5)
        all_goals clear hB4
        all_goals (first | (simp_all; done) | (simp_all; omega))
      · have hr : Hid (simB Wf d h ⟨10, nm, op, vl, fo, a, b, true, l⟩ = false) := by
          show _ = _
          have hlB : listB Wf d h 10 l = false := by
            unfold listB
            rw [← hdd.out.1, ← hdd.out.2]
            obtain ⟨x, hx, hp⟩ := List.any_eq_true.1 hal
            rw [Bool.and_eq_false_iff]
            refine .inr (Bool.eq_false_iff.2 fun e => ?_)
            rw [List.all_eq_true.1 e x hx] at hp
            cases hp
          rw [simB_nth (by omega), hlB]
          simp
        rw [hal] at hany
        clear hal
        go_wp2_with fail
        refine hany.out.mono ?_
        rintro e w4 ⟨rfl, hb4⟩
        clear hany g8 gl
        go_wp2
        go_ret
        exact ⟨ret_bool hr.out.symm, Below.on hB3 hb4⟩

end
end Go.Proofs.YtljloicgjgbplaaGreat
