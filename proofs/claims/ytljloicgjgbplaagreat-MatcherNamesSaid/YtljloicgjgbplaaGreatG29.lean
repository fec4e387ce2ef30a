/- Walks: whether a simple selector is right, by the program: what holds of complex ones below is given. Conditions as each states. -/
import Derived.Test.YtljloicgjgbplaaGreatG28
import Derived.Test.YtljloicgjgbplaaGreatG23
namespace Go.Proofs.YtljloicgjgbplaaGreat
open Go.RowKit

/-- The program tells whether complex selectors are right. -/
def WholeT {X : Type} (V : Lies X) (Wf : Nat → Bool → Bool → X → Bool) : Prop := ∀ (d : Nat) (h r : Bool) (ld : Int) (PA : Option Addr) (pn pc : Nat) (KA : Option Addr) (kn kc : Nat) (x : X) (W : World), d ≤ 3 → V W ld PA pn pc KA kn kc x →
  Calls Tryz.prog 41 #[.agg #[.int .u8 ld, .slice PA pn pc, .slice KA kn kc], .agg #[.int .i64 d, .bool h], .bool r] W fun e w' => e = .returned (.bool (Wf d h r x)) ∧ Below W.heap.size W w'
section
variable {X : Type} {V : Lies X} (hV : Stays V) {Wf : Nat → Bool → Bool → X → Bool} (hW : WholeT V Wf)
include hV hW
theorem simple1_ok (d : Nat) (h : Bool) (k : Int) (ld : Int) (PA : Option Addr) (pn pc : Nat) (KA : Option Addr) (kn kc : Nat) (x : X) (pq pz : Nat) (w : World) (hd : d ≤ 3) (hx : V w ld PA pn pc KA kn kc x)
    (p0 : w.cell? ⟨pq, 0, none⟩ = some (.int .i64 d)) (p1 : w.cell? ⟨pq, 1, none⟩ = some (.bool h)) (p2 : w.cell? ⟨pz, 0, none⟩ = some (.int .u8 k)) :
    Calls Tryz.prog 111 #[.agg #[.int .u8 ld, .slice PA pn pc, .slice KA kn kc], .pointer (some ⟨pq, 0, none⟩), .pointer (some ⟨pz, 0, none⟩)] w fun e w' => e = .returned (.bool (!Wf d h (decide (k = 14)) x)) ∧ Below w.heap.size w w' := by
  have hk := hide (fun (W : World) (hb : Below w.heap.size w W) => hW d h (k == 14) ld PA pn pc KA kn kc x W hd (hV _ _ _ _ _ _ _ _ _ _ hb hx))
  have hl : pq < w.heap.size := cell_in p0
  have hl2 : pz < w.heap.size := cell_in p2
  have hr : Hid (decide (k = 14) = (k == 14)) := by show _ = _; rw [Bool.eq_iff_iff]; simp
  rw [hr.out]
  clear hx hV hW hr
  go_enter Tryz.func111, Tryz.ntmps111
  go_wp2_with (go_at_call 41; (with_reducible refine (hk.out _ (below_alloc (Below.refl _ _) _)).mono ?_); rintro e w1 ⟨rfl, hb1⟩)
  go_ret
  exact ⟨rfl, Below.on (below_alloc (Below.refl _ _) _) hb1⟩
omit hV hW in
theorem simB_name {d : Nat} {h : Bool} {k : Int} {nm : ByteArray} {op : Int} {vl : ByteArray} {fo : Bool} {a b : Int} {f : Bool} {l : List X} (hk : k = 1 ∨ k = 2) :
    simB Wf d h ⟨k, nm, op, vl, fo, a, b, f, l⟩ = (nmB nm && decide (op = 0) && decide (vl.toList = []) && !fo && decide (a = 0) && decide (b = 0) && !f && !decide (0 < l.length)) := by
  unfold simB
  simp only [if_pos hk, toList_nil, Nat.pos_iff_ne_zero, ne_eq, decide_not, Bool.not_not]
omit hV hW in
theorem simB_attr {d : Nat} {h : Bool} {nm : ByteArray} {op : Int} {vl : ByteArray} {fo : Bool} {a b : Int} {f : Bool} {l : List X} :
    simB Wf d h ⟨3, nm, op, vl, fo, a, b, f, l⟩ = (smB nm && decide (op ≤ 6) && zeroB vl 400 && (!decide (op = 0) || (decide (vl.toList = []) && !fo)) && decide (a = 0) && decide (b = 0) && !f && !decide (0 < l.length)) := by
  unfold simB
  simp only [show ¬ ((3 : Int) = 1 ∨ (3 : Int) = 2) by omega, if_false, if_true, toList_nil, Nat.pos_iff_ne_zero, ne_eq, decide_not, Bool.not_not]
omit hV hW in
theorem simB_plain {d : Nat} {h : Bool} {k : Int} {nm : ByteArray} {op : Int} {vl : ByteArray} {fo : Bool} {a b : Int} {f : Bool} {l : List X} (h1 : 4 ≤ k) (h2 : k ≤ 8) :
    simB Wf d h ⟨k, nm, op, vl, fo, a, b, f, l⟩ = (decide (nm.toList = []) && decide (op = 0) && decide (vl.toList = []) && !fo && (decide (a = 0) && decide (b = 0) && !f && !decide (0 < l.length))) := by
  unfold simB
  simp only [show ¬ (k = 1 ∨ k = 2) by omega, show ¬ k = 3 by omega, show 4 ≤ k ∧ k ≤ 14 by omega, if_pos h2, if_false, toList_nil, Nat.pos_iff_ne_zero, ne_eq, decide_not, Bool.not_not, and_self, if_true]
omit hV hW in
theorem simB_nth {d : Nat} {h : Bool} {k : Int} {nm : ByteArray} {op : Int} {vl : ByteArray} {fo : Bool} {a b : Int} {f : Bool} {l : List X} (hk : k = 9 ∨ k = 10) :
    simB Wf d h ⟨k, nm, op, vl, fo, a, b, f, l⟩ = (decide (nm.toList = []) && decide (op = 0) && decide (vl.toList = []) && !fo && ((anbE a b == 0) && (if f = true then decide (0 < l.length) && listB Wf d h k l else !decide (0 < l.length)))) := by
  unfold simB
  have e : decide (-1000000000 ≤ a ∧ a ≤ 1000000000 ∧ -1000000000 ≤ b ∧ b ≤ 1000000000) = (anbE a b == 0) := by
    rw [Bool.eq_iff_iff, decide_eq_true_eq, beq_iff_eq]
    unfold anbE anbB
    split
    · rename_i h; simp only [Bool.and_eq_true, decide_eq_true_eq] at h; omega
    · rename_i h; simp only [Bool.and_eq_true, decide_eq_true_eq] at h; omega
  simp only [show ¬ (k = 1 ∨ k = 2) by omega, show ¬ k = 3 by omega, show 4 ≤ k ∧ k ≤ 14 by omega, show ¬ k ≤ 8 by omega, show k ≤ 10 by omega, if_false, toList_nil, Nat.pos_iff_ne_zero, ne_eq, decide_not, Bool.not_not, and_self, if_true, e]
omit hV hW in
theorem simB_list {d : Nat} {h : Bool} {k : Int} {nm : ByteArray} {op : Int} {vl : ByteArray} {fo : Bool} {a b : Int} {f : Bool} {l : List X} (h1 : 11 ≤ k) (h2 : k ≤ 14) :
    simB Wf d h ⟨k, nm, op, vl, fo, a, b, f, l⟩ = (decide (nm.toList = []) && decide (op = 0) && decide (vl.toList = []) && !fo && (decide (a = 0) && decide (b = 0) && !f && (decide (k ≤ 12) || decide (0 < l.length)) && listB Wf d h k l)) := by
  unfold simB
  simp only [show ¬ (k = 1 ∨ k = 2) by omega, show ¬ k = 3 by omega, show 4 ≤ k ∧ k ≤ 14 by omega, show ¬ k ≤ 8 by omega, show ¬ k ≤ 10 by omega, if_false, toList_nil, and_self, if_true]
omit hV hW in
theorem simB_other {d : Nat} {h : Bool} {k : Int} {nm : ByteArray} {op : Int} {vl : ByteArray} {fo : Bool} {a b : Int} {f : Bool} {l : List X} (h1 : k < 1 ∨ 14 < k) :
    simB Wf d h ⟨k, nm, op, vl, fo, a, b, f, l⟩ = false := by
  unfold simB
  simp only [show ¬ (k = 1 ∨ k = 2) by omega, show ¬ k = 3 by omega, show ¬ (4 ≤ k ∧ k ≤ 14) by omega, if_false]
omit hV hW in
set_option maxRecDepth 100000 in
set_option maxHeartbeats 2000000 in
theorem simT1_ok (d : Nat) (h : Bool) (nm : ByteArray) (op : Int) (vl : ByteArray) (fo : Bool) (a b : Int) (f : Bool) (LA : Option Addr) (ln lc : Nat) (l : List X) (w : World) (_ : d ≤ 3) (hl : ln = l.length) :
    Calls Tryz.prog 79 #[.agg #[.int .u8 1, .string nm, .int .u8 op, .string vl, .bool fo, .int .i64 a, .int .i64 b, .bool f, .slice LA ln lc], .agg #[.int .i64 d, .bool h]] w fun e w' => e = .returned (.bool (simB Wf d h ⟨1, nm, op, vl, fo, a, b, f, l⟩)) ∧ Below w.heap.size w w' := by
  have hl' := hide hl
  clear hl
  have hls := fun W => lists_ok 1 nm op vl fo a b f LA ln lc W
  have e1 : hasK 1 f = false := by cases f <;> decide
  have e2 : emptyK 1 = true := by decide
  simp only [e1, e2] at hls
  clear e1 e2
  have hX : ((w.alloc (.cells #[.int .u8 1, .string nm, .int .u8 op, .string vl, .bool fo, .int .i64 a, .int .i64 b, .bool f, .slice LA ln lc] 41)).alloc (.cells #[.int .i64 d, .bool h] 83)).heap[w.heap.size]? = some (.cells #[.int .u8 1, .string nm, .int .u8 op, .string vl, .bool fo, .int .i64 a, .int .i64 b, .bool f, .slice LA ln lc] 41 (0, 0)) := blk_alloc (blk_new _ _ _) _
  have hY : ((w.alloc (.cells #[.int .u8 1, .string nm, .int .u8 op, .string vl, .bool fo, .int .i64 a, .int .i64 b, .bool f, .slice LA ln lc] 41)).alloc (.cells #[.int .i64 d, .bool h] 83)).heap[w.heap.size + 1]? = some (.cells #[.int .i64 d, .bool h] 83 (0, 0)) := blk_at _ _ _ _ (by simp)
  have hB0 := below_alloc (below_alloc (Below.refl w.heap.size w) (.cells #[.int .u8 1, .string nm, .int .u8 op, .string vl, .bool fo, .int .i64 a, .int .i64 b, .bool f, .slice LA ln lc] 41)) (.cells #[.int .i64 d, .bool h] 83)
  go_enter Tryz.func79, Tryz.ntmps79
  go_wp2_with fail
  refine (hls _).mono ?_
  rintro e w1 ⟨rfl, hb1⟩
  have hX1 := hide ((hb1.block _ (blk_lt hX)).trans hX)
  have hY1 := (hb1.block _ (blk_lt hY)).trans hY
  have hB1 := Below.on hB0 hb1
  have y0 : w1.cell? ⟨w.heap.size + 1, 0, none⟩ = some (.int .i64 d) := blk_cell hY1 0
  have y1 : w1.cell? ⟨w.heap.size + 1, 1, none⟩ = some (.bool h) := blk_cell hY1 1
  clear hX hY hY1 hB0 hb1 hls
  have x0 : w1.cell? ⟨w.heap.size, 0, none⟩ = some (.int .u8 1) := blk_cell hX1.out 0
  have x1 : w1.cell? ⟨w.heap.size, 1, none⟩ = some (.string nm) := blk_cell hX1.out 1
  have x2 : w1.cell? ⟨w.heap.size, 2, none⟩ = some (.int .u8 op) := blk_cell hX1.out 2
  have x3 : w1.cell? ⟨w.heap.size, 3, none⟩ = some (.string vl) := blk_cell hX1.out 3
  have x4 : w1.cell? ⟨w.heap.size, 4, none⟩ = some (.bool fo) := blk_cell hX1.out 4
  have x5 : w1.cell? ⟨w.heap.size, 5, none⟩ = some (.int .i64 a) := blk_cell hX1.out 5
  have x6 : w1.cell? ⟨w.heap.size, 6, none⟩ = some (.int .i64 b) := blk_cell hX1.out 6
  have x7 : w1.cell? ⟨w.heap.size, 7, none⟩ = some (.bool f) := blk_cell hX1.out 7
  have x8 : w1.cell? ⟨w.heap.size, 8, none⟩ = some (.slice LA ln lc) := blk_cell hX1.out 8
  clear y0 y1
  go_wp2_with ((go_at_call 107; refine (namedT_ok _ _).mono ?_; rintro e w2 ⟨rfl, rfl⟩))
  all_goals go_ret
  all_goals refine ⟨ret_bool (Eq.symm ?_), hB1⟩
  all_goals rw [simB_name (by omega), ← hl'.out]
  all_goals clear x0 x1 x2 x3 x4 x5 x6 x7 x8 hX1 hl' hB1
  all_goals simp_all
omit hV hW in
set_option maxRecDepth 100000 in
set_option maxHeartbeats 2000000 in
theorem simT2_ok (d : Nat) (h : Bool) (nm : ByteArray) (op : Int) (vl : ByteArray) (fo : Bool) (a b : Int) (f : Bool) (LA : Option Addr) (ln lc : Nat) (l : List X) (w : World) (_ : d ≤ 3) (hl : ln = l.length) :
    Calls Tryz.prog 79 #[.agg #[.int .u8 2, .string nm, .int .u8 op, .string vl, .bool fo, .int .i64 a, .int .i64 b, .bool f, .slice LA ln lc], .agg #[.int .i64 d, .bool h]] w fun e w' => e = .returned (.bool (simB Wf d h ⟨2, nm, op, vl, fo, a, b, f, l⟩)) ∧ Below w.heap.size w w' := by
  have hl' := hide hl
  clear hl
  have hls := fun W => lists_ok 2 nm op vl fo a b f LA ln lc W
  have e1 : hasK 2 f = false := by cases f <;> decide
  have e2 : emptyK 2 = true := by decide
  simp only [e1, e2] at hls
  clear e1 e2
  have hX : ((w.alloc (.cells #[.int .u8 2, .string nm, .int .u8 op, .string vl, .bool fo, .int .i64 a, .int .i64 b, .bool f, .slice LA ln lc] 41)).alloc (.cells #[.int .i64 d, .bool h] 83)).heap[w.heap.size]? = some (.cells #[.int .u8 2, .string nm, .int .u8 op, .string vl, .bool fo, .int .i64 a, .int .i64 b, .bool f, .slice LA ln lc] 41 (0, 0)) := blk_alloc (blk_new _ _ _) _
  have hY : ((w.alloc (.cells #[.int .u8 2, .string nm, .int .u8 op, .string vl, .bool fo, .int .i64 a, .int .i64 b, .bool f, .slice LA ln lc] 41)).alloc (.cells #[.int .i64 d, .bool h] 83)).heap[w.heap.size + 1]? = some (.cells #[.int .i64 d, .bool h] 83 (0, 0)) := blk_at _ _ _ _ (by simp)
  have hB0 := below_alloc (below_alloc (Below.refl w.heap.size w) (.cells #[.int .u8 2, .string nm, .int .u8 op, .string vl, .bool fo, .int .i64 a, .int .i64 b, .bool f, .slice LA ln lc] 41)) (.cells #[.int .i64 d, .bool h] 83)
  go_enter Tryz.func79, Tryz.ntmps79
  go_wp2_with fail
  refine (hls _).mono ?_
  rintro e w1 ⟨rfl, hb1⟩
  have hX1 := hide ((hb1.block _ (blk_lt hX)).trans hX)
  have hY1 := (hb1.block _ (blk_lt hY)).trans hY
  have hB1 := Below.on hB0 hb1
  have y0 : w1.cell? ⟨w.heap.size + 1, 0, none⟩ = some (.int .i64 d) := blk_cell hY1 0
  have y1 : w1.cell? ⟨w.heap.size + 1, 1, none⟩ = some (.bool h) := blk_cell hY1 1
  clear hX hY hY1 hB0 hb1 hls
  have x0 : w1.cell? ⟨w.heap.size, 0, none⟩ = some (.int .u8 2) := blk_cell hX1.out 0
  have x1 : w1.cell? ⟨w.heap.size, 1, none⟩ = some (.string nm) := blk_cell hX1.out 1
  have x2 : w1.cell? ⟨w.heap.size, 2, none⟩ = some (.int .u8 op) := blk_cell hX1.out 2
  have x3 : w1.cell? ⟨w.heap.size, 3, none⟩ = some (.string vl) := blk_cell hX1.out 3
  have x4 : w1.cell? ⟨w.heap.size, 4, none⟩ = some (.bool fo) := blk_cell hX1.out 4
  have x5 : w1.cell? ⟨w.heap.size, 5, none⟩ = some (.int .i64 a) := blk_cell hX1.out 5
  have x6 : w1.cell? ⟨w.heap.size, 6, none⟩ = some (.int .i64 b) := blk_cell hX1.out 6
  have x7 : w1.cell? ⟨w.heap.size, 7, none⟩ = some (.bool f) := blk_cell hX1.out 7
  have x8 : w1.cell? ⟨w.heap.size, 8, none⟩ = some (.slice LA ln lc) := blk_cell hX1.out 8
  clear y0 y1
  go_wp2_with ((go_at_call 107; refine (namedT_ok _ _).mono ?_; rintro e w2 ⟨rfl, rfl⟩))
  all_goals go_ret
  all_goals refine ⟨ret_bool (Eq.symm ?_), hB1⟩
  all_goals rw [simB_name (by omega), ← hl'.out]
  all_goals clear x0 x1 x2 x3 x4 x5 x6 x7 x8 hX1 hl' hB1
  all_goals simp_all
omit hV hW in
set_option maxRecDepth 100000 in
set_option maxHeartbeats 2000000 in
theorem simT3_ok (d : Nat) (h : Bool) (nm : ByteArray) (op : Int) (vl : ByteArray) (fo : Bool) (a b : Int) (f : Bool) (LA : Option Addr) (ln lc : Nat) (l : List X) (w : World) (_ : d ≤ 3) (hl : ln = l.length) :
    Calls Tryz.prog 79 #[.agg #[.int .u8 3, .string nm, .int .u8 op, .string vl, .bool fo, .int .i64 a, .int .i64 b, .bool f, .slice LA ln lc], .agg #[.int .i64 d, .bool h]] w fun e w' => e = .returned (.bool (simB Wf d h ⟨3, nm, op, vl, fo, a, b, f, l⟩)) ∧ Below w.heap.size w w' := by
  have hl' := hide hl
  clear hl
  have hls := fun W => lists_ok 3 nm op vl fo a b f LA ln lc W
  have e1 : hasK 3 f = false := by cases f <;> decide
  have e2 : emptyK 3 = true := by decide
  simp only [e1, e2] at hls
  clear e1 e2
  have hz : ∀ W : World, Calls Tryz.prog 112 #[.string vl, .int .i64 400] W fun e w' => e = .returned (.bool (!zeroB vl 400)) ∧ w' = W := fun W => zeroT_ok vl 400 W
  have hX : ((w.alloc (.cells #[.int .u8 3, .string nm, .int .u8 op, .string vl, .bool fo, .int .i64 a, .int .i64 b, .bool f, .slice LA ln lc] 41)).alloc (.cells #[.int .i64 d, .bool h] 83)).heap[w.heap.size]? = some (.cells #[.int .u8 3, .string nm, .int .u8 op, .string vl, .bool fo, .int .i64 a, .int .i64 b, .bool f, .slice LA ln lc] 41 (0, 0)) := blk_alloc (blk_new _ _ _) _
  have hY : ((w.alloc (.cells #[.int .u8 3, .string nm, .int .u8 op, .string vl, .bool fo, .int .i64 a, .int .i64 b, .bool f, .slice LA ln lc] 41)).alloc (.cells #[.int .i64 d, .bool h] 83)).heap[w.heap.size + 1]? = some (.cells #[.int .i64 d, .bool h] 83 (0, 0)) := blk_at _ _ _ _ (by simp)
  have hB0 := below_alloc (below_alloc (Below.refl w.heap.size w) (.cells #[.int .u8 3, .string nm, .int .u8 op, .string vl, .bool fo, .int .i64 a, .int .i64 b, .bool f, .slice LA ln lc] 41)) (.cells #[.int .i64 d, .bool h] 83)
  go_enter Tryz.func79, Tryz.ntmps79
  go_wp2_with fail
  refine (hls _).mono ?_
  rintro e w1 ⟨rfl, hb1⟩
  have hX1 := hide ((hb1.block _ (blk_lt hX)).trans hX)
  have hY1 := (hb1.block _ (blk_lt hY)).trans hY
  have hB1 := Below.on hB0 hb1
  have y0 : w1.cell? ⟨w.heap.size + 1, 0, none⟩ = some (.int .i64 d) := blk_cell hY1 0
  have y1 : w1.cell? ⟨w.heap.size + 1, 1, none⟩ = some (.bool h) := blk_cell hY1 1
  clear hX hY hY1 hB0 hb1 hls
  have x0 : w1.cell? ⟨w.heap.size, 0, none⟩ = some (.int .u8 3) := blk_cell hX1.out 0
  have x1 : w1.cell? ⟨w.heap.size, 1, none⟩ = some (.string nm) := blk_cell hX1.out 1
  have x2 : w1.cell? ⟨w.heap.size, 2, none⟩ = some (.int .u8 op) := blk_cell hX1.out 2
  have x3 : w1.cell? ⟨w.heap.size, 3, none⟩ = some (.string vl) := blk_cell hX1.out 3
  have x4 : w1.cell? ⟨w.heap.size, 4, none⟩ = some (.bool fo) := blk_cell hX1.out 4
  have x5 : w1.cell? ⟨w.heap.size, 5, none⟩ = some (.int .i64 a) := blk_cell hX1.out 5
  have x6 : w1.cell? ⟨w.heap.size, 6, none⟩ = some (.int .i64 b) := blk_cell hX1.out 6
  have x7 : w1.cell? ⟨w.heap.size, 7, none⟩ = some (.bool f) := blk_cell hX1.out 7
  have x8 : w1.cell? ⟨w.heap.size, 8, none⟩ = some (.slice LA ln lc) := blk_cell hX1.out 8
  clear y0 y1
  go_wp2_with (first | (go_at_call 78; refine (smallT_ok _ _).mono ?_; rintro e w2 ⟨rfl, hb2⟩; have hX2 := hide ((hb2.block _ (blk_lt hX1.out)).trans hX1.out); have hB2 := Below.on hB1 hb2; have z2 : w2.cell? ⟨w.heap.size, 2, none⟩ = some (.int .u8 op) := blk_cell hX2.out 2; have z3 : w2.cell? ⟨w.heap.size, 3, none⟩ = some (.string vl) := blk_cell hX2.out 3; have z4 : w2.cell? ⟨w.heap.size, 4, none⟩ = some (.bool fo) := blk_cell hX2.out 4) | (go_at_call 112; refine (hz _).mono ?_; rintro e w3 ⟨rfl, rfl⟩))
  all_goals go_ret
  all_goals refine ⟨ret_bool (Eq.symm ?_), by first | exact hB1 | exact hB2⟩
  all_goals rw [simB_attr, ← hl'.out]
  all_goals clear x0 x1 x2 x3 x4 x5 x6 x7 x8 hX1 hl'
  all_goals (try clear z2 z3 z4 hX2 hb2 hB2)
  all_goals clear hB1
  all_goals (first | (simp_all; done) | (simp_all; intros; omega))
omit hV hW in
set_option maxRecDepth 100000 in
set_option maxHeartbeats 2000000 in
theorem simTp_ok (d : Nat) (h : Bool) (k : Int) (nm : ByteArray) (op : Int) (vl : ByteArray) (fo : Bool) (a b : Int) (f : Bool) (LA : Option Addr) (ln lc : Nat) (l : List X) (w : World) (_ : d ≤ 3) (hl : ln = l.length) (h1 : 4 ≤ k) (h2 : k ≤ 8) :
    Calls Tryz.prog 79 #[.agg #[.int .u8 k, .string nm, .int .u8 op, .string vl, .bool fo, .int .i64 a, .int .i64 b, .bool f, .slice LA ln lc], .agg #[.int .i64 d, .bool h]] w fun e w' => e = .returned (.bool (simB Wf d h ⟨k, nm, op, vl, fo, a, b, f, l⟩)) ∧ Below w.heap.size w w' := by
  have hl' := hide hl
  clear hl
  have hls := fun W => lists_ok k nm op vl fo a b f LA ln lc W
  have e1 : hasK k f = false := by unfold hasK; rw [if_neg (by omega), decide_eq_false (by omega)]
  have e2 : emptyK k = true := by unfold emptyK; rw [decide_eq_false (by omega), decide_eq_false (by omega)]; rfl
  simp only [e1, e2] at hls
  clear e1 e2
  have g1 : (k == 1) = false := by rw [beq_eq_false_iff_ne]; omega
  have g2 : (k == 2) = false := by rw [beq_eq_false_iff_ne]; omega
  have g3 : (k == 3) = false := by rw [beq_eq_false_iff_ne]; omega
  have g9 : (k == 9) = false := by rw [beq_eq_false_iff_ne]; omega
  have g10 : (k == 10) = false := by rw [beq_eq_false_iff_ne]; omega
  have g11 : (k == 11) = false := by rw [beq_eq_false_iff_ne]; omega
  have g12 : (k == 12) = false := by rw [beq_eq_false_iff_ne]; omega
  have g13 : (k == 13) = false := by rw [beq_eq_false_iff_ne]; omega
  have g14 : (k == 14) = false := by rw [beq_eq_false_iff_ne]; omega
  have g4 : decide (4 ≤ k) = true := decide_eq_true h1
  have g5 : decide (k ≤ 14) = true := decide_eq_true (by omega)
  have h1 := hide h1
  have h2 := hide h2
  have hX : ((w.alloc (.cells #[.int .u8 k, .string nm, .int .u8 op, .string vl, .bool fo, .int .i64 a, .int .i64 b, .bool f, .slice LA ln lc] 41)).alloc (.cells #[.int .i64 d, .bool h] 83)).heap[w.heap.size]? = some (.cells #[.int .u8 k, .string nm, .int .u8 op, .string vl, .bool fo, .int .i64 a, .int .i64 b, .bool f, .slice LA ln lc] 41 (0, 0)) := blk_alloc (blk_new _ _ _) _
  have hY : ((w.alloc (.cells #[.int .u8 k, .string nm, .int .u8 op, .string vl, .bool fo, .int .i64 a, .int .i64 b, .bool f, .slice LA ln lc] 41)).alloc (.cells #[.int .i64 d, .bool h] 83)).heap[w.heap.size + 1]? = some (.cells #[.int .i64 d, .bool h] 83 (0, 0)) := blk_at _ _ _ _ (by simp)
  have hB0 := below_alloc (below_alloc (Below.refl w.heap.size w) (.cells #[.int .u8 k, .string nm, .int .u8 op, .string vl, .bool fo, .int .i64 a, .int .i64 b, .bool f, .slice LA ln lc] 41)) (.cells #[.int .i64 d, .bool h] 83)
  go_enter Tryz.func79, Tryz.ntmps79
  go_wp2_with fail
  refine (hls _).mono ?_
  rintro e w1 ⟨rfl, hb1⟩
  have hX1 := hide ((hb1.block _ (blk_lt hX)).trans hX)
  have hY1 := (hb1.block _ (blk_lt hY)).trans hY
  have hB1 := Below.on hB0 hb1
  have y0 : w1.cell? ⟨w.heap.size + 1, 0, none⟩ = some (.int .i64 d) := blk_cell hY1 0
  have y1 : w1.cell? ⟨w.heap.size + 1, 1, none⟩ = some (.bool h) := blk_cell hY1 1
  clear hX hY hY1 hB0 hb1 hls
  have x0 : w1.cell? ⟨w.heap.size, 0, none⟩ = some (.int .u8 k) := blk_cell hX1.out 0
  have x1 : w1.cell? ⟨w.heap.size, 1, none⟩ = some (.string nm) := blk_cell hX1.out 1
  have x2 : w1.cell? ⟨w.heap.size, 2, none⟩ = some (.int .u8 op) := blk_cell hX1.out 2
  have x3 : w1.cell? ⟨w.heap.size, 3, none⟩ = some (.string vl) := blk_cell hX1.out 3
  have x4 : w1.cell? ⟨w.heap.size, 4, none⟩ = some (.bool fo) := blk_cell hX1.out 4
  have x5 : w1.cell? ⟨w.heap.size, 5, none⟩ = some (.int .i64 a) := blk_cell hX1.out 5
  have x6 : w1.cell? ⟨w.heap.size, 6, none⟩ = some (.int .i64 b) := blk_cell hX1.out 6
  have x7 : w1.cell? ⟨w.heap.size, 7, none⟩ = some (.bool f) := blk_cell hX1.out 7
  have x8 : w1.cell? ⟨w.heap.size, 8, none⟩ = some (.slice LA ln lc) := blk_cell hX1.out 8
  clear y0 y1
  go_wp2
  all_goals go_ret
  all_goals refine ⟨ret_bool (Eq.symm ?_), hB1⟩
  all_goals rw [simB_plain h1.out h2.out, ← hl'.out]
  all_goals clear x0 x1 x2 x3 x4 x5 x6 x7 x8 hX1 hl'
  all_goals clear hB1 h1 h2
  all_goals simp_all
omit hV hW in
set_option maxRecDepth 100000 in
set_option maxHeartbeats 2000000 in
theorem simTo_ok (d : Nat) (h : Bool) (k : Int) (nm : ByteArray) (op : Int) (vl : ByteArray) (fo : Bool) (a b : Int) (f : Bool) (LA : Option Addr) (ln lc : Nat) (l : List X) (w : World) (_ : d ≤ 3) (hl : ln = l.length) (h1 : k < 1 ∨ 14 < k) :
    Calls Tryz.prog 79 #[.agg #[.int .u8 k, .string nm, .int .u8 op, .string vl, .bool fo, .int .i64 a, .int .i64 b, .bool f, .slice LA ln lc], .agg #[.int .i64 d, .bool h]] w fun e w' => e = .returned (.bool (simB Wf d h ⟨k, nm, op, vl, fo, a, b, f, l⟩)) ∧ Below w.heap.size w w' := by
  have hl' := hide hl
  clear hl
  have hls := fun W => lists_ok k nm op vl fo a b f LA ln lc W
  have e1 : hasK k f = false := by unfold hasK; rw [if_neg (by omega), decide_eq_false (by omega)]
  have e2 : emptyK k = true := by unfold emptyK; rw [decide_eq_false (by omega), decide_eq_false (by omega)]; rfl
  simp only [e1, e2] at hls
  clear e1 e2
  have g1 : (k == 1) = false := by rw [beq_eq_false_iff_ne]; omega
  have g2 : (k == 2) = false := by rw [beq_eq_false_iff_ne]; omega
  have g3 : (k == 3) = false := by rw [beq_eq_false_iff_ne]; omega
  have g9 : (k == 9) = false := by rw [beq_eq_false_iff_ne]; omega
  have g10 : (k == 10) = false := by rw [beq_eq_false_iff_ne]; omega
  have g11 : (k == 11) = false := by rw [beq_eq_false_iff_ne]; omega
  have g12 : (k == 12) = false := by rw [beq_eq_false_iff_ne]; omega
  have g13 : (k == 13) = false := by rw [beq_eq_false_iff_ne]; omega
  have g14 : (k == 14) = false := by rw [beq_eq_false_iff_ne]; omega
  have h1 := hide h1
  have hX : ((w.alloc (.cells #[.int .u8 k, .string nm, .int .u8 op, .string vl, .bool fo, .int .i64 a, .int .i64 b, .bool f, .slice LA ln lc] 41)).alloc (.cells #[.int .i64 d, .bool h] 83)).heap[w.heap.size]? = some (.cells #[.int .u8 k, .string nm, .int .u8 op, .string vl, .bool fo, .int .i64 a, .int .i64 b, .bool f, .slice LA ln lc] 41 (0, 0)) := blk_alloc (blk_new _ _ _) _
  have hY : ((w.alloc (.cells #[.int .u8 k, .string nm, .int .u8 op, .string vl, .bool fo, .int .i64 a, .int .i64 b, .bool f, .slice LA ln lc] 41)).alloc (.cells #[.int .i64 d, .bool h] 83)).heap[w.heap.size + 1]? = some (.cells #[.int .i64 d, .bool h] 83 (0, 0)) := blk_at _ _ _ _ (by simp)
  have hB0 := below_alloc (below_alloc (Below.refl w.heap.size w) (.cells #[.int .u8 k, .string nm, .int .u8 op, .string vl, .bool fo, .int .i64 a, .int .i64 b, .bool f, .slice LA ln lc] 41)) (.cells #[.int .i64 d, .bool h] 83)
  go_enter Tryz.func79, Tryz.ntmps79
  go_wp2_with fail
  refine (hls _).mono ?_
  rintro e w1 ⟨rfl, hb1⟩
  have hX1 := hide ((hb1.block _ (blk_lt hX)).trans hX)
  have hY1 := (hb1.block _ (blk_lt hY)).trans hY
  have hB1 := Below.on hB0 hb1
  have y0 : w1.cell? ⟨w.heap.size + 1, 0, none⟩ = some (.int .i64 d) := blk_cell hY1 0
  have y1 : w1.cell? ⟨w.heap.size + 1, 1, none⟩ = some (.bool h) := blk_cell hY1 1
  clear hX hY hY1 hB0 hb1 hls
  have x0 : w1.cell? ⟨w.heap.size, 0, none⟩ = some (.int .u8 k) := blk_cell hX1.out 0
  have x1 : w1.cell? ⟨w.heap.size, 1, none⟩ = some (.string nm) := blk_cell hX1.out 1
  have x2 : w1.cell? ⟨w.heap.size, 2, none⟩ = some (.int .u8 op) := blk_cell hX1.out 2
  have x3 : w1.cell? ⟨w.heap.size, 3, none⟩ = some (.string vl) := blk_cell hX1.out 3
  have x4 : w1.cell? ⟨w.heap.size, 4, none⟩ = some (.bool fo) := blk_cell hX1.out 4
  have x5 : w1.cell? ⟨w.heap.size, 5, none⟩ = some (.int .i64 a) := blk_cell hX1.out 5
  have x6 : w1.cell? ⟨w.heap.size, 6, none⟩ = some (.int .i64 b) := blk_cell hX1.out 6
  have x7 : w1.cell? ⟨w.heap.size, 7, none⟩ = some (.bool f) := blk_cell hX1.out 7
  have x8 : w1.cell? ⟨w.heap.size, 8, none⟩ = some (.slice LA ln lc) := blk_cell hX1.out 8
  clear y0 y1
  go_wp2
  all_goals go_ret
  all_goals refine ⟨ret_bool (Eq.symm ?_), hB1⟩
  all_goals rw [simB_other h1.out]
  all_goals have h1 := h1.out
  all_goals clear x0 x1 x2 x3 x4 x5 x6 x7 x8 hX1 hl'
  all_goals clear hB1
  all_goals simp_all
  all_goals omega
end
end Go.Proofs.YtljloicgjgbplaaGreat
