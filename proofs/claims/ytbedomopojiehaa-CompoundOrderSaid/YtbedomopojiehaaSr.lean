/- Walks: whether a value suits an attribute selector, by the program and by the reference; whether a selector is long. Condition: the variable of the library that strings.Contains reads holds a number. -/
import Derived.Test.YtbedomopojiehaaSq
import Derived.Test.YtbedomopojiehaaSn
namespace Go.Proofs.Ytbedomopojiehaa
open Go.RowKit

/-- A simple selector in a block. -/
def SimAt (w : World) (g : Nat) (s : Sim) : Prop :=
  w.cell? ⟨g, 0, none⟩ = some (.int .u8 s.kind) ∧ w.cell? ⟨g, 1, none⟩ = some (.string s.name) ∧ w.cell? ⟨g, 2, none⟩ = some (.int .u8 s.op) ∧ w.cell? ⟨g, 3, none⟩ = some (.string s.val) ∧ w.cell? ⟨g, 4, none⟩ = some (.bool s.fold) ∧
  w.cell? ⟨g, 5, none⟩ = some (.int .i64 s.a) ∧ w.cell? ⟨g, 6, none⟩ = some (.int .i64 s.b) ∧ w.cell? ⟨g, 7, none⟩ = some (.bool s.of) ∧ w.cell? ⟨g, 8, none⟩ = some (.slice s.LA s.ln s.lc)
theorem SimAt.later {w w' : World} {g : Nat} {s : Sim} (h : SimAt w g s) (hb : Below w.heap.size w w') : SimAt w' g s := by
  obtain ⟨h0, h1, h2, h3, h4, h5, h6, h7, h8⟩ := h
  exact ⟨cell_later hb h0, cell_later hb h1, cell_later hb h2, cell_later hb h3, cell_later hb h4, cell_later hb h5, cell_later hb h6, cell_later hb h7, cell_later hb h8⟩
theorem simAt_new (w : World) (k : Int) (nm : ByteArray) (op : Int) (vl : ByteArray) (fo : Bool) (a b : Int) (f : Bool) (LA : Option Addr) (ln lc : Nat) :
    SimAt (w.alloc (.cells #[.int .u8 k, .string nm, .int .u8 op, .string vl, .bool fo, .int .i64 a, .int .i64 b, .bool f, .slice LA ln lc] 26)) w.heap.size ⟨k, nm, op, vl, fo, a, b, f, LA, ln, lc⟩ := by
  refine ⟨?_, ?_, ?_, ?_, ?_, ?_, ?_, ?_, ?_⟩
  all_goals go_simp
def valE (s : Sim) (v : ByteArray) : Int := if chkS s = 0 then (if s.kind = 3 then (if v.size ≤ 400 then 0 else 28) else 2) else 12
def valV (s : Sim) (v : ByteArray) : Bool := if valE s v = 0 then suitsF s.op s.val s.fold v else false
theorem chkS_cases (s : Sim) : chkS s = 0 ∨ chkS s = 12 := by unfold chkS; split <;> simp
theorem chkS_okP {s : Sim} (h : chkS s = 0) : okP s := by
  unfold chkS okS at h
  by_cases h1 : okP s
  · exact h1
  · rw [if_neg (by rw [decide_eq_true_eq]; exact h1)] at h
    omega
theorem chkS_val {s : Sim} (h : chkS s = 0) : s.val.size ≤ 400 ∧ s.name.size ≤ 400 := by
  have h1 := chkS_okP h
  unfold okP at h1
  omega

theorem scheck_ok_at (k : Int) (nm : ByteArray) (op : Int) (vl : ByteArray) (fo : Bool) (a b : Int) (f : Bool) (LA : Option Addr) (ln lc : Nat) (w : World) (c0 : Int) (h0 : chkS ⟨k, nm, op, vl, fo, a, b, f, LA, ln, lc⟩ = c0) :
    Calls Try.prog 19 #[.agg #[.int .u8 k, .string nm, .int .u8 op, .string vl, .bool fo, .int .i64 a, .int .i64 b, .bool f, .slice LA ln lc]] w fun r w' => r = .returned (.int .i64 c0) ∧ Below w.heap.size w w' := by
  have := scheck_ok k nm op vl fo a b f LA ln lc w
  rw [h0] at this
  exact this
theorem rscheck_ok_at (k : Int) (nm : ByteArray) (op : Int) (vl : ByteArray) (fo : Bool) (a b : Int) (f : Bool) (LA : Option Addr) (ln lc : Nat) (w : World) (c0 : Int) (h0 : chkS ⟨k, nm, op, vl, fo, a, b, f, LA, ln, lc⟩ = c0) :
    Calls Try.prog 20 #[.agg #[.int .u8 k, .string nm, .int .u8 op, .string vl, .bool fo, .int .i64 a, .int .i64 b, .bool f, .slice LA ln lc]] w fun r w' => r = .returned (.int .i64 c0) ∧ Below w.heap.size w w' := by
  have := rscheck_ok k nm op vl fo a b f LA ln lc w
  rw [h0] at this
  exact this

set_option maxRecDepth 100000 in
set_option maxHeartbeats 1000000 in
theorem value_ok (k : Int) (nm : ByteArray) (op : Int) (vl : ByteArray) (fo : Bool) (a b : Int) (f : Bool) (LA : Option Addr) (ln lc : Nat) (v : ByteArray) (w : World) (hm0 : HasMax w) :
    Calls Try.prog 17 #[.agg #[.int .u8 k, .string nm, .int .u8 op, .string vl, .bool fo, .int .i64 a, .int .i64 b, .bool f, .slice LA ln lc], .string v] w fun r w' => r = .returned (.tuple #[.bool (valV ⟨k, nm, op, vl, fo, a, b, f, LA, ln, lc⟩ v), .int .i64 (valE ⟨k, nm, op, vl, fo, a, b, f, LA, ln, lc⟩ v)]) ∧ Below w.heap.size w w' := by
  have hB0 := below_alloc (Below.refl w.heap.size w) (.cells #[.int .u8 k, .string nm, .int .u8 op, .string vl, .bool fo, .int .i64 a, .int .i64 b, .bool f, .slice LA ln lc] 26)
  have hm := hide hm0; clear hm0
  have hS0 := hide (simAt_new w k nm op vl fo a b f LA ln lc)
  rcases chkS_cases ⟨k, nm, op, vl, fo, a, b, f, LA, ln, lc⟩ with hc | hc
  · have hsz := (chkS_val hc).1
    by_cases hk : k = 3
    · subst hk
      by_cases hv : v.size ≤ 400
      · have hE : Hid (valE ⟨3, nm, op, vl, fo, a, b, f, LA, ln, lc⟩ v = 0) := by show _ = _; unfold valE; rw [if_pos hc, if_pos rfl, if_pos hv]
        have hV : Hid (valV ⟨3, nm, op, vl, fo, a, b, f, LA, ln, lc⟩ v = suitsF op vl fo v) := by show _ = _; unfold valV; rw [if_pos hE.out]
        have hc' := hide hc
        have hsz' := hide hsz
        have hvv : decide (400 < (v.size : Int)) = false := by rw [decide_eq_false_iff_not]; omega
        clear hc hsz
        go_enter Try.func17, Try.ntmps17
        go_wp2_with fail
        refine (scheck_ok_at 3 nm op vl fo a b f LA ln lc _ _ hc'.out).mono ?_
        rintro e w1 ⟨rfl, hb1⟩
        have hB1 := Below.on hB0 hb1
        obtain ⟨s0, s1, s2, s3, s4, s5, s6, s7, s8⟩ := hS0.out.later hb1
        clear hb1
        go_wp2_with fail
        refine (suits_ok 3 nm op vl fo a b f LA ln lc v _ (by have : vl.size ≤ 400 := hsz'.out; omega) hv (hm.out.below hB1)).mono ?_
        rintro e w2 ⟨rfl, hb2⟩
        have hB2 := Below.on hB1 hb2
        go_wp2
        go_ret2
        exact ⟨ret_bi hV.out.symm hE.out.symm, hB2⟩
      · have hE : Hid (valE ⟨3, nm, op, vl, fo, a, b, f, LA, ln, lc⟩ v = 28) := by show _ = _; unfold valE; rw [if_pos hc, if_pos rfl, if_neg hv]
        have hV : Hid (valV ⟨3, nm, op, vl, fo, a, b, f, LA, ln, lc⟩ v = false) := by show _ = _; unfold valV; rw [if_neg (by rw [hE.out]; omega)]
        have hc' := hide hc
        have hvv : decide (400 < (v.size : Int)) = true := by rw [decide_eq_true_eq]; omega
        clear hc hsz
        go_enter Try.func17, Try.ntmps17
        go_wp2_with fail
        refine (scheck_ok_at 3 nm op vl fo a b f LA ln lc _ _ hc'.out).mono ?_
        rintro e w1 ⟨rfl, hb1⟩
        have hB1 := Below.on hB0 hb1
        obtain ⟨s0, s1, s2, s3, s4, s5, s6, s7, s8⟩ := hS0.out.later hb1
        go_wp2
        go_ret2
        exact ⟨ret_bi hV.out.symm hE.out.symm, hB1⟩
    · have hE : Hid (valE ⟨k, nm, op, vl, fo, a, b, f, LA, ln, lc⟩ v = 2) := by show _ = _; unfold valE; rw [if_pos hc, if_neg hk]
      have hV : Hid (valV ⟨k, nm, op, vl, fo, a, b, f, LA, ln, lc⟩ v = false) := by show _ = _; unfold valV; rw [if_neg (by rw [hE.out]; omega)]
      have hc' := hide hc
      have hk' : (k != 3) = true := by simp [hk]
      clear hc hsz hk
      go_enter Try.func17, Try.ntmps17
      go_wp2_with fail
      refine (scheck_ok_at k nm op vl fo a b f LA ln lc _ _ hc'.out).mono ?_
      rintro e w1 ⟨rfl, hb1⟩
      have hB1 := Below.on hB0 hb1
      obtain ⟨s0, s1, s2, s3, s4, s5, s6, s7, s8⟩ := hS0.out.later hb1
      go_wp2
      go_ret2
      exact ⟨ret_bi hV.out.symm hE.out.symm, hB1⟩
  · have hE : Hid (valE ⟨k, nm, op, vl, fo, a, b, f, LA, ln, lc⟩ v = 12) := by show _ = _; unfold valE; rw [if_neg (by rw [hc]; omega)]
    have hV : Hid (valV ⟨k, nm, op, vl, fo, a, b, f, LA, ln, lc⟩ v = false) := by show _ = _; unfold valV; rw [if_neg (by rw [hE.out]; omega)]
    have hc' := hide hc
    clear hc
    go_enter Try.func17, Try.ntmps17
    go_wp2_with fail
    refine (scheck_ok_at k nm op vl fo a b f LA ln lc _ _ hc'.out).mono ?_
    rintro e w1 ⟨rfl, hb1⟩
    have hB1 := Below.on hB0 hb1
    obtain ⟨s0, s1, s2, s3, s4, s5, s6, s7, s8⟩ := hS0.out.later hb1
    clear hb1
    have hBEscheck_ok := hB1
    go_wp2
    go_ret2
    exact ⟨ret_bi hV.out.symm hE.out.symm, hBEscheck_ok⟩
set_option maxRecDepth 100000 in
set_option maxHeartbeats 1000000 in
theorem rvalue_ok (k : Int) (nm : ByteArray) (op : Int) (vl : ByteArray) (fo : Bool) (a b : Int) (f : Bool) (LA : Option Addr) (ln lc : Nat) (v : ByteArray) (w : World)  :
    Calls Try.prog 18 #[.agg #[.int .u8 k, .string nm, .int .u8 op, .string vl, .bool fo, .int .i64 a, .int .i64 b, .bool f, .slice LA ln lc], .string v] w fun r w' => r = .returned (.tuple #[.bool (valV ⟨k, nm, op, vl, fo, a, b, f, LA, ln, lc⟩ v), .int .i64 (valE ⟨k, nm, op, vl, fo, a, b, f, LA, ln, lc⟩ v)]) ∧ Below w.heap.size w w' := by
  have hB0 := below_alloc (Below.refl w.heap.size w) (.cells #[.int .u8 k, .string nm, .int .u8 op, .string vl, .bool fo, .int .i64 a, .int .i64 b, .bool f, .slice LA ln lc] 26)
  skip
  have hS0 := hide (simAt_new w k nm op vl fo a b f LA ln lc)
  rcases chkS_cases ⟨k, nm, op, vl, fo, a, b, f, LA, ln, lc⟩ with hc | hc
  · have hsz := (chkS_val hc).1
    by_cases hk : k = 3
    · subst hk
      by_cases hv : v.size ≤ 400
      · have hE : Hid (valE ⟨3, nm, op, vl, fo, a, b, f, LA, ln, lc⟩ v = 0) := by show _ = _; unfold valE; rw [if_pos hc, if_pos rfl, if_pos hv]
        have hV : Hid (valV ⟨3, nm, op, vl, fo, a, b, f, LA, ln, lc⟩ v = suitsF op vl fo v) := by show _ = _; unfold valV; rw [if_pos hE.out]
        have hc' := hide hc
        have hsz' := hide hsz
        have hvv : decide (400 < (v.size : Int)) = false := by rw [decide_eq_false_iff_not]; omega
        clear hc hsz
        go_enter Try.func18, Try.ntmps18
        go_wp2_with fail
        refine (rscheck_ok_at 3 nm op vl fo a b f LA ln lc _ _ hc'.out).mono ?_
        rintro e w1 ⟨rfl, hb1⟩
        have hB1 := Below.on hB0 hb1
        obtain ⟨s0, s1, s2, s3, s4, s5, s6, s7, s8⟩ := hS0.out.later hb1
        clear hb1
        go_wp2_with fail
        refine (rsuits_ok 3 nm op vl fo a b f LA ln lc v _ (by have : vl.size ≤ 400 := hsz'.out; omega) hv ).mono ?_
        rintro e w2 ⟨rfl, hb2⟩
        have hB2 := Below.on hB1 hb2
        go_wp2
        go_ret2
        exact ⟨ret_bi hV.out.symm hE.out.symm, hB2⟩
      · have hE : Hid (valE ⟨3, nm, op, vl, fo, a, b, f, LA, ln, lc⟩ v = 28) := by show _ = _; unfold valE; rw [if_pos hc, if_pos rfl, if_neg hv]
        have hV : Hid (valV ⟨3, nm, op, vl, fo, a, b, f, LA, ln, lc⟩ v = false) := by show _ = _; unfold valV; rw [if_neg (by rw [hE.out]; omega)]
        have hc' := hide hc
        have hvv : decide (400 < (v.size : Int)) = true := by rw [decide_eq_true_eq]; omega
        clear hc hsz
        go_enter Try.func18, Try.ntmps18
        go_wp2_with fail
        refine (rscheck_ok_at 3 nm op vl fo a b f LA ln lc _ _ hc'.out).mono ?_
        rintro e w1 ⟨rfl, hb1⟩
        have hB1 := Below.on hB0 hb1
        obtain ⟨s0, s1, s2, s3, s4, s5, s6, s7, s8⟩ := hS0.out.later hb1
        go_wp2
        go_ret2
        exact ⟨ret_bi hV.out.symm hE.out.symm, hB1⟩
    · have hE : Hid (valE ⟨k, nm, op, vl, fo, a, b, f, LA, ln, lc⟩ v = 2) := by show _ = _; unfold valE; rw [if_pos hc, if_neg hk]
      have hV : Hid (valV ⟨k, nm, op, vl, fo, a, b, f, LA, ln, lc⟩ v = false) := by show _ = _; unfold valV; rw [if_neg (by rw [hE.out]; omega)]
      have hc' := hide hc
      have hk' : (k != 3) = true := by simp [hk]
      clear hc hsz hk
      go_enter Try.func18, Try.ntmps18
      go_wp2_with fail
      refine (rscheck_ok_at k nm op vl fo a b f LA ln lc _ _ hc'.out).mono ?_
      rintro e w1 ⟨rfl, hb1⟩
      have hB1 := Below.on hB0 hb1
      obtain ⟨s0, s1, s2, s3, s4, s5, s6, s7, s8⟩ := hS0.out.later hb1
      go_wp2
      go_ret2
      exact ⟨ret_bi hV.out.symm hE.out.symm, hB1⟩
  · have hE : Hid (valE ⟨k, nm, op, vl, fo, a, b, f, LA, ln, lc⟩ v = 12) := by show _ = _; unfold valE; rw [if_neg (by rw [hc]; omega)]
    have hV : Hid (valV ⟨k, nm, op, vl, fo, a, b, f, LA, ln, lc⟩ v = false) := by show _ = _; unfold valV; rw [if_neg (by rw [hE.out]; omega)]
    have hc' := hide hc
    clear hc
    go_enter Try.func18, Try.ntmps18
    go_wp2_with fail
    refine (rscheck_ok_at k nm op vl fo a b f LA ln lc _ _ hc'.out).mono ?_
    rintro e w1 ⟨rfl, hb1⟩
    have hB1 := Below.on hB0 hb1
    obtain ⟨s0, s1, s2, s3, s4, s5, s6, s7, s8⟩ := hS0.out.later hb1
    clear hb1
    go_wp2_with fail
    refine (rscheck_ok_at k nm op vl fo a b f LA ln lc _ _ hc'.out).mono ?_
    rintro e w2 ⟨rfl, hb2⟩
    have hBErscheck_ok := Below.on hB1 hb2
    go_wp2
    go_ret2
    exact ⟨ret_bi hV.out.symm hE.out.symm, hBErscheck_ok⟩
theorem long_ok (k : Int) (nm : ByteArray) (op : Int) (vl : ByteArray) (fo : Bool) (a b : Int) (f : Bool) (LA : Option Addr) (ln lc : Nat) (w : World) :
    Calls Try.prog 16 #[.agg #[.int .u8 k, .string nm, .int .u8 op, .string vl, .bool fo, .int .i64 a, .int .i64 b, .bool f, .slice LA ln lc]] w fun r w' => r = .returned (.bool (decide (500 < nm.size ∨ 500 < vl.size ∨ 100 < ln))) ∧ Below w.heap.size w w' := by
  have hB0 := below_alloc (Below.refl w.heap.size w) (.cells #[.int .u8 k, .string nm, .int .u8 op, .string vl, .bool fo, .int .i64 a, .int .i64 b, .bool f, .slice LA ln lc] 26)
  by_cases h1 : 500 < nm.size
  · have hr : Hid (decide (500 < nm.size ∨ 500 < vl.size ∨ 100 < ln) = true) := by show _ = _; rw [decide_eq_true_eq]; exact .inl h1
    have g1 : decide (500 < (nm.size : Int)) = true := by rw [decide_eq_true_eq]; omega
    go_enter Try.func16, Try.ntmps16
    go_wp2
    go_ret
    exact ⟨ret_bool hr.out.symm, hB0⟩
  · have g1 : decide (500 < (nm.size : Int)) = false := by rw [decide_eq_false_iff_not]; omega
    by_cases h2 : 500 < vl.size
    · have hr : Hid (decide (500 < nm.size ∨ 500 < vl.size ∨ 100 < ln) = true) := by show _ = _; rw [decide_eq_true_eq]; exact .inr (.inl h2)
      have g2 : decide (500 < (vl.size : Int)) = true := by rw [decide_eq_true_eq]; omega
      go_enter Try.func16, Try.ntmps16
      go_wp2
      go_ret
      exact ⟨ret_bool hr.out.symm, hB0⟩
    · have g2 : decide (500 < (vl.size : Int)) = false := by rw [decide_eq_false_iff_not]; omega
      have hr : Hid (decide (500 < nm.size ∨ 500 < vl.size ∨ 100 < ln) = decide (100 < (ln : Int))) := by show _ = _; rw [decide_eq_decide]; omega
      go_enter Try.func16, Try.ntmps16
      go_wp2
      go_ret
      exact ⟨ret_bool hr.out.symm, hB0⟩
end Go.Proofs.Ytbedomopojiehaa
