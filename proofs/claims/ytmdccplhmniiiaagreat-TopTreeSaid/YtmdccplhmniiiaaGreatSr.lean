/- Walks: whether a value suits an attribute selector, by the program and by the reference; whether a selector is long. Condition: the variable of the library that strings.Contains reads holds a number. -/
import Derived.Test.YtmdccplhmniiiaaGreatSq
import Derived.Test.YtmdccplhmniiiaaGreatSn
namespace Go.Proofs.YtmdccplhmniiiaaGreat
open Go.RowKit

/-- A simple selector in a block. -/
def SimAt (w : World) (g : Nat) (s : Sim) : Prop :=
  w.cell? ⟨g, 0, none⟩ = some (.int .u8 s.kind) ∧ w.cell? ⟨g, 1, none⟩ = some (.string s.name) ∧ w.cell? ⟨g, 2, none⟩ = some (.int .u8 s.op) ∧ w.cell? ⟨g, 3, none⟩ = some (.string s.val) ∧ w.cell? ⟨g, 4, none⟩ = some (.bool s.fold) ∧
  w.cell? ⟨g, 5, none⟩ = some (.int .i64 s.a) ∧ w.cell? ⟨g, 6, none⟩ = some (.int .i64 s.b) ∧ w.cell? ⟨g, 7, none⟩ = some (.bool s.of) ∧ w.cell? ⟨g, 8, none⟩ = some (.slice s.LA s.ln s.lc)
theorem SimAt.later {w w' : World} {g : Nat} {s : Sim} (h : SimAt w g s) (hb : Below w.heap.size w w') : SimAt w' g s := by
  obtain ⟨h0, h1, h2, h3, h4, h5, h6, h7, h8⟩ := h
  exact ⟨cell_later hb h0, cell_later hb h1, cell_later hb h2, cell_later hb h3, cell_later hb h4, cell_later hb h5, cell_later hb h6, cell_later hb h7, cell_later hb h8⟩
theorem simAt_new (w : World) (k : Int) (nm : ByteArray) (op : Int) (vl : ByteArray) (fo : Bool) (a b : Int) (f : Bool) (LA : Option Addr) (ln lc : Nat) :
    SimAt (w.alloc (.cells #[.int .u8 k, .string nm, .int .u8 op, .string vl, .bool fo, .int .i64 a, .int .i64 b, .bool f, .slice LA ln lc] 42)) w.heap.size ⟨k, nm, op, vl, fo, a, b, f, LA, ln, lc⟩ := by
  refine ⟨?_, ?_, ?_, ?_, ?_, ?_, ?_, ?_, ?_⟩
  all_goals go_simp
def valE (s : Sim) (v : ByteArray) : Int := if chkS s = 0 then (if s.kind = 3 then (if v.size ≤ 400 then 0 else 28) else 2) else 12
def valV (s : Sim) (v : ByteArray) : Bool := if valE s v = 0 then suitsF s.op s.val s.fold v else false
theorem chkS_cases (s : Sim) : chkS s = 0 ∨ chkS s = 12 := by unfold chkS; split <;> simp
theorem chkS_okP {s : Sim} (h : chkS s = 0) : okP s := by
  unfold chkS okS at h
  by_cases h1 : okP s
  · exact h1
  · rw [if_neg (by rw [decide_eq_true_eq]; exact h1)] at h
    omega
theorem chkS_val {s : Sim} (h : chkS s = 0) : s.val.size ≤ 400 ∧ s.name.size ≤ 400 := by
  have h1 := chkS_okP h
  unfold okP at h1
  omega

theorem scheck_ok_at (k : Int) (nm : ByteArray) (op : Int) (vl : ByteArray) (fo : Bool) (a b : Int) (f : Bool) (LA : Option Addr) (ln lc : Nat) (w : World) (c0 : Int) (h0 : chkS ⟨k, nm, op, vl, fo, a, b, f, LA, ln, lc⟩ = c0) :
    Calls Tryz.prog 63 #[.agg #[.int .u8 k, .string nm, .int .u8 op, .string vl, .bool fo, .int .i64 a, .int .i64 b, .bool f, .slice LA ln lc]] w fun r w' => r = .returned (.int .i64 c0) ∧ Below w.heap.size w w' := by
  have := scheck_ok k nm op vl fo a b f LA ln lc w
  rw [h0] at this
  exact this
end Go.Proofs.YtmdccplhmniiiaaGreat
