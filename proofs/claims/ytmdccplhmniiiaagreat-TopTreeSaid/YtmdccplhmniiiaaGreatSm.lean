/- Words on memory: a simple selector; its error, by the program and by the reference. No condition. -/
import Derived.Test.YtmdccplhmniiiaaGreatBase
import Derived.Test.YtmdccplhmniiiaaGreatWf
import Derived.Lib.Strings
namespace Go.Proofs.YtmdccplhmniiiaaGreat
open Go.RowKit

/-- A simple selector; of its list only the length counts. -/
structure Sim where
  kind : Int
  name : ByteArray
  op : Int
  val : ByteArray
  fold : Bool
  a : Int
  b : Int
  of : Bool
  LA : Option Addr
  ln : Nat
  lc : Nat
def simC (s : Sim) : Array Value := #[.int .u8 s.kind, .string s.name, .int .u8 s.op, .string s.val, .bool s.fold, .int .i64 s.a, .int .i64 s.b, .bool s.of, .slice s.LA s.ln s.lc]
def okP (s : Sim) : Prop := s.a = 0 ∧ s.b = 0 ∧ s.of.toNat = 0 ∧ s.ln = 0 ∧
  ((s.kind = 3 ∧ 1 ≤ s.name.size ∧ s.name.size ≤ 400 ∧ s.op ≤ 6 ∧ s.val.size ≤ 400 ∧ (¬ s.op = 0 ∨ (s.val.size = 0 ∧ s.fold.toNat = 0))) ∨
   (¬ s.kind = 3 ∧ s.op = 0 ∧ s.val.size = 0 ∧ s.fold.toNat = 0 ∧ (((s.kind = 1 ∨ s.kind = 2) ∧ 1 ≤ s.name.size ∧ s.name.size ≤ 400) ∨ (4 ≤ s.kind ∧ s.kind ≤ 8 ∧ s.name.size = 0))))
instance (s : Sim) : Decidable (okP s) := by unfold okP; infer_instance
def okS (s : Sim) : Bool := decide (okP s)
def chkS (s : Sim) : Int := if okS s then 0 else 12
theorem chkS_yes {s : Sim} (h : okP s) : chkS s = 0 := if_pos (decide_eq_true h)
theorem chkS_no {s : Sim} (h : ¬ okP s) : chkS s = 12 := if_neg (by show ¬ decide _ = true; rw [decide_eq_true_eq]; exact h)
theorem toList_nil (s : ByteArray) : s.toList = [] ↔ s.size = 0 := by
  rw [ByteArray.toList_eq, Lib.size_eq, List.length_eq_zero_iff]
end Go.Proofs.YtmdccplhmniiiaaGreat
