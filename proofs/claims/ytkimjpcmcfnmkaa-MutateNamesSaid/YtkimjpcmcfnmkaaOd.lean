/- Walks: what is above an element, the comparison of two elements, by the program. No condition. -/
import Derived.Test.YtkimjpcmcfnmkaaOc
namespace Go.Proofs.Ytkimjpcmcfnmkaa
open Go.RowKit

theorem cmp_parts {T : List ANode} {i k : Int} (hi : askI T [i] = 0) (hk : askI T [k] = 0) : cmpE T i k = (if topF T i = topF T k then 0 else 6) := by
  unfold cmpE; rw [if_pos hi, if_pos hk]
theorem topE_ok {T : List ANode} {i : Int} (hi : askI T [i] = 0) : topE T i = topF T i := if_pos hi
theorem listE_ok {T : List ANode} {i : Int} (hi : askI T [i] = 0) : listE T i = preT T i := if_pos hi

theorem topF_ok (A : Option Addr) (n c : Nat) (T : List ANode) (i : Int) (w : World) (h : IsTree w A n T) (h0 : askI T [i] = 0) :
    Calls Try.prog 38 #[.agg #[.slice A n c], .int .i64 i] w fun e w' => e = .returned (.tuple #[.int .i64 (topF T i), .int .i64 0]) ∧ Below w.heap.size w w' := by
  have := top_ok A n c T i w h
  rw [topE_ok h0, h0] at this
  exact this
end Go.Proofs.Ytkimjpcmcfnmkaa
