/- Walks: lists in document order, what is above an element, the comparison of two elements, by the program. No condition. -/
import Derived.Test.YtbedomopojiehaaPush
import Derived.Test.YtbedomopojiehaaPreb
import Derived.Test.YtbedomopojiehaaOa
import Derived.Test.YtbedomopojiehaaWi
import Derived.Laws.EntriesVeiled
namespace Go.Proofs.Ytbedomopojiehaa
open Go.RowKit

theorem blk_below {w w1 : World} {o1 : Obj} {g : Nat} {o : Obj} (hb : Below (w.alloc o1).heap.size (w.alloc o1) w1) (h : (w.alloc o1).heap[g]? = some o) : w1.heap[g]? = some o := by
  rw [hb.block g (lt_of_block h)]; exact h
/-- A list and an error that come back. -/
def MadeIntsE (w : World) (xs : List Int) (code : Int) (e : Ending) (w' : World) : Prop :=
  ∃ (A : Option Addr) (c : Nat), e = .returned (.tuple #[.slice A xs.length c, .int .i64 code]) ∧ IsInts w' A xs.length xs ∧ xs.length ≤ c ∧ c ≤ maxLen ∧ Below w.heap.size w w'
theorem madeIntsE_nil {w w' : World} {code : Int} (hb : Below w.heap.size w w') : MadeIntsE w [] code (.returned (.tuple #[.slice none 0 0, .int .i64 code])) w' :=
  ⟨none, 0, rfl, ⟨rfl, by simp, fun h => absurd h (by simp)⟩, Nat.le_refl _, Nat.zero_le _, hb⟩

end Go.Proofs.Ytbedomopojiehaa
/- Walks: what is above an element, the comparison of two elements, by the program. No condition. -/
namespace Go.Proofs.Ytbedomopojiehaa
open Go.RowKit

theorem cmp_parts {T : List ANode} {i k : Int} (hi : askI T [i] = 0) (hk : askI T [k] = 0) : cmpE T i k = (if topF T i = topF T k then 0 else 6) := by
  unfold cmpE; rw [if_pos hi, if_pos hk]
theorem topE_ok {T : List ANode} {i : Int} (hi : askI T [i] = 0) : topE T i = topF T i := if_pos hi
theorem listE_ok {T : List ANode} {i : Int} (hi : askI T [i] = 0) : listE T i = preT T i := if_pos hi

end Go.Proofs.Ytbedomopojiehaa
