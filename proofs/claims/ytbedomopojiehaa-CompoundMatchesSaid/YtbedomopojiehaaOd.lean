/- Walks: what is above an element, the comparison of two elements, by the program. No condition. -/
import Derived.Test.YtbedomopojiehaaOc
namespace Go.Proofs.Ytbedomopojiehaa
open Go.RowKit

theorem cmp_parts {T : List ANode} {i k : Int} (hi : askI T [i] = 0) (hk : askI T [k] = 0) : cmpE T i k = (if topF T i = topF T k then 0 else 6) := by
  unfold cmpE; rw [if_pos hi, if_pos hk]
theorem topE_ok {T : List ANode} {i : Int} (hi : askI T [i] = 0) : topE T i = topF T i := if_pos hi
theorem listE_ok {T : List ANode} {i : Int} (hi : askI T [i] = 0) : listE T i = preT T i := if_pos hi

end Go.Proofs.Ytbedomopojiehaa
