/- What the laws of chapter 18 share: the variable of the library holds a number in every world of a row. No condition. -/
import Derived.Test.YtbedomopojiehaaShl
import Derived.Test.YtbedomopojiehaaSs
import Derived.Test.YtbedomopojiehaaRows
import Derived.HandedShaped
import Derived.Shelf.Vars
import Derived.Test.YtbedomopojiehaaSr
import Derived.Test.YtbedomopojiehaaOpen
namespace Go.Proofs.Ytbedomopojiehaa
open Go.RowKit

set_option maxRecDepth 100000 in
theorem hasMax_of {w : World} (h : w.ShapedOpen Try.prog) : HasMax w :=
  cell_of_shapedOpen_int (t := 3) (zero := #[.int .i64 0]) h (of_decide_eq_true (by kernel_rfl)) (by kernel_rfl) rfl (by kernel_rfl) (by kernel_rfl) Try.underlying3
end Go.Proofs.Ytbedomopojiehaa
