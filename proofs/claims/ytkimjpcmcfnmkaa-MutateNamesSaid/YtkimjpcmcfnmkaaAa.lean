/- Walks: where an attribute is, by the program. Condition: the attributes are in order. -/
import Derived.Test.YtkimjpcmcfnmkaaAp
import Derived.Test.YtkimjpcmcfnmkaaWh
import Derived.WalkLawsBesides
namespace Go.Proofs.Ytkimjpcmcfnmkaa
open Go.RowKit

theorem ret_ib {k : IntKind} {a b : Int} {c d : Bool} (h : a = b) (h' : c = d) : Ending.returned (.tuple #[.int k a, .bool c]) = .returned (.tuple #[.int k b, .bool d]) := by rw [h, h']

end Go.Proofs.Ytkimjpcmcfnmkaa
