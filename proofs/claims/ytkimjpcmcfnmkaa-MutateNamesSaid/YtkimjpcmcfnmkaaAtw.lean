/- Walks: a copy of a tree, by the program. Conditions: the tree is not great. -/
import Derived.Test.YtkimjpcmcfnmkaaWk
import Derived.Test.YtkimjpcmcfnmkaaTset
namespace Go.Proofs.Ytkimjpcmcfnmkaa
open Go.RowKit

end Go.Proofs.Ytkimjpcmcfnmkaa
