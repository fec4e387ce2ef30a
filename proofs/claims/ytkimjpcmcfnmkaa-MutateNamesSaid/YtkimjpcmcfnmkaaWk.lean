/- Walks: the program's tree with one element more. Conditions: the tree is not great, the text is a Go text. -/
import Derived.Test.YtkimjpcmcfnmkaaWj
namespace Go.Proofs.Ytkimjpcmcfnmkaa
open Go.RowKit

end Go.Proofs.Ytkimjpcmcfnmkaa
