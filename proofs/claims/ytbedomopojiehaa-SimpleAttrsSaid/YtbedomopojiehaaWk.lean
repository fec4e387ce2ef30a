/- Walks: the program's tree with one element more. Conditions: the tree is not great, the text is a Go text. -/
import Derived.Test.YtbedomopojiehaaWj
namespace Go.Proofs.Ytbedomopojiehaa
open Go.RowKit

end Go.Proofs.Ytbedomopojiehaa
