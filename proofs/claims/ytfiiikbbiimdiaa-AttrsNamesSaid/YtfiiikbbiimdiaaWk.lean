/- Walks: the program's tree with one element more. Conditions: the tree is not great, the text is a Go text. -/
import Derived.Test.YtfiiikbbiimdiaaWj
namespace Go.Proofs.Ytfiiikbbiimdiaa
open Go.RowKit

end Go.Proofs.Ytfiiikbbiimdiaa
