/- Walks: the sibling before and behind, by the program and by the reference; the reference's places. No condition. -/
import Derived.Test.YtbedomopojiehaaOa
namespace Go.Proofs.Ytbedomopojiehaa
open Go.RowKit

end Go.Proofs.Ytbedomopojiehaa
