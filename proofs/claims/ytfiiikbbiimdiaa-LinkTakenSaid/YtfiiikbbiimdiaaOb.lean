/- Walks: the sibling before and behind, by the program and by the reference; the reference's places. No condition. -/
import Derived.Test.YtfiiikbbiimdiaaOa
namespace Go.Proofs.Ytfiiikbbiimdiaa
open Go.RowKit

end Go.Proofs.Ytfiiikbbiimdiaa
