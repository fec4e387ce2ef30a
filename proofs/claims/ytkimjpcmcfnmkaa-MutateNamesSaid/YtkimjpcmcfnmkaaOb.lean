/- Walks: the sibling before and behind, by the program and by the reference; the reference's places. No condition. -/
import Derived.Test.YtkimjpcmcfnmkaaOa
namespace Go.Proofs.Ytkimjpcmcfnmkaa
open Go.RowKit

end Go.Proofs.Ytkimjpcmcfnmkaa
