/- Walks: setting an attribute and taking it away, by the reference, with their errors. No condition but those of the inner functions. -/
import Derived.Test.YtmdccplhmniiiaaGreatRput
namespace Go.Proofs.YtmdccplhmniiiaaGreat
open Go.RowKit

end Go.Proofs.YtmdccplhmniiiaaGreat
