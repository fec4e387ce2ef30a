/- Walks: where an attribute is, by the reference; links, by the program and by the reference. No condition but those of the inner functions. -/
import Derived.Test.YtkimjpcmcfnmkaaAb
namespace Go.Proofs.Ytkimjpcmcfnmkaa
open Go.RowKit

def atV (l : List (ByteArray × ByteArray)) (s : ByteArray) : Int := if hasA l s = true then (lowA l s : Int) else -1

def href : ByteArray := ⟨#[104, 114, 101, 102]⟩
/-- Whether an element of a good tree is a link. -/
def lkB (T : List ANode) (i : Nat) : Bool := hasA (atl T i) href && ((nd T i).tag.toList == ([97] : List UInt8))

end Go.Proofs.Ytkimjpcmcfnmkaa
