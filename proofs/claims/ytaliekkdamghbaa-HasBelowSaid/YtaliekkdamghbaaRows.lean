/-
  No cell of these rows narrows 'for every input' (looked for: loops, veiled, ifaces, maps, wideKeys, modest, calm, conditions, laid).
  DERIVED. THE GIVEN ROWS OF THIS SEAT. 12 by the template 'for every input the law returns true; each argument reads behind the call as it read before'; 0 by the template 'total and deterministic' (their statements: YtaliekkdamghbaaTotals.lean).
  GIVEN WITH THE SEED: the statements are not yours to turn. If you find one false, say at which input.
  Laid BY PROGRAM, IN A SANDBOX (cutbox-rows.mjs): the forced cells as the released guide's own fill.sh prints them over the translation 47621af0b3907ba3… (all of the seat's roots in one cut). By AI agents, Wed Nov 11 2026. No macro, syntax, notation, axiom, sorry.
-/
import Derived.Test.YtaliekkdamghbaaChecked
import GoSem.Claim
import GoSem.ClaimJoined
import GoSem.ClaimMapViews
import Derived.JoinedTies
import Derived.KernelRfl
namespace Go.Proofs.Ytaliekkdamghbaa
/- THE CELL 'sum', in the pinned program and in every row, IS THE sha256 OF THE DUMP (.gsa) THAT YtaliekkdamghbaaProg.lean LOADS. Nothing in Lean hashes anything: it is a label: what it is worth is what the hold of that sum in a sandbox is worth. -/
noncomputable def Try.pinned : Pinned := { name := "ytaliekkdamghbaa", sum := "47621af0b3907ba3b44d2115a449baeece71c6a5048ee533c611571770c7f7c5", checked := Try.checked }
namespace Rows
def none {H : Type} : Left H := { results := [], args := [] }

/-- 'vitrinelaw21.CombMore': WHATEVER THE INPUT: true; the input reads as it did. -/
def combMoreSpec : ChangeSpec := { name := "combMore", fn := fun _ => fun
  | [d1, d2, d3, d4, d5] => { results := [.lit (.bool true)], args := [d1, d2, d3, d4, d5] }
  | _ => none }
def combMoreRow : OpenClaim := { program := "ytaliekkdamghbaa", sum := "47621af0b3907ba3b44d2115a449baeece71c6a5048ee533c611571770c7f7c5", func := "vitrine/vitrinelaw21.CombMore", spec := "combMore", unfollowed := true, recurses := true, apart := false }
def CombMoreSaid : Prop := combMoreRow.holds Try.pinned (OpenSpec.ofChange combMoreSpec)

/-- ITS FALSE NEIGHBOUR: 'it returns false'. Refute it at one input. -/
def combMoreWrong : ChangeSpec := { name := "combMore", fn := fun _ => fun
  | [d1, d2, d3, d4, d5] => { results := [.lit (.bool false)], args := [d1, d2, d3, d4, d5] }
  | _ => none }
def CombMoreWrongFalsely : Prop := combMoreRow.holds Try.pinned (OpenSpec.ofChange combMoreWrong)

/-- 'vitrinelaw21.CombParts': WHATEVER THE INPUT: true; the input reads as it did. -/
def combPartsSpec : ChangeSpec := { name := "combParts", fn := fun _ => fun
  | [d1, d2, d3, d4] => { results := [.lit (.bool true)], args := [d1, d2, d3, d4] }
  | _ => none }
def combPartsRow : OpenClaim := { program := "ytaliekkdamghbaa", sum := "47621af0b3907ba3b44d2115a449baeece71c6a5048ee533c611571770c7f7c5", func := "vitrine/vitrinelaw21.CombParts", spec := "combParts", unfollowed := true, recurses := true, apart := false }
def CombPartsSaid : Prop := combPartsRow.holds Try.pinned (OpenSpec.ofChange combPartsSpec)

/-- ITS FALSE NEIGHBOUR: 'it returns false'. Refute it at one input. -/
def combPartsWrong : ChangeSpec := { name := "combParts", fn := fun _ => fun
  | [d1, d2, d3, d4] => { results := [.lit (.bool false)], args := [d1, d2, d3, d4] }
  | _ => none }
def CombPartsWrongFalsely : Prop := combPartsRow.holds Try.pinned (OpenSpec.ofChange combPartsWrong)

/-- 'vitrinelaw21.CombMatches': WHATEVER THE INPUT: true; the input reads as it did. -/
def combMatchesSpec : ChangeSpec := { name := "combMatches", fn := fun _ => fun
  | [d1, d2, d3, d4] => { results := [.lit (.bool true)], args := [d1, d2, d3, d4] }
  | _ => none }
def combMatchesRow : OpenClaim := { program := "ytaliekkdamghbaa", sum := "47621af0b3907ba3b44d2115a449baeece71c6a5048ee533c611571770c7f7c5", func := "vitrine/vitrinelaw21.CombMatches", spec := "combMatches", unfollowed := true, recurses := true, apart := false }
def CombMatchesSaid : Prop := combMatchesRow.holds Try.pinned (OpenSpec.ofChange combMatchesSpec)

/-- ITS FALSE NEIGHBOUR: 'it returns false'. Refute it at one input. -/
def combMatchesWrong : ChangeSpec := { name := "combMatches", fn := fun _ => fun
  | [d1, d2, d3, d4] => { results := [.lit (.bool false)], args := [d1, d2, d3, d4] }
  | _ => none }
def CombMatchesWrongFalsely : Prop := combMatchesRow.holds Try.pinned (OpenSpec.ofChange combMatchesWrong)

/-- 'vitrinelaw21.CombNames': WHATEVER THE INPUT: true; the input reads as it did. -/
def combNamesSpec : ChangeSpec := { name := "combNames", fn := fun _ => fun
  | [] => { results := [.lit (.bool true)], args := [] }
  | _ => none }
def combNamesRow : OpenClaim := { program := "ytaliekkdamghbaa", sum := "47621af0b3907ba3b44d2115a449baeece71c6a5048ee533c611571770c7f7c5", func := "vitrine/vitrinelaw21.CombNames", spec := "combNames", unfollowed := true, recurses := true, apart := false }
def CombNamesSaid : Prop := combNamesRow.holds Try.pinned (OpenSpec.ofChange combNamesSpec)

/-- ITS FALSE NEIGHBOUR: 'it returns false'. Refute it at one input. -/
def combNamesWrong : ChangeSpec := { name := "combNames", fn := fun _ => fun
  | [] => { results := [.lit (.bool false)], args := [] }
  | _ => none }
def CombNamesWrongFalsely : Prop := combNamesRow.holds Try.pinned (OpenSpec.ofChange combNamesWrong)

/-- 'vitrinelaw21.CombUp': WHATEVER THE INPUT: true; the input reads as it did. -/
def combUpSpec : ChangeSpec := { name := "combUp", fn := fun _ => fun
  | [d1, d2, d3] => { results := [.lit (.bool true)], args := [d1, d2, d3] }
  | _ => none }
def combUpRow : OpenClaim := { program := "ytaliekkdamghbaa", sum := "47621af0b3907ba3b44d2115a449baeece71c6a5048ee533c611571770c7f7c5", func := "vitrine/vitrinelaw21.CombUp", spec := "combUp", unfollowed := true, recurses := true, apart := false }
def CombUpSaid : Prop := combUpRow.holds Try.pinned (OpenSpec.ofChange combUpSpec)

/-- ITS FALSE NEIGHBOUR: 'it returns false'. Refute it at one input. -/
def combUpWrong : ChangeSpec := { name := "combUp", fn := fun _ => fun
  | [d1, d2, d3] => { results := [.lit (.bool false)], args := [d1, d2, d3] }
  | _ => none }
def CombUpWrongFalsely : Prop := combUpRow.holds Try.pinned (OpenSpec.ofChange combUpWrong)

/-- 'vitrinelaw21.CombWays': WHATEVER THE INPUT: true; the input reads as it did. -/
def combWaysSpec : ChangeSpec := { name := "combWays", fn := fun _ => fun
  | [d1, d2, d3, d4] => { results := [.lit (.bool true)], args := [d1, d2, d3, d4] }
  | _ => none }
def combWaysRow : OpenClaim := { program := "ytaliekkdamghbaa", sum := "47621af0b3907ba3b44d2115a449baeece71c6a5048ee533c611571770c7f7c5", func := "vitrine/vitrinelaw21.CombWays", spec := "combWays", unfollowed := true, recurses := true, apart := false }
def CombWaysSaid : Prop := combWaysRow.holds Try.pinned (OpenSpec.ofChange combWaysSpec)

/-- ITS FALSE NEIGHBOUR: 'it returns false'. Refute it at one input. -/
def combWaysWrong : ChangeSpec := { name := "combWays", fn := fun _ => fun
  | [d1, d2, d3, d4] => { results := [.lit (.bool false)], args := [d1, d2, d3, d4] }
  | _ => none }
def CombWaysWrongFalsely : Prop := combWaysRow.holds Try.pinned (OpenSpec.ofChange combWaysWrong)

/-- 'vitrinelaw22.HasMatches': WHATEVER THE INPUT: true; the input reads as it did. -/
def hasMatchesSpec : ChangeSpec := { name := "hasMatches", fn := fun _ => fun
  | [d1, d2, d3, d4, d5] => { results := [.lit (.bool true)], args := [d1, d2, d3, d4, d5] }
  | _ => none }
def hasMatchesRow : OpenClaim := { program := "ytaliekkdamghbaa", sum := "47621af0b3907ba3b44d2115a449baeece71c6a5048ee533c611571770c7f7c5", func := "vitrine/vitrinelaw22.HasMatches", spec := "hasMatches", unfollowed := true, recurses := true, apart := false }
def HasMatchesSaid : Prop := hasMatchesRow.holds Try.pinned (OpenSpec.ofChange hasMatchesSpec)

/-- ITS FALSE NEIGHBOUR: 'it returns false'. Refute it at one input. -/
def hasMatchesWrong : ChangeSpec := { name := "hasMatches", fn := fun _ => fun
  | [d1, d2, d3, d4, d5] => { results := [.lit (.bool false)], args := [d1, d2, d3, d4, d5] }
  | _ => none }
def HasMatchesWrongFalsely : Prop := hasMatchesRow.holds Try.pinned (OpenSpec.ofChange hasMatchesWrong)

/-- 'vitrinelaw22.HasNames': WHATEVER THE INPUT: true; the input reads as it did. -/
def hasNamesSpec : ChangeSpec := { name := "hasNames", fn := fun _ => fun
  | [] => { results := [.lit (.bool true)], args := [] }
  | _ => none }
def hasNamesRow : OpenClaim := { program := "ytaliekkdamghbaa", sum := "47621af0b3907ba3b44d2115a449baeece71c6a5048ee533c611571770c7f7c5", func := "vitrine/vitrinelaw22.HasNames", spec := "hasNames", unfollowed := true, recurses := true, apart := false }
def HasNamesSaid : Prop := hasNamesRow.holds Try.pinned (OpenSpec.ofChange hasNamesSpec)

/-- ITS FALSE NEIGHBOUR: 'it returns false'. Refute it at one input. -/
def hasNamesWrong : ChangeSpec := { name := "hasNames", fn := fun _ => fun
  | [] => { results := [.lit (.bool false)], args := [] }
  | _ => none }
def HasNamesWrongFalsely : Prop := hasNamesRow.holds Try.pinned (OpenSpec.ofChange hasNamesWrong)

/-- 'vitrinelaw22.HasMore': WHATEVER THE INPUT: true; the input reads as it did. -/
def hasMoreSpec : ChangeSpec := { name := "hasMore", fn := fun _ => fun
  | [d1, d2, d3, d4] => { results := [.lit (.bool true)], args := [d1, d2, d3, d4] }
  | _ => none }
def hasMoreRow : OpenClaim := { program := "ytaliekkdamghbaa", sum := "47621af0b3907ba3b44d2115a449baeece71c6a5048ee533c611571770c7f7c5", func := "vitrine/vitrinelaw22.HasMore", spec := "hasMore", unfollowed := true, recurses := true, apart := false }
def HasMoreSaid : Prop := hasMoreRow.holds Try.pinned (OpenSpec.ofChange hasMoreSpec)

/-- ITS FALSE NEIGHBOUR: 'it returns false'. Refute it at one input. -/
def hasMoreWrong : ChangeSpec := { name := "hasMore", fn := fun _ => fun
  | [d1, d2, d3, d4] => { results := [.lit (.bool false)], args := [d1, d2, d3, d4] }
  | _ => none }
def HasMoreWrongFalsely : Prop := hasMoreRow.holds Try.pinned (OpenSpec.ofChange hasMoreWrong)

/-- 'vitrinelaw22.HasNothing': WHATEVER THE INPUT: true; the input reads as it did. -/
def hasNothingSpec : ChangeSpec := { name := "hasNothing", fn := fun _ => fun
  | [d1, d2, d3, d4, d5, d6] => { results := [.lit (.bool true)], args := [d1, d2, d3, d4, d5, d6] }
  | _ => none }
def hasNothingRow : OpenClaim := { program := "ytaliekkdamghbaa", sum := "47621af0b3907ba3b44d2115a449baeece71c6a5048ee533c611571770c7f7c5", func := "vitrine/vitrinelaw22.HasNothing", spec := "hasNothing", unfollowed := true, recurses := true, apart := false }
def HasNothingSaid : Prop := hasNothingRow.holds Try.pinned (OpenSpec.ofChange hasNothingSpec)

/-- ITS FALSE NEIGHBOUR: 'it returns false'. Refute it at one input. -/
def hasNothingWrong : ChangeSpec := { name := "hasNothing", fn := fun _ => fun
  | [d1, d2, d3, d4, d5, d6] => { results := [.lit (.bool false)], args := [d1, d2, d3, d4, d5, d6] }
  | _ => none }
def HasNothingWrongFalsely : Prop := hasNothingRow.holds Try.pinned (OpenSpec.ofChange hasNothingWrong)

/-- 'vitrinelaw22.HasReach': WHATEVER THE INPUT: true; the input reads as it did. -/
def hasReachSpec : ChangeSpec := { name := "hasReach", fn := fun _ => fun
  | [d1, d2, d3, d4] => { results := [.lit (.bool true)], args := [d1, d2, d3, d4] }
  | _ => none }
def hasReachRow : OpenClaim := { program := "ytaliekkdamghbaa", sum := "47621af0b3907ba3b44d2115a449baeece71c6a5048ee533c611571770c7f7c5", func := "vitrine/vitrinelaw22.HasReach", spec := "hasReach", unfollowed := true, recurses := true, apart := false }
def HasReachSaid : Prop := hasReachRow.holds Try.pinned (OpenSpec.ofChange hasReachSpec)

/-- ITS FALSE NEIGHBOUR: 'it returns false'. Refute it at one input. -/
def hasReachWrong : ChangeSpec := { name := "hasReach", fn := fun _ => fun
  | [d1, d2, d3, d4] => { results := [.lit (.bool false)], args := [d1, d2, d3, d4] }
  | _ => none }
def HasReachWrongFalsely : Prop := hasReachRow.holds Try.pinned (OpenSpec.ofChange hasReachWrong)

/-- 'vitrinelaw22.HasBelow': WHATEVER THE INPUT: true; the input reads as it did. -/
def hasBelowSpec : ChangeSpec := { name := "hasBelow", fn := fun _ => fun
  | [d1, d2, d3, d4, d5] => { results := [.lit (.bool true)], args := [d1, d2, d3, d4, d5] }
  | _ => none }
def hasBelowRow : OpenClaim := { program := "ytaliekkdamghbaa", sum := "47621af0b3907ba3b44d2115a449baeece71c6a5048ee533c611571770c7f7c5", func := "vitrine/vitrinelaw22.HasBelow", spec := "hasBelow", unfollowed := true, recurses := true, apart := false }
def HasBelowSaid : Prop := hasBelowRow.holds Try.pinned (OpenSpec.ofChange hasBelowSpec)

/-- ITS FALSE NEIGHBOUR: 'it returns false'. Refute it at one input. -/
def hasBelowWrong : ChangeSpec := { name := "hasBelow", fn := fun _ => fun
  | [d1, d2, d3, d4, d5] => { results := [.lit (.bool false)], args := [d1, d2, d3, d4, d5] }
  | _ => none }
def HasBelowWrongFalsely : Prop := hasBelowRow.holds Try.pinned (OpenSpec.ofChange hasBelowWrong)

/- THE SECOND FORM. 'bulk': how many values and letters a reading holds, each counted each time it is reached (what is shared counts as often as it is met; a slice's spare places count too). A statement '..UptoSaid' is the law's where the arguments, and the package variables that the reading takes, are together of bulk at most 1048576: NARROWER than '..Said'. Prove '..Said' where nothing that the law and all that it calls make is longer than what came in: it says more and counts as full. Else prove '..UptoSaid'. A law counts once. -/
mutual
def uptoBulk {H : Type} : DataW H → Nat
  | .lit (.string bytes) => bytes.length + 1
  | .lit _ => 1
  | .nil => 1
  | .ptr d => uptoBulk d + 1
  | .slice elems spare => uptoBulkAll elems + uptoBulkAll spare + 1
  | .agg parts => uptoBulkAll parts + 1
  | .iface _ d => uptoBulk d + 1
  | .map entries => uptoBulkEntries entries + 1
  | .held _ => 1
def uptoBulkAll {H : Type} : List (DataW H) → Nat
  | [] => 0
  | d :: r => uptoBulk d + uptoBulkAll r
def uptoBulkEntries {H : Type} : List (Lit × DataW H) → Nat
  | [] => 0
  | x :: r => uptoBulkEntry x + uptoBulkEntries r
def uptoBulkEntry {H : Type} : Lit × DataW H → Nat
  | (.string bytes, d) => bytes.length + uptoBulk d + 1
  | (_, d) => uptoBulk d + 1
 end
def uptoSmall : (H : Type) → List (DataW H) → Bool := fun _ ds => decide (uptoBulkAll ds ≤ 1048576)
def OpenSpec.upto (s : _root_.Go.ChangeSpec) : _root_.Go.OpenSpec := { _root_.Go.OpenSpec.ofChange s with cond := some uptoSmall }

/-- 'vitrinelaw21.CombMore', WHERE WHAT IT READS IS OF BULK AT MOST 1048576: true; the input reads as it did. -/
def combMoreUptoRow : OpenClaim := { program := "ytaliekkdamghbaa", sum := "47621af0b3907ba3b44d2115a449baeece71c6a5048ee533c611571770c7f7c5", func := "vitrine/vitrinelaw21.CombMore", spec := "combMore", unfollowed := true, recurses := true, apart := false, narrowed := true }
def CombMoreUptoSaid : Prop := combMoreUptoRow.holds Try.pinned (OpenSpec.upto combMoreSpec)

/-- 'vitrinelaw21.CombParts', WHERE WHAT IT READS IS OF BULK AT MOST 1048576: true; the input reads as it did. -/
def combPartsUptoRow : OpenClaim := { program := "ytaliekkdamghbaa", sum := "47621af0b3907ba3b44d2115a449baeece71c6a5048ee533c611571770c7f7c5", func := "vitrine/vitrinelaw21.CombParts", spec := "combParts", unfollowed := true, recurses := true, apart := false, narrowed := true }
def CombPartsUptoSaid : Prop := combPartsUptoRow.holds Try.pinned (OpenSpec.upto combPartsSpec)

/-- 'vitrinelaw21.CombMatches', WHERE WHAT IT READS IS OF BULK AT MOST 1048576: true; the input reads as it did. -/
def combMatchesUptoRow : OpenClaim := { program := "ytaliekkdamghbaa", sum := "47621af0b3907ba3b44d2115a449baeece71c6a5048ee533c611571770c7f7c5", func := "vitrine/vitrinelaw21.CombMatches", spec := "combMatches", unfollowed := true, recurses := true, apart := false, narrowed := true }
def CombMatchesUptoSaid : Prop := combMatchesUptoRow.holds Try.pinned (OpenSpec.upto combMatchesSpec)

/-- 'vitrinelaw21.CombNames', WHERE WHAT IT READS IS OF BULK AT MOST 1048576: true; the input reads as it did. -/
def combNamesUptoRow : OpenClaim := { program := "ytaliekkdamghbaa", sum := "47621af0b3907ba3b44d2115a449baeece71c6a5048ee533c611571770c7f7c5", func := "vitrine/vitrinelaw21.CombNames", spec := "combNames", unfollowed := true, recurses := true, apart := false, narrowed := true }
def CombNamesUptoSaid : Prop := combNamesUptoRow.holds Try.pinned (OpenSpec.upto combNamesSpec)

/-- 'vitrinelaw21.CombUp', WHERE WHAT IT READS IS OF BULK AT MOST 1048576: true; the input reads as it did. -/
def combUpUptoRow : OpenClaim := { program := "ytaliekkdamghbaa", sum := "47621af0b3907ba3b44d2115a449baeece71c6a5048ee533c611571770c7f7c5", func := "vitrine/vitrinelaw21.CombUp", spec := "combUp", unfollowed := true, recurses := true, apart := false, narrowed := true }
def CombUpUptoSaid : Prop := combUpUptoRow.holds Try.pinned (OpenSpec.upto combUpSpec)

/-- 'vitrinelaw21.CombWays', WHERE WHAT IT READS IS OF BULK AT MOST 1048576: true; the input reads as it did. -/
def combWaysUptoRow : OpenClaim := { program := "ytaliekkdamghbaa", sum := "47621af0b3907ba3b44d2115a449baeece71c6a5048ee533c611571770c7f7c5", func := "vitrine/vitrinelaw21.CombWays", spec := "combWays", unfollowed := true, recurses := true, apart := false, narrowed := true }
def CombWaysUptoSaid : Prop := combWaysUptoRow.holds Try.pinned (OpenSpec.upto combWaysSpec)

/-- 'vitrinelaw22.HasMatches', WHERE WHAT IT READS IS OF BULK AT MOST 1048576: true; the input reads as it did. -/
def hasMatchesUptoRow : OpenClaim := { program := "ytaliekkdamghbaa", sum := "47621af0b3907ba3b44d2115a449baeece71c6a5048ee533c611571770c7f7c5", func := "vitrine/vitrinelaw22.HasMatches", spec := "hasMatches", unfollowed := true, recurses := true, apart := false, narrowed := true }
def HasMatchesUptoSaid : Prop := hasMatchesUptoRow.holds Try.pinned (OpenSpec.upto hasMatchesSpec)

/-- 'vitrinelaw22.HasNames', WHERE WHAT IT READS IS OF BULK AT MOST 1048576: true; the input reads as it did. -/
def hasNamesUptoRow : OpenClaim := { program := "ytaliekkdamghbaa", sum := "47621af0b3907ba3b44d2115a449baeece71c6a5048ee533c611571770c7f7c5", func := "vitrine/vitrinelaw22.HasNames", spec := "hasNames", unfollowed := true, recurses := true, apart := false, narrowed := true }
def HasNamesUptoSaid : Prop := hasNamesUptoRow.holds Try.pinned (OpenSpec.upto hasNamesSpec)

/-- 'vitrinelaw22.HasMore', WHERE WHAT IT READS IS OF BULK AT MOST 1048576: true; the input reads as it did. -/
def hasMoreUptoRow : OpenClaim := { program := "ytaliekkdamghbaa", sum := "47621af0b3907ba3b44d2115a449baeece71c6a5048ee533c611571770c7f7c5", func := "vitrine/vitrinelaw22.HasMore", spec := "hasMore", unfollowed := true, recurses := true, apart := false, narrowed := true }
def HasMoreUptoSaid : Prop := hasMoreUptoRow.holds Try.pinned (OpenSpec.upto hasMoreSpec)

/-- 'vitrinelaw22.HasNothing', WHERE WHAT IT READS IS OF BULK AT MOST 1048576: true; the input reads as it did. -/
def hasNothingUptoRow : OpenClaim := { program := "ytaliekkdamghbaa", sum := "47621af0b3907ba3b44d2115a449baeece71c6a5048ee533c611571770c7f7c5", func := "vitrine/vitrinelaw22.HasNothing", spec := "hasNothing", unfollowed := true, recurses := true, apart := false, narrowed := true }
def HasNothingUptoSaid : Prop := hasNothingUptoRow.holds Try.pinned (OpenSpec.upto hasNothingSpec)

/-- 'vitrinelaw22.HasReach', WHERE WHAT IT READS IS OF BULK AT MOST 1048576: true; the input reads as it did. -/
def hasReachUptoRow : OpenClaim := { program := "ytaliekkdamghbaa", sum := "47621af0b3907ba3b44d2115a449baeece71c6a5048ee533c611571770c7f7c5", func := "vitrine/vitrinelaw22.HasReach", spec := "hasReach", unfollowed := true, recurses := true, apart := false, narrowed := true }
def HasReachUptoSaid : Prop := hasReachUptoRow.holds Try.pinned (OpenSpec.upto hasReachSpec)

/-- 'vitrinelaw22.HasBelow', WHERE WHAT IT READS IS OF BULK AT MOST 1048576: true; the input reads as it did. -/
def hasBelowUptoRow : OpenClaim := { program := "ytaliekkdamghbaa", sum := "47621af0b3907ba3b44d2115a449baeece71c6a5048ee533c611571770c7f7c5", func := "vitrine/vitrinelaw22.HasBelow", spec := "hasBelow", unfollowed := true, recurses := true, apart := false, narrowed := true }
def HasBelowUptoSaid : Prop := hasBelowUptoRow.holds Try.pinned (OpenSpec.upto hasBelowSpec)

end Rows
end Go.Proofs.Ytaliekkdamghbaa
