/-
  NARROWER THAN 'FOR EVERY INPUT', by the rows' own cells (each row's printed sentence says how): SimpleValues: loops · SimpleMatches: loops · SimpleModes: loops · CompoundMatches: loops · CompoundAll: loops · CompoundEach: loops · CompoundOrder: loops.
  DERIVED. THE GIVEN ROWS OF THIS SEAT. 13 by the template 'for every input the law returns true; each argument reads behind the call as it read before'; 0 by the template 'total and deterministic' (their statements: YtbedomopojiehaaTotals.lean).
  GIVEN WITH THE SEED: the statements are not yours to turn. If you find one false, say at which input.
  Laid BY PROGRAM, IN A SANDBOX (cutbox-rows.mjs): the forced cells as the released guide's own fill.sh prints them over the translation 20e27b258e0f750e… (all of the seat's roots in one cut). By AI agents, Wed Nov 11 2026. No macro, syntax, notation, axiom, sorry.
-/
import Derived.Test.YtbedomopojiehaaChecked
import GoSem.Claim
import GoSem.ClaimJoined
import GoSem.ClaimMapViews
import Derived.JoinedTies
import Derived.KernelRfl
namespace Go.Proofs.Ytbedomopojiehaa
/- THE CELL 'sum', in the pinned program and in every row, IS THE sha256 OF THE DUMP (.gsa) THAT YtbedomopojiehaaProg.lean LOADS. Nothing in Lean hashes anything: it is a label: what it is worth is what the hold of that sum in a sandbox is worth. -/
noncomputable def Try.pinned : Pinned := { name := "ytbedomopojiehaa", sum := "20e27b258e0f750e86caa4c6d56613d96dbaa7244de21fb50474538087d6179e", checked := Try.checked }
namespace Rows
def none {H : Type} : Left H := { results := [], args := [] }

/-- 'vitrinelaw18.SimpleValues': WHATEVER THE INPUT: true; the input reads as it did. -/
def simpleValuesSpec : ChangeSpec := { name := "simpleValues", fn := fun _ => fun
  | [d1, d2] => { results := [.lit (.bool true)], args := [d1, d2] }
  | _ => none }
def simpleValuesRow : OpenClaim := { program := "ytbedomopojiehaa", sum := "20e27b258e0f750e86caa4c6d56613d96dbaa7244de21fb50474538087d6179e", func := "vitrine/vitrinelaw18.SimpleValues", spec := "simpleValues", inPlace := ["internal/bytealg.IndexByteString", "internal/bytealg.IndexString"], named := ["internal/bytealg.MaxLen"], loops := true, apart := false }
def SimpleValuesSaid : Prop := simpleValuesRow.holds Try.pinned (OpenSpec.ofChange simpleValuesSpec)

/-- ITS FALSE NEIGHBOUR: 'it returns false'. Refute it at one input. -/
def simpleValuesWrong : ChangeSpec := { name := "simpleValues", fn := fun _ => fun
  | [d1, d2] => { results := [.lit (.bool false)], args := [d1, d2] }
  | _ => none }
def SimpleValuesWrongFalsely : Prop := simpleValuesRow.holds Try.pinned (OpenSpec.ofChange simpleValuesWrong)

/-- 'vitrinelaw18.SimpleSuits': WHATEVER THE INPUT: true; the input reads as it did. -/
def simpleSuitsSpec : ChangeSpec := { name := "simpleSuits", fn := fun _ => fun
  | [d1, d2] => { results := [.lit (.bool true)], args := [d1, d2] }
  | _ => none }
def simpleSuitsRow : OpenClaim := { program := "ytbedomopojiehaa", sum := "20e27b258e0f750e86caa4c6d56613d96dbaa7244de21fb50474538087d6179e", func := "vitrine/vitrinelaw18.SimpleSuits", spec := "simpleSuits", inPlace := ["internal/bytealg.IndexByteString", "internal/bytealg.IndexString"], named := ["internal/bytealg.MaxLen"], apart := false }
def SimpleSuitsSaid : Prop := simpleSuitsRow.holds Try.pinned (OpenSpec.ofChange simpleSuitsSpec)

/-- ITS FALSE NEIGHBOUR: 'it returns false'. Refute it at one input. -/
def simpleSuitsWrong : ChangeSpec := { name := "simpleSuits", fn := fun _ => fun
  | [d1, d2] => { results := [.lit (.bool false)], args := [d1, d2] }
  | _ => none }
def SimpleSuitsWrongFalsely : Prop := simpleSuitsRow.holds Try.pinned (OpenSpec.ofChange simpleSuitsWrong)

/-- 'vitrinelaw18.SimpleMatches': WHATEVER THE INPUT: true; the input reads as it did. -/
def simpleMatchesSpec : ChangeSpec := { name := "simpleMatches", fn := fun _ => fun
  | [d1, d2, d3, d4] => { results := [.lit (.bool true)], args := [d1, d2, d3, d4] }
  | _ => none }
def simpleMatchesRow : OpenClaim := { program := "ytbedomopojiehaa", sum := "20e27b258e0f750e86caa4c6d56613d96dbaa7244de21fb50474538087d6179e", func := "vitrine/vitrinelaw18.SimpleMatches", spec := "simpleMatches", inPlace := ["internal/bytealg.abigen_runtime_cmpstring", "internal/bytealg.IndexByteString", "internal/bytealg.IndexString"], unfollowed := true, recurses := true, named := ["internal/bytealg.MaxLen"], loops := true, apart := false }
def SimpleMatchesSaid : Prop := simpleMatchesRow.holds Try.pinned (OpenSpec.ofChange simpleMatchesSpec)

/-- ITS FALSE NEIGHBOUR: 'it returns false'. Refute it at one input. -/
def simpleMatchesWrong : ChangeSpec := { name := "simpleMatches", fn := fun _ => fun
  | [d1, d2, d3, d4] => { results := [.lit (.bool false)], args := [d1, d2, d3, d4] }
  | _ => none }
def SimpleMatchesWrongFalsely : Prop := simpleMatchesRow.holds Try.pinned (OpenSpec.ofChange simpleMatchesWrong)

/-- 'vitrinelaw18.SimpleVisited': WHATEVER THE INPUT: true; the input reads as it did. -/
def simpleVisitedSpec : ChangeSpec := { name := "simpleVisited", fn := fun _ => fun
  | [d1, d2] => { results := [.lit (.bool true)], args := [d1, d2] }
  | _ => none }
def simpleVisitedRow : OpenClaim := { program := "ytbedomopojiehaa", sum := "20e27b258e0f750e86caa4c6d56613d96dbaa7244de21fb50474538087d6179e", func := "vitrine/vitrinelaw18.SimpleVisited", spec := "simpleVisited", inPlace := ["internal/bytealg.IndexByteString", "internal/bytealg.IndexString", "internal/bytealg.abigen_runtime_cmpstring"], unfollowed := true, recurses := true, named := ["internal/bytealg.MaxLen"], apart := false }
def SimpleVisitedSaid : Prop := simpleVisitedRow.holds Try.pinned (OpenSpec.ofChange simpleVisitedSpec)

/-- ITS FALSE NEIGHBOUR: 'it returns false'. Refute it at one input. -/
def simpleVisitedWrong : ChangeSpec := { name := "simpleVisited", fn := fun _ => fun
  | [d1, d2] => { results := [.lit (.bool false)], args := [d1, d2] }
  | _ => none }
def SimpleVisitedWrongFalsely : Prop := simpleVisitedRow.holds Try.pinned (OpenSpec.ofChange simpleVisitedWrong)

/-- 'vitrinelaw18.SimpleNames': WHATEVER THE INPUT: true; the input reads as it did. -/
def simpleNamesSpec : ChangeSpec := { name := "simpleNames", fn := fun _ => fun
  | [] => { results := [.lit (.bool true)], args := [] }
  | _ => none }
def simpleNamesRow : OpenClaim := { program := "ytbedomopojiehaa", sum := "20e27b258e0f750e86caa4c6d56613d96dbaa7244de21fb50474538087d6179e", func := "vitrine/vitrinelaw18.SimpleNames", spec := "simpleNames", inPlace := ["internal/bytealg.abigen_runtime_cmpstring", "internal/bytealg.IndexByteString", "internal/bytealg.IndexString"], unfollowed := true, recurses := true, named := ["internal/bytealg.MaxLen"], apart := false }
def SimpleNamesSaid : Prop := simpleNamesRow.holds Try.pinned (OpenSpec.ofChange simpleNamesSpec)

/-- ITS FALSE NEIGHBOUR: 'it returns false'. Refute it at one input. -/
def simpleNamesWrong : ChangeSpec := { name := "simpleNames", fn := fun _ => fun
  | [] => { results := [.lit (.bool false)], args := [] }
  | _ => none }
def SimpleNamesWrongFalsely : Prop := simpleNamesRow.holds Try.pinned (OpenSpec.ofChange simpleNamesWrong)

/-- 'vitrinelaw18.SimpleModes': WHATEVER THE INPUT: true; the input reads as it did. -/
def simpleModesSpec : ChangeSpec := { name := "simpleModes", fn := fun _ => fun
  | [d1, d2, d3, d4, d5] => { results := [.lit (.bool true)], args := [d1, d2, d3, d4, d5] }
  | _ => none }
def simpleModesRow : OpenClaim := { program := "ytbedomopojiehaa", sum := "20e27b258e0f750e86caa4c6d56613d96dbaa7244de21fb50474538087d6179e", func := "vitrine/vitrinelaw18.SimpleModes", spec := "simpleModes", inPlace := ["internal/bytealg.IndexByteString", "internal/bytealg.IndexString", "internal/bytealg.abigen_runtime_cmpstring"], unfollowed := true, recurses := true, named := ["internal/bytealg.MaxLen"], loops := true, apart := false }
def SimpleModesSaid : Prop := simpleModesRow.holds Try.pinned (OpenSpec.ofChange simpleModesSpec)

/-- ITS FALSE NEIGHBOUR: 'it returns false'. Refute it at one input. -/
def simpleModesWrong : ChangeSpec := { name := "simpleModes", fn := fun _ => fun
  | [d1, d2, d3, d4, d5] => { results := [.lit (.bool false)], args := [d1, d2, d3, d4, d5] }
  | _ => none }
def SimpleModesWrongFalsely : Prop := simpleModesRow.holds Try.pinned (OpenSpec.ofChange simpleModesWrong)

/-- 'vitrinelaw19.CompoundMatches': WHATEVER THE INPUT: true; the input reads as it did. -/
def compoundMatchesSpec : ChangeSpec := { name := "compoundMatches", fn := fun _ => fun
  | [d1, d2, d3, d4, d5] => { results := [.lit (.bool true)], args := [d1, d2, d3, d4, d5] }
  | _ => none }
def compoundMatchesRow : OpenClaim := { program := "ytbedomopojiehaa", sum := "20e27b258e0f750e86caa4c6d56613d96dbaa7244de21fb50474538087d6179e", func := "vitrine/vitrinelaw19.CompoundMatches", spec := "compoundMatches", inPlace := ["internal/bytealg.abigen_runtime_cmpstring", "internal/bytealg.IndexByteString", "internal/bytealg.IndexString"], unfollowed := true, recurses := true, named := ["internal/bytealg.MaxLen"], loops := true, apart := false }
def CompoundMatchesSaid : Prop := compoundMatchesRow.holds Try.pinned (OpenSpec.ofChange compoundMatchesSpec)

/-- ITS FALSE NEIGHBOUR: 'it returns false'. Refute it at one input. -/
def compoundMatchesWrong : ChangeSpec := { name := "compoundMatches", fn := fun _ => fun
  | [d1, d2, d3, d4, d5] => { results := [.lit (.bool false)], args := [d1, d2, d3, d4, d5] }
  | _ => none }
def CompoundMatchesWrongFalsely : Prop := compoundMatchesRow.holds Try.pinned (OpenSpec.ofChange compoundMatchesWrong)

/-- 'vitrinelaw19.CompoundAll': WHATEVER THE INPUT: true; the input reads as it did. -/
def compoundAllSpec : ChangeSpec := { name := "compoundAll", fn := fun _ => fun
  | [d1, d2, d3, d4] => { results := [.lit (.bool true)], args := [d1, d2, d3, d4] }
  | _ => none }
def compoundAllRow : OpenClaim := { program := "ytbedomopojiehaa", sum := "20e27b258e0f750e86caa4c6d56613d96dbaa7244de21fb50474538087d6179e", func := "vitrine/vitrinelaw19.CompoundAll", spec := "compoundAll", inPlace := ["internal/bytealg.abigen_runtime_cmpstring", "internal/bytealg.IndexByteString", "internal/bytealg.IndexString"], unfollowed := true, recurses := true, named := ["internal/bytealg.MaxLen"], loops := true, apart := false }
def CompoundAllSaid : Prop := compoundAllRow.holds Try.pinned (OpenSpec.ofChange compoundAllSpec)

/-- ITS FALSE NEIGHBOUR: 'it returns false'. Refute it at one input. -/
def compoundAllWrong : ChangeSpec := { name := "compoundAll", fn := fun _ => fun
  | [d1, d2, d3, d4] => { results := [.lit (.bool false)], args := [d1, d2, d3, d4] }
  | _ => none }
def CompoundAllWrongFalsely : Prop := compoundAllRow.holds Try.pinned (OpenSpec.ofChange compoundAllWrong)

/-- 'vitrinelaw19.CompoundNames': WHATEVER THE INPUT: true; the input reads as it did. -/
def compoundNamesSpec : ChangeSpec := { name := "compoundNames", fn := fun _ => fun
  | [] => { results := [.lit (.bool true)], args := [] }
  | _ => none }
def compoundNamesRow : OpenClaim := { program := "ytbedomopojiehaa", sum := "20e27b258e0f750e86caa4c6d56613d96dbaa7244de21fb50474538087d6179e", func := "vitrine/vitrinelaw19.CompoundNames", spec := "compoundNames", inPlace := ["internal/bytealg.abigen_runtime_cmpstring", "internal/bytealg.IndexByteString", "internal/bytealg.IndexString"], unfollowed := true, recurses := true, named := ["internal/bytealg.MaxLen"], apart := false }
def CompoundNamesSaid : Prop := compoundNamesRow.holds Try.pinned (OpenSpec.ofChange compoundNamesSpec)

/-- ITS FALSE NEIGHBOUR: 'it returns false'. Refute it at one input. -/
def compoundNamesWrong : ChangeSpec := { name := "compoundNames", fn := fun _ => fun
  | [] => { results := [.lit (.bool false)], args := [] }
  | _ => none }
def CompoundNamesWrongFalsely : Prop := compoundNamesRow.holds Try.pinned (OpenSpec.ofChange compoundNamesWrong)

/-- 'vitrinelaw19.CompoundEach': WHATEVER THE INPUT: true; the input reads as it did. -/
def compoundEachSpec : ChangeSpec := { name := "compoundEach", fn := fun _ => fun
  | [d1, d2, d3, d4, d5] => { results := [.lit (.bool true)], args := [d1, d2, d3, d4, d5] }
  | _ => none }
def compoundEachRow : OpenClaim := { program := "ytbedomopojiehaa", sum := "20e27b258e0f750e86caa4c6d56613d96dbaa7244de21fb50474538087d6179e", func := "vitrine/vitrinelaw19.CompoundEach", spec := "compoundEach", inPlace := ["internal/bytealg.abigen_runtime_cmpstring", "internal/bytealg.IndexByteString", "internal/bytealg.IndexString"], unfollowed := true, recurses := true, named := ["internal/bytealg.MaxLen"], loops := true, apart := false }
def CompoundEachSaid : Prop := compoundEachRow.holds Try.pinned (OpenSpec.ofChange compoundEachSpec)

/-- ITS FALSE NEIGHBOUR: 'it returns false'. Refute it at one input. -/
def compoundEachWrong : ChangeSpec := { name := "compoundEach", fn := fun _ => fun
  | [d1, d2, d3, d4, d5] => { results := [.lit (.bool false)], args := [d1, d2, d3, d4, d5] }
  | _ => none }
def CompoundEachWrongFalsely : Prop := compoundEachRow.holds Try.pinned (OpenSpec.ofChange compoundEachWrong)

/-- 'vitrinelaw19.CompoundOrder': WHATEVER THE INPUT: true; the input reads as it did. -/
def compoundOrderSpec : ChangeSpec := { name := "compoundOrder", fn := fun _ => fun
  | [d1, d2, d3, d4, d5, d6] => { results := [.lit (.bool true)], args := [d1, d2, d3, d4, d5, d6] }
  | _ => none }
def compoundOrderRow : OpenClaim := { program := "ytbedomopojiehaa", sum := "20e27b258e0f750e86caa4c6d56613d96dbaa7244de21fb50474538087d6179e", func := "vitrine/vitrinelaw19.CompoundOrder", spec := "compoundOrder", inPlace := ["internal/bytealg.abigen_runtime_cmpstring", "internal/bytealg.IndexByteString", "internal/bytealg.IndexString"], unfollowed := true, recurses := true, named := ["internal/bytealg.MaxLen"], loops := true, apart := false }
def CompoundOrderSaid : Prop := compoundOrderRow.holds Try.pinned (OpenSpec.ofChange compoundOrderSpec)

/-- ITS FALSE NEIGHBOUR: 'it returns false'. Refute it at one input. -/
def compoundOrderWrong : ChangeSpec := { name := "compoundOrder", fn := fun _ => fun
  | [d1, d2, d3, d4, d5, d6] => { results := [.lit (.bool false)], args := [d1, d2, d3, d4, d5, d6] }
  | _ => none }
def CompoundOrderWrongFalsely : Prop := compoundOrderRow.holds Try.pinned (OpenSpec.ofChange compoundOrderWrong)

/-- 'vitrinelaw19.CompoundTags': WHATEVER THE INPUT: true; the input reads as it did. -/
def compoundTagsSpec : ChangeSpec := { name := "compoundTags", fn := fun _ => fun
  | [d1, d2, d3] => { results := [.lit (.bool true)], args := [d1, d2, d3] }
  | _ => none }
def compoundTagsRow : OpenClaim := { program := "ytbedomopojiehaa", sum := "20e27b258e0f750e86caa4c6d56613d96dbaa7244de21fb50474538087d6179e", func := "vitrine/vitrinelaw19.CompoundTags", spec := "compoundTags", inPlace := ["internal/bytealg.abigen_runtime_cmpstring", "internal/bytealg.IndexByteString", "internal/bytealg.IndexString"], unfollowed := true, recurses := true, named := ["internal/bytealg.MaxLen"], apart := false }
def CompoundTagsSaid : Prop := compoundTagsRow.holds Try.pinned (OpenSpec.ofChange compoundTagsSpec)

/-- ITS FALSE NEIGHBOUR: 'it returns false'. Refute it at one input. -/
def compoundTagsWrong : ChangeSpec := { name := "compoundTags", fn := fun _ => fun
  | [d1, d2, d3] => { results := [.lit (.bool false)], args := [d1, d2, d3] }
  | _ => none }
def CompoundTagsWrongFalsely : Prop := compoundTagsRow.holds Try.pinned (OpenSpec.ofChange compoundTagsWrong)

/-- 'vitrinelaw18.SimpleAttrs': WHATEVER THE INPUT: true; the input reads as it did. -/
def simpleAttrsSpec : ChangeSpec := { name := "simpleAttrs", fn := fun _ => fun
  | [d1, d2, d3, d4, d5, d6] => { results := [.lit (.bool true)], args := [d1, d2, d3, d4, d5, d6] }
  | _ => none }
def simpleAttrsRow : OpenClaim := { program := "ytbedomopojiehaa", sum := "20e27b258e0f750e86caa4c6d56613d96dbaa7244de21fb50474538087d6179e", func := "vitrine/vitrinelaw18.SimpleAttrs", spec := "simpleAttrs", inPlace := ["internal/bytealg.IndexByteString", "internal/bytealg.IndexString", "internal/bytealg.abigen_runtime_cmpstring", "slices.overlaps[vitrine/api.Attr]"], unfollowed := true, recurses := true, named := ["internal/bytealg.MaxLen"], apart := false }
def SimpleAttrsSaid : Prop := simpleAttrsRow.holds Try.pinned (OpenSpec.ofChange simpleAttrsSpec)

/-- ITS FALSE NEIGHBOUR: 'it returns false'. Refute it at one input. -/
def simpleAttrsWrong : ChangeSpec := { name := "simpleAttrs", fn := fun _ => fun
  | [d1, d2, d3, d4, d5, d6] => { results := [.lit (.bool false)], args := [d1, d2, d3, d4, d5, d6] }
  | _ => none }
def SimpleAttrsWrongFalsely : Prop := simpleAttrsRow.holds Try.pinned (OpenSpec.ofChange simpleAttrsWrong)

/- THE SECOND FORM. 'bulk': how many values and letters a reading holds, each counted each time it is reached (what is shared counts as often as it is met; a slice's spare places count too). A statement '..UptoSaid' is the law's where the arguments, and the package variables that the reading takes, are together of bulk at most 1048576: NARROWER than '..Said'. Prove '..Said' where nothing that the law and all that it calls make is longer than what came in: it says more and counts as full. Else prove '..UptoSaid'. A law counts once. -/
mutual
def uptoBulk {H : Type} : DataW H → Nat
  | .lit (.string bytes) => bytes.length + 1
  | .lit _ => 1
  | .nil => 1
  | .ptr d => uptoBulk d + 1
  | .slice elems spare => uptoBulkAll elems + uptoBulkAll spare + 1
  | .agg parts => uptoBulkAll parts + 1
  | .iface _ d => uptoBulk d + 1
  | .map entries => uptoBulkEntries entries + 1
  | .held _ => 1
def uptoBulkAll {H : Type} : List (DataW H) → Nat
  | [] => 0
  | d :: r => uptoBulk d + uptoBulkAll r
def uptoBulkEntries {H : Type} : List (Lit × DataW H) → Nat
  | [] => 0
  | x :: r => uptoBulkEntry x + uptoBulkEntries r
def uptoBulkEntry {H : Type} : Lit × DataW H → Nat
  | (.string bytes, d) => bytes.length + uptoBulk d + 1
  | (_, d) => uptoBulk d + 1
 end
def uptoSmall : (H : Type) → List (DataW H) → Bool := fun _ ds => decide (uptoBulkAll ds ≤ 1048576)
def OpenSpec.upto (s : _root_.Go.ChangeSpec) : _root_.Go.OpenSpec := { _root_.Go.OpenSpec.ofChange s with cond := some uptoSmall }

/-- 'vitrinelaw18.SimpleValues', WHERE WHAT IT READS IS OF BULK AT MOST 1048576: true; the input reads as it did. -/
def simpleValuesUptoRow : OpenClaim := { program := "ytbedomopojiehaa", sum := "20e27b258e0f750e86caa4c6d56613d96dbaa7244de21fb50474538087d6179e", func := "vitrine/vitrinelaw18.SimpleValues", spec := "simpleValues", inPlace := ["internal/bytealg.IndexByteString", "internal/bytealg.IndexString"], named := ["internal/bytealg.MaxLen"], loops := true, apart := false, narrowed := true }
def SimpleValuesUptoSaid : Prop := simpleValuesUptoRow.holds Try.pinned (OpenSpec.upto simpleValuesSpec)

/-- 'vitrinelaw18.SimpleSuits', WHERE WHAT IT READS IS OF BULK AT MOST 1048576: true; the input reads as it did. -/
def simpleSuitsUptoRow : OpenClaim := { program := "ytbedomopojiehaa", sum := "20e27b258e0f750e86caa4c6d56613d96dbaa7244de21fb50474538087d6179e", func := "vitrine/vitrinelaw18.SimpleSuits", spec := "simpleSuits", inPlace := ["internal/bytealg.IndexByteString", "internal/bytealg.IndexString"], named := ["internal/bytealg.MaxLen"], apart := false, narrowed := true }
def SimpleSuitsUptoSaid : Prop := simpleSuitsUptoRow.holds Try.pinned (OpenSpec.upto simpleSuitsSpec)

/-- 'vitrinelaw18.SimpleMatches', WHERE WHAT IT READS IS OF BULK AT MOST 1048576: true; the input reads as it did. -/
def simpleMatchesUptoRow : OpenClaim := { program := "ytbedomopojiehaa", sum := "20e27b258e0f750e86caa4c6d56613d96dbaa7244de21fb50474538087d6179e", func := "vitrine/vitrinelaw18.SimpleMatches", spec := "simpleMatches", inPlace := ["internal/bytealg.abigen_runtime_cmpstring", "internal/bytealg.IndexByteString", "internal/bytealg.IndexString"], unfollowed := true, recurses := true, named := ["internal/bytealg.MaxLen"], loops := true, apart := false, narrowed := true }
def SimpleMatchesUptoSaid : Prop := simpleMatchesUptoRow.holds Try.pinned (OpenSpec.upto simpleMatchesSpec)

/-- 'vitrinelaw18.SimpleVisited', WHERE WHAT IT READS IS OF BULK AT MOST 1048576: true; the input reads as it did. -/
def simpleVisitedUptoRow : OpenClaim := { program := "ytbedomopojiehaa", sum := "20e27b258e0f750e86caa4c6d56613d96dbaa7244de21fb50474538087d6179e", func := "vitrine/vitrinelaw18.SimpleVisited", spec := "simpleVisited", inPlace := ["internal/bytealg.IndexByteString", "internal/bytealg.IndexString", "internal/bytealg.abigen_runtime_cmpstring"], unfollowed := true, recurses := true, named := ["internal/bytealg.MaxLen"], apart := false, narrowed := true }
def SimpleVisitedUptoSaid : Prop := simpleVisitedUptoRow.holds Try.pinned (OpenSpec.upto simpleVisitedSpec)

/-- 'vitrinelaw18.SimpleNames', WHERE WHAT IT READS IS OF BULK AT MOST 1048576: true; the input reads as it did. -/
def simpleNamesUptoRow : OpenClaim := { program := "ytbedomopojiehaa", sum := "20e27b258e0f750e86caa4c6d56613d96dbaa7244de21fb50474538087d6179e", func := "vitrine/vitrinelaw18.SimpleNames", spec := "simpleNames", inPlace := ["internal/bytealg.abigen_runtime_cmpstring", "internal/bytealg.IndexByteString", "internal/bytealg.IndexString"], unfollowed := true, recurses := true, named := ["internal/bytealg.MaxLen"], apart := false, narrowed := true }
def SimpleNamesUptoSaid : Prop := simpleNamesUptoRow.holds Try.pinned (OpenSpec.upto simpleNamesSpec)

/-- 'vitrinelaw18.SimpleModes', WHERE WHAT IT READS IS OF BULK AT MOST 1048576: true; the input reads as it did. -/
def simpleModesUptoRow : OpenClaim := { program := "ytbedomopojiehaa", sum := "20e27b258e0f750e86caa4c6d56613d96dbaa7244de21fb50474538087d6179e", func := "vitrine/vitrinelaw18.SimpleModes", spec := "simpleModes", inPlace := ["internal/bytealg.IndexByteString", "internal/bytealg.IndexString", "internal/bytealg.abigen_runtime_cmpstring"], unfollowed := true, recurses := true, named := ["internal/bytealg.MaxLen"], loops := true, apart := false, narrowed := true }
def SimpleModesUptoSaid : Prop := simpleModesUptoRow.holds Try.pinned (OpenSpec.upto simpleModesSpec)

/-- 'vitrinelaw19.CompoundMatches', WHERE WHAT IT READS IS OF BULK AT MOST 1048576: true; the input reads as it did. -/
def compoundMatchesUptoRow : OpenClaim := { program := "ytbedomopojiehaa", sum := "20e27b258e0f750e86caa4c6d56613d96dbaa7244de21fb50474538087d6179e", func := "vitrine/vitrinelaw19.CompoundMatches", spec := "compoundMatches", inPlace := ["internal/bytealg.abigen_runtime_cmpstring", "internal/bytealg.IndexByteString", "internal/bytealg.IndexString"], unfollowed := true, recurses := true, named := ["internal/bytealg.MaxLen"], loops := true, apart := false, narrowed := true }
def CompoundMatchesUptoSaid : Prop := compoundMatchesUptoRow.holds Try.pinned (OpenSpec.upto compoundMatchesSpec)

/-- 'vitrinelaw19.CompoundAll', WHERE WHAT IT READS IS OF BULK AT MOST 1048576: true; the input reads as it did. -/
def compoundAllUptoRow : OpenClaim := { program := "ytbedomopojiehaa", sum := "20e27b258e0f750e86caa4c6d56613d96dbaa7244de21fb50474538087d6179e", func := "vitrine/vitrinelaw19.CompoundAll", spec := "compoundAll", inPlace := ["internal/bytealg.abigen_runtime_cmpstring", "internal/bytealg.IndexByteString", "internal/bytealg.IndexString"], unfollowed := true, recurses := true, named := ["internal/bytealg.MaxLen"], loops := true, apart := false, narrowed := true }
def CompoundAllUptoSaid : Prop := compoundAllUptoRow.holds Try.pinned (OpenSpec.upto compoundAllSpec)

/-- 'vitrinelaw19.CompoundNames', WHERE WHAT IT READS IS OF BULK AT MOST 1048576: true; the input reads as it did. -/
def compoundNamesUptoRow : OpenClaim := { program := "ytbedomopojiehaa", sum := "20e27b258e0f750e86caa4c6d56613d96dbaa7244de21fb50474538087d6179e", func := "vitrine/vitrinelaw19.CompoundNames", spec := "compoundNames", inPlace := ["internal/bytealg.abigen_runtime_cmpstring", "internal/bytealg.IndexByteString", "internal/bytealg.IndexString"], unfollowed := true, recurses := true, named := ["internal/bytealg.MaxLen"], apart := false, narrowed := true }
def CompoundNamesUptoSaid : Prop := compoundNamesUptoRow.holds Try.pinned (OpenSpec.upto compoundNamesSpec)

/-- 'vitrinelaw19.CompoundEach', WHERE WHAT IT READS IS OF BULK AT MOST 1048576: true; the input reads as it did. -/
def compoundEachUptoRow : OpenClaim := { program := "ytbedomopojiehaa", sum := "20e27b258e0f750e86caa4c6d56613d96dbaa7244de21fb50474538087d6179e", func := "vitrine/vitrinelaw19.CompoundEach", spec := "compoundEach", inPlace := ["internal/bytealg.abigen_runtime_cmpstring", "internal/bytealg.IndexByteString", "internal/bytealg.IndexString"], unfollowed := true, recurses := true, named := ["internal/bytealg.MaxLen"], loops := true, apart := false, narrowed := true }
def CompoundEachUptoSaid : Prop := compoundEachUptoRow.holds Try.pinned (OpenSpec.upto compoundEachSpec)

/-- 'vitrinelaw19.CompoundOrder', WHERE WHAT IT READS IS OF BULK AT MOST 1048576: true; the input reads as it did. -/
def compoundOrderUptoRow : OpenClaim := { program := "ytbedomopojiehaa", sum := "20e27b258e0f750e86caa4c6d56613d96dbaa7244de21fb50474538087d6179e", func := "vitrine/vitrinelaw19.CompoundOrder", spec := "compoundOrder", inPlace := ["internal/bytealg.abigen_runtime_cmpstring", "internal/bytealg.IndexByteString", "internal/bytealg.IndexString"], unfollowed := true, recurses := true, named := ["internal/bytealg.MaxLen"], loops := true, apart := false, narrowed := true }
def CompoundOrderUptoSaid : Prop := compoundOrderUptoRow.holds Try.pinned (OpenSpec.upto compoundOrderSpec)

/-- 'vitrinelaw19.CompoundTags', WHERE WHAT IT READS IS OF BULK AT MOST 1048576: true; the input reads as it did. -/
def compoundTagsUptoRow : OpenClaim := { program := "ytbedomopojiehaa", sum := "20e27b258e0f750e86caa4c6d56613d96dbaa7244de21fb50474538087d6179e", func := "vitrine/vitrinelaw19.CompoundTags", spec := "compoundTags", inPlace := ["internal/bytealg.abigen_runtime_cmpstring", "internal/bytealg.IndexByteString", "internal/bytealg.IndexString"], unfollowed := true, recurses := true, named := ["internal/bytealg.MaxLen"], apart := false, narrowed := true }
def CompoundTagsUptoSaid : Prop := compoundTagsUptoRow.holds Try.pinned (OpenSpec.upto compoundTagsSpec)

/-- 'vitrinelaw18.SimpleAttrs', WHERE WHAT IT READS IS OF BULK AT MOST 1048576: true; the input reads as it did. -/
def simpleAttrsUptoRow : OpenClaim := { program := "ytbedomopojiehaa", sum := "20e27b258e0f750e86caa4c6d56613d96dbaa7244de21fb50474538087d6179e", func := "vitrine/vitrinelaw18.SimpleAttrs", spec := "simpleAttrs", inPlace := ["internal/bytealg.IndexByteString", "internal/bytealg.IndexString", "internal/bytealg.abigen_runtime_cmpstring", "slices.overlaps[vitrine/api.Attr]"], unfollowed := true, recurses := true, named := ["internal/bytealg.MaxLen"], apart := false, narrowed := true }
def SimpleAttrsUptoSaid : Prop := simpleAttrsUptoRow.holds Try.pinned (OpenSpec.upto simpleAttrsSpec)

end Rows
end Go.Proofs.Ytbedomopojiehaa
