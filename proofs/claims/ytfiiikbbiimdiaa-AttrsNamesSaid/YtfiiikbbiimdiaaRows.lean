/-
  No cell of these rows narrows 'for every input' (looked for: loops, veiled, ifaces, maps, wideKeys, modest, calm, conditions, laid).
  DERIVED. THE GIVEN ROWS OF THIS SEAT. 13 by the template 'for every input the law returns true; each argument reads behind the call as it read before'; 0 by the template 'total and deterministic' (their statements: YtfiiikbbiimdiaaTotals.lean).
  GIVEN WITH THE SEED: the statements are not yours to turn. If you find one false, say at which input.
  Laid BY PROGRAM, IN A SANDBOX (cutbox-rows.mjs): the forced cells as the released guide's own fill.sh prints them over the translation 7096d9044abe31dd… (all of the seat's roots in one cut). By AI agents, Wed Nov 11 2026. No macro, syntax, notation, axiom, sorry.
-/
import Derived.Test.YtfiiikbbiimdiaaChecked
import GoSem.Claim
import GoSem.ClaimJoined
import GoSem.ClaimMapViews
import Derived.JoinedTies
import Derived.KernelRfl
namespace Go.Proofs.Ytfiiikbbiimdiaa
/- THE CELL 'sum', in the pinned program and in every row, IS THE sha256 OF THE DUMP (.gsa) THAT YtfiiikbbiimdiaaProg.lean LOADS. Nothing in Lean hashes anything: it is a label: what it is worth is what the hold of that sum in a sandbox is worth. -/
noncomputable def Try.pinned : Pinned := { name := "ytfiiikbbiimdiaa", sum := "7096d9044abe31dd3c2bd1a071d4ad86a9b0b14b8e78829f15a5e403af356fc7", checked := Try.checked }
namespace Rows
def none {H : Type} : Left H := { results := [], args := [] }

/-- 'vitrinelaw14.AttrsWords': WHATEVER THE INPUT: true; the input reads as it did. -/
def attrsWordsSpec : ChangeSpec := { name := "attrsWords", fn := fun _ => fun
  | [d1, d2, d3, d4] => { results := [.lit (.bool true)], args := [d1, d2, d3, d4] }
  | _ => none }
def attrsWordsRow : OpenClaim := { program := "ytfiiikbbiimdiaa", sum := "7096d9044abe31dd3c2bd1a071d4ad86a9b0b14b8e78829f15a5e403af356fc7", func := "vitrine/vitrinelaw14.AttrsWords", spec := "attrsWords", inPlace := ["internal/bytealg.abigen_runtime_cmpstring"], unfollowed := true, recurses := true, apart := false }
def AttrsWordsSaid : Prop := attrsWordsRow.holds Try.pinned (OpenSpec.ofChange attrsWordsSpec)

/-- ITS FALSE NEIGHBOUR: 'it returns false'. Refute it at one input. -/
def attrsWordsWrong : ChangeSpec := { name := "attrsWords", fn := fun _ => fun
  | [d1, d2, d3, d4] => { results := [.lit (.bool false)], args := [d1, d2, d3, d4] }
  | _ => none }
def AttrsWordsWrongFalsely : Prop := attrsWordsRow.holds Try.pinned (OpenSpec.ofChange attrsWordsWrong)

/-- 'vitrinelaw14.AttrsFolds': WHATEVER THE INPUT: true; the input reads as it did. -/
def attrsFoldsSpec : ChangeSpec := { name := "attrsFolds", fn := fun _ => fun
  | [d1, d2] => { results := [.lit (.bool true)], args := [d1, d2] }
  | _ => none }
def attrsFoldsRow : OpenClaim := { program := "ytfiiikbbiimdiaa", sum := "7096d9044abe31dd3c2bd1a071d4ad86a9b0b14b8e78829f15a5e403af356fc7", func := "vitrine/vitrinelaw14.AttrsFolds", spec := "attrsFolds", inPlace := ["internal/bytealg.abigen_runtime_cmpstring"], unfollowed := true, recurses := true, apart := false }
def AttrsFoldsSaid : Prop := attrsFoldsRow.holds Try.pinned (OpenSpec.ofChange attrsFoldsSpec)

/-- ITS FALSE NEIGHBOUR: 'it returns false'. Refute it at one input. -/
def attrsFoldsWrong : ChangeSpec := { name := "attrsFolds", fn := fun _ => fun
  | [d1, d2] => { results := [.lit (.bool false)], args := [d1, d2] }
  | _ => none }
def AttrsFoldsWrongFalsely : Prop := attrsFoldsRow.holds Try.pinned (OpenSpec.ofChange attrsFoldsWrong)

/-- 'vitrinelaw17.LinkFinds': WHATEVER THE INPUT: true; the input reads as it did. -/
def linkFindsSpec : ChangeSpec := { name := "linkFinds", fn := fun _ => fun
  | [d1, d2] => { results := [.lit (.bool true)], args := [d1, d2] }
  | _ => none }
def linkFindsRow : OpenClaim := { program := "ytfiiikbbiimdiaa", sum := "7096d9044abe31dd3c2bd1a071d4ad86a9b0b14b8e78829f15a5e403af356fc7", func := "vitrine/vitrinelaw17.LinkFinds", spec := "linkFinds", inPlace := ["internal/bytealg.abigen_runtime_cmpstring"], unfollowed := true, recurses := true, apart := false }
def LinkFindsSaid : Prop := linkFindsRow.holds Try.pinned (OpenSpec.ofChange linkFindsSpec)

/-- ITS FALSE NEIGHBOUR: 'it returns false'. Refute it at one input. -/
def linkFindsWrong : ChangeSpec := { name := "linkFinds", fn := fun _ => fun
  | [d1, d2] => { results := [.lit (.bool false)], args := [d1, d2] }
  | _ => none }
def LinkFindsWrongFalsely : Prop := linkFindsRow.holds Try.pinned (OpenSpec.ofChange linkFindsWrong)

/-- 'vitrinelaw17.LinkNearest': WHATEVER THE INPUT: true; the input reads as it did. -/
def linkNearestSpec : ChangeSpec := { name := "linkNearest", fn := fun _ => fun
  | [d1, d2] => { results := [.lit (.bool true)], args := [d1, d2] }
  | _ => none }
def linkNearestRow : OpenClaim := { program := "ytfiiikbbiimdiaa", sum := "7096d9044abe31dd3c2bd1a071d4ad86a9b0b14b8e78829f15a5e403af356fc7", func := "vitrine/vitrinelaw17.LinkNearest", spec := "linkNearest", inPlace := ["internal/bytealg.abigen_runtime_cmpstring"], unfollowed := true, recurses := true, apart := false }
def LinkNearestSaid : Prop := linkNearestRow.holds Try.pinned (OpenSpec.ofChange linkNearestSpec)

/-- ITS FALSE NEIGHBOUR: 'it returns false'. Refute it at one input. -/
def linkNearestWrong : ChangeSpec := { name := "linkNearest", fn := fun _ => fun
  | [d1, d2] => { results := [.lit (.bool false)], args := [d1, d2] }
  | _ => none }
def LinkNearestWrongFalsely : Prop := linkNearestRow.holds Try.pinned (OpenSpec.ofChange linkNearestWrong)

/-- 'vitrinelaw17.LinkBelow': WHATEVER THE INPUT: true; the input reads as it did. -/
def linkBelowSpec : ChangeSpec := { name := "linkBelow", fn := fun _ => fun
  | [d1, d2] => { results := [.lit (.bool true)], args := [d1, d2] }
  | _ => none }
def linkBelowRow : OpenClaim := { program := "ytfiiikbbiimdiaa", sum := "7096d9044abe31dd3c2bd1a071d4ad86a9b0b14b8e78829f15a5e403af356fc7", func := "vitrine/vitrinelaw17.LinkBelow", spec := "linkBelow", inPlace := ["internal/bytealg.abigen_runtime_cmpstring"], unfollowed := true, recurses := true, apart := false }
def LinkBelowSaid : Prop := linkBelowRow.holds Try.pinned (OpenSpec.ofChange linkBelowSpec)

/-- ITS FALSE NEIGHBOUR: 'it returns false'. Refute it at one input. -/
def linkBelowWrong : ChangeSpec := { name := "linkBelow", fn := fun _ => fun
  | [d1, d2] => { results := [.lit (.bool false)], args := [d1, d2] }
  | _ => none }
def LinkBelowWrongFalsely : Prop := linkBelowRow.holds Try.pinned (OpenSpec.ofChange linkBelowWrong)

/-- 'vitrinelaw17.LinkTaken': WHATEVER THE INPUT: true; the input reads as it did. -/
def linkTakenSpec : ChangeSpec := { name := "linkTaken", fn := fun _ => fun
  | [d1, d2, d3] => { results := [.lit (.bool true)], args := [d1, d2, d3] }
  | _ => none }
def linkTakenRow : OpenClaim := { program := "ytfiiikbbiimdiaa", sum := "7096d9044abe31dd3c2bd1a071d4ad86a9b0b14b8e78829f15a5e403af356fc7", func := "vitrine/vitrinelaw17.LinkTaken", spec := "linkTaken", inPlace := ["internal/bytealg.abigen_runtime_cmpstring"], unfollowed := true, recurses := true, apart := false }
def LinkTakenSaid : Prop := linkTakenRow.holds Try.pinned (OpenSpec.ofChange linkTakenSpec)

/-- ITS FALSE NEIGHBOUR: 'it returns false'. Refute it at one input. -/
def linkTakenWrong : ChangeSpec := { name := "linkTaken", fn := fun _ => fun
  | [d1, d2, d3] => { results := [.lit (.bool false)], args := [d1, d2, d3] }
  | _ => none }
def LinkTakenWrongFalsely : Prop := linkTakenRow.holds Try.pinned (OpenSpec.ofChange linkTakenWrong)

/-- 'vitrinelaw14.AttrsSets': WHATEVER THE INPUT: true; the input reads as it did. -/
def attrsSetsSpec : ChangeSpec := { name := "attrsSets", fn := fun _ => fun
  | [d1, d2, d3, d4] => { results := [.lit (.bool true)], args := [d1, d2, d3, d4] }
  | _ => none }
def attrsSetsRow : OpenClaim := { program := "ytfiiikbbiimdiaa", sum := "7096d9044abe31dd3c2bd1a071d4ad86a9b0b14b8e78829f15a5e403af356fc7", func := "vitrine/vitrinelaw14.AttrsSets", spec := "attrsSets", inPlace := ["internal/bytealg.abigen_runtime_cmpstring", "slices.overlaps[vitrine/api.Attr]"], unfollowed := true, recurses := true, apart := false }
def AttrsSetsSaid : Prop := attrsSetsRow.holds Try.pinned (OpenSpec.ofChange attrsSetsSpec)

/-- ITS FALSE NEIGHBOUR: 'it returns false'. Refute it at one input. -/
def attrsSetsWrong : ChangeSpec := { name := "attrsSets", fn := fun _ => fun
  | [d1, d2, d3, d4] => { results := [.lit (.bool false)], args := [d1, d2, d3, d4] }
  | _ => none }
def AttrsSetsWrongFalsely : Prop := attrsSetsRow.holds Try.pinned (OpenSpec.ofChange attrsSetsWrong)

/-- 'vitrinelaw14.AttrsOnce': WHATEVER THE INPUT: true; the input reads as it did. -/
def attrsOnceSpec : ChangeSpec := { name := "attrsOnce", fn := fun _ => fun
  | [d1, d2] => { results := [.lit (.bool true)], args := [d1, d2] }
  | _ => none }
def attrsOnceRow : OpenClaim := { program := "ytfiiikbbiimdiaa", sum := "7096d9044abe31dd3c2bd1a071d4ad86a9b0b14b8e78829f15a5e403af356fc7", func := "vitrine/vitrinelaw14.AttrsOnce", spec := "attrsOnce", inPlace := ["internal/bytealg.abigen_runtime_cmpstring", "slices.overlaps[vitrine/api.Attr]"], unfollowed := true, recurses := true, apart := false }
def AttrsOnceSaid : Prop := attrsOnceRow.holds Try.pinned (OpenSpec.ofChange attrsOnceSpec)

/-- ITS FALSE NEIGHBOUR: 'it returns false'. Refute it at one input. -/
def attrsOnceWrong : ChangeSpec := { name := "attrsOnce", fn := fun _ => fun
  | [d1, d2] => { results := [.lit (.bool false)], args := [d1, d2] }
  | _ => none }
def AttrsOnceWrongFalsely : Prop := attrsOnceRow.holds Try.pinned (OpenSpec.ofChange attrsOnceWrong)

/-- 'vitrinelaw14.AttrsGot': WHATEVER THE INPUT: true; the input reads as it did. -/
def attrsGotSpec : ChangeSpec := { name := "attrsGot", fn := fun _ => fun
  | [d1, d2, d3, d4, d5, d6] => { results := [.lit (.bool true)], args := [d1, d2, d3, d4, d5, d6] }
  | _ => none }
def attrsGotRow : OpenClaim := { program := "ytfiiikbbiimdiaa", sum := "7096d9044abe31dd3c2bd1a071d4ad86a9b0b14b8e78829f15a5e403af356fc7", func := "vitrine/vitrinelaw14.AttrsGot", spec := "attrsGot", inPlace := ["internal/bytealg.abigen_runtime_cmpstring", "slices.overlaps[vitrine/api.Attr]"], unfollowed := true, recurses := true, apart := false }
def AttrsGotSaid : Prop := attrsGotRow.holds Try.pinned (OpenSpec.ofChange attrsGotSpec)

/-- ITS FALSE NEIGHBOUR: 'it returns false'. Refute it at one input. -/
def attrsGotWrong : ChangeSpec := { name := "attrsGot", fn := fun _ => fun
  | [d1, d2, d3, d4, d5, d6] => { results := [.lit (.bool false)], args := [d1, d2, d3, d4, d5, d6] }
  | _ => none }
def AttrsGotWrongFalsely : Prop := attrsGotRow.holds Try.pinned (OpenSpec.ofChange attrsGotWrong)

/-- 'vitrinelaw14.AttrsNames': WHATEVER THE INPUT: true; the input reads as it did. -/
def attrsNamesSpec : ChangeSpec := { name := "attrsNames", fn := fun _ => fun
  | [] => { results := [.lit (.bool true)], args := [] }
  | _ => none }
def attrsNamesRow : OpenClaim := { program := "ytfiiikbbiimdiaa", sum := "7096d9044abe31dd3c2bd1a071d4ad86a9b0b14b8e78829f15a5e403af356fc7", func := "vitrine/vitrinelaw14.AttrsNames", spec := "attrsNames", inPlace := ["internal/bytealg.abigen_runtime_cmpstring", "slices.overlaps[vitrine/api.Attr]"], unfollowed := true, recurses := true, apart := false }
def AttrsNamesSaid : Prop := attrsNamesRow.holds Try.pinned (OpenSpec.ofChange attrsNamesSpec)

/-- ITS FALSE NEIGHBOUR: 'it returns false'. Refute it at one input. -/
def attrsNamesWrong : ChangeSpec := { name := "attrsNames", fn := fun _ => fun
  | [] => { results := [.lit (.bool false)], args := [] }
  | _ => none }
def AttrsNamesWrongFalsely : Prop := attrsNamesRow.holds Try.pinned (OpenSpec.ofChange attrsNamesWrong)

/-- 'vitrinelaw14.AttrsBack': WHATEVER THE INPUT: true; the input reads as it did. -/
def attrsBackSpec : ChangeSpec := { name := "attrsBack", fn := fun _ => fun
  | [d1, d2, d3] => { results := [.lit (.bool true)], args := [d1, d2, d3] }
  | _ => none }
def attrsBackRow : OpenClaim := { program := "ytfiiikbbiimdiaa", sum := "7096d9044abe31dd3c2bd1a071d4ad86a9b0b14b8e78829f15a5e403af356fc7", func := "vitrine/vitrinelaw14.AttrsBack", spec := "attrsBack", inPlace := ["internal/bytealg.abigen_runtime_cmpstring", "slices.overlaps[vitrine/api.Attr]"], unfollowed := true, recurses := true, apart := false }
def AttrsBackSaid : Prop := attrsBackRow.holds Try.pinned (OpenSpec.ofChange attrsBackSpec)

/-- ITS FALSE NEIGHBOUR: 'it returns false'. Refute it at one input. -/
def attrsBackWrong : ChangeSpec := { name := "attrsBack", fn := fun _ => fun
  | [d1, d2, d3] => { results := [.lit (.bool false)], args := [d1, d2, d3] }
  | _ => none }
def AttrsBackWrongFalsely : Prop := attrsBackRow.holds Try.pinned (OpenSpec.ofChange attrsBackWrong)

/-- 'vitrinelaw17.LinkAttrs': WHATEVER THE INPUT: true; the input reads as it did. -/
def linkAttrsSpec : ChangeSpec := { name := "linkAttrs", fn := fun _ => fun
  | [d1, d2, d3, d4, d5] => { results := [.lit (.bool true)], args := [d1, d2, d3, d4, d5] }
  | _ => none }
def linkAttrsRow : OpenClaim := { program := "ytfiiikbbiimdiaa", sum := "7096d9044abe31dd3c2bd1a071d4ad86a9b0b14b8e78829f15a5e403af356fc7", func := "vitrine/vitrinelaw17.LinkAttrs", spec := "linkAttrs", inPlace := ["internal/bytealg.abigen_runtime_cmpstring", "slices.overlaps[vitrine/api.Attr]"], unfollowed := true, recurses := true, apart := false }
def LinkAttrsSaid : Prop := linkAttrsRow.holds Try.pinned (OpenSpec.ofChange linkAttrsSpec)

/-- ITS FALSE NEIGHBOUR: 'it returns false'. Refute it at one input. -/
def linkAttrsWrong : ChangeSpec := { name := "linkAttrs", fn := fun _ => fun
  | [d1, d2, d3, d4, d5] => { results := [.lit (.bool false)], args := [d1, d2, d3, d4, d5] }
  | _ => none }
def LinkAttrsWrongFalsely : Prop := linkAttrsRow.holds Try.pinned (OpenSpec.ofChange linkAttrsWrong)

/-- 'vitrinelaw17.LinkNames': WHATEVER THE INPUT: true; the input reads as it did. -/
def linkNamesSpec : ChangeSpec := { name := "linkNames", fn := fun _ => fun
  | [] => { results := [.lit (.bool true)], args := [] }
  | _ => none }
def linkNamesRow : OpenClaim := { program := "ytfiiikbbiimdiaa", sum := "7096d9044abe31dd3c2bd1a071d4ad86a9b0b14b8e78829f15a5e403af356fc7", func := "vitrine/vitrinelaw17.LinkNames", spec := "linkNames", inPlace := ["internal/bytealg.abigen_runtime_cmpstring", "slices.overlaps[vitrine/api.Attr]"], unfollowed := true, recurses := true, apart := false }
def LinkNamesSaid : Prop := linkNamesRow.holds Try.pinned (OpenSpec.ofChange linkNamesSpec)

/-- ITS FALSE NEIGHBOUR: 'it returns false'. Refute it at one input. -/
def linkNamesWrong : ChangeSpec := { name := "linkNames", fn := fun _ => fun
  | [] => { results := [.lit (.bool false)], args := [] }
  | _ => none }
def LinkNamesWrongFalsely : Prop := linkNamesRow.holds Try.pinned (OpenSpec.ofChange linkNamesWrong)

/- THE SECOND FORM. 'bulk': how many values and letters a reading holds, each counted each time it is reached (what is shared counts as often as it is met; a slice's spare places count too). A statement '..UptoSaid' is the law's where the arguments, and the package variables that the reading takes, are together of bulk at most 1048576: NARROWER than '..Said'. Prove '..Said' where nothing that the law and all that it calls make is longer than what came in: it says more and counts as full. Else prove '..UptoSaid'. A law counts once. -/
mutual
def uptoBulk {H : Type} : DataW H → Nat
  | .lit (.string bytes) => bytes.length + 1
  | .lit _ => 1
  | .nil => 1
  | .ptr d => uptoBulk d + 1
  | .slice elems spare => uptoBulkAll elems + uptoBulkAll spare + 1
  | .agg parts => uptoBulkAll parts + 1
  | .iface _ d => uptoBulk d + 1
  | .map entries => uptoBulkEntries entries + 1
  | .held _ => 1
def uptoBulkAll {H : Type} : List (DataW H) → Nat
  | [] => 0
  | d :: r => uptoBulk d + uptoBulkAll r
def uptoBulkEntries {H : Type} : List (Lit × DataW H) → Nat
  | [] => 0
  | x :: r => uptoBulkEntry x + uptoBulkEntries r
def uptoBulkEntry {H : Type} : Lit × DataW H → Nat
  | (.string bytes, d) => bytes.length + uptoBulk d + 1
  | (_, d) => uptoBulk d + 1
 end
def uptoSmall : (H : Type) → List (DataW H) → Bool := fun _ ds => decide (uptoBulkAll ds ≤ 1048576)
def OpenSpec.upto (s : _root_.Go.ChangeSpec) : _root_.Go.OpenSpec := { _root_.Go.OpenSpec.ofChange s with cond := some uptoSmall }

/-- 'vitrinelaw14.AttrsWords', WHERE WHAT IT READS IS OF BULK AT MOST 1048576: true; the input reads as it did. -/
def attrsWordsUptoRow : OpenClaim := { program := "ytfiiikbbiimdiaa", sum := "7096d9044abe31dd3c2bd1a071d4ad86a9b0b14b8e78829f15a5e403af356fc7", func := "vitrine/vitrinelaw14.AttrsWords", spec := "attrsWords", inPlace := ["internal/bytealg.abigen_runtime_cmpstring"], unfollowed := true, recurses := true, apart := false, narrowed := true }
def AttrsWordsUptoSaid : Prop := attrsWordsUptoRow.holds Try.pinned (OpenSpec.upto attrsWordsSpec)

/-- 'vitrinelaw14.AttrsFolds', WHERE WHAT IT READS IS OF BULK AT MOST 1048576: true; the input reads as it did. -/
def attrsFoldsUptoRow : OpenClaim := { program := "ytfiiikbbiimdiaa", sum := "7096d9044abe31dd3c2bd1a071d4ad86a9b0b14b8e78829f15a5e403af356fc7", func := "vitrine/vitrinelaw14.AttrsFolds", spec := "attrsFolds", inPlace := ["internal/bytealg.abigen_runtime_cmpstring"], unfollowed := true, recurses := true, apart := false, narrowed := true }
def AttrsFoldsUptoSaid : Prop := attrsFoldsUptoRow.holds Try.pinned (OpenSpec.upto attrsFoldsSpec)

/-- 'vitrinelaw17.LinkFinds', WHERE WHAT IT READS IS OF BULK AT MOST 1048576: true; the input reads as it did. -/
def linkFindsUptoRow : OpenClaim := { program := "ytfiiikbbiimdiaa", sum := "7096d9044abe31dd3c2bd1a071d4ad86a9b0b14b8e78829f15a5e403af356fc7", func := "vitrine/vitrinelaw17.LinkFinds", spec := "linkFinds", inPlace := ["internal/bytealg.abigen_runtime_cmpstring"], unfollowed := true, recurses := true, apart := false, narrowed := true }
def LinkFindsUptoSaid : Prop := linkFindsUptoRow.holds Try.pinned (OpenSpec.upto linkFindsSpec)

/-- 'vitrinelaw17.LinkNearest', WHERE WHAT IT READS IS OF BULK AT MOST 1048576: true; the input reads as it did. -/
def linkNearestUptoRow : OpenClaim := { program := "ytfiiikbbiimdiaa", sum := "7096d9044abe31dd3c2bd1a071d4ad86a9b0b14b8e78829f15a5e403af356fc7", func := "vitrine/vitrinelaw17.LinkNearest", spec := "linkNearest", inPlace := ["internal/bytealg.abigen_runtime_cmpstring"], unfollowed := true, recurses := true, apart := false, narrowed := true }
def LinkNearestUptoSaid : Prop := linkNearestUptoRow.holds Try.pinned (OpenSpec.upto linkNearestSpec)

/-- 'vitrinelaw17.LinkBelow', WHERE WHAT IT READS IS OF BULK AT MOST 1048576: true; the input reads as it did. -/
def linkBelowUptoRow : OpenClaim := { program := "ytfiiikbbiimdiaa", sum := "7096d9044abe31dd3c2bd1a071d4ad86a9b0b14b8e78829f15a5e403af356fc7", func := "vitrine/vitrinelaw17.LinkBelow", spec := "linkBelow", inPlace := ["internal/bytealg.abigen_runtime_cmpstring"], unfollowed := true, recurses := true, apart := false, narrowed := true }
def LinkBelowUptoSaid : Prop := linkBelowUptoRow.holds Try.pinned (OpenSpec.upto linkBelowSpec)

/-- 'vitrinelaw17.LinkTaken', WHERE WHAT IT READS IS OF BULK AT MOST 1048576: true; the input reads as it did. -/
def linkTakenUptoRow : OpenClaim := { program := "ytfiiikbbiimdiaa", sum := "7096d9044abe31dd3c2bd1a071d4ad86a9b0b14b8e78829f15a5e403af356fc7", func := "vitrine/vitrinelaw17.LinkTaken", spec := "linkTaken", inPlace := ["internal/bytealg.abigen_runtime_cmpstring"], unfollowed := true, recurses := true, apart := false, narrowed := true }
def LinkTakenUptoSaid : Prop := linkTakenUptoRow.holds Try.pinned (OpenSpec.upto linkTakenSpec)

/-- 'vitrinelaw14.AttrsSets', WHERE WHAT IT READS IS OF BULK AT MOST 1048576: true; the input reads as it did. -/
def attrsSetsUptoRow : OpenClaim := { program := "ytfiiikbbiimdiaa", sum := "7096d9044abe31dd3c2bd1a071d4ad86a9b0b14b8e78829f15a5e403af356fc7", func := "vitrine/vitrinelaw14.AttrsSets", spec := "attrsSets", inPlace := ["internal/bytealg.abigen_runtime_cmpstring", "slices.overlaps[vitrine/api.Attr]"], unfollowed := true, recurses := true, apart := false, narrowed := true }
def AttrsSetsUptoSaid : Prop := attrsSetsUptoRow.holds Try.pinned (OpenSpec.upto attrsSetsSpec)

/-- 'vitrinelaw14.AttrsOnce', WHERE WHAT IT READS IS OF BULK AT MOST 1048576: true; the input reads as it did. -/
def attrsOnceUptoRow : OpenClaim := { program := "ytfiiikbbiimdiaa", sum := "7096d9044abe31dd3c2bd1a071d4ad86a9b0b14b8e78829f15a5e403af356fc7", func := "vitrine/vitrinelaw14.AttrsOnce", spec := "attrsOnce", inPlace := ["internal/bytealg.abigen_runtime_cmpstring", "slices.overlaps[vitrine/api.Attr]"], unfollowed := true, recurses := true, apart := false, narrowed := true }
def AttrsOnceUptoSaid : Prop := attrsOnceUptoRow.holds Try.pinned (OpenSpec.upto attrsOnceSpec)

/-- 'vitrinelaw14.AttrsGot', WHERE WHAT IT READS IS OF BULK AT MOST 1048576: true; the input reads as it did. -/
def attrsGotUptoRow : OpenClaim := { program := "ytfiiikbbiimdiaa", sum := "7096d9044abe31dd3c2bd1a071d4ad86a9b0b14b8e78829f15a5e403af356fc7", func := "vitrine/vitrinelaw14.AttrsGot", spec := "attrsGot", inPlace := ["internal/bytealg.abigen_runtime_cmpstring", "slices.overlaps[vitrine/api.Attr]"], unfollowed := true, recurses := true, apart := false, narrowed := true }
def AttrsGotUptoSaid : Prop := attrsGotUptoRow.holds Try.pinned (OpenSpec.upto attrsGotSpec)

/-- 'vitrinelaw14.AttrsNames', WHERE WHAT IT READS IS OF BULK AT MOST 1048576: true; the input reads as it did. -/
def attrsNamesUptoRow : OpenClaim := { program := "ytfiiikbbiimdiaa", sum := "7096d9044abe31dd3c2bd1a071d4ad86a9b0b14b8e78829f15a5e403af356fc7", func := "vitrine/vitrinelaw14.AttrsNames", spec := "attrsNames", inPlace := ["internal/bytealg.abigen_runtime_cmpstring", "slices.overlaps[vitrine/api.Attr]"], unfollowed := true, recurses := true, apart := false, narrowed := true }
def AttrsNamesUptoSaid : Prop := attrsNamesUptoRow.holds Try.pinned (OpenSpec.upto attrsNamesSpec)

/-- 'vitrinelaw14.AttrsBack', WHERE WHAT IT READS IS OF BULK AT MOST 1048576: true; the input reads as it did. -/
def attrsBackUptoRow : OpenClaim := { program := "ytfiiikbbiimdiaa", sum := "7096d9044abe31dd3c2bd1a071d4ad86a9b0b14b8e78829f15a5e403af356fc7", func := "vitrine/vitrinelaw14.AttrsBack", spec := "attrsBack", inPlace := ["internal/bytealg.abigen_runtime_cmpstring", "slices.overlaps[vitrine/api.Attr]"], unfollowed := true, recurses := true, apart := false, narrowed := true }
def AttrsBackUptoSaid : Prop := attrsBackUptoRow.holds Try.pinned (OpenSpec.upto attrsBackSpec)

/-- 'vitrinelaw17.LinkAttrs', WHERE WHAT IT READS IS OF BULK AT MOST 1048576: true; the input reads as it did. -/
def linkAttrsUptoRow : OpenClaim := { program := "ytfiiikbbiimdiaa", sum := "7096d9044abe31dd3c2bd1a071d4ad86a9b0b14b8e78829f15a5e403af356fc7", func := "vitrine/vitrinelaw17.LinkAttrs", spec := "linkAttrs", inPlace := ["internal/bytealg.abigen_runtime_cmpstring", "slices.overlaps[vitrine/api.Attr]"], unfollowed := true, recurses := true, apart := false, narrowed := true }
def LinkAttrsUptoSaid : Prop := linkAttrsUptoRow.holds Try.pinned (OpenSpec.upto linkAttrsSpec)

/-- 'vitrinelaw17.LinkNames', WHERE WHAT IT READS IS OF BULK AT MOST 1048576: true; the input reads as it did. -/
def linkNamesUptoRow : OpenClaim := { program := "ytfiiikbbiimdiaa", sum := "7096d9044abe31dd3c2bd1a071d4ad86a9b0b14b8e78829f15a5e403af356fc7", func := "vitrine/vitrinelaw17.LinkNames", spec := "linkNames", inPlace := ["internal/bytealg.abigen_runtime_cmpstring", "slices.overlaps[vitrine/api.Attr]"], unfollowed := true, recurses := true, apart := false, narrowed := true }
def LinkNamesUptoSaid : Prop := linkNamesUptoRow.holds Try.pinned (OpenSpec.upto linkNamesSpec)

end Rows
end Go.Proofs.Ytfiiikbbiimdiaa
