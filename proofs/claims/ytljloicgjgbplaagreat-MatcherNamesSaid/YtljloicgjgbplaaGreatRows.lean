/-
  NARROWER THAN 'FOR EVERY INPUT', by the rows' own cells (each row's printed sentence says how): MatcherPlain: loops · MatcherLists: loops · MatcherModes: loops · MatcherMatches: loops · MatcherWhich: loops.
  DERIVED. THE GIVEN ROWS OF THIS SEAT. 6 by the template 'for every input the law returns true; each argument reads behind the call as it read before'; 0 by the template 'total and deterministic' (their statements: YtljloicgjgbplaaGreatTotals.lean).
  GIVEN WITH THE SEED: the statements are not yours to turn. If you find one false, say at which input.
  Laid BY PROGRAM, IN A SANDBOX (cutbox-rows.mjs): the forced cells as the released guide's own fill.sh prints them over the translation b4d2dfe1c892d87e… (all of the seat's roots in one cut). By AI agents, Wed Nov 11 2026. No macro, syntax, notation, axiom, sorry.
-/
import Derived.Test.YtljloicgjgbplaaGreatChecked
import GoSem.Claim
import GoSem.ClaimJoined
import GoSem.ClaimMapViews
import Derived.JoinedTies
import Derived.KernelRfl
namespace Go.Proofs.YtljloicgjgbplaaGreat
/- THE CELL 'sum', in the pinned program and in every row, IS THE sha256 OF THE DUMP (.gsa) THAT YtljloicgjgbplaaGreatProg.lean LOADS. Nothing in Lean hashes anything: it is a label: what it is worth is what the hold of that sum in a sandbox is worth. -/
noncomputable def Tryz.pinned : Pinned := { name := "ytljloicgjgbplaagreat", sum := "b4d2dfe1c892d87e4ac7b3dd8ba30751005838f872ee26eb325f295a5099240e", checked := Tryz.checked }
namespace Rows
def none {H : Type} : Left H := { results := [], args := [] }

/-- 'vitrinelaw23.MatcherPlain': WHATEVER THE INPUT: true; the input reads as it did. -/
def matcherPlainSpec : ChangeSpec := { name := "matcherPlain", fn := fun _ => fun
  | [d1, d2, d3] => { results := [.lit (.bool true)], args := [d1, d2, d3] }
  | _ => none }
def matcherPlainRow : OpenClaim := { program := "ytljloicgjgbplaagreat", sum := "b4d2dfe1c892d87e4ac7b3dd8ba30751005838f872ee26eb325f295a5099240e", func := "vitrine/vitrinelaw23.MatcherPlain", spec := "matcherPlain", inPlace := ["internal/bytealg.abigen_runtime_cmpstring", "internal/bytealg.IndexByteString", "internal/bytealg.IndexString"], unfollowed := true, recurses := true, named := ["internal/bytealg.MaxLen"], loops := true, apart := false }
def MatcherPlainSaid : Prop := matcherPlainRow.holds Tryz.pinned (OpenSpec.ofChange matcherPlainSpec)

/-- ITS FALSE NEIGHBOUR: 'it returns false'. Refute it at one input. -/
def matcherPlainWrong : ChangeSpec := { name := "matcherPlain", fn := fun _ => fun
  | [d1, d2, d3] => { results := [.lit (.bool false)], args := [d1, d2, d3] }
  | _ => none }
def MatcherPlainWrongFalsely : Prop := matcherPlainRow.holds Tryz.pinned (OpenSpec.ofChange matcherPlainWrong)

/-- 'vitrinelaw23.MatcherLists': WHATEVER THE INPUT: true; the input reads as it did. -/
def matcherListsSpec : ChangeSpec := { name := "matcherLists", fn := fun _ => fun
  | [d1, d2, d3] => { results := [.lit (.bool true)], args := [d1, d2, d3] }
  | _ => none }
def matcherListsRow : OpenClaim := { program := "ytljloicgjgbplaagreat", sum := "b4d2dfe1c892d87e4ac7b3dd8ba30751005838f872ee26eb325f295a5099240e", func := "vitrine/vitrinelaw23.MatcherLists", spec := "matcherLists", inPlace := ["internal/bytealg.abigen_runtime_cmpstring", "internal/bytealg.IndexByteString", "internal/bytealg.IndexString"], unfollowed := true, recurses := true, named := ["internal/bytealg.MaxLen"], loops := true, apart := false }
def MatcherListsSaid : Prop := matcherListsRow.holds Tryz.pinned (OpenSpec.ofChange matcherListsSpec)

/-- ITS FALSE NEIGHBOUR: 'it returns false'. Refute it at one input. -/
def matcherListsWrong : ChangeSpec := { name := "matcherLists", fn := fun _ => fun
  | [d1, d2, d3] => { results := [.lit (.bool false)], args := [d1, d2, d3] }
  | _ => none }
def MatcherListsWrongFalsely : Prop := matcherListsRow.holds Tryz.pinned (OpenSpec.ofChange matcherListsWrong)

/-- 'vitrinelaw23.MatcherModes': WHATEVER THE INPUT: true; the input reads as it did. -/
def matcherModesSpec : ChangeSpec := { name := "matcherModes", fn := fun _ => fun
  | [d1, d2, d3] => { results := [.lit (.bool true)], args := [d1, d2, d3] }
  | _ => none }
def matcherModesRow : OpenClaim := { program := "ytljloicgjgbplaagreat", sum := "b4d2dfe1c892d87e4ac7b3dd8ba30751005838f872ee26eb325f295a5099240e", func := "vitrine/vitrinelaw23.MatcherModes", spec := "matcherModes", inPlace := ["internal/bytealg.abigen_runtime_cmpstring", "internal/bytealg.IndexByteString", "internal/bytealg.IndexString"], unfollowed := true, recurses := true, named := ["internal/bytealg.MaxLen"], loops := true, apart := false }
def MatcherModesSaid : Prop := matcherModesRow.holds Tryz.pinned (OpenSpec.ofChange matcherModesSpec)

/-- ITS FALSE NEIGHBOUR: 'it returns false'. Refute it at one input. -/
def matcherModesWrong : ChangeSpec := { name := "matcherModes", fn := fun _ => fun
  | [d1, d2, d3] => { results := [.lit (.bool false)], args := [d1, d2, d3] }
  | _ => none }
def MatcherModesWrongFalsely : Prop := matcherModesRow.holds Tryz.pinned (OpenSpec.ofChange matcherModesWrong)

/-- 'vitrinelaw23.MatcherMatches': WHATEVER THE INPUT: true; the input reads as it did. -/
def matcherMatchesSpec : ChangeSpec := { name := "matcherMatches", fn := fun _ => fun
  | [d1, d2, d3, d4] => { results := [.lit (.bool true)], args := [d1, d2, d3, d4] }
  | _ => none }
def matcherMatchesRow : OpenClaim := { program := "ytljloicgjgbplaagreat", sum := "b4d2dfe1c892d87e4ac7b3dd8ba30751005838f872ee26eb325f295a5099240e", func := "vitrine/vitrinelaw23.MatcherMatches", spec := "matcherMatches", inPlace := ["internal/bytealg.abigen_runtime_cmpstring", "internal/bytealg.IndexByteString", "internal/bytealg.IndexString"], unfollowed := true, recurses := true, named := ["internal/bytealg.MaxLen"], loops := true, apart := false }
def MatcherMatchesSaid : Prop := matcherMatchesRow.holds Tryz.pinned (OpenSpec.ofChange matcherMatchesSpec)

/-- ITS FALSE NEIGHBOUR: 'it returns false'. Refute it at one input. -/
def matcherMatchesWrong : ChangeSpec := { name := "matcherMatches", fn := fun _ => fun
  | [d1, d2, d3, d4] => { results := [.lit (.bool false)], args := [d1, d2, d3, d4] }
  | _ => none }
def MatcherMatchesWrongFalsely : Prop := matcherMatchesRow.holds Tryz.pinned (OpenSpec.ofChange matcherMatchesWrong)

/-- 'vitrinelaw23.MatcherNames': WHATEVER THE INPUT: true; the input reads as it did. -/
def matcherNamesSpec : ChangeSpec := { name := "matcherNames", fn := fun _ => fun
  | [] => { results := [.lit (.bool true)], args := [] }
  | _ => none }
def matcherNamesRow : OpenClaim := { program := "ytljloicgjgbplaagreat", sum := "b4d2dfe1c892d87e4ac7b3dd8ba30751005838f872ee26eb325f295a5099240e", func := "vitrine/vitrinelaw23.MatcherNames", spec := "matcherNames", inPlace := ["internal/bytealg.abigen_runtime_cmpstring", "internal/bytealg.IndexByteString", "internal/bytealg.IndexString"], unfollowed := true, recurses := true, named := ["internal/bytealg.MaxLen"], apart := false }
def MatcherNamesSaid : Prop := matcherNamesRow.holds Tryz.pinned (OpenSpec.ofChange matcherNamesSpec)

/-- ITS FALSE NEIGHBOUR: 'it returns false'. Refute it at one input. -/
def matcherNamesWrong : ChangeSpec := { name := "matcherNames", fn := fun _ => fun
  | [] => { results := [.lit (.bool false)], args := [] }
  | _ => none }
def MatcherNamesWrongFalsely : Prop := matcherNamesRow.holds Tryz.pinned (OpenSpec.ofChange matcherNamesWrong)

/-- 'vitrinelaw23.MatcherWhich': WHATEVER THE INPUT: true; the input reads as it did. -/
def matcherWhichSpec : ChangeSpec := { name := "matcherWhich", fn := fun _ => fun
  | [d1, d2, d3, d4, d5] => { results := [.lit (.bool true)], args := [d1, d2, d3, d4, d5] }
  | _ => none }
def matcherWhichRow : OpenClaim := { program := "ytljloicgjgbplaagreat", sum := "b4d2dfe1c892d87e4ac7b3dd8ba30751005838f872ee26eb325f295a5099240e", func := "vitrine/vitrinelaw23.MatcherWhich", spec := "matcherWhich", inPlace := ["internal/bytealg.abigen_runtime_cmpstring", "internal/bytealg.IndexByteString", "internal/bytealg.IndexString"], unfollowed := true, recurses := true, named := ["internal/bytealg.MaxLen"], loops := true, apart := false }
def MatcherWhichSaid : Prop := matcherWhichRow.holds Tryz.pinned (OpenSpec.ofChange matcherWhichSpec)

/-- ITS FALSE NEIGHBOUR: 'it returns false'. Refute it at one input. -/
def matcherWhichWrong : ChangeSpec := { name := "matcherWhich", fn := fun _ => fun
  | [d1, d2, d3, d4, d5] => { results := [.lit (.bool false)], args := [d1, d2, d3, d4, d5] }
  | _ => none }
def MatcherWhichWrongFalsely : Prop := matcherWhichRow.holds Tryz.pinned (OpenSpec.ofChange matcherWhichWrong)

/- THE SECOND FORM. 'bulk': how many values and letters a reading holds, each counted each time it is reached (what is shared counts as often as it is met; a slice's spare places count too). A statement '..UptoSaid' is the law's where the arguments, and the package variables that the reading takes, are together of bulk at most 1048576: NARROWER than '..Said'. Prove '..Said' where nothing that the law and all that it calls make is longer than what came in: it says more and counts as full. Else prove '..UptoSaid'. A law counts once. -/
mutual
def uptoBulk {H : Type} : DataW H → Nat
  | .lit (.string bytes) => bytes.length + 1
  | .lit _ => 1
  | .nil => 1
  | .ptr d => uptoBulk d + 1
  | .slice elems spare => uptoBulkAll elems + uptoBulkAll spare + 1
  | .agg parts => uptoBulkAll parts + 1
  | .iface _ d => uptoBulk d + 1
  | .map entries => uptoBulkEntries entries + 1
  | .held _ => 1
def uptoBulkAll {H : Type} : List (DataW H) → Nat
  | [] => 0
  | d :: r => uptoBulk d + uptoBulkAll r
def uptoBulkEntries {H : Type} : List (Lit × DataW H) → Nat
  | [] => 0
  | x :: r => uptoBulkEntry x + uptoBulkEntries r
def uptoBulkEntry {H : Type} : Lit × DataW H → Nat
  | (.string bytes, d) => bytes.length + uptoBulk d + 1
  | (_, d) => uptoBulk d + 1
 end
def uptoSmall : (H : Type) → List (DataW H) → Bool := fun _ ds => decide (uptoBulkAll ds ≤ 1048576)
def OpenSpec.upto (s : _root_.Go.ChangeSpec) : _root_.Go.OpenSpec := { _root_.Go.OpenSpec.ofChange s with cond := some uptoSmall }

/-- 'vitrinelaw23.MatcherPlain', WHERE WHAT IT READS IS OF BULK AT MOST 1048576: true; the input reads as it did. -/
def matcherPlainUptoRow : OpenClaim := { program := "ytljloicgjgbplaagreat", sum := "b4d2dfe1c892d87e4ac7b3dd8ba30751005838f872ee26eb325f295a5099240e", func := "vitrine/vitrinelaw23.MatcherPlain", spec := "matcherPlain", inPlace := ["internal/bytealg.abigen_runtime_cmpstring", "internal/bytealg.IndexByteString", "internal/bytealg.IndexString"], unfollowed := true, recurses := true, named := ["internal/bytealg.MaxLen"], loops := true, apart := false, narrowed := true }
def MatcherPlainUptoSaid : Prop := matcherPlainUptoRow.holds Tryz.pinned (OpenSpec.upto matcherPlainSpec)

/-- 'vitrinelaw23.MatcherLists', WHERE WHAT IT READS IS OF BULK AT MOST 1048576: true; the input reads as it did. -/
def matcherListsUptoRow : OpenClaim := { program := "ytljloicgjgbplaagreat", sum := "b4d2dfe1c892d87e4ac7b3dd8ba30751005838f872ee26eb325f295a5099240e", func := "vitrine/vitrinelaw23.MatcherLists", spec := "matcherLists", inPlace := ["internal/bytealg.abigen_runtime_cmpstring", "internal/bytealg.IndexByteString", "internal/bytealg.IndexString"], unfollowed := true, recurses := true, named := ["internal/bytealg.MaxLen"], loops := true, apart := false, narrowed := true }
def MatcherListsUptoSaid : Prop := matcherListsUptoRow.holds Tryz.pinned (OpenSpec.upto matcherListsSpec)

/-- 'vitrinelaw23.MatcherModes', WHERE WHAT IT READS IS OF BULK AT MOST 1048576: true; the input reads as it did. -/
def matcherModesUptoRow : OpenClaim := { program := "ytljloicgjgbplaagreat", sum := "b4d2dfe1c892d87e4ac7b3dd8ba30751005838f872ee26eb325f295a5099240e", func := "vitrine/vitrinelaw23.MatcherModes", spec := "matcherModes", inPlace := ["internal/bytealg.abigen_runtime_cmpstring", "internal/bytealg.IndexByteString", "internal/bytealg.IndexString"], unfollowed := true, recurses := true, named := ["internal/bytealg.MaxLen"], loops := true, apart := false, narrowed := true }
def MatcherModesUptoSaid : Prop := matcherModesUptoRow.holds Tryz.pinned (OpenSpec.upto matcherModesSpec)

/-- 'vitrinelaw23.MatcherMatches', WHERE WHAT IT READS IS OF BULK AT MOST 1048576: true; the input reads as it did. -/
def matcherMatchesUptoRow : OpenClaim := { program := "ytljloicgjgbplaagreat", sum := "b4d2dfe1c892d87e4ac7b3dd8ba30751005838f872ee26eb325f295a5099240e", func := "vitrine/vitrinelaw23.MatcherMatches", spec := "matcherMatches", inPlace := ["internal/bytealg.abigen_runtime_cmpstring", "internal/bytealg.IndexByteString", "internal/bytealg.IndexString"], unfollowed := true, recurses := true, named := ["internal/bytealg.MaxLen"], loops := true, apart := false, narrowed := true }
def MatcherMatchesUptoSaid : Prop := matcherMatchesUptoRow.holds Tryz.pinned (OpenSpec.upto matcherMatchesSpec)

/-- 'vitrinelaw23.MatcherNames', WHERE WHAT IT READS IS OF BULK AT MOST 1048576: true; the input reads as it did. -/
def matcherNamesUptoRow : OpenClaim := { program := "ytljloicgjgbplaagreat", sum := "b4d2dfe1c892d87e4ac7b3dd8ba30751005838f872ee26eb325f295a5099240e", func := "vitrine/vitrinelaw23.MatcherNames", spec := "matcherNames", inPlace := ["internal/bytealg.abigen_runtime_cmpstring", "internal/bytealg.IndexByteString", "internal/bytealg.IndexString"], unfollowed := true, recurses := true, named := ["internal/bytealg.MaxLen"], apart := false, narrowed := true }
def MatcherNamesUptoSaid : Prop := matcherNamesUptoRow.holds Tryz.pinned (OpenSpec.upto matcherNamesSpec)

/-- 'vitrinelaw23.MatcherWhich', WHERE WHAT IT READS IS OF BULK AT MOST 1048576: true; the input reads as it did. -/
def matcherWhichUptoRow : OpenClaim := { program := "ytljloicgjgbplaagreat", sum := "b4d2dfe1c892d87e4ac7b3dd8ba30751005838f872ee26eb325f295a5099240e", func := "vitrine/vitrinelaw23.MatcherWhich", spec := "matcherWhich", inPlace := ["internal/bytealg.abigen_runtime_cmpstring", "internal/bytealg.IndexByteString", "internal/bytealg.IndexString"], unfollowed := true, recurses := true, named := ["internal/bytealg.MaxLen"], loops := true, apart := false, narrowed := true }
def MatcherWhichUptoSaid : Prop := matcherWhichUptoRow.holds Tryz.pinned (OpenSpec.upto matcherWhichSpec)

end Rows
end Go.Proofs.YtljloicgjgbplaaGreat
