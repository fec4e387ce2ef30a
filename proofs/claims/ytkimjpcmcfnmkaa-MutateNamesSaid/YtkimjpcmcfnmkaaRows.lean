/-
  No cell of these rows narrows 'for every input' (looked for: loops, veiled, ifaces, maps, wideKeys, modest, calm, conditions, laid).
  DERIVED. THE GIVEN ROWS OF THIS SEAT. 6 by the template 'for every input the law returns true; each argument reads behind the call as it read before'; 0 by the template 'total and deterministic' (their statements: YtkimjpcmcfnmkaaTotals.lean).
  GIVEN WITH THE SEED: the statements are not yours to turn. If you find one false, say at which input.
  Laid BY PROGRAM, IN A SANDBOX (cutbox-rows.mjs): the forced cells as the released guide's own fill.sh prints them over the translation 16fe6165954fd864… (all of the seat's roots in one cut). By AI agents, Wed Nov 11 2026. No macro, syntax, notation, axiom, sorry.
-/
import Derived.Test.YtkimjpcmcfnmkaaChecked
import GoSem.Claim
import GoSem.ClaimJoined
import GoSem.ClaimMapViews
import Derived.JoinedTies
import Derived.KernelRfl
namespace Go.Proofs.Ytkimjpcmcfnmkaa
/- THE CELL 'sum', in the pinned program and in every row, IS THE sha256 OF THE DUMP (.gsa) THAT YtkimjpcmcfnmkaaProg.lean LOADS. Nothing in Lean hashes anything: it is a label: what it is worth is what the hold of that sum in a sandbox is worth. -/
noncomputable def Try.pinned : Pinned := { name := "ytkimjpcmcfnmkaa", sum := "16fe6165954fd864c4dc28ccd4950fbb3f502fd3129c8fe660ee626f67305ea8", checked := Try.checked }
namespace Rows
def none {H : Type} : Left H := { results := [], args := [] }

/-- 'vitrinelaw15.MutateOrder': WHATEVER THE INPUT: true; the input reads as it did. -/
def mutateOrderSpec : ChangeSpec := { name := "mutateOrder", fn := fun _ => fun
  | [d1, d2, d3] => { results := [.lit (.bool true)], args := [d1, d2, d3] }
  | _ => none }
def mutateOrderRow : OpenClaim := { program := "ytkimjpcmcfnmkaa", sum := "16fe6165954fd864c4dc28ccd4950fbb3f502fd3129c8fe660ee626f67305ea8", func := "vitrine/vitrinelaw15.MutateOrder", spec := "mutateOrder", inPlace := ["slices.overlaps[int]"], unfollowed := true, recurses := true, apart := false }
def MutateOrderSaid : Prop := mutateOrderRow.holds Try.pinned (OpenSpec.ofChange mutateOrderSpec)

/-- ITS FALSE NEIGHBOUR: 'it returns false'. Refute it at one input. -/
def mutateOrderWrong : ChangeSpec := { name := "mutateOrder", fn := fun _ => fun
  | [d1, d2, d3] => { results := [.lit (.bool false)], args := [d1, d2, d3] }
  | _ => none }
def MutateOrderWrongFalsely : Prop := mutateOrderRow.holds Try.pinned (OpenSpec.ofChange mutateOrderWrong)

/-- 'vitrinelaw15.MutateDoes': WHATEVER THE INPUT: true; the input reads as it did. -/
def mutateDoesSpec : ChangeSpec := { name := "mutateDoes", fn := fun _ => fun
  | [d1, d2, d3] => { results := [.lit (.bool true)], args := [d1, d2, d3] }
  | _ => none }
def mutateDoesRow : OpenClaim := { program := "ytkimjpcmcfnmkaa", sum := "16fe6165954fd864c4dc28ccd4950fbb3f502fd3129c8fe660ee626f67305ea8", func := "vitrine/vitrinelaw15.MutateDoes", spec := "mutateDoes", inPlace := ["slices.overlaps[int]"], unfollowed := true, recurses := true, apart := false }
def MutateDoesSaid : Prop := mutateDoesRow.holds Try.pinned (OpenSpec.ofChange mutateDoesSpec)

/-- ITS FALSE NEIGHBOUR: 'it returns false'. Refute it at one input. -/
def mutateDoesWrong : ChangeSpec := { name := "mutateDoes", fn := fun _ => fun
  | [d1, d2, d3] => { results := [.lit (.bool false)], args := [d1, d2, d3] }
  | _ => none }
def MutateDoesWrongFalsely : Prop := mutateDoesRow.holds Try.pinned (OpenSpec.ofChange mutateDoesWrong)

/-- 'vitrinelaw15.MutateNames': WHATEVER THE INPUT: true; the input reads as it did. -/
def mutateNamesSpec : ChangeSpec := { name := "mutateNames", fn := fun _ => fun
  | [] => { results := [.lit (.bool true)], args := [] }
  | _ => none }
def mutateNamesRow : OpenClaim := { program := "ytkimjpcmcfnmkaa", sum := "16fe6165954fd864c4dc28ccd4950fbb3f502fd3129c8fe660ee626f67305ea8", func := "vitrine/vitrinelaw15.MutateNames", spec := "mutateNames", inPlace := ["slices.overlaps[int]"], unfollowed := true, recurses := true, apart := false }
def MutateNamesSaid : Prop := mutateNamesRow.holds Try.pinned (OpenSpec.ofChange mutateNamesSpec)

/-- ITS FALSE NEIGHBOUR: 'it returns false'. Refute it at one input. -/
def mutateNamesWrong : ChangeSpec := { name := "mutateNames", fn := fun _ => fun
  | [] => { results := [.lit (.bool false)], args := [] }
  | _ => none }
def MutateNamesWrongFalsely : Prop := mutateNamesRow.holds Try.pinned (OpenSpec.ofChange mutateNamesWrong)

/-- 'vitrinelaw15.MutateBelow': WHATEVER THE INPUT: true; the input reads as it did. -/
def mutateBelowSpec : ChangeSpec := { name := "mutateBelow", fn := fun _ => fun
  | [d1, d2, d3, d4] => { results := [.lit (.bool true)], args := [d1, d2, d3, d4] }
  | _ => none }
def mutateBelowRow : OpenClaim := { program := "ytkimjpcmcfnmkaa", sum := "16fe6165954fd864c4dc28ccd4950fbb3f502fd3129c8fe660ee626f67305ea8", func := "vitrine/vitrinelaw15.MutateBelow", spec := "mutateBelow", inPlace := ["slices.overlaps[int]"], unfollowed := true, recurses := true, apart := false }
def MutateBelowSaid : Prop := mutateBelowRow.holds Try.pinned (OpenSpec.ofChange mutateBelowSpec)

/-- ITS FALSE NEIGHBOUR: 'it returns false'. Refute it at one input. -/
def mutateBelowWrong : ChangeSpec := { name := "mutateBelow", fn := fun _ => fun
  | [d1, d2, d3, d4] => { results := [.lit (.bool false)], args := [d1, d2, d3, d4] }
  | _ => none }
def MutateBelowWrongFalsely : Prop := mutateBelowRow.holds Try.pinned (OpenSpec.ofChange mutateBelowWrong)

/-- 'vitrinelaw15.MutateBack': WHATEVER THE INPUT: true; the input reads as it did. -/
def mutateBackSpec : ChangeSpec := { name := "mutateBack", fn := fun _ => fun
  | [d1, d2, d3] => { results := [.lit (.bool true)], args := [d1, d2, d3] }
  | _ => none }
def mutateBackRow : OpenClaim := { program := "ytkimjpcmcfnmkaa", sum := "16fe6165954fd864c4dc28ccd4950fbb3f502fd3129c8fe660ee626f67305ea8", func := "vitrine/vitrinelaw15.MutateBack", spec := "mutateBack", inPlace := ["slices.overlaps[int]"], unfollowed := true, recurses := true, apart := false }
def MutateBackSaid : Prop := mutateBackRow.holds Try.pinned (OpenSpec.ofChange mutateBackSpec)

/-- ITS FALSE NEIGHBOUR: 'it returns false'. Refute it at one input. -/
def mutateBackWrong : ChangeSpec := { name := "mutateBack", fn := fun _ => fun
  | [d1, d2, d3] => { results := [.lit (.bool false)], args := [d1, d2, d3] }
  | _ => none }
def MutateBackWrongFalsely : Prop := mutateBackRow.holds Try.pinned (OpenSpec.ofChange mutateBackWrong)

/-- 'vitrinelaw15.MutateTops': WHATEVER THE INPUT: true; the input reads as it did. -/
def mutateTopsSpec : ChangeSpec := { name := "mutateTops", fn := fun _ => fun
  | [d1, d2, d3] => { results := [.lit (.bool true)], args := [d1, d2, d3] }
  | _ => none }
def mutateTopsRow : OpenClaim := { program := "ytkimjpcmcfnmkaa", sum := "16fe6165954fd864c4dc28ccd4950fbb3f502fd3129c8fe660ee626f67305ea8", func := "vitrine/vitrinelaw15.MutateTops", spec := "mutateTops", inPlace := ["slices.overlaps[int]"], unfollowed := true, recurses := true, apart := false }
def MutateTopsSaid : Prop := mutateTopsRow.holds Try.pinned (OpenSpec.ofChange mutateTopsSpec)

/-- ITS FALSE NEIGHBOUR: 'it returns false'. Refute it at one input. -/
def mutateTopsWrong : ChangeSpec := { name := "mutateTops", fn := fun _ => fun
  | [d1, d2, d3] => { results := [.lit (.bool false)], args := [d1, d2, d3] }
  | _ => none }
def MutateTopsWrongFalsely : Prop := mutateTopsRow.holds Try.pinned (OpenSpec.ofChange mutateTopsWrong)

/- THE SECOND FORM. 'bulk': how many values and letters a reading holds, each counted each time it is reached (what is shared counts as often as it is met; a slice's spare places count too). A statement '..UptoSaid' is the law's where the arguments, and the package variables that the reading takes, are together of bulk at most 1048576: NARROWER than '..Said'. Prove '..Said' where nothing that the law and all that it calls make is longer than what came in: it says more and counts as full. Else prove '..UptoSaid'. A law counts once. -/
mutual
def uptoBulk {H : Type} : DataW H → Nat
  | .lit (.string bytes) => bytes.length + 1
  | .lit _ => 1
  | .nil => 1
  | .ptr d => uptoBulk d + 1
  | .slice elems spare => uptoBulkAll elems + uptoBulkAll spare + 1
  | .agg parts => uptoBulkAll parts + 1
  | .iface _ d => uptoBulk d + 1
  | .map entries => uptoBulkEntries entries + 1
  | .held _ => 1
def uptoBulkAll {H : Type} : List (DataW H) → Nat
  | [] => 0
  | d :: r => uptoBulk d + uptoBulkAll r
def uptoBulkEntries {H : Type} : List (Lit × DataW H) → Nat
  | [] => 0
  | x :: r => uptoBulkEntry x + uptoBulkEntries r
def uptoBulkEntry {H : Type} : Lit × DataW H → Nat
  | (.string bytes, d) => bytes.length + uptoBulk d + 1
  | (_, d) => uptoBulk d + 1
 end
def uptoSmall : (H : Type) → List (DataW H) → Bool := fun _ ds => decide (uptoBulkAll ds ≤ 1048576)
def OpenSpec.upto (s : _root_.Go.ChangeSpec) : _root_.Go.OpenSpec := { _root_.Go.OpenSpec.ofChange s with cond := some uptoSmall }

/-- 'vitrinelaw15.MutateOrder', WHERE WHAT IT READS IS OF BULK AT MOST 1048576: true; the input reads as it did. -/
def mutateOrderUptoRow : OpenClaim := { program := "ytkimjpcmcfnmkaa", sum := "16fe6165954fd864c4dc28ccd4950fbb3f502fd3129c8fe660ee626f67305ea8", func := "vitrine/vitrinelaw15.MutateOrder", spec := "mutateOrder", inPlace := ["slices.overlaps[int]"], unfollowed := true, recurses := true, apart := false, narrowed := true }
def MutateOrderUptoSaid : Prop := mutateOrderUptoRow.holds Try.pinned (OpenSpec.upto mutateOrderSpec)

/-- 'vitrinelaw15.MutateDoes', WHERE WHAT IT READS IS OF BULK AT MOST 1048576: true; the input reads as it did. -/
def mutateDoesUptoRow : OpenClaim := { program := "ytkimjpcmcfnmkaa", sum := "16fe6165954fd864c4dc28ccd4950fbb3f502fd3129c8fe660ee626f67305ea8", func := "vitrine/vitrinelaw15.MutateDoes", spec := "mutateDoes", inPlace := ["slices.overlaps[int]"], unfollowed := true, recurses := true, apart := false, narrowed := true }
def MutateDoesUptoSaid : Prop := mutateDoesUptoRow.holds Try.pinned (OpenSpec.upto mutateDoesSpec)

/-- 'vitrinelaw15.MutateNames', WHERE WHAT IT READS IS OF BULK AT MOST 1048576: true; the input reads as it did. -/
def mutateNamesUptoRow : OpenClaim := { program := "ytkimjpcmcfnmkaa", sum := "16fe6165954fd864c4dc28ccd4950fbb3f502fd3129c8fe660ee626f67305ea8", func := "vitrine/vitrinelaw15.MutateNames", spec := "mutateNames", inPlace := ["slices.overlaps[int]"], unfollowed := true, recurses := true, apart := false, narrowed := true }
def MutateNamesUptoSaid : Prop := mutateNamesUptoRow.holds Try.pinned (OpenSpec.upto mutateNamesSpec)

/-- 'vitrinelaw15.MutateBelow', WHERE WHAT IT READS IS OF BULK AT MOST 1048576: true; the input reads as it did. -/
def mutateBelowUptoRow : OpenClaim := { program := "ytkimjpcmcfnmkaa", sum := "16fe6165954fd864c4dc28ccd4950fbb3f502fd3129c8fe660ee626f67305ea8", func := "vitrine/vitrinelaw15.MutateBelow", spec := "mutateBelow", inPlace := ["slices.overlaps[int]"], unfollowed := true, recurses := true, apart := false, narrowed := true }
def MutateBelowUptoSaid : Prop := mutateBelowUptoRow.holds Try.pinned (OpenSpec.upto mutateBelowSpec)

/-- 'vitrinelaw15.MutateBack', WHERE WHAT IT READS IS OF BULK AT MOST 1048576: true; the input reads as it did. -/
def mutateBackUptoRow : OpenClaim := { program := "ytkimjpcmcfnmkaa", sum := "16fe6165954fd864c4dc28ccd4950fbb3f502fd3129c8fe660ee626f67305ea8", func := "vitrine/vitrinelaw15.MutateBack", spec := "mutateBack", inPlace := ["slices.overlaps[int]"], unfollowed := true, recurses := true, apart := false, narrowed := true }
def MutateBackUptoSaid : Prop := mutateBackUptoRow.holds Try.pinned (OpenSpec.upto mutateBackSpec)

/-- 'vitrinelaw15.MutateTops', WHERE WHAT IT READS IS OF BULK AT MOST 1048576: true; the input reads as it did. -/
def mutateTopsUptoRow : OpenClaim := { program := "ytkimjpcmcfnmkaa", sum := "16fe6165954fd864c4dc28ccd4950fbb3f502fd3129c8fe660ee626f67305ea8", func := "vitrine/vitrinelaw15.MutateTops", spec := "mutateTops", inPlace := ["slices.overlaps[int]"], unfollowed := true, recurses := true, apart := false, narrowed := true }
def MutateTopsUptoSaid : Prop := mutateTopsUptoRow.holds Try.pinned (OpenSpec.upto mutateTopsSpec)

end Rows
end Go.Proofs.Ytkimjpcmcfnmkaa
