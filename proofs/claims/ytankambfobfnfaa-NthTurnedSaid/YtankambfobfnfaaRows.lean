/-
  No cell of these rows narrows 'for every input' (looked for: loops, veiled, ifaces, maps, wideKeys, modest, calm, conditions, laid).
  DERIVED. THE GIVEN ROWS OF THIS SEAT. 12 by the template 'for every input the law returns true; each argument reads behind the call as it read before'; 0 by the template 'total and deterministic' (their statements: YtankambfobfnfaaTotals.lean).
  GIVEN WITH THE SEED: the statements are not yours to turn. If you find one false, say at which input.
  Laid BY PROGRAM, IN A SANDBOX (cutbox-rows.mjs): the forced cells as the released guide's own fill.sh prints them over the translation b61ad4bc12e8b5fd… (all of the seat's roots in one cut). By AI agents, Wed Nov 11 2026. No macro, syntax, notation, axiom, sorry.
-/
import Derived.Test.YtankambfobfnfaaChecked
import GoSem.Claim
import GoSem.ClaimJoined
import GoSem.ClaimMapViews
import Derived.JoinedTies
import Derived.KernelRfl
namespace Go.Proofs.Ytankambfobfnfaa
/- THE CELL 'sum', in the pinned program and in every row, IS THE sha256 OF THE DUMP (.gsa) THAT YtankambfobfnfaaProg.lean LOADS. Nothing in Lean hashes anything: it is a label: what it is worth is what the hold of that sum in a sandbox is worth. -/
noncomputable def Try.pinned : Pinned := { name := "ytankambfobfnfaa", sum := "b61ad4bc12e8b5fd282593b1fcb517092d5e3bcbf971883e3094a89a08f58de4", checked := Try.checked }
namespace Rows
def none {H : Type} : Left H := { results := [], args := [] }

/-- 'vitrinelaw16.OrderPlaces': WHATEVER THE INPUT: true; the input reads as it did. -/
def orderPlacesSpec : ChangeSpec := { name := "orderPlaces", fn := fun _ => fun
  | [d1, d2] => { results := [.lit (.bool true)], args := [d1, d2] }
  | _ => none }
def orderPlacesRow : OpenClaim := { program := "ytankambfobfnfaa", sum := "b61ad4bc12e8b5fd282593b1fcb517092d5e3bcbf971883e3094a89a08f58de4", func := "vitrine/vitrinelaw16.OrderPlaces", spec := "orderPlaces", apart := false }
def OrderPlacesSaid : Prop := orderPlacesRow.holds Try.pinned (OpenSpec.ofChange orderPlacesSpec)

/-- ITS FALSE NEIGHBOUR: 'it returns false'. Refute it at one input. -/
def orderPlacesWrong : ChangeSpec := { name := "orderPlaces", fn := fun _ => fun
  | [d1, d2] => { results := [.lit (.bool false)], args := [d1, d2] }
  | _ => none }
def OrderPlacesWrongFalsely : Prop := orderPlacesRow.holds Try.pinned (OpenSpec.ofChange orderPlacesWrong)

/-- 'vitrinelaw16.OrderLists': WHATEVER THE INPUT: true; the input reads as it did. -/
def orderListsSpec : ChangeSpec := { name := "orderLists", fn := fun _ => fun
  | [d1, d2, d3] => { results := [.lit (.bool true)], args := [d1, d2, d3] }
  | _ => none }
def orderListsRow : OpenClaim := { program := "ytankambfobfnfaa", sum := "b61ad4bc12e8b5fd282593b1fcb517092d5e3bcbf971883e3094a89a08f58de4", func := "vitrine/vitrinelaw16.OrderLists", spec := "orderLists", unfollowed := true, recurses := true, apart := false }
def OrderListsSaid : Prop := orderListsRow.holds Try.pinned (OpenSpec.ofChange orderListsSpec)

/-- ITS FALSE NEIGHBOUR: 'it returns false'. Refute it at one input. -/
def orderListsWrong : ChangeSpec := { name := "orderLists", fn := fun _ => fun
  | [d1, d2, d3] => { results := [.lit (.bool false)], args := [d1, d2, d3] }
  | _ => none }
def OrderListsWrongFalsely : Prop := orderListsRow.holds Try.pinned (OpenSpec.ofChange orderListsWrong)

/-- 'vitrinelaw16.OrderSiblings': WHATEVER THE INPUT: true; the input reads as it did. -/
def orderSiblingsSpec : ChangeSpec := { name := "orderSiblings", fn := fun _ => fun
  | [d1, d2] => { results := [.lit (.bool true)], args := [d1, d2] }
  | _ => none }
def orderSiblingsRow : OpenClaim := { program := "ytankambfobfnfaa", sum := "b61ad4bc12e8b5fd282593b1fcb517092d5e3bcbf971883e3094a89a08f58de4", func := "vitrine/vitrinelaw16.OrderSiblings", spec := "orderSiblings", unfollowed := true, recurses := true, apart := false }
def OrderSiblingsSaid : Prop := orderSiblingsRow.holds Try.pinned (OpenSpec.ofChange orderSiblingsSpec)

/-- ITS FALSE NEIGHBOUR: 'it returns false'. Refute it at one input. -/
def orderSiblingsWrong : ChangeSpec := { name := "orderSiblings", fn := fun _ => fun
  | [d1, d2] => { results := [.lit (.bool false)], args := [d1, d2] }
  | _ => none }
def OrderSiblingsWrongFalsely : Prop := orderSiblingsRow.holds Try.pinned (OpenSpec.ofChange orderSiblingsWrong)

/-- 'vitrinelaw16.OrderNames': WHATEVER THE INPUT: true; the input reads as it did. -/
def orderNamesSpec : ChangeSpec := { name := "orderNames", fn := fun _ => fun
  | [] => { results := [.lit (.bool true)], args := [] }
  | _ => none }
def orderNamesRow : OpenClaim := { program := "ytankambfobfnfaa", sum := "b61ad4bc12e8b5fd282593b1fcb517092d5e3bcbf971883e3094a89a08f58de4", func := "vitrine/vitrinelaw16.OrderNames", spec := "orderNames", unfollowed := true, recurses := true, apart := false }
def OrderNamesSaid : Prop := orderNamesRow.holds Try.pinned (OpenSpec.ofChange orderNamesSpec)

/-- ITS FALSE NEIGHBOUR: 'it returns false'. Refute it at one input. -/
def orderNamesWrong : ChangeSpec := { name := "orderNames", fn := fun _ => fun
  | [] => { results := [.lit (.bool false)], args := [] }
  | _ => none }
def OrderNamesWrongFalsely : Prop := orderNamesRow.holds Try.pinned (OpenSpec.ofChange orderNamesWrong)

/-- 'vitrinelaw16.OrderTotal': WHATEVER THE INPUT: true; the input reads as it did. -/
def orderTotalSpec : ChangeSpec := { name := "orderTotal", fn := fun _ => fun
  | [d1, d2, d3, d4] => { results := [.lit (.bool true)], args := [d1, d2, d3, d4] }
  | _ => none }
def orderTotalRow : OpenClaim := { program := "ytankambfobfnfaa", sum := "b61ad4bc12e8b5fd282593b1fcb517092d5e3bcbf971883e3094a89a08f58de4", func := "vitrine/vitrinelaw16.OrderTotal", spec := "orderTotal", unfollowed := true, recurses := true, apart := false }
def OrderTotalSaid : Prop := orderTotalRow.holds Try.pinned (OpenSpec.ofChange orderTotalSpec)

/-- ITS FALSE NEIGHBOUR: 'it returns false'. Refute it at one input. -/
def orderTotalWrong : ChangeSpec := { name := "orderTotal", fn := fun _ => fun
  | [d1, d2, d3, d4] => { results := [.lit (.bool false)], args := [d1, d2, d3, d4] }
  | _ => none }
def OrderTotalWrongFalsely : Prop := orderTotalRow.holds Try.pinned (OpenSpec.ofChange orderTotalWrong)

/-- 'vitrinelaw16.OrderOnce': WHATEVER THE INPUT: true; the input reads as it did. -/
def orderOnceSpec : ChangeSpec := { name := "orderOnce", fn := fun _ => fun
  | [d1, d2] => { results := [.lit (.bool true)], args := [d1, d2] }
  | _ => none }
def orderOnceRow : OpenClaim := { program := "ytankambfobfnfaa", sum := "b61ad4bc12e8b5fd282593b1fcb517092d5e3bcbf971883e3094a89a08f58de4", func := "vitrine/vitrinelaw16.OrderOnce", spec := "orderOnce", unfollowed := true, recurses := true, apart := false }
def OrderOnceSaid : Prop := orderOnceRow.holds Try.pinned (OpenSpec.ofChange orderOnceSpec)

/-- ITS FALSE NEIGHBOUR: 'it returns false'. Refute it at one input. -/
def orderOnceWrong : ChangeSpec := { name := "orderOnce", fn := fun _ => fun
  | [d1, d2] => { results := [.lit (.bool false)], args := [d1, d2] }
  | _ => none }
def OrderOnceWrongFalsely : Prop := orderOnceRow.holds Try.pinned (OpenSpec.ofChange orderOnceWrong)

/-- 'vitrinelaw20.NthHalves': WHATEVER THE INPUT: true; the input reads as it did. -/
def nthHalvesSpec : ChangeSpec := { name := "nthHalves", fn := fun _ => fun
  | [d1, d2, d3, d4] => { results := [.lit (.bool true)], args := [d1, d2, d3, d4] }
  | _ => none }
def nthHalvesRow : OpenClaim := { program := "ytankambfobfnfaa", sum := "b61ad4bc12e8b5fd282593b1fcb517092d5e3bcbf971883e3094a89a08f58de4", func := "vitrine/vitrinelaw20.NthHalves", spec := "nthHalves", apart := false }
def NthHalvesSaid : Prop := nthHalvesRow.holds Try.pinned (OpenSpec.ofChange nthHalvesSpec)

/-- ITS FALSE NEIGHBOUR: 'it returns false'. Refute it at one input. -/
def nthHalvesWrong : ChangeSpec := { name := "nthHalves", fn := fun _ => fun
  | [d1, d2, d3, d4] => { results := [.lit (.bool false)], args := [d1, d2, d3, d4] }
  | _ => none }
def NthHalvesWrongFalsely : Prop := nthHalvesRow.holds Try.pinned (OpenSpec.ofChange nthHalvesWrong)

/-- 'vitrinelaw20.NthMatches': WHATEVER THE INPUT: true; the input reads as it did. -/
def nthMatchesSpec : ChangeSpec := { name := "nthMatches", fn := fun _ => fun
  | [d1, d2, d3, d4, d5] => { results := [.lit (.bool true)], args := [d1, d2, d3, d4, d5] }
  | _ => none }
def nthMatchesRow : OpenClaim := { program := "ytankambfobfnfaa", sum := "b61ad4bc12e8b5fd282593b1fcb517092d5e3bcbf971883e3094a89a08f58de4", func := "vitrine/vitrinelaw20.NthMatches", spec := "nthMatches", apart := false }
def NthMatchesSaid : Prop := nthMatchesRow.holds Try.pinned (OpenSpec.ofChange nthMatchesSpec)

/-- ITS FALSE NEIGHBOUR: 'it returns false'. Refute it at one input. -/
def nthMatchesWrong : ChangeSpec := { name := "nthMatches", fn := fun _ => fun
  | [d1, d2, d3, d4, d5] => { results := [.lit (.bool false)], args := [d1, d2, d3, d4, d5] }
  | _ => none }
def NthMatchesWrongFalsely : Prop := nthMatchesRow.holds Try.pinned (OpenSpec.ofChange nthMatchesWrong)

/-- 'vitrinelaw20.NthNames': WHATEVER THE INPUT: true; the input reads as it did. -/
def nthNamesSpec : ChangeSpec := { name := "nthNames", fn := fun _ => fun
  | [] => { results := [.lit (.bool true)], args := [] }
  | _ => none }
def nthNamesRow : OpenClaim := { program := "ytankambfobfnfaa", sum := "b61ad4bc12e8b5fd282593b1fcb517092d5e3bcbf971883e3094a89a08f58de4", func := "vitrine/vitrinelaw20.NthNames", spec := "nthNames", apart := false }
def NthNamesSaid : Prop := nthNamesRow.holds Try.pinned (OpenSpec.ofChange nthNamesSpec)

/-- ITS FALSE NEIGHBOUR: 'it returns false'. Refute it at one input. -/
def nthNamesWrong : ChangeSpec := { name := "nthNames", fn := fun _ => fun
  | [] => { results := [.lit (.bool false)], args := [] }
  | _ => none }
def NthNamesWrongFalsely : Prop := nthNamesRow.holds Try.pinned (OpenSpec.ofChange nthNamesWrong)

/-- 'vitrinelaw20.NthTurned': WHATEVER THE INPUT: true; the input reads as it did. -/
def nthTurnedSpec : ChangeSpec := { name := "nthTurned", fn := fun _ => fun
  | [d1, d2, d3, d4, d5] => { results := [.lit (.bool true)], args := [d1, d2, d3, d4, d5] }
  | _ => none }
def nthTurnedRow : OpenClaim := { program := "ytankambfobfnfaa", sum := "b61ad4bc12e8b5fd282593b1fcb517092d5e3bcbf971883e3094a89a08f58de4", func := "vitrine/vitrinelaw20.NthTurned", spec := "nthTurned", apart := false }
def NthTurnedSaid : Prop := nthTurnedRow.holds Try.pinned (OpenSpec.ofChange nthTurnedSpec)

/-- ITS FALSE NEIGHBOUR: 'it returns false'. Refute it at one input. -/
def nthTurnedWrong : ChangeSpec := { name := "nthTurned", fn := fun _ => fun
  | [d1, d2, d3, d4, d5] => { results := [.lit (.bool false)], args := [d1, d2, d3, d4, d5] }
  | _ => none }
def NthTurnedWrongFalsely : Prop := nthTurnedRow.holds Try.pinned (OpenSpec.ofChange nthTurnedWrong)

/-- 'vitrinelaw20.NthOthers': WHATEVER THE INPUT: true; the input reads as it did. -/
def nthOthersSpec : ChangeSpec := { name := "nthOthers", fn := fun _ => fun
  | [d1, d2, d3, d4, d5, d6] => { results := [.lit (.bool true)], args := [d1, d2, d3, d4, d5, d6] }
  | _ => none }
def nthOthersRow : OpenClaim := { program := "ytankambfobfnfaa", sum := "b61ad4bc12e8b5fd282593b1fcb517092d5e3bcbf971883e3094a89a08f58de4", func := "vitrine/vitrinelaw20.NthOthers", spec := "nthOthers", apart := false }
def NthOthersSaid : Prop := nthOthersRow.holds Try.pinned (OpenSpec.ofChange nthOthersSpec)

/-- ITS FALSE NEIGHBOUR: 'it returns false'. Refute it at one input. -/
def nthOthersWrong : ChangeSpec := { name := "nthOthers", fn := fun _ => fun
  | [d1, d2, d3, d4, d5, d6] => { results := [.lit (.bool false)], args := [d1, d2, d3, d4, d5, d6] }
  | _ => none }
def NthOthersWrongFalsely : Prop := nthOthersRow.holds Try.pinned (OpenSpec.ofChange nthOthersWrong)

/-- 'vitrinelaw20.NthExact': WHATEVER THE INPUT: true; the input reads as it did. -/
def nthExactSpec : ChangeSpec := { name := "nthExact", fn := fun _ => fun
  | [d1, d2, d3, d4] => { results := [.lit (.bool true)], args := [d1, d2, d3, d4] }
  | _ => none }
def nthExactRow : OpenClaim := { program := "ytankambfobfnfaa", sum := "b61ad4bc12e8b5fd282593b1fcb517092d5e3bcbf971883e3094a89a08f58de4", func := "vitrine/vitrinelaw20.NthExact", spec := "nthExact", apart := false }
def NthExactSaid : Prop := nthExactRow.holds Try.pinned (OpenSpec.ofChange nthExactSpec)

/-- ITS FALSE NEIGHBOUR: 'it returns false'. Refute it at one input. -/
def nthExactWrong : ChangeSpec := { name := "nthExact", fn := fun _ => fun
  | [d1, d2, d3, d4] => { results := [.lit (.bool false)], args := [d1, d2, d3, d4] }
  | _ => none }
def NthExactWrongFalsely : Prop := nthExactRow.holds Try.pinned (OpenSpec.ofChange nthExactWrong)

/- THE SECOND FORM. 'bulk': how many values and letters a reading holds, each counted each time it is reached (what is shared counts as often as it is met; a slice's spare places count too). A statement '..UptoSaid' is the law's where the arguments, and the package variables that the reading takes, are together of bulk at most 1048576: NARROWER than '..Said'. Prove '..Said' where nothing that the law and all that it calls make is longer than what came in: it says more and counts as full. Else prove '..UptoSaid'. A law counts once. -/
mutual
def uptoBulk {H : Type} : DataW H → Nat
  | .lit (.string bytes) => bytes.length + 1
  | .lit _ => 1
  | .nil => 1
  | .ptr d => uptoBulk d + 1
  | .slice elems spare => uptoBulkAll elems + uptoBulkAll spare + 1
  | .agg parts => uptoBulkAll parts + 1
  | .iface _ d => uptoBulk d + 1
  | .map entries => uptoBulkEntries entries + 1
  | .held _ => 1
def uptoBulkAll {H : Type} : List (DataW H) → Nat
  | [] => 0
  | d :: r => uptoBulk d + uptoBulkAll r
def uptoBulkEntries {H : Type} : List (Lit × DataW H) → Nat
  | [] => 0
  | x :: r => uptoBulkEntry x + uptoBulkEntries r
def uptoBulkEntry {H : Type} : Lit × DataW H → Nat
  | (.string bytes, d) => bytes.length + uptoBulk d + 1
  | (_, d) => uptoBulk d + 1
 end
def uptoSmall : (H : Type) → List (DataW H) → Bool := fun _ ds => decide (uptoBulkAll ds ≤ 1048576)
def OpenSpec.upto (s : _root_.Go.ChangeSpec) : _root_.Go.OpenSpec := { _root_.Go.OpenSpec.ofChange s with cond := some uptoSmall }

/-- 'vitrinelaw16.OrderPlaces', WHERE WHAT IT READS IS OF BULK AT MOST 1048576: true; the input reads as it did. -/
def orderPlacesUptoRow : OpenClaim := { program := "ytankambfobfnfaa", sum := "b61ad4bc12e8b5fd282593b1fcb517092d5e3bcbf971883e3094a89a08f58de4", func := "vitrine/vitrinelaw16.OrderPlaces", spec := "orderPlaces", apart := false, narrowed := true }
def OrderPlacesUptoSaid : Prop := orderPlacesUptoRow.holds Try.pinned (OpenSpec.upto orderPlacesSpec)

/-- 'vitrinelaw16.OrderLists', WHERE WHAT IT READS IS OF BULK AT MOST 1048576: true; the input reads as it did. -/
def orderListsUptoRow : OpenClaim := { program := "ytankambfobfnfaa", sum := "b61ad4bc12e8b5fd282593b1fcb517092d5e3bcbf971883e3094a89a08f58de4", func := "vitrine/vitrinelaw16.OrderLists", spec := "orderLists", unfollowed := true, recurses := true, apart := false, narrowed := true }
def OrderListsUptoSaid : Prop := orderListsUptoRow.holds Try.pinned (OpenSpec.upto orderListsSpec)

/-- 'vitrinelaw16.OrderSiblings', WHERE WHAT IT READS IS OF BULK AT MOST 1048576: true; the input reads as it did. -/
def orderSiblingsUptoRow : OpenClaim := { program := "ytankambfobfnfaa", sum := "b61ad4bc12e8b5fd282593b1fcb517092d5e3bcbf971883e3094a89a08f58de4", func := "vitrine/vitrinelaw16.OrderSiblings", spec := "orderSiblings", unfollowed := true, recurses := true, apart := false, narrowed := true }
def OrderSiblingsUptoSaid : Prop := orderSiblingsUptoRow.holds Try.pinned (OpenSpec.upto orderSiblingsSpec)

/-- 'vitrinelaw16.OrderNames', WHERE WHAT IT READS IS OF BULK AT MOST 1048576: true; the input reads as it did. -/
def orderNamesUptoRow : OpenClaim := { program := "ytankambfobfnfaa", sum := "b61ad4bc12e8b5fd282593b1fcb517092d5e3bcbf971883e3094a89a08f58de4", func := "vitrine/vitrinelaw16.OrderNames", spec := "orderNames", unfollowed := true, recurses := true, apart := false, narrowed := true }
def OrderNamesUptoSaid : Prop := orderNamesUptoRow.holds Try.pinned (OpenSpec.upto orderNamesSpec)

/-- 'vitrinelaw16.OrderTotal', WHERE WHAT IT READS IS OF BULK AT MOST 1048576: true; the input reads as it did. -/
def orderTotalUptoRow : OpenClaim := { program := "ytankambfobfnfaa", sum := "b61ad4bc12e8b5fd282593b1fcb517092d5e3bcbf971883e3094a89a08f58de4", func := "vitrine/vitrinelaw16.OrderTotal", spec := "orderTotal", unfollowed := true, recurses := true, apart := false, narrowed := true }
def OrderTotalUptoSaid : Prop := orderTotalUptoRow.holds Try.pinned (OpenSpec.upto orderTotalSpec)

/-- 'vitrinelaw16.OrderOnce', WHERE WHAT IT READS IS OF BULK AT MOST 1048576: true; the input reads as it did. -/
def orderOnceUptoRow : OpenClaim := { program := "ytankambfobfnfaa", sum := "b61ad4bc12e8b5fd282593b1fcb517092d5e3bcbf971883e3094a89a08f58de4", func := "vitrine/vitrinelaw16.OrderOnce", spec := "orderOnce", unfollowed := true, recurses := true, apart := false, narrowed := true }
def OrderOnceUptoSaid : Prop := orderOnceUptoRow.holds Try.pinned (OpenSpec.upto orderOnceSpec)

/-- 'vitrinelaw20.NthHalves', WHERE WHAT IT READS IS OF BULK AT MOST 1048576: true; the input reads as it did. -/
def nthHalvesUptoRow : OpenClaim := { program := "ytankambfobfnfaa", sum := "b61ad4bc12e8b5fd282593b1fcb517092d5e3bcbf971883e3094a89a08f58de4", func := "vitrine/vitrinelaw20.NthHalves", spec := "nthHalves", apart := false, narrowed := true }
def NthHalvesUptoSaid : Prop := nthHalvesUptoRow.holds Try.pinned (OpenSpec.upto nthHalvesSpec)

/-- 'vitrinelaw20.NthMatches', WHERE WHAT IT READS IS OF BULK AT MOST 1048576: true; the input reads as it did. -/
def nthMatchesUptoRow : OpenClaim := { program := "ytankambfobfnfaa", sum := "b61ad4bc12e8b5fd282593b1fcb517092d5e3bcbf971883e3094a89a08f58de4", func := "vitrine/vitrinelaw20.NthMatches", spec := "nthMatches", apart := false, narrowed := true }
def NthMatchesUptoSaid : Prop := nthMatchesUptoRow.holds Try.pinned (OpenSpec.upto nthMatchesSpec)

/-- 'vitrinelaw20.NthNames', WHERE WHAT IT READS IS OF BULK AT MOST 1048576: true; the input reads as it did. -/
def nthNamesUptoRow : OpenClaim := { program := "ytankambfobfnfaa", sum := "b61ad4bc12e8b5fd282593b1fcb517092d5e3bcbf971883e3094a89a08f58de4", func := "vitrine/vitrinelaw20.NthNames", spec := "nthNames", apart := false, narrowed := true }
def NthNamesUptoSaid : Prop := nthNamesUptoRow.holds Try.pinned (OpenSpec.upto nthNamesSpec)

/-- 'vitrinelaw20.NthTurned', WHERE WHAT IT READS IS OF BULK AT MOST 1048576: true; the input reads as it did. -/
def nthTurnedUptoRow : OpenClaim := { program := "ytankambfobfnfaa", sum := "b61ad4bc12e8b5fd282593b1fcb517092d5e3bcbf971883e3094a89a08f58de4", func := "vitrine/vitrinelaw20.NthTurned", spec := "nthTurned", apart := false, narrowed := true }
def NthTurnedUptoSaid : Prop := nthTurnedUptoRow.holds Try.pinned (OpenSpec.upto nthTurnedSpec)

/-- 'vitrinelaw20.NthOthers', WHERE WHAT IT READS IS OF BULK AT MOST 1048576: true; the input reads as it did. -/
def nthOthersUptoRow : OpenClaim := { program := "ytankambfobfnfaa", sum := "b61ad4bc12e8b5fd282593b1fcb517092d5e3bcbf971883e3094a89a08f58de4", func := "vitrine/vitrinelaw20.NthOthers", spec := "nthOthers", apart := false, narrowed := true }
def NthOthersUptoSaid : Prop := nthOthersUptoRow.holds Try.pinned (OpenSpec.upto nthOthersSpec)

/-- 'vitrinelaw20.NthExact', WHERE WHAT IT READS IS OF BULK AT MOST 1048576: true; the input reads as it did. -/
def nthExactUptoRow : OpenClaim := { program := "ytankambfobfnfaa", sum := "b61ad4bc12e8b5fd282593b1fcb517092d5e3bcbf971883e3094a89a08f58de4", func := "vitrine/vitrinelaw20.NthExact", spec := "nthExact", apart := false, narrowed := true }
def NthExactUptoSaid : Prop := nthExactUptoRow.holds Try.pinned (OpenSpec.upto nthExactSpec)

end Rows
end Go.Proofs.Ytankambfobfnfaa
