/- Walks: which elements match a compound, by the program. Condition: the variable of the library that strings.Contains reads holds a number. -/
import Derived.Test.YtljloicgjgbplaaGreatG19
import Derived.Test.YtljloicgjgbplaaGreatG10
import Derived.Deep.RegionHeld3
namespace Go.Proofs.YtljloicgjgbplaaGreat
open Go.RowKit

def rowsB (n : Nat) (S : List Sim) (H : List (List Bool)) : Prop := ∀ k, k < S.length → lisS (sm S k) = true → (rowB H k).length = n
instance (n : Nat) (S : List Sim) (H : List (List Bool)) : Decidable (rowsB n S H) := by unfold rowsB; infer_instance
def calE (T : List ANode) (tag : ByteArray) (S : List Sim) (m : Int) (H : List (List Bool)) : Int := if ccE T tag S m = 0 then (if H.length = S.length ∧ rowsB T.length S H then 0 else 2) else ccE T tag S m
def calF (T : List ANode) (tag : ByteArray) (S : List Sim) (m : Int) (H : List (List Bool)) (i : Nat) : Bool := matC T i tag S m (fun k => bx (rowB H k) i) S.length
def calL (T : List ANode) (tag : ByteArray) (S : List Sim) (m : Int) (H : List (List Bool)) : List Bool := (List.range T.length).map (calF T tag S m H)
def calV (T : List ANode) (tag : ByteArray) (S : List Sim) (m : Int) (H : List (List Bool)) : List Bool := if calE T tag S m H = 0 then calL T tag S m H else []
theorem calL_len (T : List ANode) (tag : ByteArray) (S : List Sim) (m : Int) (H : List (List Bool)) : (calL T tag S m H).length = T.length := by simp [calL]
theorem take_calL (T : List ANode) (tag : ByteArray) (S : List Sim) (m : Int) (H : List (List Bool)) {q : Nat} (hq : q < T.length) : (calL T tag S m H).take (q + 1) = (calL T tag S m H).take q ++ [calF T tag S m H q] := by
  rw [List.take_succ_eq_append_getElem (by rw [calL_len]; exact hq)]
  simp [calL]
section
variable {P : Program} {md : Region.Mode} {ops : Array Oper} {Q : Exit → Act → World → Prop} {S : World → Prop}
/-- An operation of a drawn region whose guard is false, taken first. -/
theorem heldSkip (i d : Nat) {fuel : Nat} {listed : Array Bool} {a : Act} {w : World} (hd : (ops[i]?).map (·.dst) = some (some d))
    (hs : Region.noSelect ops = true) (hf : Region.free md ops listed i = true) (hr : (Region.ready md ops listed).contains i = true)
    (hQ : ∀ c a w, Q (.panic c) (a.put (some d) undef) w → Q (.panic c) a w) (hw : (ops[i]?).map (fun o => Region.wanted o (yielded ops a.tmps)) = some false) (hS : S w)
    (h : wpAnyH P md ops Q S fuel (listed.setIfInBounds i true) (a.put (some d) undef) w) : wpAnyH P md ops Q S (fuel + 1) listed a w := by
  cases ho : ops[i]? with
  | none => rw [ho] at hd; cases hd
  | some o =>
    rw [ho] at hd hw
    simp only [Option.map_some, Option.some.injEq] at hd hw
    exact wpAnyH_take ho hs hf hr (by rw [hd]; exact hQ) (Or.inr ⟨hw, rfl⟩) hS (by rw [hd]; exact h)
/-- An operation of a drawn region that is wanted and yields v in every world that meets S, taken first. -/
theorem heldTake (i d : Nat) (v : Value) {fuel : Nat} {listed : Array Bool} {a : Act} {w : World} (hd : (ops[i]?).map (·.dst) = some (some d))
    (hs : Region.noSelect ops = true) (hf : Region.free md ops listed i = true) (hr : (Region.ready md ops listed).contains i = true)
    (hQ : ∀ c a w, Q (.panic c) (a.put (some d) v) w → Q (.panic c) a w) (hw : (ops[i]?).map (fun o => Region.wanted o (yielded ops a.tmps)) = some true)
    (hy : ∀ w, S w → (ops[i]?).map (fun o => (execOp a.eval o).run P w) = some (.ok (.value v) w)) (hS : S w)
    (h : wpAnyH P md ops Q S fuel (listed.setIfInBounds i true) (a.put (some d) v) w) : wpAnyH P md ops Q S (fuel + 1) listed a w := by
  cases ho : ops[i]? with
  | none => rw [ho] at hd; cases hd
  | some o =>
    rw [ho] at hd hw hy
    simp only [Option.map_some, Option.some.injEq] at hd hw hy
    exact wpAnyH_take ho hs hf hr (by rw [hd]; exact hQ) (Or.inl ⟨hw, hy⟩) hS (by rw [hd]; exact h)
end
end Go.Proofs.YtljloicgjgbplaaGreat
