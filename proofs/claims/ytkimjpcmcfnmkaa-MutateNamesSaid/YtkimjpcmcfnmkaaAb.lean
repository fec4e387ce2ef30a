/- Walks: the value of an attribute, by the program and by the reference. No condition but those of the inner functions. -/
import Derived.Test.YtkimjpcmcfnmkaaAa
import Derived.Test.YtkimjpcmcfnmkaaOe
namespace Go.Proofs.Ytkimjpcmcfnmkaa
open Go.RowKit

def atl (T : List ANode) (i : Nat) : List (ByteArray × ByteArray) := (nd T i).attrs
def getE (T : List ANode) (i : Int) (s : ByteArray) : Int := if askI T [i] = 0 then (if hasA (atl T i.toNat) s = true then 0 else 6) else askI T [i]
def getV (T : List ANode) (i : Int) (s : ByteArray) : ByteArray := if getE T i s = 0 then vl (atl T i.toNat) (lowA (atl T i.toNat) s) else .empty
theorem good_attrs {T : List ANode} (hg : goodB T = true) {i : Nat} (hi : i < T.length) : Sorted (atl T i) ∧ (atl T i).length ≤ 16 := by
  have h := (((goodB_iff T).1 hg).2.2.1 i hi).2.1
  refine ⟨sorted_attrs h, ?_⟩
  unfold attrsB at h
  simp only [Bool.and_eq_true, decide_eq_true_eq] at h
  exact h.1
theorem ret_si {k' : IntKind} {a b : ByteArray} {c d : Int} (h : a = b) (h' : c = d) : Ending.returned (.tuple #[.string a, .int k' c]) = .returned (.tuple #[.string b, .int k' d]) := by rw [h, h']
theorem ret_sb {a b : ByteArray} {c d : Bool} (h : a = b) (h' : c = d) : Ending.returned (.tuple #[.string a, .bool c]) = .returned (.tuple #[.string b, .bool d]) := by rw [h, h']

end Go.Proofs.Ytkimjpcmcfnmkaa
