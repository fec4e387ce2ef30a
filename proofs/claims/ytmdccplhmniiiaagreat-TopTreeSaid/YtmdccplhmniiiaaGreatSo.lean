/- Walks: whether a text stands in another one, by the reference. Condition: texts of at most 1000 bytes. Plain: what suits an attribute selector. No condition. -/
import Derived.Test.YtmdccplhmniiiaaGreatSm
import Derived.Test.YtmdccplhmniiiaaGreatFe
import Derived.Test.YtmdccplhmniiiaaGreatFa
import Derived.Lib.IndexMore
import Derived.Lib.Strings
namespace Go.Proofs.YtmdccplhmniiiaaGreat
open Go.RowKit

def dash : ByteArray := ⟨#[45]⟩
def suitF (op : Int) (q v : ByteArray) : Bool :=
  if op = 0 then true else if op = 1 then decide (v = q) else if op = 3 then decide (v = q) || Lib.hasPrefix v.data.toList (q ++ dash).data.toList
  else if q.size = 0 then false else if op = 2 then decide (q ∈ wordsS v) else if op = 4 then Lib.hasPrefix v.data.toList q.data.toList
  else if op = 5 then Lib.hasSuffix v.data.toList q.data.toList else Lib.contains v.data.toList q.data.toList
def suitsF (op : Int) (vl : ByteArray) (fo : Bool) (v : ByteArray) : Bool := if fo then suitF op (foldS vl) (foldS v) else suitF op vl v
def thereF (s p : ByteArray) (at' : Int) : Bool := decide (0 ≤ at') && decide (at' + p.size ≤ s.size) && Lib.occAt s.data.toList p.data.toList at'.toNat
theorem foldS_size (s : ByteArray) : (foldS s).size = s.size := by
  rw [Lib.size_eq, Lib.size_eq]
  show ((s.data.toList.map fold8).toArray.toList).length = _
  rw [List.toList_toArray, List.length_map]
theorem extract_occ {s p : ByteArray} {k : Nat} (h : k + p.size ≤ s.size) : ((s.extract k (k + p.size)).toList == p.toList) = Lib.occAt s.data.toList p.data.toList k := by
  rw [Lib.extract_toList, Lib.toList_data, Nat.add_sub_cancel_left]
  have := Lib.hasPrefix_of_take (s.data.toList.drop k) p.data.toList
  rw [← Lib.size_eq, List.length_drop, ← Lib.size_eq, decide_eq_true (by omega), Bool.true_and] at this
  exact this
theorem there_zero (v q : ByteArray) : thereF v q 0 = Lib.hasPrefix v.data.toList q.data.toList := by
  unfold thereF Lib.occAt Lib.hasPrefix
  rw [Int.toNat_zero, List.drop_zero, Int.zero_add, decide_eq_true (Int.le_refl 0), Bool.true_and]
  by_cases h : q.size ≤ v.size
  · rw [decide_eq_true (by omega), Bool.true_and]
  · rw [decide_eq_false (by omega), Bool.false_and]
    symm
    rw [Bool.eq_false_iff]
    intro h2
    have := (List.isPrefixOf_iff_prefix.1 h2).length_le
    rw [← Lib.size_eq, ← Lib.size_eq] at this
    omega
theorem there_last (v q : ByteArray) : thereF v q ((v.size : Int) - q.size) = Lib.hasSuffix v.data.toList q.data.toList := by
  have h0 := Lib.hasSuffix_of_drop v.data.toList q.data.toList
  rw [← Lib.size_eq, ← Lib.size_eq] at h0
  rw [← h0]
  unfold thereF
  by_cases h : q.size ≤ v.size
  · rw [decide_eq_true (p := (0 : Int) ≤ _) (by omega), decide_eq_true (p := (v.size : Int) - q.size + q.size ≤ v.size) (by omega), decide_eq_true h, Bool.true_and, Bool.true_and, show ((v.size : Int) - q.size).toNat = v.size - q.size by omega,
      ← extract_occ (by omega), Lib.extract_toList, Lib.toList_data, Nat.sub_add_cancel h, List.take_of_length_le (by rw [List.length_drop, ← Lib.size_eq]; exact Nat.le_refl _), Bool.true_and]
  · rw [decide_eq_false (p := (0 : Int) ≤ _) (by omega), decide_eq_false h]; simp
theorem there_some (v q : ByteArray) (hq : q.size ≠ 0) : Lib.contains v.data.toList q.data.toList = decide (∃ i, i < v.size ∧ thereF v q (i : Nat) = true) := by
  unfold Lib.contains
  have hl : v.data.toList.length = v.size := (Lib.size_eq v).symm
  have hq' : q.data.toList.length = q.size := (Lib.size_eq q).symm
  have ht : ∀ i : Nat, thereF v q i = true ↔ i + q.size ≤ v.size ∧ Lib.occAt v.data.toList q.data.toList i = true := fun i => by
    unfold thereF
    rw [Bool.and_eq_true, Bool.and_eq_true, decide_eq_true_eq, decide_eq_true_eq, Int.toNat_natCast]
    constructor
    · rintro ⟨⟨-, h1⟩, h2⟩; exact ⟨by omega, h2⟩
    · rintro ⟨h1, h2⟩; exact ⟨⟨by omega, by omega⟩, h2⟩
  rw [decide_eq_decide]
  rcases Lib.index_spec v.data.toList q.data.toList with ⟨h1, h2⟩ | ⟨i, h1, h2, h3, h4⟩
  · rw [h1]
    constructor
    · intro h; omega
    · rintro ⟨i, hi, h⟩
      have := h2 i (by omega)
      rw [((ht i).1 h).2] at this
      cases this
  · rw [h1]
    refine ⟨fun _ => ?_, fun _ => by omega⟩
    have hr := Lib.index_room v.data.toList q.data.toList (by omega)
    rw [h1, hl, hq'] at hr
    exact ⟨i, by omega, (ht i).2 ⟨by omega, h3⟩⟩
end Go.Proofs.YtmdccplhmniiiaaGreat
