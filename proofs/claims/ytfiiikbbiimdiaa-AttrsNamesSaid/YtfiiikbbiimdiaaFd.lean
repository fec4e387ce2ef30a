/- Plain: the words of a text, each once; byte by byte. No condition. -/
import Derived.Test.YtfiiikbbiimdiaaFb
import Derived.Test.YtfiiikbbiimdiaaEx
import Derived.WideShapes
namespace Go.Proofs.Ytfiiikbbiimdiaa
open Go.RowKit

def sp8 (c : UInt8) : Bool := spI (c.toNat : Int)
theorem bs_inj {l m : List UInt8} : bs l = bs m ↔ l = m := by
  unfold bs
  constructor
  · intro h
    have := congrArg (fun b : ByteArray => b.data.toList) h
    simpa using this
  · rintro rfl; rfl
theorem bs_list (s : ByteArray) : bs s.data.toList = s := by apply Go.WideShapes.bytes_inj; simp [bs]
theorem bs_size (l : List UInt8) : (bs l).size = l.length := by simp [bs, ByteArray.size]
theorem bs_app (l m : List UInt8) : bs l ++ bs m = bs (l ++ m) := by apply Go.WideShapes.bytes_inj; simp [bs]
instance (s : ByteArray) (xs : List ByteArray) : Decidable (s ∈ xs) := decidable_of_iff (xs.any (fun x => decide (x = s)) = true) (by simp)
def finW (out : List ByteArray) (cur : List UInt8) : List ByteArray := if cur = [] ∨ bs cur ∈ out then out else out ++ [bs cur]
def splitW : List UInt8 → List UInt8 → List ByteArray → List ByteArray
  | [], cur, out => finW out cur
  | c :: l, cur, out => if sp8 c then splitW l [] (finW out cur) else splitW l (cur ++ [c]) out
def wordsS (s : ByteArray) : List ByteArray := splitW s.data.toList [] []

theorem finW_nil (out : List ByteArray) : finW out [] = out := by simp [finW]
theorem finW_in {out : List ByteArray} {cur : List UInt8} (h : bs cur ∈ out) : finW out cur = out := by unfold finW; rw [if_pos (.inr h)]
theorem finW_new {out : List ByteArray} {cur : List UInt8} (h : cur ≠ []) (h2 : bs cur ∉ out) : finW out cur = out ++ [bs cur] := by unfold finW; rw [if_neg (by rintro (h3 | h3) <;> contradiction)]
theorem splitW_run (l r cur : List UInt8) (out : List ByteArray) (h : ∀ c ∈ l, sp8 c = false) : splitW (l ++ r) cur out = splitW r (cur ++ l) out := by
  induction l generalizing cur with
  | nil => simp
  | cons c l ih =>
    simp only [List.cons_append, splitW, h c (by simp), Bool.false_eq_true, if_false]
    rw [ih _ (fun x hx => h x (by simp [hx]))]
    simp
theorem splitW_stop (l cur : List UInt8) (out : List ByteArray) (h : ∀ c, l.head? = some c → sp8 c = true) : splitW l cur out = splitW l [] (finW out cur) := by
  cases l with
  | nil => simp [splitW, finW_nil]
  | cons c l => simp [splitW, h c (by simp), finW_nil]
theorem drop_at {l : List UInt8} {k : Nat} (h : k < l.length) : l.drop k = l[k] :: l.drop (k + 1) := List.drop_eq_getElem_cons h

/-- One byte more, for the reference. -/
theorem split_space {s : ByteArray} {k : Nat} {cur : List UInt8} {out R : List ByteArray} (h : k < s.size) (hs : sp8 (s[k]'h) = true) (he : splitW (s.data.toList.drop k) cur out = R) : splitW (s.data.toList.drop (k + 1)) [] (finW out cur) = R := by
  rw [drop_at (by simpa using h)] at he
  simp only [splitW] at he
  rw [if_pos (by exact hs)] at he
  exact he
theorem split_byte {s : ByteArray} {k : Nat} {cur : List UInt8} {out R : List ByteArray} (h : k < s.size) (hs : sp8 (s[k]'h) = false) (he : splitW (s.data.toList.drop k) cur out = R) : splitW (s.data.toList.drop (k + 1)) (cur ++ [s[k]'h]) out = R := by
  rw [drop_at (by simpa using h)] at he
  simp only [splitW] at he
  rw [if_neg (by show ¬ sp8 (s[k]'h) = true; simp [hs])] at he
  exact he
theorem split_end {s : ByteArray} {cur : List UInt8} {out R : List ByteArray} (he : splitW (s.data.toList.drop s.size) cur out = R) : finW out cur = R := by
  rw [List.drop_of_length_le (by simp)] at he
  exact he
/-- A word's bytes, for the program. -/
def cutL (s : ByteArray) (a b : Nat) : List UInt8 := (s.data.toList.drop a).take (b - a)
theorem cutL_split {s : ByteArray} {a b : Nat} (h : a ≤ b) : s.data.toList.drop a = cutL s a b ++ s.data.toList.drop b := by
  unfold cutL
  have := List.take_append_drop (b - a) (s.data.toList.drop a)
  rw [List.drop_drop, show a + (b - a) = b by omega] at this
  exact this.symm
theorem cutL_len {s : ByteArray} {a b : Nat} (h : a ≤ b) (hb : b ≤ s.size) : (cutL s a b).length = b - a := by
  unfold cutL
  have : s.data.size = s.size := rfl
  rw [List.length_take, List.length_drop]; simp; omega
theorem cutL_mem {s : ByteArray} {a b : Nat} {c : UInt8} (h : c ∈ cutL s a b) : ∃ j, a ≤ j ∧ j < b ∧ ∃ hj : j < s.size, s[j]'hj = c := by
  unfold cutL at h
  obtain ⟨i, hi, rfl⟩ := List.getElem_of_mem h
  have hd : s.data.size = s.size := rfl
  have hi' := hi
  rw [List.length_take, List.length_drop] at hi'
  simp at hi'
  refine ⟨a + i, by omega, by omega, by omega, ?_⟩
  rw [List.getElem_take, List.getElem_drop]
  rfl
theorem split_word {s : ByteArray} {a b : Nat} {out R : List ByteArray} (h : a ≤ b) (hn : ∀ j (hj : j < s.size), a ≤ j → j < b → sp8 (s[j]'hj) = false) (hend : ∀ hj : b < s.size, sp8 (s[b]'hj) = true) (he : splitW (s.data.toList.drop a) [] out = R) :
    splitW (s.data.toList.drop b) [] (finW out (cutL s a b)) = R := by
  rw [cutL_split h, splitW_run _ _ _ _ (fun c hc => by obtain ⟨j, h1, h2, h3, rfl⟩ := cutL_mem hc; exact hn j h3 h1 h2), List.nil_append, splitW_stop] at he
  · exact he
  · intro c hc
    have hd : s.data.size = s.size := rfl
    by_cases hb : b < s.size
    · rw [drop_at (by simpa using hb)] at hc
      simp at hc
      rw [← hc]
      exact hend hb
    · rw [List.drop_of_length_le (by simp; omega)] at hc
      simp at hc
end Go.Proofs.Ytfiiikbbiimdiaa
