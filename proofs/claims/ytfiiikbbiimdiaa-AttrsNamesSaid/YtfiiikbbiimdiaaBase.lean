/- Words on memory: lists of numbers, attributes and nodes as they lie in memory; plain data and plain functions on them. No condition. -/
import Derived.WalkKit
import Derived.WalkSpells
import Derived.WalkLawsBesides
import Derived.ProofKit
namespace Go.Proofs.Ytfiiikbbiimdiaa
open Go.RowKit

theorem hide {p : Prop} (h : p) : Hid p := h

/-! ## Plain data -/
structure ANode where
  tag : ByteArray
  attrs : List (ByteArray × ByteArray)
  parent : Int
  children : List Int

instance : Inhabited ANode := ⟨⟨.empty, [], 0, []⟩⟩

def nd (T : List ANode) (i : Nat) : ANode := T.getD i default
def par (T : List ANode) (i : Nat) : Int := (nd T i).parent
def kids (T : List ANode) (i : Nat) : List Int := (nd T i).children
def nm (l : List (ByteArray × ByteArray)) (i : Nat) : ByteArray := (l.getD i default).1
def vl (l : List (ByteArray × ByteArray)) (i : Nat) : ByteArray := (l.getD i default).2
def ix (xs : List Int) (j : Nat) : Int := xs.getD j 0
def bx (xs : List Bool) (j : Nat) : Bool := xs.getD j false

/-! ## Memory -/
def IsInts (w : World) (A : Option Addr) (n : Nat) (xs : List Int) : Prop :=
  xs.length = n ∧ n ≤ 9223372036854775807 ∧ (0 < n → ∃ b off, A = some ⟨b, off, none⟩ ∧ b < w.heap.size ∧ ∀ j, j < n → w.cell? ⟨b, off + j, none⟩ = some (.int .i64 (ix xs j)))

def IsBools (w : World) (A : Option Addr) (n : Nat) (xs : List Bool) : Prop :=
  xs.length = n ∧ n ≤ 9223372036854775807 ∧ (0 < n → ∃ b off, A = some ⟨b, off, none⟩ ∧ b < w.heap.size ∧ ∀ j, j < n → w.cell? ⟨b, off + j, none⟩ = some (.bool (bx xs j)))

def IsAttrs (w : World) (A : Option Addr) (n : Nat) (xs : List (ByteArray × ByteArray)) : Prop :=
  xs.length = n ∧ n ≤ 9223372036854775807 ∧ (∀ x ∈ xs, x.1.size ≤ 9223372036854775807 ∧ x.2.size ≤ 9223372036854775807) ∧ (0 < n → ∃ b off, A = some ⟨b, off, none⟩ ∧ b < w.heap.size ∧
    (∀ j, j < n → w.cell? ⟨b, off + j * 2, none⟩ = some (.string (nm xs j))) ∧ (∀ j, j < n → w.cell? ⟨b, off + j * 2 + 1, none⟩ = some (.string (vl xs j))))

def IsTree (w : World) (A : Option Addr) (n : Nat) (T : List ANode) : Prop :=
  T.length = n ∧ n ≤ 9223372036854775807 ∧ (∀ x ∈ T, x.tag.size ≤ 9223372036854775807) ∧ (0 < n → ∃ (b off : Nat) (aA cA : Nat → Option Addr) (aC cC : Nat → Nat), A = some ⟨b, off, none⟩ ∧ b < w.heap.size ∧
    (∀ j, j < n → w.cell? ⟨b, off + j * 4, none⟩ = some (.string (nd T j).tag)) ∧
    (∀ j, j < n → w.cell? ⟨b, off + j * 4 + 1, none⟩ = some (.slice (aA j) (nd T j).attrs.length (aC j))) ∧
    (∀ j, j < n → w.cell? ⟨b, off + j * 4 + 2, none⟩ = some (.int .i64 (par T j))) ∧
    (∀ j, j < n → w.cell? ⟨b, off + j * 4 + 3, none⟩ = some (.slice (cA j) (kids T j).length (cC j))) ∧
    (∀ j, j < n → IsAttrs w (aA j) (nd T j).attrs.length (nd T j).attrs ∧ (nd T j).attrs.length ≤ aC j ∧ aC j ≤ 9223372036854775807) ∧
    (∀ j, j < n → IsInts w (cA j) (kids T j).length (kids T j) ∧ (kids T j).length ≤ cC j ∧ cC j ≤ 9223372036854775807))

theorem old {w w1 : World} (hb : Below w.heap.size w w1) : ∀ b o, b < w.heap.size → w1.cell? ⟨b, o, none⟩ = w.cell? ⟨b, o, none⟩ :=
  fun b o h => hb.cell (p := ⟨b, o, none⟩) h

theorem oldf {w w1 : World} (hb : Below w.heap.size w w1) : ∀ b o, b < w.heap.size → w1.frozen? ⟨b, o, none⟩ = w.frozen? ⟨b, o, none⟩ :=
  fun b o h => hb.frozen (p := ⟨b, o, none⟩) h

/-- One step more: from W on, through a world w1 that already stands above W. -/
theorem Below.on {W w1 w2 : World} (h : Below W.heap.size W w1) (k : Below w1.heap.size w1 w2) : Below W.heap.size W w2 := h.trans (k.mono h.size)

theorem below_alloc {W w : World} (h : Below W.heap.size W w) (o : Obj) : Below W.heap.size W (w.alloc o) := h.alloc h.size o

section
variable {w w' : World} {A : Option Addr} {n : Nat}
theorem IsInts.below {xs : List Int} (h : IsInts w A n xs) (hb : Below w.heap.size w w') : IsInts w' A n xs := by
  obtain ⟨h1, h2, h3⟩ := h
  refine ⟨h1, h2, fun hn => ?_⟩
  obtain ⟨b, off, ha, hbl, hc⟩ := h3 hn
  exact ⟨b, off, ha, Nat.lt_of_lt_of_le hbl hb.size, fun j hj => (old hb _ _ hbl).trans (hc j hj)⟩
theorem IsBools.below {xs : List Bool} (h : IsBools w A n xs) (hb : Below w.heap.size w w') : IsBools w' A n xs := by
  obtain ⟨h1, h2, h3⟩ := h
  refine ⟨h1, h2, fun hn => ?_⟩
  obtain ⟨b, off, ha, hbl, hc⟩ := h3 hn
  exact ⟨b, off, ha, Nat.lt_of_lt_of_le hbl hb.size, fun j hj => (old hb _ _ hbl).trans (hc j hj)⟩
theorem IsAttrs.below {xs : List (ByteArray × ByteArray)} (h : IsAttrs w A n xs) (hb : Below w.heap.size w w') : IsAttrs w' A n xs := by
  obtain ⟨h1, h2, h2', h3⟩ := h
  refine ⟨h1, h2, h2', fun hn => ?_⟩
  obtain ⟨b, off, ha, hbl, hc, hd⟩ := h3 hn
  exact ⟨b, off, ha, Nat.lt_of_lt_of_le hbl hb.size, fun j hj => (old hb _ _ hbl).trans (hc j hj), fun j hj => (old hb _ _ hbl).trans (hd j hj)⟩
theorem IsTree.below {T : List ANode} (h : IsTree w A n T) (hb : Below w.heap.size w w') : IsTree w' A n T := by
  obtain ⟨h1, h2, h2', h3⟩ := h
  refine ⟨h1, h2, h2', fun hn => ?_⟩
  obtain ⟨b, off, aA, cA, aC, cC, ha, hbl, c0, c1, c2, c3, hA, hC⟩ := h3 hn
  exact ⟨b, off, aA, cA, aC, cC, ha, Nat.lt_of_lt_of_le hbl hb.size, fun j hj => (old hb _ _ hbl).trans (c0 j hj), fun j hj => (old hb _ _ hbl).trans (c1 j hj), fun j hj => (old hb _ _ hbl).trans (c2 j hj),
    fun j hj => (old hb _ _ hbl).trans (c3 j hj), fun j hj => ⟨(hA j hj).1.below hb, (hA j hj).2⟩, fun j hj => ⟨(hC j hj).1.below hb, (hC j hj).2⟩⟩
end

theorem ret_int {k : IntKind} {a b : Int} (h : a = b) : Ending.returned (.int k a) = .returned (.int k b) := by rw [h]
theorem ret_bool {a b : Bool} (h : a = b) : Ending.returned (.bool a) = .returned (.bool b) := by rw [h]

/-! ## Plain functions -/
def smallI (c : Int) : Bool := decide ((97 ≤ c ∧ c ≤ 122) ∨ (48 ≤ c ∧ c ≤ 57) ∨ c = 45 ∨ c = 95 ∨ 128 ≤ c)
def byt (s : ByteArray) (j : Nat) : Int := ((s.data.toList.getD j 0).toNat : Int)
def namedB (s : ByteArray) : Bool :=
  decide (1 ≤ s.size) && decide (s.size ≤ 64) && decide (97 ≤ byt s 0) && decide (byt s 0 ≤ 122) && decide (∀ j, j < s.size → smallI (byt s j) = true)
theorem namedB_iff (s : ByteArray) : namedB s = true ↔ 1 ≤ s.size ∧ s.size ≤ 64 ∧ 97 ≤ byt s 0 ∧ byt s 0 ≤ 122 ∧ ∀ j, j < s.size → smallI (byt s j) = true := by
  simp [namedB, and_assoc]
theorem byt_get (s : ByteArray) (j : Nat) (h : j < s.size) : ((s[j]'h).toNat : Int) = byt s j := by
  have h' : j < s.data.toList.length := by simpa using h
  unfold byt
  rw [List.getD_eq_getElem?_getD, List.getElem?_eq_getElem h']
  rfl
/-- The place of a number in a list, or -1. -/
def posn (xs : List Int) (x : Int) : Int := if xs.idxOf x < xs.length then (xs.idxOf x : Int) else -1
theorem posn_at {xs : List Int} {x : Int} {k : Nat} (hk : k < xs.length) (he : ix xs k = x) (hb : ∀ j, j < k → ix xs j ≠ x) : posn xs x = k := by
  have h : xs.idxOf x = k := by
    induction xs generalizing k with
    | nil => simp at hk
    | cons y ys ih =>
      cases k with
      | zero => simp [ix] at he; simp [he]
      | succ k =>
        have h0 := hb 0 (by omega)
        simp [ix] at h0
        simp only [List.length_cons] at hk
        have h1 := ih (k := k) (by omega) (by simpa [ix] using he) (fun j hj => by have := hb (j + 1) (by omega); simpa [ix] using this)
        have h2 : (y == x) = false := by simpa using h0
        rw [List.idxOf_cons, h2, h1]
        rfl
  simp [posn, h, hk]
theorem posn_no {xs : List Int} {x : Int} (hb : ∀ j, j < xs.length → ix xs j ≠ x) : posn xs x = -1 := by
  unfold posn
  rw [if_neg]
  intro h
  have h1 := List.getElem_idxOf h
  refine hb _ h ?_
  unfold ix
  rw [List.getD_eq_getElem?_getD, List.getElem?_eq_getElem h, h1]
  rfl
theorem posn_lt (xs : List Int) (x : Int) : -1 ≤ posn xs x ∧ posn xs x < xs.length := by
  unfold posn
  split <;> omega
theorem posn_neg {xs : List Int} {x : Int} : 0 ≤ posn xs x ↔ x ∈ xs := by
  unfold posn
  constructor
  · intro h
    split at h
    · rename_i h2; exact List.idxOf_lt_length_iff.1 h2
    · omega
  · intro h
    rw [if_pos (List.idxOf_lt_length_iff.2 h)]
    omega
theorem ix_get {xs : List Int} {j : Nat} (h : j < xs.length) : ix xs j = xs[j] := by
  unfold ix
  rw [List.getD_eq_getElem?_getD, List.getElem?_eq_getElem h]
  rfl
theorem take_snoc' {α : Type} (l : List α) (k : Nat) (h : k < l.length) : l.take (k + 1) = l.take k ++ [l[k]] := by
  rw [List.take_succ_eq_append_getElem h]
theorem count_snoc {xs : List Int} {k : Nat} (h : k < xs.length) (x : Int) : (xs.take (k + 1)).count x = (xs.take k).count x + if ix xs k = x then 1 else 0 := by
  rw [take_snoc' xs k h, List.count_append, ix_get h]
  simp [List.count_singleton]
theorem count_le (xs : List Int) (x : Int) (k : Nat) : (xs.take k).count x ≤ k := Nat.le_trans List.count_le_length (List.length_take_le _ _)
end Go.Proofs.Ytfiiikbbiimdiaa
