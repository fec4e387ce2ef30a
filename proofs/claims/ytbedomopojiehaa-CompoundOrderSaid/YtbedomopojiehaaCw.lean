/- Words on memory: lists of bytes, lists of lists of truth values; what is told. No condition. -/
import Derived.Test.YtbedomopojiehaaPush
import Derived.Test.YtbedomopojiehaaOa
namespace Go.Proofs.Ytbedomopojiehaa
open Go.RowKit

def rowB (H : List (List Bool)) (j : Nat) : List Bool := H.getD j []
def IsU8 (w : World) (A : Option Addr) (n : Nat) (xs : List Int) : Prop :=
  xs.length = n ∧ n ≤ 9223372036854775807 ∧ (∀ x ∈ xs, 0 ≤ x ∧ x ≤ 255) ∧ (0 < n → ∃ b off, A = some ⟨b, off, none⟩ ∧ b < w.heap.size ∧ ∀ j, j < n → w.cell? ⟨b, off + j, none⟩ = some (.int .u8 (ix xs j)))
def IsBB (w : World) (A : Option Addr) (n : Nat) (H : List (List Bool)) : Prop :=
  H.length = n ∧ n ≤ 9223372036854775807 ∧ (0 < n → ∃ (b off : Nat) (hA : Nat → Option Addr) (hC : Nat → Nat), A = some ⟨b, off, none⟩ ∧ b < w.heap.size ∧
    (∀ j, j < n → w.cell? ⟨b, off + j, none⟩ = some (.slice (hA j) (rowB H j).length (hC j))) ∧
    (∀ j, j < n → IsBools w (hA j) (rowB H j).length (rowB H j) ∧ (rowB H j).length ≤ hC j ∧ hC j ≤ 9223372036854775807))
section
variable {w w' : World} {A : Option Addr} {n : Nat}
theorem IsU8.below {xs : List Int} (h : IsU8 w A n xs) (hb : Below w.heap.size w w') : IsU8 w' A n xs := by
  obtain ⟨h1, h2, h2', h3⟩ := h
  refine ⟨h1, h2, h2', fun hn => ?_⟩
  obtain ⟨b, off, ha, hbl, hc⟩ := h3 hn
  exact ⟨b, off, ha, Nat.lt_of_lt_of_le hbl hb.size, fun j hj => (old hb _ _ hbl).trans (hc j hj)⟩
theorem IsBB.below {H : List (List Bool)} (h : IsBB w A n H) (hb : Below w.heap.size w w') : IsBB w' A n H := by
  obtain ⟨h1, h2, h3⟩ := h
  refine ⟨h1, h2, fun hn => ?_⟩
  obtain ⟨b, off, hA, hC, ha, hbl, hc, hr⟩ := h3 hn
  exact ⟨b, off, hA, hC, ha, Nat.lt_of_lt_of_le hbl hb.size, fun j hj => (old hb _ _ hbl).trans (hc j hj), fun j hj => ⟨(hr j hj).1.below hb, (hr j hj).2⟩⟩
end

/-- What is told is right, for a tree of so many elements. -/
def toldB (n : Nat) (cs : List Int) (H : List (List Bool)) : Bool :=
  decide (1 ≤ H.length) && decide (H.length ≤ 64) && decide (H.length = cs.length + 1) && decide (∀ j, j < cs.length → 1 ≤ ix cs j ∧ ix cs j ≤ 4) && decide (∀ j, j < H.length → (rowB H j).length = n)
theorem toldB_iff (n : Nat) (cs : List Int) (H : List (List Bool)) : toldB n cs H = true ↔ 1 ≤ H.length ∧ H.length ≤ 64 ∧ H.length = cs.length + 1 ∧ (∀ j, j < cs.length → 1 ≤ ix cs j ∧ ix cs j ≤ 4) ∧ ∀ j, j < H.length → (rowB H j).length = n := by
  simp only [toldB, Bool.and_eq_true, decide_eq_true_eq, and_assoc]
/-- The error of a tree and of what is told. -/
def cchk (T : List ANode) (cs : List Int) (H : List (List Bool)) : Int := if goodB T = true then (if toldB T.length cs H = true then 0 else 2) else 8
/-- The error of a tree, an element and what is told. -/
def cask (T : List ANode) (i : Int) (cs : List Int) (H : List (List Bool)) : Int := if askI T [i] = 0 then cchk T cs H else askI T [i]
theorem cchk_zero {T : List ANode} {cs : List Int} {H : List (List Bool)} : cchk T cs H = 0 ↔ goodB T = true ∧ toldB T.length cs H = true := by
  unfold cchk
  by_cases h : goodB T = true
  · rw [if_pos h]; by_cases h2 : toldB T.length cs H = true
    · rw [if_pos h2]; simp [h, h2]
    · rw [if_neg h2]; simp [h2]
  · rw [if_neg h]; simp [h]
theorem cask_zero {T : List ANode} {i : Int} {cs : List Int} {H : List (List Bool)} : cask T i cs H = 0 ↔ goodB T = true ∧ (0 ≤ i ∧ i < T.length) ∧ toldB T.length cs H = true := by
  unfold cask
  by_cases h : askI T [i] = 0
  · rw [if_pos h, cchk_zero]
    have := (askI_zero.1 h).2 i (by simp)
    have hg := (askI_zero.1 h).1
    constructor
    · rintro ⟨h1, h2⟩; exact ⟨h1, this, h2⟩
    · rintro ⟨h1, _, h2⟩; exact ⟨h1, h2⟩
  · rw [if_neg h]
    constructor
    · intro h'; exact absurd h' h
    · rintro ⟨h1, h2, -⟩; exact absurd (askI_ok h1 (by simpa using h2)) h

/-! ## The check, by the program -/
end Go.Proofs.Ytbedomopojiehaa
