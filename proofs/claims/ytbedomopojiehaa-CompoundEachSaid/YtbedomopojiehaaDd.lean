/- A list of lists of truth values that the call has made, to read; copies of such lists. Condition: not great. -/
import Derived.Test.YtbedomopojiehaaBb
namespace Go.Proofs.Ytbedomopojiehaa
open Go.RowKit

theorem ownBB_nil (w : World) (base : Nat) (H : List (List Bool)) : OwnBB w base (.slice none 0 0) 0 H :=
  ⟨fun _ => none, fun _ => 0, World.ownsRow_nil _ _ _ _, fun _ h => absurd h (by omega)⟩
theorem OwnBB.isBB {w : World} {base k : Nat} {v : Value} {H : List (List Bool)} (h : OwnBB w base v k H) (hl : H.length = k) (hk : k ≤ 1000000) (hR : ∀ j, j < k → (rowB H j).length ≤ 1000000) : ∃ (A : Option Addr) (c : Nat), v = .slice A k c ∧ k ≤ c ∧ c ≤ maxLen ∧ IsBB w A k H := by
  obtain ⟨aA, aC, q1, q2⟩ := h
  rcases Nat.eq_zero_or_pos k with rfl | h0
  · obtain ⟨A, c, hv, h1, h2⟩ := sl_of_own q1
    exact ⟨A, c, hv, h1, h2, hl, by omega, fun h => absurd h (by omega)⟩
  · obtain ⟨g, cap, cs, rfl, h1, h2, h3, h4⟩ := own_blk q1 h0
    refine ⟨_, cap, rfl, h1, h2, hl, by omega, fun _ => ⟨g, 0, aA, aC, rfl, blk_lt h4, fun j hj => ?_, fun j hj => ?_⟩⟩
    · rw [Nat.zero_add, World.ownsRow.cellAt q1 j (by omega), slicesR_get _ _ _ hj]
    · obtain ⟨A, c, hv, hc1, hc2, hI⟩ := OwnB.isBools (xs := rowB H j) (q2 j hj) (hR j hj)
      injection hv with e1 e2 e3
      unfold maxLen at hc2
      exact ⟨by rw [e1]; exact hI, by omega, by omega⟩
end Go.Proofs.Ytbedomopojiehaa
