/- Trees and lists that lie as they are written down in the text. No condition but those of the laws. -/
import Derived.Test.YtfiiikbbiimdiaaOe
import Derived.Test.YtfiiikbbiimdiaaEx
namespace Go.Proofs.Ytfiiikbbiimdiaa
open Go.RowKit

/-- A tree that lies as its cells are written down. -/
theorem isTree_at {w : World} {g n : Nat} (T : List ANode) (hl : T.length = n) (hn : n ≤ 1000) (hs : ∀ x ∈ T, x.tag.size ≤ 9223372036854775807) (aA cA : Nat → Option Addr) (aC cC : Nat → Nat) (hg : 0 < n → g < w.heap.size)
    (hc : ∀ j, j < n → w.cell? ⟨g, j * 4, none⟩ = some (.string (nd T j).tag) ∧ w.cell? ⟨g, j * 4 + 1, none⟩ = some (.slice (aA j) (nd T j).attrs.length (aC j)) ∧ w.cell? ⟨g, j * 4 + 2, none⟩ = some (.int .i64 (par T j)) ∧ w.cell? ⟨g, j * 4 + 3, none⟩ = some (.slice (cA j) (kids T j).length (cC j)))
    (hA : ∀ j, j < n → IsAttrs w (aA j) (nd T j).attrs.length (nd T j).attrs ∧ (nd T j).attrs.length ≤ aC j ∧ aC j ≤ 9223372036854775807)
    (hC : ∀ j, j < n → IsInts w (cA j) (kids T j).length (kids T j) ∧ (kids T j).length ≤ cC j ∧ cC j ≤ 9223372036854775807) : IsTree w (some ⟨g, 0, none⟩) n T := by
  refine ⟨hl, by omega, hs, fun h0 => ⟨g, 0, aA, cA, aC, cC, rfl, hg h0, ?_, ?_, ?_, ?_, hA, hC⟩⟩
  all_goals (intro j hj; rw [Nat.zero_add])
  · exact (hc j hj).1
  · exact (hc j hj).2.1
  · exact (hc j hj).2.2.1
  · exact (hc j hj).2.2.2
theorem isAttrs_lit (W : World) (g : Nat) (t : TypeId) (xs : List (ByteArray × ByteArray)) (hn : xs.length ≤ 1000) (hs : ∀ x ∈ xs, x.1.size ≤ 9223372036854775807 ∧ x.2.size ≤ 9223372036854775807) (hg : g = W.heap.size) : IsAttrs (W.alloc (.cells (atts xs).toArray t)) (some ⟨g, 0, none⟩) xs.length xs := by
  subst hg
  refine ⟨rfl, by omega, hs, fun _ => ⟨W.heap.size, 0, rfl, by simp, fun j hj => ?_, fun j hj => ?_⟩⟩
  · rw [Nat.zero_add, World.cell?_alloc_at _ _ _ _ rfl]
    simpa using (atts_get xs j hj).1
  · rw [Nat.zero_add, World.cell?_alloc_at _ _ _ _ rfl]
    simpa using (atts_get xs j hj).2
end Go.Proofs.Ytfiiikbbiimdiaa
