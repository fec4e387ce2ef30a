/- Words on memory for what a text writes down: trees, lists of truth values, bytes, lists of lists. No condition. -/
import Derived.Test.YtbedomopojiehaaCw
import Derived.Test.YtbedomopojiehaaEx
import Derived.Test.YtbedomopojiehaaOe
namespace Go.Proofs.Ytbedomopojiehaa
open Go.RowKit

/-- A tree that lies as its cells are written down. -/
theorem isTree_lt {w : World} {g n : Nat} (T : List ANode) (hl : T.length = n) (hn : n ≤ 1000) (hs : ∀ x ∈ T, x.tag.size ≤ 9223372036854775807) (aA cA : Nat → Option Addr) (aC cC : Nat → Nat) (hg : 0 < n → g < w.heap.size)
    (hc : ∀ j, j < n → w.cell? ⟨g, j * 4, none⟩ = some (.string (nd T j).tag) ∧ w.cell? ⟨g, j * 4 + 1, none⟩ = some (.slice (aA j) (nd T j).attrs.length (aC j)) ∧ w.cell? ⟨g, j * 4 + 2, none⟩ = some (.int .i64 (par T j)) ∧ w.cell? ⟨g, j * 4 + 3, none⟩ = some (.slice (cA j) (kids T j).length (cC j)))
    (hA : ∀ j, j < n → IsAttrs w (aA j) (nd T j).attrs.length (nd T j).attrs ∧ (nd T j).attrs.length ≤ aC j ∧ aC j ≤ 9223372036854775807)
    (hC : ∀ j, j < n → IsInts w (cA j) (kids T j).length (kids T j) ∧ (kids T j).length ≤ cC j ∧ cC j ≤ 9223372036854775807) : IsTree w (some ⟨g, 0, none⟩) n T := by
  refine ⟨hl, by omega, hs, fun h0 => ⟨g, 0, aA, cA, aC, cC, rfl, hg h0, ?_, ?_, ?_, ?_, hA, hC⟩⟩
  all_goals (intro j hj; rw [Nat.zero_add])
  · exact (hc j hj).1
  · exact (hc j hj).2.1
  · exact (hc j hj).2.2.1
  · exact (hc j hj).2.2.2
theorem isBools_lt (W : World) (g : Nat) (t : TypeId) (xs : List Bool) (hn : xs.length ≤ 1000) (hg : g = W.heap.size) : IsBools (W.alloc (.cells (bools xs).toArray t)) (some ⟨g, 0, none⟩) xs.length xs := by
  subst hg
  refine ⟨rfl, by omega, fun _ => ⟨W.heap.size, 0, rfl, by simp, fun j hj => ?_⟩⟩
  rw [Nat.zero_add, World.cell?_alloc_at _ _ _ _ rfl]
  simpa using bools_get hj
def u8s (xs : List Int) : List Value := xs.map (Value.int .u8)
theorem u8s_get {xs : List Int} {j : Nat} (h : j < xs.length) : (u8s xs)[j]? = some (.int .u8 (ix xs j)) := by
  unfold u8s
  rw [List.getElem?_map, List.getElem?_eq_getElem h, ix_get h]; rfl
theorem isU8_lt (W : World) (g : Nat) (t : TypeId) (xs : List Int) (hn : xs.length ≤ 1000) (hr : ∀ x ∈ xs, 0 ≤ x ∧ x ≤ 255) (hg : g = W.heap.size) : IsU8 (W.alloc (.cells (u8s xs).toArray t)) (some ⟨g, 0, none⟩) xs.length xs := by
  subst hg
  refine ⟨rfl, by omega, hr, fun _ => ⟨W.heap.size, 0, rfl, by simp, fun j hj => ?_⟩⟩
  rw [Nat.zero_add, World.cell?_alloc_at _ _ _ _ rfl]
  simpa using u8s_get hj
theorem isU8_nil (w : World) : IsU8 w none 0 [] := ⟨rfl, by omega, fun _ h => by simp at h, fun h => absurd h (by omega)⟩
theorem isBB_nil (w : World) : IsBB w none 0 [] := ⟨rfl, by omega, fun h => absurd h (by omega)⟩
theorem isBools_nil (w : World) : IsBools w none 0 [] := ⟨rfl, by omega, fun h => absurd h (by omega)⟩
/-- A list of lists that lies as its cells are written down. -/
theorem isBB_lt (W : World) (g : Nat) (t : TypeId) (H : List (List Bool)) (hA : Nat → Option Addr) (hC : Nat → Nat) (cs : Array Value) (hn : H.length ≤ 1000) (hg : g = W.heap.size)
    (hc : ∀ j, j < H.length → cs[j]? = some (.slice (hA j) (rowB H j).length (hC j))) (hr : ∀ j, j < H.length → IsBools W (hA j) (rowB H j).length (rowB H j) ∧ (rowB H j).length ≤ hC j ∧ hC j ≤ 9223372036854775807) :
    IsBB (W.alloc (.cells cs t)) (some ⟨g, 0, none⟩) H.length H := by
  subst hg
  refine ⟨rfl, by omega, fun _ => ⟨W.heap.size, 0, hA, hC, rfl, by simp, fun j hj => ?_, fun j hj => ⟨(hr j hj).1.below (below_alloc (Below.refl _ _) _), (hr j hj).2⟩⟩⟩
  rw [Nat.zero_add, World.cell?_alloc_at _ _ _ _ rfl]
  exact hc j hj
end Go.Proofs.Ytbedomopojiehaa
