/- Walks: the chapter's example tree, and what is checked of it. No condition. -/
import Derived.Test.YtfiiikbbiimdiaaWg
namespace Go.Proofs.Ytfiiikbbiimdiaa
open Go.RowKit

def bs (l : List UInt8) : ByteArray := ⟨l.toArray⟩
/-- The chapter's tree: html, p, div, a, p. -/
def exT : List ANode :=
  [⟨bs [104, 116, 109, 108], [], -1, [2, 1]⟩, ⟨bs [112], [], 0, []⟩, ⟨bs [100, 105, 118], [], 0, [3]⟩, ⟨bs [97], [], 2, []⟩, ⟨bs [112], [], -1, []⟩]

theorem goodB_ex : goodB exT = true := by kernel_rfl

theorem lt5 {j : Nat} (h : j < 5) : j = 0 ∨ j = 1 ∨ j = 2 ∨ j = 3 ∨ j = 4 := by omega

def exCells (g1 g2 : Nat) : Array Value :=
  #[.string (bs [104, 116, 109, 108]), .slice none 0 0, .int .i64 (-1), .slice (some ⟨g1, 0, none⟩) 2 2,
    .string (bs [112]), .slice none 0 0, .int .i64 0, .slice none 0 0,
    .string (bs [100, 105, 118]), .slice none 0 0, .int .i64 0, .slice (some ⟨g2, 0, none⟩) 1 1,
    .string (bs [97]), .slice none 0 0, .int .i64 2, .slice none 0 0,
    .string (bs [112]), .slice none 0 0, .int .i64 (-1), .slice none 0 0]

theorem isInts_nil (w : World) : IsInts w none 0 [] := ⟨rfl, by omega, fun h => absurd h (by omega)⟩
theorem isAttrs_nil (w : World) : IsAttrs w none 0 [] := ⟨rfl, by omega, fun _ h => by simp at h, fun h => absurd h (by omega)⟩

theorem ex_tree {w : World} {g g1 g2 : Nat} (hc : ∀ j, j < 20 → w.cell? ⟨g, j, none⟩ = (exCells g1 g2)[j]?) (h1 : IsInts w (some ⟨g1, 0, none⟩) 2 [2, 1]) (h2 : IsInts w (some ⟨g2, 0, none⟩) 1 [3]) : IsTree w (some ⟨g, 0, none⟩) 5 exT := by
  refine ⟨rfl, by omega, fun x hx => ?_, fun _ => ⟨g, 0, fun _ => none, fun j => if j = 0 then some ⟨g1, 0, none⟩ else if j = 2 then some ⟨g2, 0, none⟩ else none, fun _ => 0, fun j => if j = 0 then 2 else if j = 2 then 1 else 0, rfl, ?_, ?_, ?_, ?_, ?_, ?_, ?_⟩⟩
  · simp [exT] at hx
    rcases hx with rfl | rfl | rfl | rfl | rfl <;> decide
  · exact cell_in (p := ⟨g, 0, none⟩) (v := .string (bs [104, 116, 109, 108])) (hc 0 (by omega))
  · intro j hj; rw [Nat.zero_add, hc _ (by omega)]
    rcases lt5 hj with rfl | rfl | rfl | rfl | rfl <;> rfl
  · intro j hj; rw [Nat.zero_add, hc _ (by omega)]
    rcases lt5 hj with rfl | rfl | rfl | rfl | rfl <;> rfl
  · intro j hj; rw [Nat.zero_add, hc _ (by omega)]
    rcases lt5 hj with rfl | rfl | rfl | rfl | rfl <;> rfl
  · intro j hj; rw [Nat.zero_add, hc _ (by omega)]
    rcases lt5 hj with rfl | rfl | rfl | rfl | rfl <;> rfl
  · intro j hj
    have ha : (nd exT j).attrs = [] := by rcases lt5 hj with rfl | rfl | rfl | rfl | rfl <;> rfl
    rw [ha]
    exact ⟨isAttrs_nil w, Nat.le_refl _, Nat.zero_le _⟩
  · intro j hj
    rcases lt5 hj with rfl | rfl | rfl | rfl | rfl
    · exact ⟨h1, by decide, by decide⟩
    · exact ⟨isInts_nil w, by decide, by decide⟩
    · exact ⟨h2, by decide, by decide⟩
    · exact ⟨isInts_nil w, by decide, by decide⟩
    · exact ⟨isInts_nil w, by decide, by decide⟩

def MadeTree (w : World) (T : List ANode) (e : Ending) (w' : World) : Prop :=
  ∃ (A : Option Addr) (c : Nat), e = .returned (.agg #[.slice A T.length c]) ∧ IsTree w' A T.length T ∧ Below w.heap.size w w'

theorem ex_top3 : topE exT 3 = 0 := by kernel_rfl
theorem ex_top4 : topE exT 4 = 4 := by kernel_rfl
theorem ex_ask3 : askI exT [3] = 0 := by kernel_rfl
theorem ex_ask4 : askI exT [4] = 0 := by kernel_rfl
theorem ex_ask32 : askI exT [3, 2] = 0 := by kernel_rfl
theorem ex_ask30 : askI exT [3, 0] = 0 := by kernel_rfl
theorem ex_ask31 : askI exT [3, 1] = 0 := by kernel_rfl
theorem ex_bel32 : belE exT 3 2 = true := by kernel_rfl
theorem ex_bel30 : belE exT 3 0 = true := by kernel_rfl
theorem ex_bel31 : belE exT 3 1 = false := by kernel_rfl
theorem ex_dep3 : depE exT 3 = 2 := by kernel_rfl

end Go.Proofs.Ytfiiikbbiimdiaa
