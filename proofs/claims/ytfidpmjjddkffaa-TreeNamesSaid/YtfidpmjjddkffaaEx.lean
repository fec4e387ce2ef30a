/- Walks: the chapter's example tree, and what is checked of it. No condition. -/
import Derived.Test.YtfidpmjjddkffaaWg
namespace Go.Proofs.Ytfidpmjjddkffaa
open Go.RowKit

def bs (l : List UInt8) : ByteArray := ⟨l.toArray⟩
/-- The chapter's tree: html, p, div, a, p. -/
def exT : List ANode :=
  [⟨bs [104, 116, 109, 108], [], -1, [2, 1]⟩, ⟨bs [112], [], 0, []⟩, ⟨bs [100, 105, 118], [], 0, [3]⟩, ⟨bs [97], [], 2, []⟩, ⟨bs [112], [], -1, []⟩]

theorem goodB_ex : goodB exT = true := by kernel_rfl

theorem lt5 {j : Nat} (h : j < 5) : j = 0 ∨ j = 1 ∨ j = 2 ∨ j = 3 ∨ j = 4 := by omega

def exCells (g1 g2 : Nat) : Array Value :=
  #[.string (bs [104, 116, 109, 108]), .slice none 0 0, .int .i64 (-1), .slice (some ⟨g1, 0, none⟩) 2 2,
    .string (bs [112]), .slice none 0 0, .int .i64 0, .slice none 0 0,
    .string (bs [100, 105, 118]), .slice none 0 0, .int .i64 0, .slice (some ⟨g2, 0, none⟩) 1 1,
    .string (bs [97]), .slice none 0 0, .int .i64 2, .slice none 0 0,
    .string (bs [112]), .slice none 0 0, .int .i64 (-1), .slice none 0 0]

theorem isInts_nil (w : World) : IsInts w none 0 [] := ⟨rfl, by omega, fun h => absurd h (by omega)⟩
theorem isAttrs_nil (w : World) : IsAttrs w none 0 [] := ⟨rfl, by omega, fun _ h => by simp at h, fun h => absurd h (by omega)⟩

theorem ex_tree {w : World} {g g1 g2 : Nat} (hc : ∀ j, j < 20 → w.cell? ⟨g, j, none⟩ = (exCells g1 g2)[j]?) (h1 : IsInts w (some ⟨g1, 0, none⟩) 2 [2, 1]) (h2 : IsInts w (some ⟨g2, 0, none⟩) 1 [3]) : IsTree w (some ⟨g, 0, none⟩) 5 exT := by
  refine ⟨rfl, by omega, fun x hx => ?_, fun _ => ⟨g, 0, fun _ => none, fun j => if j = 0 then some ⟨g1, 0, none⟩ else if j = 2 then some ⟨g2, 0, none⟩ else none, fun _ => 0, fun j => if j = 0 then 2 else if j = 2 then 1 else 0, rfl, ?_, ?_, ?_, ?_, ?_, ?_, ?_⟩⟩
  · simp [exT] at hx
    rcases hx with rfl | rfl | rfl | rfl | rfl <;> decide
  · exact cell_in (p := ⟨g, 0, none⟩) (v := .string (bs [104, 116, 109, 108])) (hc 0 (by omega))
  · intro j hj; rw [Nat.zero_add, hc _ (by omega)]
    rcases lt5 hj with rfl | rfl | rfl | rfl | rfl <;> rfl
  · intro j hj; rw [Nat.zero_add, hc _ (by omega)]
    rcases lt5 hj with rfl | rfl | rfl | rfl | rfl <;> rfl
  · intro j hj; rw [Nat.zero_add, hc _ (by omega)]
    rcases lt5 hj with rfl | rfl | rfl | rfl | rfl <;> rfl
  · intro j hj; rw [Nat.zero_add, hc _ (by omega)]
    rcases lt5 hj with rfl | rfl | rfl | rfl | rfl <;> rfl
  · intro j hj
    have ha : (nd exT j).attrs = [] := by rcases lt5 hj with rfl | rfl | rfl | rfl | rfl <;> rfl
    rw [ha]
    exact ⟨isAttrs_nil w, Nat.le_refl _, Nat.zero_le _⟩
  · intro j hj
    rcases lt5 hj with rfl | rfl | rfl | rfl | rfl
    · exact ⟨h1, by decide, by decide⟩
    · exact ⟨isInts_nil w, by decide, by decide⟩
    · exact ⟨h2, by decide, by decide⟩
    · exact ⟨isInts_nil w, by decide, by decide⟩
    · exact ⟨isInts_nil w, by decide, by decide⟩

def MadeTree (w : World) (T : List ANode) (e : Ending) (w' : World) : Prop :=
  ∃ (A : Option Addr) (c : Nat), e = .returned (.agg #[.slice A T.length c]) ∧ IsTree w' A T.length T ∧ Below w.heap.size w w'

theorem example_ok (w : World) : Calls Try.prog 29 #[] w (MadeTree w exT) := by
  go_enter Try.func29, Try.ntmps29
  go_wp2
  refine bodyPost_ret (v := .agg #[.slice (some ⟨w.heap.size + 1 + 1 + 1, 0, none⟩) 5 5]) (by simp [results, Try.results29, go_sem]) rfl ⟨_, _, rfl, ?_, below_alloc (below_alloc (below_alloc (below_alloc (Below.refl _ _) _) _) _) _⟩
  refine ex_tree (g1 := w.heap.size + 1) (g2 := w.heap.size + 1 + 1) (fun j hj => ?_) ?_ ?_
  · rw [World.cell?_alloc_at _ _ _ _ (by simp)]; rfl
  · exact (isInts_build2 _ _ _ _ _ (by simp)).below (below_alloc (below_alloc (Below.refl _ _) _) _)
  · exact (isInts_build1 _ _ _ _ (by simp)).below (below_alloc (Below.refl _ _) _)

theorem ex_top3 : topE exT 3 = 0 := by kernel_rfl
theorem ex_top4 : topE exT 4 = 4 := by kernel_rfl
theorem ex_ask3 : askI exT [3] = 0 := by kernel_rfl
theorem ex_ask4 : askI exT [4] = 0 := by kernel_rfl
theorem ex_ask32 : askI exT [3, 2] = 0 := by kernel_rfl
theorem ex_ask30 : askI exT [3, 0] = 0 := by kernel_rfl
theorem ex_ask31 : askI exT [3, 1] = 0 := by kernel_rfl
theorem ex_bel32 : belE exT 3 2 = true := by kernel_rfl
theorem ex_bel30 : belE exT 3 0 = true := by kernel_rfl
theorem ex_bel31 : belE exT 3 1 = false := by kernel_rfl
theorem ex_dep3 : depE exT 3 = 2 := by kernel_rfl

set_option maxRecDepth 100000 in
set_option maxHeartbeats 1000000 in
theorem alive_ok (w : World) : Calls Try.prog 24 #[] w fun e w' => e = .returned (.bool true) ∧ Below w.heap.size w w' := by
  have f1 := ex_top3
  have f2 := ex_top4
  have f3 := ex_ask3
  have f4 := ex_ask4
  have f5 := ex_ask32
  have f6 := ex_ask30
  have f7 := ex_ask31
  have f8 := ex_bel32
  have f9 := ex_bel30
  have f10 := ex_bel31
  have f11 := ex_dep3
  go_enter Try.func24, Try.ntmps24
  go_wp2_with fail
  refine (example_ok _).mono ?_
  rintro e w1 ⟨A, c, rfl, hT1, hb1⟩
  go_wp2_with fail
  have hT1' := hT1.below (below_alloc (Below.refl _ _) (.cells #[.slice A exT.length c] 24))
  have hB1 := below_alloc hb1 (.cells #[.slice A exT.length c] 24)
  have hbox1 : (w1.alloc (.cells #[.slice A exT.length c] 24)).cell? ⟨w1.heap.size, 0, none⟩ = some (.slice A exT.length c) := by go_simp
  refine (top_ok _ _ _ exT _ _ hT1').mono ?_
  rintro e w2 ⟨rfl, hb2⟩
  have hT2 := hide (hT1'.below hb2)
  have hbox2 := cell_later hb2 hbox1
  have hB2 := Below.on hB1 hb2
  clear hT1 hT1' hbox1
  go_wp2_with fail
  refine (top_ok _ _ _ exT _ _ hT2.out).mono ?_
  rintro e w3 ⟨rfl, hb3⟩
  have hT3 := hide (hT2.out.below hb3)
  have hbox3 := cell_later hb3 hbox2
  have hB3 := Below.on hB2 hb3
  go_wp2_with fail
  refine (below_ok _ _ _ exT _ _ _ hT3.out).mono ?_
  rintro e w4 ⟨rfl, hb4⟩
  have hT4 := hide (hT3.out.below hb4)
  have hbox4 := cell_later hb4 hbox3
  have hB4 := Below.on hB3 hb4
  go_wp2_with fail
  refine (below_ok _ _ _ exT _ _ _ hT4.out).mono ?_
  rintro e w5 ⟨rfl, hb5⟩
  have hT5 := hide (hT4.out.below hb5)
  have hbox5 := cell_later hb5 hbox4
  have hB5 := Below.on hB4 hb5
  go_wp2_with fail
  refine (below_ok _ _ _ exT _ _ _ hT5.out).mono ?_
  rintro e w6 ⟨rfl, hb6⟩
  have hT6 := hide (hT5.out.below hb6)
  have hbox6 := cell_later hb6 hbox5
  have hB6 := Below.on hB5 hb6
  go_wp2_with fail
  refine (depth_ok _ _ _ exT _ _ hT6.out).mono ?_
  rintro e w7 ⟨rfl, hb7⟩
  have hB7 := Below.on hB6 hb7
  go_wp2
  go_ret
  exact ⟨rfl, hB7⟩
end Go.Proofs.Ytfidpmjjddkffaa
