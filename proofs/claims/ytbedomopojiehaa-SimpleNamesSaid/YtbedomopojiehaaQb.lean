/- Walks: chapter 18's example; the tables of selectors that chapter 18's laws check. No condition. -/
import Derived.Test.YtbedomopojiehaaVa
import Derived.Test.YtbedomopojiehaaLt
import Derived.Test.YtbedomopojiehaaLit
import Derived.Test.YtbedomopojiehaaLn
namespace Go.Proofs.Ytbedomopojiehaa
open Go.RowKit

def cl18 : List (ByteArray × ByteArray) := [(bs [99, 108, 97, 115, 115], bs [120, 32, 121]), (bs [104, 114, 101, 102], bs []), (bs [105, 100], bs [105])]
def ex18T : List ANode := [⟨bs [104, 116, 109, 108], [], -1, [1, 2]⟩, ⟨bs [97], cl18, 0, []⟩, ⟨bs [97], cl18, 0, [3]⟩, ⟨bs [97], [], 2, []⟩]
theorem goodB_ex18 : goodB ex18T = true := by kernel_rfl
def MadeEx18 (w : World) (e : Ending) (w' : World) : Prop :=
  ∃ (A : Option Addr) (c : Nat), e = .returned (.agg #[.slice A 4 c]) ∧ IsTree w' A 4 ex18T ∧ Below w.heap.size w w'
def exCells18 (g1 g2 g3 : Nat) : Array Value :=
  #[.string (bs [104, 116, 109, 108]), .slice none 0 0, .int .i64 (-1), .slice (some ⟨g2, 0, none⟩) 2 2,
    .string (bs [97]), .slice (some ⟨g1, 0, none⟩) 3 3, .int .i64 0, .slice none 0 0,
    .string (bs [97]), .slice (some ⟨g1, 0, none⟩) 3 3, .int .i64 0, .slice (some ⟨g3, 0, none⟩) 1 1,
    .string (bs [97]), .slice none 0 0, .int .i64 2, .slice none 0 0]
theorem lt4 {j : Nat} (h : j < 4) : j = 0 ∨ j = 1 ∨ j = 2 ∨ j = 3 := by omega
theorem ex_tree18 {w : World} {g g1 g2 g3 : Nat} (hc : ∀ j, j < 16 → w.cell? ⟨g, j, none⟩ = (exCells18 g1 g2 g3)[j]?) (h1 : IsAttrs w (some ⟨g1, 0, none⟩) 3 cl18) (h2 : IsInts w (some ⟨g2, 0, none⟩) 2 [1, 2]) (h3 : IsInts w (some ⟨g3, 0, none⟩) 1 [3]) : IsTree w (some ⟨g, 0, none⟩) 4 ex18T := by
  refine isTree_lt ex18T rfl (by omega) (by decide) (fun j => if j = 1 ∨ j = 2 then some ⟨g1, 0, none⟩ else none) (fun j => if j = 0 then some ⟨g2, 0, none⟩ else if j = 2 then some ⟨g3, 0, none⟩ else none) (fun j => if j = 1 ∨ j = 2 then 3 else 0) (fun j => if j = 0 then 2 else if j = 2 then 1 else 0)
    (fun _ => cell_in (p := ⟨g, 0, none⟩) (v := .string (bs [104, 116, 109, 108])) (hc 0 (by omega))) (fun j hj => ?_) (fun j hj => ?_) (fun j hj => ?_)
  · refine ⟨(hc _ (by omega)).trans ?_, (hc _ (by omega)).trans ?_, (hc _ (by omega)).trans ?_, (hc _ (by omega)).trans ?_⟩
    all_goals (rcases lt4 hj with rfl | rfl | rfl | rfl <;> rfl)
  · rcases lt4 hj with rfl | rfl | rfl | rfl
    · exact ⟨isAttrs_nil w, by decide, by decide⟩
    · exact ⟨h1, by decide, by decide⟩
    · exact ⟨h1, by decide, by decide⟩
    · exact ⟨isAttrs_nil w, by decide, by decide⟩
  · rcases lt4 hj with rfl | rfl | rfl | rfl
    · exact ⟨h2, by decide, by decide⟩
    · exact ⟨isInts_nil w, by decide, by decide⟩
    · exact ⟨h3, by decide, by decide⟩
    · exact ⟨isInts_nil w, by decide, by decide⟩
set_option maxRecDepth 100000 in
theorem example18_ok (w : World) : Calls Try.prog 34 #[] w (MadeEx18 w) := by
  go_enter Try.func34, Try.ntmps34
  go_wp2
  refine bodyPost_ret (v := .agg #[.slice (some ⟨w.heap.size + 1 + 1 + 1 + 1, 0, none⟩) 4 4]) (by simp [results, Try.results34, go_sem]) rfl ⟨_, _, rfl, ?_, below_alloc (below_alloc (below_alloc (below_alloc (below_alloc (Below.refl _ _) _) _) _) _) _⟩
  refine ex_tree18 (g1 := w.heap.size + 1) (g2 := w.heap.size + 1 + 1) (g3 := w.heap.size + 1 + 1 + 1) (fun j hj => ?_) ?_ ?_ ?_
  · rw [World.cell?_alloc_at _ _ _ _ (by simp)]; rfl
  · exact (isAttrs_lit _ _ _ cl18 (by decide) (by decide) (by simp)).below (below_alloc (below_alloc (below_alloc (Below.refl _ _) _) _) _)
  · exact (isInts_lit _ _ _ [1, 2] (by decide) (by simp)).below (below_alloc (below_alloc (Below.refl _ _) _) _)
  · exact (isInts_lit _ _ _ [3] (by decide) (by simp)).below (below_alloc (Below.refl _ _) _)

def badS (A : Option Addr) : List Sim := [⟨0, ⟨#[]⟩, 0, ⟨#[]⟩, false, 0, 0, false, none, 0, 0⟩, ⟨9, ⟨#[]⟩, 0, ⟨#[]⟩, false, 0, 0, false, none, 0, 0⟩, ⟨14, ⟨#[]⟩, 0, ⟨#[]⟩, false, 0, 0, false, none, 0, 0⟩, ⟨1, ⟨#[]⟩, 0, ⟨#[]⟩, false, 0, 0, false, none, 0, 0⟩, ⟨2, longS 401, 0, ⟨#[]⟩, false, 0, 0, false, none, 0, 0⟩, ⟨1, ⟨#[97]⟩, 1, ⟨#[]⟩, false, 0, 0, false, none, 0, 0⟩, ⟨2, ⟨#[97]⟩, 0, ⟨#[98]⟩, false, 0, 0, false, none, 0, 0⟩, ⟨1, ⟨#[97]⟩, 0, ⟨#[]⟩, true, 0, 0, false, none, 0, 0⟩, ⟨3, ⟨#[]⟩, 0, ⟨#[]⟩, false, 0, 0, false, none, 0, 0⟩, ⟨3, longS 401, 0, ⟨#[]⟩, false, 0, 0, false, none, 0, 0⟩, ⟨3, ⟨#[97]⟩, 7, ⟨#[]⟩, false, 0, 0, false, none, 0, 0⟩, ⟨3, ⟨#[97]⟩, 0, ⟨#[98]⟩, false, 0, 0, false, none, 0, 0⟩, ⟨3, ⟨#[97]⟩, 0, ⟨#[]⟩, true, 0, 0, false, none, 0, 0⟩, ⟨3, ⟨#[97]⟩, 1, longS 401, false, 0, 0, false, none, 0, 0⟩, ⟨4, ⟨#[97]⟩, 0, ⟨#[]⟩, false, 0, 0, false, none, 0, 0⟩, ⟨5, ⟨#[]⟩, 0, ⟨#[]⟩, false, 0, 0, true, none, 0, 0⟩, ⟨6, ⟨#[]⟩, 0, ⟨#[]⟩, false, 1, 0, false, none, 0, 0⟩, ⟨7, ⟨#[]⟩, 0, ⟨#[]⟩, false, 0, 0, false, A, 1, 1⟩, ⟨8, ⟨#[]⟩, 1, ⟨#[]⟩, false, 0, 0, false, none, 0, 0⟩]
def goodS : List Sim := [⟨1, ⟨#[105]⟩, 0, ⟨#[]⟩, false, 0, 0, false, none, 0, 0⟩, ⟨2, ⟨#[121]⟩, 0, ⟨#[]⟩, false, 0, 0, false, none, 0, 0⟩, ⟨3, ⟨#[104, 114, 101, 102]⟩, 0, ⟨#[]⟩, false, 0, 0, false, none, 0, 0⟩, ⟨4, ⟨#[]⟩, 0, ⟨#[]⟩, false, 0, 0, false, none, 0, 0⟩, ⟨5, ⟨#[]⟩, 0, ⟨#[]⟩, false, 0, 0, false, none, 0, 0⟩, ⟨6, ⟨#[]⟩, 0, ⟨#[]⟩, false, 0, 0, false, none, 0, 0⟩, ⟨7, ⟨#[]⟩, 0, ⟨#[]⟩, false, 0, 0, false, none, 0, 0⟩, ⟨8, ⟨#[]⟩, 0, ⟨#[]⟩, false, 0, 0, false, none, 0, 0⟩, ⟨3, ⟨#[105, 100]⟩, 1, ⟨#[73]⟩, true, 0, 0, false, none, 0, 0⟩, ⟨3, ⟨#[105, 100]⟩, 1, ⟨#[73]⟩, false, 0, 0, false, none, 0, 0⟩]
theorem lt19 {j : Nat} (h : j < 19) : j = 0 ∨ j = 1 ∨ j = 2 ∨ j = 3 ∨ j = 4 ∨ j = 5 ∨ j = 6 ∨ j = 7 ∨ j = 8 ∨ j = 9 ∨ j = 10 ∨ j = 11 ∨ j = 12 ∨ j = 13 ∨ j = 14 ∨ j = 15 ∨ j = 16 ∨ j = 17 ∨ j = 18 := by omega
theorem lt10 {j : Nat} (h : j < 10) : j = 0 ∨ j = 1 ∨ j = 2 ∨ j = 3 ∨ j = 4 ∨ j = 5 ∨ j = 6 ∨ j = 7 ∨ j = 8 ∨ j = 9 := by omega
theorem bad_chk (A : Option Addr) : ∀ j : Nat, j < 19 → chkS (sm (badS A) j) = 12 := by
  intro j hj
  rcases lt19 hj with rfl | rfl | rfl | rfl | rfl | rfl | rfl | rfl | rfl | rfl | rfl | rfl | rfl | rfl | rfl | rfl | rfl | rfl | rfl <;> kernel_rfl
def wantA (j : Nat) : List Bool := [[false, true, true, false], [false, true, true, false], [false, true, true, false], [false, true, true, false], [false, false, false, false], [false, true, true, false], [true, false, false, false], [false, true, false, true], [false, true, true, false], [false, false, false, false]].getD j []
def wantB (j : Nat) : List Bool := [[false, true, true, false], [false, true, true, false], [false, true, true, false], [false, true, false, false], [false, false, true, false], [false, true, true, false], [true, false, false, false], [false, true, false, true], [false, true, true, false], [false, false, false, false]].getD j []
theorem good_chk : ∀ j : Nat, j < 10 → (smE ex18T (sm goodS j) (-1) = 0 ∧ sallV ex18T (sm goodS j) (-1) = wantA j ∧ (wantA j).length = 4) ∧ smE ex18T (sm goodS j) 2 = 0 ∧ sallV ex18T (sm goodS j) 2 = wantB j ∧ (wantB j).length = 4 := by
  intro j hj
  rcases lt10 hj with rfl | rfl | rfl | rfl | rfl | rfl | rfl | rfl | rfl | rfl <;> exact ⟨⟨by kernel_rfl, by kernel_rfl, rfl⟩, by kernel_rfl, by kernel_rfl, rfl⟩
set_option maxRecDepth 100000 in
theorem isSims_bad (W : World) (g : Nat) (t : TypeId) (A : Option Addr) (hg : g = W.heap.size) : IsSims (W.alloc (.cells #[.int .u8 0, .string ⟨#[]⟩, .int .u8 0, .string ⟨#[]⟩, .bool false, .int .i64 0, .int .i64 0, .bool false, .slice none 0 0, .int .u8 9, .string ⟨#[]⟩, .int .u8 0, .string ⟨#[]⟩, .bool false, .int .i64 0, .int .i64 0, .bool false, .slice none 0 0, .int .u8 14, .string ⟨#[]⟩, .int .u8 0, .string ⟨#[]⟩, .bool false, .int .i64 0, .int .i64 0, .bool false, .slice none 0 0, .int .u8 1, .string ⟨#[]⟩, .int .u8 0, .string ⟨#[]⟩, .bool false, .int .i64 0, .int .i64 0, .bool false, .slice none 0 0, .int .u8 2, .string (longS 401), .int .u8 0, .string ⟨#[]⟩, .bool false, .int .i64 0, .int .i64 0, .bool false, .slice none 0 0, .int .u8 1, .string ⟨#[97]⟩, .int .u8 1, .string ⟨#[]⟩, .bool false, .int .i64 0, .int .i64 0, .bool false, .slice none 0 0, .int .u8 2, .string ⟨#[97]⟩, .int .u8 0, .string ⟨#[98]⟩, .bool false, .int .i64 0, .int .i64 0, .bool false, .slice none 0 0, .int .u8 1, .string ⟨#[97]⟩, .int .u8 0, .string ⟨#[]⟩, .bool true, .int .i64 0, .int .i64 0, .bool false, .slice none 0 0, .int .u8 3, .string ⟨#[]⟩, .int .u8 0, .string ⟨#[]⟩, .bool false, .int .i64 0, .int .i64 0, .bool false, .slice none 0 0, .int .u8 3, .string (longS 401), .int .u8 0, .string ⟨#[]⟩, .bool false, .int .i64 0, .int .i64 0, .bool false, .slice none 0 0, .int .u8 3, .string ⟨#[97]⟩, .int .u8 7, .string ⟨#[]⟩, .bool false, .int .i64 0, .int .i64 0, .bool false, .slice none 0 0, .int .u8 3, .string ⟨#[97]⟩, .int .u8 0, .string ⟨#[98]⟩, .bool false, .int .i64 0, .int .i64 0, .bool false, .slice none 0 0, .int .u8 3, .string ⟨#[97]⟩, .int .u8 0, .string ⟨#[]⟩, .bool true, .int .i64 0, .int .i64 0, .bool false, .slice none 0 0, .int .u8 3, .string ⟨#[97]⟩, .int .u8 1, .string (longS 401), .bool false, .int .i64 0, .int .i64 0, .bool false, .slice none 0 0, .int .u8 4, .string ⟨#[97]⟩, .int .u8 0, .string ⟨#[]⟩, .bool false, .int .i64 0, .int .i64 0, .bool false, .slice none 0 0, .int .u8 5, .string ⟨#[]⟩, .int .u8 0, .string ⟨#[]⟩, .bool false, .int .i64 0, .int .i64 0, .bool true, .slice none 0 0, .int .u8 6, .string ⟨#[]⟩, .int .u8 0, .string ⟨#[]⟩, .bool false, .int .i64 1, .int .i64 0, .bool false, .slice none 0 0, .int .u8 7, .string ⟨#[]⟩, .int .u8 0, .string ⟨#[]⟩, .bool false, .int .i64 0, .int .i64 0, .bool false, .slice A 1 1, .int .u8 8, .string ⟨#[]⟩, .int .u8 1, .string ⟨#[]⟩, .bool false, .int .i64 0, .int .i64 0, .bool false, .slice none 0 0] t)) (some ⟨g, 0, none⟩) 19 (badS A) := by
  refine ⟨rfl, by omega, fun _ => ⟨g, 0, rfl, by simp [hg], fun j hj => ?_⟩⟩
  rcases lt19 hj with rfl | rfl | rfl | rfl | rfl | rfl | rfl | rfl | rfl | rfl | rfl | rfl | rfl | rfl | rfl | rfl | rfl | rfl | rfl
  all_goals (refine ⟨?_, ?_, ?_, ?_, ?_, ?_, ?_, ?_, ?_⟩ <;> (rw [World.cell?_alloc_at _ _ _ _ hg]; rfl))
set_option maxRecDepth 100000 in
theorem isSims_good (W : World) (g : Nat) (t : TypeId) (hg : g = W.heap.size) : IsSims (W.alloc (.cells #[.int .u8 1, .string ⟨#[105]⟩, .int .u8 0, .string ⟨#[]⟩, .bool false, .int .i64 0, .int .i64 0, .bool false, .slice none 0 0, .int .u8 2, .string ⟨#[121]⟩, .int .u8 0, .string ⟨#[]⟩, .bool false, .int .i64 0, .int .i64 0, .bool false, .slice none 0 0, .int .u8 3, .string ⟨#[104, 114, 101, 102]⟩, .int .u8 0, .string ⟨#[]⟩, .bool false, .int .i64 0, .int .i64 0, .bool false, .slice none 0 0, .int .u8 4, .string ⟨#[]⟩, .int .u8 0, .string ⟨#[]⟩, .bool false, .int .i64 0, .int .i64 0, .bool false, .slice none 0 0, .int .u8 5, .string ⟨#[]⟩, .int .u8 0, .string ⟨#[]⟩, .bool false, .int .i64 0, .int .i64 0, .bool false, .slice none 0 0, .int .u8 6, .string ⟨#[]⟩, .int .u8 0, .string ⟨#[]⟩, .bool false, .int .i64 0, .int .i64 0, .bool false, .slice none 0 0, .int .u8 7, .string ⟨#[]⟩, .int .u8 0, .string ⟨#[]⟩, .bool false, .int .i64 0, .int .i64 0, .bool false, .slice none 0 0, .int .u8 8, .string ⟨#[]⟩, .int .u8 0, .string ⟨#[]⟩, .bool false, .int .i64 0, .int .i64 0, .bool false, .slice none 0 0, .int .u8 3, .string ⟨#[105, 100]⟩, .int .u8 1, .string ⟨#[73]⟩, .bool true, .int .i64 0, .int .i64 0, .bool false, .slice none 0 0, .int .u8 3, .string ⟨#[105, 100]⟩, .int .u8 1, .string ⟨#[73]⟩, .bool false, .int .i64 0, .int .i64 0, .bool false, .slice none 0 0] t)) (some ⟨g, 0, none⟩) 10 goodS := by
  refine ⟨rfl, by omega, fun _ => ⟨g, 0, rfl, by simp [hg], fun j hj => ?_⟩⟩
  rcases lt10 hj with rfl | rfl | rfl | rfl | rfl | rfl | rfl | rfl | rfl | rfl
  all_goals (refine ⟨?_, ?_, ?_, ?_, ?_, ?_, ?_, ?_, ?_⟩ <;> (rw [World.cell?_alloc_at _ _ _ _ hg]; rfl))
/-- What is wanted: two lists for each selector. -/
def WtTab (w : World) (A : Option Addr) : Prop := ∃ b off, A = some ⟨b, off, none⟩ ∧ b < w.heap.size ∧ ∀ j, j < 10 → ∃ A0 A1 : Option Addr, w.cell? ⟨b, off + j * 2, none⟩ = some (.slice A0 4 4) ∧ w.cell? ⟨b, off + j * 2 + 1, none⟩ = some (.slice A1 4 4) ∧ IsBools w A0 4 (wantA j) ∧ IsBools w A1 4 (wantB j)
theorem WtTab.below {w w' : World} {A : Option Addr} (h : WtTab w A) (hb : Below w.heap.size w w') : WtTab w' A := by
  obtain ⟨b, off, rfl, hl, hc⟩ := h
  refine ⟨b, off, rfl, Nat.lt_of_lt_of_le hl hb.size, fun j hj => ?_⟩
  obtain ⟨A0, A1, h0, h1, h2, h3⟩ := hc j hj
  exact ⟨A0, A1, cell_later hb h0, cell_later hb h1, h2.below hb, h3.below hb⟩
set_option maxRecDepth 100000 in
theorem wtTab_lit (W : World) (g : Nat) (t : TypeId) (P0 Q0 P1 Q1 P2 Q2 P3 Q3 P4 Q4 P5 Q5 P6 Q6 P7 Q7 P8 Q8 P9 Q9 : Option Addr) (hg : g = W.heap.size) (p0 : IsBools W P0 4 (wantA 0)) (q0 : IsBools W Q0 4 (wantB 0)) (p1 : IsBools W P1 4 (wantA 1)) (q1 : IsBools W Q1 4 (wantB 1)) (p2 : IsBools W P2 4 (wantA 2)) (q2 : IsBools W Q2 4 (wantB 2)) (p3 : IsBools W P3 4 (wantA 3)) (q3 : IsBools W Q3 4 (wantB 3)) (p4 : IsBools W P4 4 (wantA 4)) (q4 : IsBools W Q4 4 (wantB 4)) (p5 : IsBools W P5 4 (wantA 5)) (q5 : IsBools W Q5 4 (wantB 5)) (p6 : IsBools W P6 4 (wantA 6)) (q6 : IsBools W Q6 4 (wantB 6)) (p7 : IsBools W P7 4 (wantA 7)) (q7 : IsBools W Q7 4 (wantB 7)) (p8 : IsBools W P8 4 (wantA 8)) (q8 : IsBools W Q8 4 (wantB 8)) (p9 : IsBools W P9 4 (wantA 9)) (q9 : IsBools W Q9 4 (wantB 9)) :
    WtTab (W.alloc (.cells #[.slice P0 4 4, .slice Q0 4 4, .slice P1 4 4, .slice Q1 4 4, .slice P2 4 4, .slice Q2 4 4, .slice P3 4 4, .slice Q3 4 4, .slice P4 4 4, .slice Q4 4 4, .slice P5 4 4, .slice Q5 4 4, .slice P6 4 4, .slice Q6 4 4, .slice P7 4 4, .slice Q7 4 4, .slice P8 4 4, .slice Q8 4 4, .slice P9 4 4, .slice Q9 4 4] t)) (some ⟨g, 0, none⟩) := by
  have hb := below_alloc (Below.refl W.heap.size W) (.cells #[.slice P0 4 4, .slice Q0 4 4, .slice P1 4 4, .slice Q1 4 4, .slice P2 4 4, .slice Q2 4 4, .slice P3 4 4, .slice Q3 4 4, .slice P4 4 4, .slice Q4 4 4, .slice P5 4 4, .slice Q5 4 4, .slice P6 4 4, .slice Q6 4 4, .slice P7 4 4, .slice Q7 4 4, .slice P8 4 4, .slice Q8 4 4, .slice P9 4 4, .slice Q9 4 4] t)
  refine ⟨g, 0, rfl, by simp [hg], fun j hj => ?_⟩
  rcases lt10 hj with rfl | rfl | rfl | rfl | rfl | rfl | rfl | rfl | rfl | rfl
  · exact ⟨P0, Q0, World.cell?_alloc_at _ _ _ _ hg, World.cell?_alloc_at _ _ _ _ hg, p0.below hb, q0.below hb⟩
  · exact ⟨P1, Q1, World.cell?_alloc_at _ _ _ _ hg, World.cell?_alloc_at _ _ _ _ hg, p1.below hb, q1.below hb⟩
  · exact ⟨P2, Q2, World.cell?_alloc_at _ _ _ _ hg, World.cell?_alloc_at _ _ _ _ hg, p2.below hb, q2.below hb⟩
  · exact ⟨P3, Q3, World.cell?_alloc_at _ _ _ _ hg, World.cell?_alloc_at _ _ _ _ hg, p3.below hb, q3.below hb⟩
  · exact ⟨P4, Q4, World.cell?_alloc_at _ _ _ _ hg, World.cell?_alloc_at _ _ _ _ hg, p4.below hb, q4.below hb⟩
  · exact ⟨P5, Q5, World.cell?_alloc_at _ _ _ _ hg, World.cell?_alloc_at _ _ _ _ hg, p5.below hb, q5.below hb⟩
  · exact ⟨P6, Q6, World.cell?_alloc_at _ _ _ _ hg, World.cell?_alloc_at _ _ _ _ hg, p6.below hb, q6.below hb⟩
  · exact ⟨P7, Q7, World.cell?_alloc_at _ _ _ _ hg, World.cell?_alloc_at _ _ _ _ hg, p7.below hb, q7.below hb⟩
  · exact ⟨P8, Q8, World.cell?_alloc_at _ _ _ _ hg, World.cell?_alloc_at _ _ _ _ hg, p8.below hb, q8.below hb⟩
  · exact ⟨P9, Q9, World.cell?_alloc_at _ _ _ _ hg, World.cell?_alloc_at _ _ _ _ hg, p9.below hb, q9.below hb⟩
end Go.Proofs.Ytbedomopojiehaa
