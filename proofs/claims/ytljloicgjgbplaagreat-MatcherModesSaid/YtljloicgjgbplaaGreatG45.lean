/- Plain: what a compound of a link's simple selector and a list matches. No condition. -/
import Derived.Test.YtljloicgjgbplaaGreatG43
import Derived.Test.YtljloicgjgbplaaGreatG44
namespace Go.Proofs.YtljloicgjgbplaaGreat
open Go.RowKit

theorem chk_two {M : Nat} {l : List (SelL M)} {k : Int} (hk : k = 4 ∨ k = 5 ∨ k = 6) (h : chkV (M + 1) (oL M ⟨#[]⟩ [simK 11 l]) = 0) : chkV (M + 1) (oL M ⟨#[]⟩ [simK k [], simK 11 l]) = 0 := by
  obtain ⟨h1, h2⟩ := chk_is.1 h
  rw [chk_oL, compB_iff]
  refine ⟨⟨(by show tagB ⟨#[]⟩ = true; decide), by simp, by simp, fun s hs => ?_⟩, ?_⟩
  · rcases List.mem_cons.1 hs with rfl | hs
    · rcases hk with rfl | rfl | rfl <;> simp [simB, simK, e0]
    · rw [List.mem_singleton.1 hs, simB_is]; exact h1
  · have h0 : numV M ([] : List (SelL M)) = 0 := by cases M <;> rfl
    simp only [List.map_cons, List.map_nil, List.sum_cons, List.sum_nil]
    show 1 + (numV M ([] : List (SelL M)) + (numV M l + 0)) ≤ 64
    omega
section
variable (T : List ANode) (m : Int) (M : Nat) (l : List (SelL M)) {i : Nat} (hi : i < T.length)
include hi
theorem in_visited : inV T m (M + 1) (oL M ⟨#[]⟩ [simK 5 [], simK 11 l]) i = (decide ((i : Int) = m) && inV T m M l i) := by
  rw [in_oL _ _ _ _ _ hi]
  simp [tagF, simM, simK, inV, e0, rawS, matS]
theorem in_link : inV T m (M + 1) (oL M ⟨#[]⟩ [simK 4 [], simK 11 l]) i = (lkB T i && !decide ((i : Int) = m) && inV T m M l i) := by
  rw [in_oL _ _ _ _ _ hi]
  simp [tagF, simM, simK, inV, e0, rawS, matS]
theorem in_any : inV T m (M + 1) (oL M ⟨#[]⟩ [simK 6 [], simK 11 l]) i = (lkB T i && inV T m M l i) := by
  rw [in_oL _ _ _ _ _ hi]
  simp [tagF, simM, simK, inV, e0, rawS, matS]
end
/-- Two simple selectors in a block of their own, as a list. -/
theorem simL2_lit {N : Nat} (W : World) (g : Nat) (k1 k2 : Int) (LA : Option Addr) (ln lc : Nat) (l : List (SelL N)) (hg : g = W.heap.size) (hr : IsRow (IsV N) W LA ln l) (h1 : ln ≤ lc) (h2 : lc ≤ 9223372036854775807) (h8 : 0 ≤ k1 ∧ k1 ≤ 255) (h9 : 0 ≤ k2 ∧ k2 ≤ 255) :
    IsSimL (IsV N) (W.alloc (.cells #[.int .u8 k1, .string ⟨#[]⟩, .int .u8 0, .string ⟨#[]⟩, .bool false, .int .i64 0, .int .i64 0, .bool false, .slice none 0 0, .int .u8 k2, .string ⟨#[]⟩, .int .u8 0, .string ⟨#[]⟩, .bool false, .int .i64 0, .int .i64 0, .bool false, .slice LA ln lc] 41)) (some ⟨g, 0, none⟩) 2 [simK k1 [], simK k2 l] := by
  have hb := blk_at W #[.int .u8 k1, .string ⟨#[]⟩, .int .u8 0, .string ⟨#[]⟩, .bool false, .int .i64 0, .int .i64 0, .bool false, .slice none 0 0, .int .u8 k2, .string ⟨#[]⟩, .int .u8 0, .string ⟨#[]⟩, .bool false, .int .i64 0, .int .i64 0, .bool false, .slice LA ln lc] 41 g hg
  have hr' := hr.below (isV_stays N) (below_alloc (Below.refl _ _) (.cells #[.int .u8 k1, .string ⟨#[]⟩, .int .u8 0, .string ⟨#[]⟩, .bool false, .int .i64 0, .int .i64 0, .bool false, .slice none 0 0, .int .u8 k2, .string ⟨#[]⟩, .int .u8 0, .string ⟨#[]⟩, .bool false, .int .i64 0, .int .i64 0, .bool false, .slice LA ln lc] 41))
  have c := fun r => blk_cell hb r
  refine ⟨rfl, [⟨k1, ⟨#[]⟩, 0, ⟨#[]⟩, false, 0, 0, false, none, 0, 0⟩, ⟨k2, ⟨#[]⟩, 0, ⟨#[]⟩, false, 0, 0, false, LA, ln, lc⟩], ⟨rfl, by omega, fun _ => ⟨g, 0, rfl, blk_lt hb, fun j hj => ?_⟩⟩, fun j hj => ?_⟩
  · obtain rfl | rfl : j = 0 ∨ j = 1 := by omega
    · exact ⟨c 0, c 1, c 2, c 3, c 4, c 5, c 6, c 7, c 8⟩
    · exact ⟨c 9, c 10, c 11, c 12, c 13, c 14, c 15, c 16, c 17⟩
  · obtain rfl | rfl : j = 0 ∨ j = 1 := by omega
    · exact simRel_at (isRow_nil _) (Nat.le_refl _) (by omega) h8 (by omega)
    · exact simRel_at hr' h1 h2 h9 (by omega)
end Go.Proofs.YtljloicgjgbplaaGreat
