/- Walks and values for chapter 23's limits and errors: lists that the law makes. No condition. -/
import Derived.Test.YtljloicgjgbplaaGreatG44
import Derived.Test.YtljloicgjgbplaaGreatG47
import Derived.Test.YtljloicgjgbplaaGreatG56
import Derived.Test.YtljloicgjgbplaaGreatG13
namespace Go.Proofs.YtljloicgjgbplaaGreat
open Go.RowKit

def star1 : List (SelL 1) := oL 0 ⟨#[42]⟩ []
def li1 : List (SelL 1) := oL 0 ⟨#[108, 105]⟩ []
def ul1 : List (SelL 1) := oL 0 ⟨#[117, 108]⟩ []
def bad1 : List (SelL 1) := ([⟨0, [], []⟩] : List (CpxX (SelL 0)))
def sAB (k a b : Int) (o : Bool) (l : List (SelL 1)) : SimX (SelL 1) := ⟨k, ⟨#[]⟩, 0, ⟨#[]⟩, false, a, b, o, l⟩
def two1 : List (SelL 1) := li1 ++ star1 ++ ul1
def LL : Nat → List (SelL 2)
  | 0 => oL 1 ⟨#[]⟩ [simK 11 (wL 0 0 [])]
  | 1 => oL 1 ⟨#[]⟩ [simK 12 (wL 0 0 li1)]
  | 2 => oL 1 ⟨#[]⟩ [simK 13 (wL 0 0 li1)]
  | 3 => oL 1 ⟨#[]⟩ [simK 14 (wL 0 2 star1)]
  | 4 => oL 1 ⟨#[]⟩ [simK 14 (wL 0 3 star1)]
  | 5 => oL 1 ⟨#[]⟩ [sAB 9 2 1 false []]
  | 6 => oL 1 ⟨#[]⟩ [sAB 10 0 1 true li1]
  | _ => oL 1 ⟨#[]⟩ [sAB 10 0 2 false []]
def W8 : Nat → List Bool
  | 0 => [false, false, false, false]
  | 1 => [false, true, true, false]
  | 2 => [true, false, false, true]
  | 3 => [true, true, false, false]
  | 4 => [false, true, false, false]
  | 5 => [true, true, false, true]
  | 6 => [false, false, true, false]
  | _ => [false, true, false, false]
theorem val8 : ∀ q, q < 8 → mallV exT23 (-1) 2 (LL q) = W8 q ∧ aksE exT23 (-1) 2 (LL q) = 0 := by
  intro q hq
  obtain rfl | rfl | rfl | rfl | rfl | rfl | rfl | rfl : q = 0 ∨ q = 1 ∨ q = 2 ∨ q = 3 ∨ q = 4 ∨ q = 5 ∨ q = 6 ∨ q = 7 := by omega
  all_goals constructor <;> kernel_rfl
theorem num8 : ∀ q, q < 8 → numV 2 (LL q) ≤ 1000000 := by
  intro q hq
  obtain rfl | rfl | rfl | rfl | rfl | rfl | rfl | rfl : q = 0 ∨ q = 1 ∨ q = 2 ∨ q = 3 ∨ q = 4 ∨ q = 5 ∨ q = 6 ∨ q = 7 := by omega
  all_goals decide +kernel
theorem W8_len : ∀ q, (W8 q).length = 4
  | 0 => rfl
  | 1 => rfl
  | 2 => rfl
  | 3 => rfl
  | 4 => rfl
  | 5 => rfl
  | 6 => rfl
  | _ + 7 => rfl
theorem mWhich_at (T : List ANode) (i m : Int) (N : Nat) (l : List (SelL N)) (xs : List Int) (c0 : Int) (h : whiV T i m N l = xs ∧ mmatE T i m N l = c0) (hnum : numV N l ≤ 1000000) (A : Option Addr) (n c : Nat) (LA : Option Addr) (ln lc : Nat) (w : World) (hT : IsTree w A n T) (hmx : HasMax w) (hrow : IsRow (IsV N) w LA ln l) (h1 : ln ≤ lc) (h2 : lc ≤ 9223372036854775807) :
    Calls Tryz.prog 23 #[.agg #[.slice A n c], .int .i64 i, .slice LA ln lc, .int .i64 m] w (MadeIE w xs c0) := by
  rw [← h.1, ← h.2]; exact mWhich_ok A n c T i N LA ln lc l m w hT hmx hrow hnum h1 h2
theorem simRel_atA {N : Nat} {w : World} {k a : Int} {b : Int} {o : Bool} {LA : Option Addr} {ln lc : Nat} {l : List (SelL N)} (hr : IsRow (IsV N) w LA ln l) (h1 : ln ≤ lc) (h2 : lc ≤ 9223372036854775807) (h8 : 0 ≤ k ∧ k ≤ 255) (ha : -9223372036854775808 ≤ a ∧ a ≤ 9223372036854775807) (hb : -9223372036854775808 ≤ b ∧ b ≤ 9223372036854775807) :
    SimRel (IsV N) w ⟨k, ⟨#[]⟩, 0, ⟨#[]⟩, false, a, b, o, LA, ln, lc⟩ ⟨k, ⟨#[]⟩, 0, ⟨#[]⟩, false, a, b, o, l⟩ :=
  ⟨rfl, rfl, rfl, rfl, rfl, rfl, rfl, rfl, hr.1.symm, h1, h2, h8, by simp only; omega, by show (0 : Nat) ≤ _; omega, by show (0 : Nat) ≤ _; omega, ha, hb, hr⟩
theorem simL_litA {N : Nat} (W : World) (g : Nat) (k a b : Int) (o : Bool) (LA : Option Addr) (ln lc : Nat) (l : List (SelL N)) (hg : g = W.heap.size) (hr : IsRow (IsV N) W LA ln l) (h1 : ln ≤ lc) (h2 : lc ≤ 9223372036854775807) (h8 : 0 ≤ k ∧ k ≤ 255) (ha : -9223372036854775808 ≤ a ∧ a ≤ 9223372036854775807) (hb : -9223372036854775808 ≤ b ∧ b ≤ 9223372036854775807) :
    IsSimL (IsV N) (W.alloc (.cells #[.int .u8 k, .string ⟨#[]⟩, .int .u8 0, .string ⟨#[]⟩, .bool false, .int .i64 a, .int .i64 b, .bool o, .slice LA ln lc] 41)) (some ⟨g, 0, none⟩) 1 [⟨k, ⟨#[]⟩, 0, ⟨#[]⟩, false, a, b, o, l⟩] :=
  simL_at (s := ⟨k, ⟨#[]⟩, 0, ⟨#[]⟩, false, a, b, o, LA, ln, lc⟩) (blk_at W _ _ g hg) (simRel_atA (hr.below (isV_stays N) (below_alloc (Below.refl _ _) _)) h1 h2 h8 ha hb)
theorem bad_row (W : World) (g : Nat) (hg : g = W.heap.size) : IsRow (IsV 1) (W.alloc (.cells #[.int .u8 0, .slice none 0 0, .slice none 0 0] 62)) (some ⟨g, 0, none⟩) 1 bad1 := by
  have hb := blk_at W #[.int .u8 0, .slice none 0 0, .slice none 0 0] 62 g hg
  refine ⟨rfl, by omega, fun _ => ⟨g, 0, rfl, blk_lt hb, fun j x hx => ?_⟩⟩
  match j, hx with
  | 0, hx =>
    injection hx with hx
    subst hx
    exact ⟨0, none, 0, 0, none, 0, 0, blk_cell hb 0, blk_cell hb 1, blk_cell hb 2, rfl, by omega, rfl, rfl, ⟨rfl, by omega, fun h => absurd h (by omega)⟩, isU8_nil _, ⟨Nat.le_refl _, by omega⟩, ⟨Nat.le_refl _, by omega⟩⟩
  | j + 1, hx => cases hx
/-- A list of one selector of one compound without simple ones: a row of the call's own; what its element is hangs on one block. -/
def MadeOne (w : World) (tag : ByteArray) (e : Ending) (w' : World) : Prop :=
  ∃ (A : Option Addr) (c : Nat) (t : Trip), e = .returned (.slice A 1 c) ∧ OwnX w' w.heap.size (.slice A 1 c) [t] ∧ (∀ g, (Value.slice A 1 c).ownBlock = some g → g ≠ w.heap.size) ∧ Sure (fun b => b = w.heap.size) w' (fun W => Fit (IsV 1) W [t] (oL 0 tag [])) ∧ w.heap.size < w'.heap.size ∧ Below w.heap.size w w'
set_option maxRecDepth 100000 in
theorem one2_ok (tag : ByteArray) (w : World) (ht : tag.size ≤ 9223372036854775807) :
    Calls Tryz.prog 16 #[.string tag, .slice none 0 0] w (MadeOne w tag) := by
  have hb1 := below_alloc (Below.refl w.heap.size w) (.cells #[.string tag, .slice none 0 0] 70)
  have hb2 := below_alloc hb1 (.cells #[.int .u8 0, .slice (some ⟨w.heap.size, 0, none⟩) 1 1, .slice none 0 0] 62)
  have hX := blk_alloc (blk_new w #[.string tag, .slice none 0 0] 70) (.cells #[.int .u8 0, .slice (some ⟨w.heap.size, 0, none⟩) 1 1, .slice none 0 0] 62)
  have ho := World.ownsRow_lit (w.alloc (.cells #[.string tag, .slice none 0 0] 70)) (e := 62) (base := w.heap.size) (size := 3) #[.int .u8 0, .slice (some ⟨w.heap.size, 0, none⟩) 1 1, .slice none 0 0] 1 (by simp) (by decide) (by simp)
  have ho' := hide ho
  have hX' := hide hX
  clear ho hX
  go_enter Tryz.func16, Tryz.ntmps16
  go_wp2
  go_ret
  refine ⟨_, _, ⟨0, some ⟨w.heap.size, 0, none⟩, 1, 1, none, 0, 0⟩, rfl, by have h := ho'.out; simp at h; exact h, fun g hg => ?_, fun W hW => ⟨rfl, fun j x hx => ?_⟩, by simp; omega, hb2⟩
  · injection hg with hg
    simp at hg
    omega
  · have hg := (hW.block _ rfl).trans hX'.out
    match j, hx with
    | 0, hx =>
      injection hx with hx
      subst hx
      exact ⟨rfl, by show (0 : Int) ≤ 0 ∧ (0 : Int) ≤ 255; omega, rfl, rfl, parts_at hg (simL_nil _ W) (Nat.le_refl _) (by omega) ht, isU8_nil _, ⟨Nat.le_refl _, by show 1 ≤ 9223372036854775807; omega⟩, ⟨Nat.le_refl _, by show 0 ≤ 9223372036854775807; omega⟩⟩
    | j + 1, hx => cases hx
theorem own_src {w : World} {base : Nat} {A : Option Addr} {c : Nat} {t : Trip} (h : OwnX w base (.slice A 1 c) [t]) : ∃ g, A = some ⟨g, 0, none⟩ ∧ ∀ j u, (trips [t])[j]? = some u → w.cell? ((⟨g, 0, none⟩ : Addr).add j) = some u := by
  have h0 := h
  rcases h.2 with ⟨-, e⟩ | ⟨g, cap, cur, hv, hb, hg, hnc, hm, hcs, ht⟩
  · cases e
  · injection hv with e1 e2 e3
    subst e1 e3
    refine ⟨g, rfl, fun j u hj => ?_⟩
    have hjl : j < 3 := by
      rcases Nat.lt_or_ge j 3 with h | h
      · exact h
      · rw [List.getElem?_eq_none (by rw [trips_len]; simpa using h)] at hj; cases hj
    rw [add_plain, Nat.zero_add, World.ownsRow.cellAt h0 j (by simpa using hjl)]
    exact hj
end Go.Proofs.YtljloicgjgbplaaGreat
