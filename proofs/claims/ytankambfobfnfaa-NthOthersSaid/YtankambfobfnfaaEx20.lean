/- Walks: chapter 20's example, and what is checked of it. No condition. -/
import Derived.Test.YtankambfobfnfaaNf
import Derived.Test.YtankambfobfnfaaEx
namespace Go.Proofs.Ytankambfobfnfaa
open Go.RowKit

/-- A tree that lies as its cells are written down. -/
theorem isTree_lit {w : World} {g n : Nat} (T : List ANode) (hl : T.length = n) (hn : n ≤ 1000) (hs : ∀ x ∈ T, x.tag.size ≤ 9223372036854775807) (aA cA : Nat → Option Addr) (aC cC : Nat → Nat) (hg : 0 < n → g < w.heap.size)
    (hc : ∀ j, j < n → w.cell? ⟨g, j * 4, none⟩ = some (.string (nd T j).tag) ∧ w.cell? ⟨g, j * 4 + 1, none⟩ = some (.slice (aA j) (nd T j).attrs.length (aC j)) ∧ w.cell? ⟨g, j * 4 + 2, none⟩ = some (.int .i64 (par T j)) ∧ w.cell? ⟨g, j * 4 + 3, none⟩ = some (.slice (cA j) (kids T j).length (cC j)))
    (hA : ∀ j, j < n → IsAttrs w (aA j) (nd T j).attrs.length (nd T j).attrs ∧ (nd T j).attrs.length ≤ aC j ∧ aC j ≤ 9223372036854775807)
    (hC : ∀ j, j < n → IsInts w (cA j) (kids T j).length (kids T j) ∧ (kids T j).length ≤ cC j ∧ cC j ≤ 9223372036854775807) : IsTree w (some ⟨g, 0, none⟩) n T := by
  refine ⟨hl, by omega, hs, fun h0 => ⟨g, 0, aA, cA, aC, cC, rfl, hg h0, ?_, ?_, ?_, ?_, hA, hC⟩⟩
  all_goals (intro j hj; rw [Nat.zero_add])
  · exact (hc j hj).1
  · exact (hc j hj).2.1
  · exact (hc j hj).2.2.1
  · exact (hc j hj).2.2.2

def ex20T : List ANode := [⟨bs [117, 108], [], -1, [1, 2, 3, 4]⟩, ⟨bs [108, 105], [], 0, []⟩, ⟨bs [108, 105], [], 0, []⟩, ⟨bs [108, 105], [], 0, []⟩, ⟨bs [108, 105], [], 0, []⟩]
def ex20B : List Bool := [true, true, false, true, true]

theorem isBools_lit (W : World) (g : Nat) (t : TypeId) (xs : List Bool) (hn : xs.length ≤ 1000) (hg : g = W.heap.size) : IsBools (W.alloc (.cells (bools xs).toArray t)) (some ⟨g, 0, none⟩) xs.length xs := by
  subst hg
  refine ⟨rfl, by omega, fun _ => ⟨W.heap.size, 0, rfl, by simp, fun j hj => ?_⟩⟩
  rw [Nat.zero_add, World.cell?_alloc_at _ _ _ _ rfl]
  simpa using bools_get hj

def MadeEx20 (w : World) (e : Ending) (w' : World) : Prop :=
  ∃ (A AB : Option Addr) (c : Nat), e = .returned (.tuple #[.agg #[.slice A 5 c], .slice AB 5 5]) ∧ IsTree w' A 5 ex20T ∧ IsBools w' AB 5 ex20B ∧ Below w.heap.size w w'

set_option maxRecDepth 100000 in
theorem example20_ok (w : World) : Calls Try.prog 43 #[] w (MadeEx20 w) := by
  go_enter Try.func43, Try.ntmps43
  go_wp2
  refine bodyPost_ret (v := .tuple #[.agg #[.slice (some ⟨w.heap.size + 1 + 1, 0, none⟩) 5 5], .slice (some ⟨w.heap.size + 1 + 1 + 1, 0, none⟩) 5 5]) (by simp [results, Try.results43, go_sem]) rfl ⟨_, _, _, rfl, ?_, isBools_lit _ _ _ ex20B (by decide) (by simp), below_alloc (below_alloc (below_alloc (below_alloc (Below.refl _ _) _) _) _) _⟩
  refine IsTree.below ?_ (below_alloc (Below.refl _ _) _)
  refine isTree_lit ex20T rfl (by omega) (by decide) (fun _ => none) (fun j => if j = 0 then some ⟨w.heap.size + 1, 0, none⟩ else none) (fun _ => 0) (fun j => if j = 0 then 4 else 0) (fun _ => by simp) (fun j hj => ?_) (fun j hj => ?_) (fun j hj => ?_)
  · have e : ∀ q, (((w.alloc (.cells #[.slice (some ⟨w.heap.size + 1 + 1, 0, none⟩) 5 5] 24)).alloc (.cells #[.int .i64 1, .int .i64 2, .int .i64 3, .int .i64 4] 3)).alloc (.cells #[.string (bs [117, 108]), .slice none 0 0, .int .i64 (-1), .slice (some ⟨w.heap.size + 1, 0, none⟩) 4 4, .string (bs [108, 105]), .slice none 0 0, .int .i64 0, .slice none 0 0, .string (bs [108, 105]), .slice none 0 0, .int .i64 0, .slice none 0 0, .string (bs [108, 105]), .slice none 0 0, .int .i64 0, .slice none 0 0, .string (bs [108, 105]), .slice none 0 0, .int .i64 0, .slice none 0 0] 45)).cell? ⟨w.heap.size + 1 + 1, q, none⟩ = (#[.string (bs [117, 108]), .slice none 0 0, .int .i64 (-1), .slice (some ⟨w.heap.size + 1, 0, none⟩) 4 4, .string (bs [108, 105]), .slice none 0 0, .int .i64 0, .slice none 0 0, .string (bs [108, 105]), .slice none 0 0, .int .i64 0, .slice none 0 0, .string (bs [108, 105]), .slice none 0 0, .int .i64 0, .slice none 0 0, .string (bs [108, 105]), .slice none 0 0, .int .i64 0, .slice none 0 0] : Array Value)[q]? := fun q => World.cell?_alloc_at _ _ _ _ (by simp)
    refine ⟨(e _).trans ?_, (e _).trans ?_, (e _).trans ?_, (e _).trans ?_⟩
    all_goals (rcases lt5 hj with rfl | rfl | rfl | rfl | rfl <;> rfl)
  · have ha : (nd ex20T j).attrs = [] := by rcases lt5 hj with rfl | rfl | rfl | rfl | rfl <;> rfl
    rw [ha]
    exact ⟨isAttrs_nil _, Nat.le_refl _, Nat.zero_le _⟩
  · rcases lt5 hj with rfl | rfl | rfl | rfl | rfl
    · exact ⟨(isInts_lit _ _ _ [1, 2, 3, 4] (by decide) (by simp)).below (below_alloc (Below.refl _ _) _), by decide, by decide⟩
    all_goals exact ⟨isInts_nil _, by decide, by decide⟩

theorem nplace_at (T : List ANode) (B : List Bool) (i v c0 : Int) (last : Bool) (h0 : nplE T i last B = c0) (hl : nplV T i last B = v) (A AB : Option Addr) (n c m cb : Nat) (w : World) (h : IsTree w A n T) (hL : IsBools w AB m B) :
    Calls Try.prog 38 #[.agg #[.slice A n c], .int .i64 i, .bool last, .slice AB m cb] w fun e w' => e = .returned (.tuple #[.int .i64 v, .int .i64 c0]) ∧ Below w.heap.size w w' := by
  have := nPlace_ok A AB n c m cb T B i last w h hL
  rw [hl, h0] at this
  exact this
theorem nmatch_at (T : List ANode) (B : List Bool) (i a b : Int) (v : Bool) (c0 : Int) (last : Bool) (m : Nat) (h0 : nmatE T i a b m = c0) (hl : nmatV T i a b last B = v) (A AB : Option Addr) (n c cb : Nat) (w : World) (h : IsTree w A n T) (hL : IsBools w AB m B) :
    Calls Try.prog 40 #[.agg #[.slice A n c], .int .i64 i, .agg #[.int .i64 a, .int .i64 b], .bool last, .slice AB m cb] w fun e w' => e = .returned (.tuple #[.bool v, .int .i64 c0]) ∧ Below w.heap.size w w' := by
  have := nMatch_ok A AB n c m cb T B i a b last w h hL
  rw [hl, h0] at this
  exact this
theorem nall_at (T : List ANode) (B : List Bool) (a b : Int) (xs : List Bool) (c0 : Int) (last : Bool) (m : Nat) (h0 : nallE T a b m = c0) (hl : nallV T a b last B = xs) (A AB : Option Addr) (n c cb : Nat) (w : World) (h : IsTree w A n T) (hL : IsBools w AB m B) :
    Calls Try.prog 36 #[.agg #[.slice A n c], .agg #[.int .i64 a, .int .i64 b], .bool last, .slice AB m cb] w (MadeBoolsE w xs c0) := by
  have := nAll_ok A AB n c m cb T B a b last w h hL
  rw [hl, h0] at this
  exact this

set_option maxRecDepth 100000 in
set_option maxHeartbeats 1000000 in
theorem alive20_ok (w : World) : Calls Try.prog 34 #[] w fun e w' => e = .returned (.bool true) ∧ Below w.heap.size w w' := by
  go_enter Try.func34, Try.ntmps34
  go_wp2_with fail
  refine (example20_ok _).mono ?_
  rintro e w1 ⟨A, AB, c, rfl, hT, hL, hb1⟩
  have hT := hide (hT.below (below_alloc (Below.refl _ _) (.cells #[.slice A 5 c] 24)))
  have hW := below_alloc hb1 (.cells #[.slice A 5 c] 24)
  have hB1 := Below.refl (w1.alloc (.cells #[.slice A 5 c] 24)).heap.size (w1.alloc (.cells #[.slice A 5 c] 24))
  have hbox1 : (w1.alloc (.cells #[.slice A 5 c] 24)).cell? ⟨w1.heap.size, 0, none⟩ = some (.slice A 5 c) := by go_simp
  have hL := hide (hL.below (below_alloc (Below.refl _ _) (.cells #[.slice A 5 c] 24)))
  go_wp2_with fail
  refine (nplace_at ex20T ex20B 3 2 0 false (by kernel_rfl) (by kernel_rfl) _ _ _ _ _ _ _ (hT.out.below hB1) (hL.out.below hB1)).mono ?_
  rintro e w2 ⟨rfl, hb2⟩
  have hbox2 := cell_later hb2 hbox1
  have hB2 := Below.on hB1 hb2
  go_wp2_with fail
  refine (nplace_at ex20T ex20B 3 2 0 true (by kernel_rfl) (by kernel_rfl) _ _ _ _ _ _ _ (hT.out.below hB2) (hL.out.below hB2)).mono ?_
  rintro e w3 ⟨rfl, hb3⟩
  have hbox3 := cell_later hb3 hbox2
  have hB3 := Below.on hB2 hb3
  go_wp2_with fail
  refine (nall_at ex20T ex20B 2 1 [true, true, false, false, true] 0 false 5 (by kernel_rfl) (by kernel_rfl) _ _ _ _ _ _ (hT.out.below hB3) (hL.out.below hB3)).mono ?_
  rintro e w4 ⟨A4, c4, rfl, hI4, hb4⟩
  have hbox4 := cell_later hb4 hbox3
  have hB4 := Below.on hB3 hb4
  have hI4' := hide hI4
  clear hI4
  go_wp2_with fail
  refine (nall_at ex20T ex20B (-1) 2 [true, true, false, true, false] 0 false 5 (by kernel_rfl) (by kernel_rfl) _ _ _ _ _ _ (hT.out.below hB4) (hL.out.below hB4)).mono ?_
  rintro e w5 ⟨A5, c5, rfl, hI5, hb5⟩
  have hB5 := Below.on hB4 hb5
  have hI5' := hide hI5
  clear hI5
  go_wp2_with fail
  refine (sameBools_yes _ _ 5 5 _ _ [true, true, false, false, true] _ ((hI4'.out.below hb5).below (below_alloc (Below.refl _ _) _)) (isBools_lit _ _ _ [true, true, false, false, true] (by decide) rfl)).mono ?_
  rintro e w6 ⟨rfl, hb6⟩
  have hB6 := Below.on (below_alloc hB5 _) hb6
  go_wp2_with fail
  refine (sameBools_yes _ _ 5 5 _ _ [true, true, false, true, false] _ (((hI5'.out.below (below_alloc (Below.refl _ _) _)).below hb6).below (below_alloc (Below.refl _ _) _)) (isBools_lit _ _ _ [true, true, false, true, false] (by decide) rfl)).mono ?_
  rintro e w7 ⟨rfl, hb7⟩
  have hB7 := Below.on (below_alloc hB6 _) hb7
  go_wp2
  go_ret
  exact ⟨rfl, Below.on hW hB7⟩
end Go.Proofs.Ytankambfobfnfaa
