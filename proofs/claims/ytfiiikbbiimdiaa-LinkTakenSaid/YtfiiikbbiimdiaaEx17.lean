/- Walks: chapter 17's example, and what is checked of it. No condition. -/
import Derived.Test.YtfiiikbbiimdiaaAg
import Derived.Test.YtfiiikbbiimdiaaLit
namespace Go.Proofs.Ytfiiikbbiimdiaa
open Go.RowKit

def hx : List (ByteArray × ByteArray) := [(href, bs [120])]
def ex17T : List ANode := [⟨bs [104, 116, 109, 108], [], -1, [1]⟩, ⟨bs [97], hx, 0, [2]⟩, ⟨bs [112], [], 1, [3, 4]⟩, ⟨bs [97], [], 2, []⟩, ⟨bs [97], hx, 2, []⟩]

def MadeEx17 (w : World) (e : Ending) (w' : World) : Prop :=
  ∃ (A : Option Addr) (c : Nat), e = .returned (.agg #[.slice A 5 c]) ∧ IsTree w' A 5 ex17T ∧ Below w.heap.size w w'

set_option maxRecDepth 100000 in
theorem example17_ok (w : World) : Calls Try.prog 52 #[] w (MadeEx17 w) := by
  go_enter Try.func52, Try.ntmps52
  go_wp2
  refine bodyPost_ret (v := .agg #[.slice (some ⟨w.heap.size + 1 + 1 + 1 + 1 + 1, 0, none⟩) 5 5]) (by simp [results, Try.results52, go_sem]) rfl ⟨_, _, rfl, ?_, below_alloc (below_alloc (below_alloc (below_alloc (below_alloc (below_alloc (Below.refl _ _) _) _) _) _) _) _⟩
  have hAt := isAttrs_lit (w.alloc (.cells #[.slice (some ⟨w.heap.size + 1 + 1 + 1 + 1 + 1, 0, none⟩) 5 5] 24)) (w.heap.size + 1) 83 hx (by decide) (by decide) (by simp)
  have hA4 := hAt.below (below_alloc (below_alloc (below_alloc (below_alloc (Below.refl _ _) (.cells #[.int .i64 1] 3)) (.cells #[.int .i64 2] 3)) (.cells #[.int .i64 3, .int .i64 4] 3)) (.cells #[.string (bs [104, 116, 109, 108]), .slice none 0 0, .int .i64 (-1), .slice (some ⟨w.heap.size + 1 + 1, 0, none⟩) 1 1, .string (bs [97]), .slice (some ⟨w.heap.size + 1, 0, none⟩) 1 1, .int .i64 0, .slice (some ⟨w.heap.size + 1 + 1 + 1, 0, none⟩) 1 1, .string (bs [112]), .slice none 0 0, .int .i64 1, .slice (some ⟨w.heap.size + 1 + 1 + 1 + 1, 0, none⟩) 2 2, .string (bs [97]), .slice none 0 0, .int .i64 2, .slice none 0 0, .string (bs [97]), .slice (some ⟨w.heap.size + 1, 0, none⟩) 1 1, .int .i64 2, .slice none 0 0] 61))
  have hI1 := isInts_lit ((w.alloc (.cells #[.slice (some ⟨w.heap.size + 1 + 1 + 1 + 1 + 1, 0, none⟩) 5 5] 24)).alloc (.cells (atts hx).toArray 83)) (w.heap.size + 1 + 1) 3 [1] (by decide) (by simp)
  have hJ1 := hI1.below (below_alloc (below_alloc (below_alloc (Below.refl _ _) (.cells #[.int .i64 2] 3)) (.cells #[.int .i64 3, .int .i64 4] 3)) (.cells #[.string (bs [104, 116, 109, 108]), .slice none 0 0, .int .i64 (-1), .slice (some ⟨w.heap.size + 1 + 1, 0, none⟩) 1 1, .string (bs [97]), .slice (some ⟨w.heap.size + 1, 0, none⟩) 1 1, .int .i64 0, .slice (some ⟨w.heap.size + 1 + 1 + 1, 0, none⟩) 1 1, .string (bs [112]), .slice none 0 0, .int .i64 1, .slice (some ⟨w.heap.size + 1 + 1 + 1 + 1, 0, none⟩) 2 2, .string (bs [97]), .slice none 0 0, .int .i64 2, .slice none 0 0, .string (bs [97]), .slice (some ⟨w.heap.size + 1, 0, none⟩) 1 1, .int .i64 2, .slice none 0 0] 61))
  have hI2 := isInts_lit (((w.alloc (.cells #[.slice (some ⟨w.heap.size + 1 + 1 + 1 + 1 + 1, 0, none⟩) 5 5] 24)).alloc (.cells (atts hx).toArray 83)).alloc (.cells (ints [1]).toArray 3)) (w.heap.size + 1 + 1 + 1) 3 [2] (by decide) (by simp)
  have hJ2 := hI2.below (below_alloc (below_alloc (Below.refl _ _) (.cells #[.int .i64 3, .int .i64 4] 3)) (.cells #[.string (bs [104, 116, 109, 108]), .slice none 0 0, .int .i64 (-1), .slice (some ⟨w.heap.size + 1 + 1, 0, none⟩) 1 1, .string (bs [97]), .slice (some ⟨w.heap.size + 1, 0, none⟩) 1 1, .int .i64 0, .slice (some ⟨w.heap.size + 1 + 1 + 1, 0, none⟩) 1 1, .string (bs [112]), .slice none 0 0, .int .i64 1, .slice (some ⟨w.heap.size + 1 + 1 + 1 + 1, 0, none⟩) 2 2, .string (bs [97]), .slice none 0 0, .int .i64 2, .slice none 0 0, .string (bs [97]), .slice (some ⟨w.heap.size + 1, 0, none⟩) 1 1, .int .i64 2, .slice none 0 0] 61))
  have hI3 := isInts_lit ((((w.alloc (.cells #[.slice (some ⟨w.heap.size + 1 + 1 + 1 + 1 + 1, 0, none⟩) 5 5] 24)).alloc (.cells (atts hx).toArray 83)).alloc (.cells (ints [1]).toArray 3)).alloc (.cells (ints [2]).toArray 3)) (w.heap.size + 1 + 1 + 1 + 1) 3 [3, 4] (by decide) (by simp)
  have hJ3 := hI3.below (below_alloc (Below.refl _ _) (.cells #[.string (bs [104, 116, 109, 108]), .slice none 0 0, .int .i64 (-1), .slice (some ⟨w.heap.size + 1 + 1, 0, none⟩) 1 1, .string (bs [97]), .slice (some ⟨w.heap.size + 1, 0, none⟩) 1 1, .int .i64 0, .slice (some ⟨w.heap.size + 1 + 1 + 1, 0, none⟩) 1 1, .string (bs [112]), .slice none 0 0, .int .i64 1, .slice (some ⟨w.heap.size + 1 + 1 + 1 + 1, 0, none⟩) 2 2, .string (bs [97]), .slice none 0 0, .int .i64 2, .slice none 0 0, .string (bs [97]), .slice (some ⟨w.heap.size + 1, 0, none⟩) 1 1, .int .i64 2, .slice none 0 0] 61))
  refine isTree_at ex17T rfl (by omega) (by decide) (fun j => if j = 1 ∨ j = 4 then some ⟨w.heap.size + 1, 0, none⟩ else none) (fun j => if j = 0 then some ⟨w.heap.size + 1 + 1, 0, none⟩ else if j = 1 then some ⟨w.heap.size + 1 + 1 + 1, 0, none⟩ else if j = 2 then some ⟨w.heap.size + 1 + 1 + 1 + 1, 0, none⟩ else none) (fun j => if j = 1 ∨ j = 4 then 1 else 0) (fun j => if j = 0 ∨ j = 1 then 1 else if j = 2 then 2 else 0) (fun _ => by simp) (fun j hj => ?_) (fun j hj => ?_) (fun j hj => ?_)
  · have e : ∀ q, ((((((w.alloc (.cells #[.slice (some ⟨w.heap.size + 1 + 1 + 1 + 1 + 1, 0, none⟩) 5 5] 24)).alloc (.cells (atts hx).toArray 83)).alloc (.cells (ints [1]).toArray 3)).alloc (.cells (ints [2]).toArray 3)).alloc (.cells (ints [3, 4]).toArray 3)).alloc (.cells #[.string (bs [104, 116, 109, 108]), .slice none 0 0, .int .i64 (-1), .slice (some ⟨w.heap.size + 1 + 1, 0, none⟩) 1 1, .string (bs [97]), .slice (some ⟨w.heap.size + 1, 0, none⟩) 1 1, .int .i64 0, .slice (some ⟨w.heap.size + 1 + 1 + 1, 0, none⟩) 1 1, .string (bs [112]), .slice none 0 0, .int .i64 1, .slice (some ⟨w.heap.size + 1 + 1 + 1 + 1, 0, none⟩) 2 2, .string (bs [97]), .slice none 0 0, .int .i64 2, .slice none 0 0, .string (bs [97]), .slice (some ⟨w.heap.size + 1, 0, none⟩) 1 1, .int .i64 2, .slice none 0 0] 61)).cell? ⟨w.heap.size + 1 + 1 + 1 + 1 + 1, q, none⟩ = (#[.string (bs [104, 116, 109, 108]), .slice none 0 0, .int .i64 (-1), .slice (some ⟨w.heap.size + 1 + 1, 0, none⟩) 1 1, .string (bs [97]), .slice (some ⟨w.heap.size + 1, 0, none⟩) 1 1, .int .i64 0, .slice (some ⟨w.heap.size + 1 + 1 + 1, 0, none⟩) 1 1, .string (bs [112]), .slice none 0 0, .int .i64 1, .slice (some ⟨w.heap.size + 1 + 1 + 1 + 1, 0, none⟩) 2 2, .string (bs [97]), .slice none 0 0, .int .i64 2, .slice none 0 0, .string (bs [97]), .slice (some ⟨w.heap.size + 1, 0, none⟩) 1 1, .int .i64 2, .slice none 0 0] : Array Value)[q]? := fun q => World.cell?_alloc_at _ _ _ _ (by simp)
    refine ⟨(e _).trans ?_, (e _).trans ?_, (e _).trans ?_, (e _).trans ?_⟩
    all_goals (rcases lt5 hj with rfl | rfl | rfl | rfl | rfl <;> rfl)
  · rcases lt5 hj with rfl | rfl | rfl | rfl | rfl
    · exact ⟨isAttrs_nil _, by decide, by decide⟩
    · exact ⟨hA4, by decide, by decide⟩
    · exact ⟨isAttrs_nil _, by decide, by decide⟩
    · exact ⟨isAttrs_nil _, by decide, by decide⟩
    · exact ⟨hA4, by decide, by decide⟩
  · rcases lt5 hj with rfl | rfl | rfl | rfl | rfl
    · exact ⟨hJ1, by decide, by decide⟩
    · exact ⟨hJ2, by decide, by decide⟩
    · exact ⟨hJ3, by decide, by decide⟩
    · exact ⟨isInts_nil _, by decide, by decide⟩
    · exact ⟨isInts_nil _, by decide, by decide⟩

theorem near_at (T : List ANode) (i v c0 : Int) (h0 : askI T [i] = c0) (hl : nearE T i = v) (A : Option Addr) (n c : Nat) (w : World) (h : IsTree w A n T) :
    Calls Try.prog 29 #[.agg #[.slice A n c], .int .i64 i] w fun e w' => e = .returned (.tuple #[.int .i64 v, .int .i64 c0]) ∧ Below w.heap.size w w' := by
  have := linkRel_ok A n c T i w h
  rw [hl, h0] at this
  exact this
theorem links_at (T : List ANode) (i : Int) (xs : List Int) (c0 : Int) (h0 : askI T [i] = c0) (hl : linksE T i = xs) (A : Option Addr) (n c : Nat) (w : World) (h : IsTree w A n T) :
    Calls Try.prog 31 #[.agg #[.slice A n c], .int .i64 i] w (MadeIntsR w xs c0) := by
  have := linkAll_ok A n c T i w h
  rw [hl, h0] at this
  exact this

def want17 : List Int := [-1, 1, 1, 1, 4]
theorem near_want : ∀ j : Nat, j < 5 → askI ex17T [(j : Int)] = 0 ∧ nearE ex17T (j : Int) = ix want17 j := by
  intro j hj
  rcases lt5 hj with rfl | rfl | rfl | rfl | rfl <;> exact ⟨by kernel_rfl, by kernel_rfl⟩

set_option maxRecDepth 100000 in
set_option maxHeartbeats 1000000 in
theorem alive17_ok (w : World) : Calls Try.prog 34 #[] w fun e w' => e = .returned (.bool true) ∧ Below w.heap.size w w' := by
  go_enter Try.func34, Try.ntmps34
  go_wp2_with fail
  refine (example17_ok _).mono ?_
  rintro e w1 ⟨A, c, rfl, hT, hb1⟩
  have hT := hide (hT.below (below_alloc (Below.refl _ _) (.cells #[.slice A 5 c] 24)))
  have hW := below_alloc hb1 (.cells #[.slice A 5 c] 24)
  have hB1 := Below.refl (w1.alloc (.cells #[.slice A 5 c] 24)).heap.size (w1.alloc (.cells #[.slice A 5 c] 24))
  have hbox1 : (w1.alloc (.cells #[.slice A 5 c] 24)).cell? ⟨w1.heap.size, 0, none⟩ = some (.slice A 5 c) := by go_simp
  have hI := isInts_lit (w1.alloc (.cells #[.slice A 5 c] 24)) (w1.heap.size + 1) 3 want17 (by decide) (by simp)
  have hBw := below_alloc hB1 (.cells (ints want17).toArray 3)
  have hbw := cell_later (below_alloc (Below.refl _ _) (.cells (ints want17).toArray 3)) hbox1
  obtain ⟨b3, o3, e3, hbl3, hc3⟩ := hI.2.2 (by decide)
  injection e3 with e3
  injection e3 with e4 e5
  subst e4 e5
  have hc3' := hide hc3
  have hz : w1.heap.size < w1.heap.size + 1 + 1 := by omega
  clear hI hc3
  go_wp2
  go_loopw [3] (fun s wr => ∃ j : Nat, j ≤ 5 ∧ s = .int .i64 j ∧ Below ((w1.alloc (.cells #[.slice A 5 c] 24)).alloc (.cells (ints want17).toArray 3)).heap.size ((w1.alloc (.cells #[.slice A 5 c] 24)).alloc (.cells (ints want17).toArray 3)) wr) (fun s _ => 5 - (intOf s).toNat)
  case atStart => exact ⟨0, by omega, rfl, Below.refl _ _⟩
  case round =>
    obtain ⟨j, hj, rfl, hb⟩ := hrel
    have hbx := cell_later hb hbw
    have hBr := Below.on hBw hb
    by_cases hlt : j < 5
    · have gk := (old hb _ _ hbl3).trans (hc3'.out j hlt)
      rw [Nat.zero_add] at gk
      obtain ⟨h1, h2⟩ := near_want j hlt
      have h1' := hide h1
      have h2' := hide h2
      clear h1 h2
      go_wp2_with fail
      refine (near_at ex17T j _ 0 h1'.out h2'.out _ _ _ _ (hT.out.below hBr)).mono ?_
      rintro e w3 ⟨rfl, hb3⟩
      have g3 := cell_later hb3 gk
      go_wp2
      go_roundw
      case rel => exact ⟨j + 1, by omega, by go_num, Below.on hb hb3⟩
      case measure => simp [intOf]; omega
    · go_wp2_with fail
      refine (links_at ex17T 0 [1, 4] 0 (by kernel_rfl) (by kernel_rfl) _ _ _ _ (hT.out.below hBr)).mono ?_
      rintro e w3 ⟨A3, c3, rfl, hI3, hb3⟩
      have hI3' := hide hI3
      clear hI3
      go_wp2_with fail
      refine (sameInts_yes _ _ 2 2 _ _ [1, 4] _ (hI3'.out.below (below_alloc (Below.refl _ _) _)) (isInts_lit _ _ _ [1, 4] (by decide) rfl)).mono ?_
      rintro e w4 ⟨rfl, hb4⟩
      go_wp2
      go_ret
      exact ⟨rfl, Below.on hW (Below.on (below_alloc (Below.on hBr hb3) _) hb4)⟩
end Go.Proofs.Ytfiiikbbiimdiaa
