/- Walks: chapter 18's examples of the tree packages together; one change. Conditions: the tree is good, the number is at least 0. -/
import Derived.Test.YtmdccplhmniiiaaGreatTp
import Derived.Test.YtmdccplhmniiiaaGreatMuh
import Derived.Test.YtmdccplhmniiiaaGreatRuns
import Derived.Test.YtmdccplhmniiiaaGreatRput
import Derived.Test.YtmdccplhmniiiaaGreatWk
import Derived.Test.YtmdccplhmniiiaaGreatOe
import Derived.Deep.QuietTactic
import Derived.BigQuiet
import Derived.Deep.RegionHeld3
import Derived.Deep.CutRange
import Derived.Deep.CutBlock
import Derived.IntWalk
namespace Go.Proofs.YtmdccplhmniiiaaGreat
open Go.RowKit

def MadeT2 (w : World) (T : List ANode) (n : Nat) (c0 : Int) (e : Ending) (w' : World) : Prop :=
  ∃ A' c', e = .returned (.tuple #[.agg #[.slice A' n c'], .int .i64 c0]) ∧ IsTree w' A' n T ∧ Below w.heap.size w w'
theorem MadeOwn2.at {w w' : World} {T X : List ANode} {c0 code : Int} {n : Nat} {e : Ending} (h : MadeOwn2 w T code e w') (hX : T = X) (hn : X.length = n) (hc : code = c0) : MadeT2 w X n c0 e w' := by
  subst hX hn hc
  obtain ⟨A, c, h1, -, h2, h3⟩ := h
  exact ⟨A, c, h1, h2, h3⟩
def htmlT : List ANode := [rootT ⟨#[104, 116, 109, 108]⟩]
def htmlA : List ANode := [rootT ⟨#[104, 116, 109, 108]⟩, rootT ⟨#[97]⟩]
def htmlB : List ANode := [⟨⟨#[104, 116, 109, 108]⟩, [], -1, [1]⟩, ⟨⟨#[97]⟩, [], 0, []⟩]
set_option maxRecDepth 100000 in
set_option maxHeartbeats 1000000 in
theorem alive18_ok (w : World) : Calls Tryz.prog 4 #[] w fun e w' => e = .returned (.bool true) ∧ Below w.heap.size w w' := by
  go_enter Tryz.func4, Tryz.ntmps4
  go_wp2_with fail
  refine ((new_ok ⟨#[104, 116, 109, 108]⟩ _ (by decide)).mono fun _ _ h => h.at (show _ = htmlT by kernel_rfl) (n := 1) rfl (c0 := 0) (by kernel_rfl)).mono ?_
  rintro e w1 ⟨A1, c1, rfl, hT1, hb1⟩
  have z1 := below_alloc hb1 (.cells #[.slice A1 1 c1] 26)
  have t1 := hide (hT1.below (below_alloc (Below.refl _ _) (.cells #[.slice A1 1 c1] 26)))
  have x1 := blk_cell (blk_new w1 #[.slice A1 1 c1] 26) 0
  clear hT1 hb1
  go_wp2_with fail
  refine (add_ok A1 1 c1 htmlT ⟨#[97]⟩ _ t1.out (by omega) (good_fitsA (T := htmlT) (by kernel_rfl)) (by decide)).mono ?_
  rintro e w2 ⟨A2, c2, he, -, hT2, hb2⟩
  rw [show addT htmlT ⟨#[97]⟩ = htmlA by kernel_rfl] at he hT2
  rw [show addN htmlT ⟨#[97]⟩ = 1 by kernel_rfl, show addE htmlT ⟨#[97]⟩ = 0 by kernel_rfl] at he
  subst he
  have hT2 : IsTree w2 A2 2 htmlA := hT2
  have z2 := below_alloc (Below.on z1 hb2) (.cells #[.slice A2 2 c2] 26)
  have t2 := hide (hT2.below (below_alloc (Below.refl _ _) (.cells #[.slice A2 2 c2] 26)))
  have x2 := blk_cell (blk_new w2 #[.slice A2 2 c2] 26) 0
  clear hT2 hb2 z1 t1 x1
  go_wp2_with fail
  refine ((append_ok A2 2 c2 htmlA 0 1 _ t2.out).mono fun _ _ h => h.at (show _ = htmlB by kernel_rfl) (n := 2) rfl (c0 := 0) (by kernel_rfl)).mono ?_
  rintro e w3 ⟨A3, c3, rfl, hT3, hb3⟩
  have z3 := below_alloc (Below.on z2 hb3) (.cells #[.slice A3 2 c3] 26)
  have t3 := hide (hT3.below (below_alloc (Below.refl _ _) (.cells #[.slice A3 2 c3] 26)))
  have x3 := blk_cell (blk_new w3 #[.slice A3 2 c3] 26) 0
  clear hT3 hb3 z2 t2 x2
  have hx := list_ok A3 2 c3 htmlB 0 _ t3.out
  rw [show listE htmlB 0 = [0, 1] by kernel_rfl, show askI htmlB [0] = 0 by kernel_rfl] at hx
  go_wp2_with fail
  refine hx.mono ?_
  clear hx
  rintro e w4 ⟨A4, c4, rfl, hI, -, -, hb4⟩
  have z4 := Below.on z3 hb4
  have z5 := below_alloc (Below.refl w4.heap.size w4) (.cells #[.int .i64 0, .int .i64 1] 3)
  have i5 := hide (hI.below z5)
  have i6 := isInts_lit w4 w4.heap.size 3 [0, 1] (by decide) rfl
  clear hI hb4 z3 t3 x3
  go_wp2_with fail
  refine (sameInts_yes _ _ _ _ _ _ [0, 1] _ i5.out i6).mono ?_
  rintro e w5 ⟨rfl, hb5⟩
  go_wp2
  go_ret
  exact ⟨rfl, Below.on z4 (Below.on z5 hb5)⟩
theorem cell_one {w : World} {g o : Nat} {x v : Value} {t : TypeId} {fr : Nat × Nat} (hg : w.heap[g]? = some (.cells #[x] t fr)) (hc : w.cell? ⟨g, o, none⟩ = some v) : v = x := by
  unfold World.cell? at hc
  rw [hg] at hc
  match o, hc with
  | 0, hc => simpa using hc.symm
  | o + 1, hc => simp at hc
/-- A one-cell box may be written without touching a tree. -/
theorem isTree_box {w : World} {A : Option Addr} {n : Nat} {T : List ANode} (h : IsTree w A n T) {g : Nat} {B : Option Addr} {m d : Nat} {t : TypeId} {fr : Nat × Nat} (hg : w.heap[g]? = some (.cells #[.slice B m d] t fr)) (u : Value) : IsTree (w.setCell ⟨g, 0, none⟩ u) A n T := by
  have hne : ∀ {b o : Nat} {v : Value}, w.cell? ⟨b, o, none⟩ = some v → (∀ A m d, v ≠ .slice A m d) → g ≠ b := by
    rintro b o v hc hv rfl
    have hx := cell_one hg hc
    exact hv _ _ _ hx
  have hs : (w.setCell ⟨g, 0, none⟩ u).heap.size = w.heap.size := by simp [World.setCell]
  obtain ⟨h1, h2, h3, h4⟩ := h
  refine ⟨h1, h2, h3, fun hn => ?_⟩
  obtain ⟨b, off, aA, cA, aC, cC, ha, hbl, c0, c1, c2, c3, hA, hC⟩ := h4 hn
  have hgb := hne (c0 0 hn) (by intro _ _ _ h; cases h)
  have far : ∀ {o : Nat} {v : Value}, w.cell? ⟨b, o, none⟩ = some v → (w.setCell ⟨g, 0, none⟩ u).cell? ⟨b, o, none⟩ = some v := fun hc => (World.cell?_setCell_far w ⟨g, 0, none⟩ ⟨b, _, none⟩ u hgb).trans hc
  refine ⟨b, off, aA, cA, aC, cC, ha, by rw [hs]; exact hbl, fun j hj => far (c0 j hj), fun j hj => far (c1 j hj), fun j hj => far (c2 j hj), fun j hj => far (c3 j hj), fun j hj => ⟨?_, (hA j hj).2⟩, fun j hj => ⟨?_, (hC j hj).2⟩⟩
  · obtain ⟨a1, a2, a3, a4⟩ := (hA j hj).1
    refine ⟨a1, a2, a3, fun h0 => ?_⟩
    obtain ⟨b', o', e, hl, d0, d1⟩ := a4 h0
    have hgb' := hne (d0 0 h0) (by intro _ _ _ h; cases h)
    exact ⟨b', o', e, by rw [hs]; exact hl, fun q hq => (World.cell?_setCell_far w ⟨g, 0, none⟩ ⟨b', _, none⟩ u hgb').trans (d0 q hq), fun q hq => (World.cell?_setCell_far w ⟨g, 0, none⟩ ⟨b', _, none⟩ u hgb').trans (d1 q hq)⟩
  · obtain ⟨a1, a2, a4⟩ := (hC j hj).1
    refine ⟨a1, a2, fun h0 => ?_⟩
    obtain ⟨b', o', e, hl, d0⟩ := a4 h0
    have hgb' := hne (d0 0 h0) (by intro _ _ _ h; cases h)
    exact ⟨b', o', e, by rw [hs]; exact hl, fun q hq => (World.cell?_setCell_far w ⟨g, 0, none⟩ ⟨b', _, none⟩ u hgb').trans (d0 q hq)⟩
theorem MadeOwn.len {w w' : World} {n : Nat} {T : List ANode} {e : Ending} (h : MadeOwn w n T e w') : MadeOwn w T.length T e w' := by
  obtain ⟨A, c, h1, h2, h3, h4⟩ := h
  have hl : T.length = n := by have := h3.1; omega
  subst hl
  exact ⟨A, c, h1, h2, h3, h4⟩
def Does (w : World) (e : Ending) (w' : World) : Prop :=
  ∃ (A1 : Option Addr) (c1 : Nat) (U : List ANode) (B1 : Option Addr) (d1 : Nat) (V : List ANode) (b : Bool), e = .returned (.tuple #[.agg #[.slice A1 U.length c1], .agg #[.slice B1 V.length d1], .bool b]) ∧ IsTree w' A1 U.length U ∧ IsTree w' B1 V.length V ∧ (b = true → V = U ∧ goodB U = true) ∧ Below w.heap.size w w'

set_option maxRecDepth 100000 in
set_option maxHeartbeats 8000000 in
theorem does18_ok (A : Option Addr) (n c : Nat) (T : List ANode) (x : Int) (w : World) (h : IsTree w A n T) (hg : goodB T = true) (hx0 : 0 ≤ x) (hx1 : x ≤ 9223372036854775807) :
    Calls Tryz.prog 6 #[.agg #[.slice A n c], .int .i64 x] w (Does w) := by
  have hT := hide h
  have hl := h.1
  have hg' := hide hg
  have hn64 : n ≤ 64 := by have := ((goodB_iff T).1 hg).2.1; omega
  have hn1 : 1 ≤ n := by have := ((goodB_iff T).1 hg).1; omega
  have hfit := hide (good_fitsA hg)
  have hB0 : Below w.heap.size w (((w.alloc (.cells #[.slice A n c] 26)).alloc (.cells #[.slice none 0 0] 26)).alloc (.cells #[.slice none 0 0] 26)) := below_alloc (below_alloc (below_alloc (Below.refl _ _) _) _) _
  have hb0 : (((w.alloc (.cells #[.slice A n c] 26)).alloc (.cells #[.slice none 0 0] 26)).alloc (.cells #[.slice none 0 0] 26)).cell? ⟨w.heap.size, 0, none⟩ = some (.slice A n c) := blk_cell (blk_alloc (blk_alloc (blk_new _ _ _) _) _) 0
  have h4 : (((w.alloc (.cells #[.slice A n c] 26)).alloc (.cells #[.slice none 0 0] 26)).alloc (.cells #[.slice none 0 0] 26)).heap[w.heap.size + 1]? = some (.cells #[.slice none 0 0] 26 (0, 0)) := blk_alloc (blk_at _ _ _ _ (by simp)) _
  have h5 : (((w.alloc (.cells #[.slice A n c] 26)).alloc (.cells #[.slice none 0 0] 26)).alloc (.cells #[.slice none 0 0] 26)).heap[w.heap.size + 1 + 1]? = some (.cells #[.slice none 0 0] 26 (0, 0)) := blk_at _ _ _ _ (by simp)
  clear h hg
  go_enter Tryz.func6, Tryz.ntmps6
  have hnz : ((n : Int) == 0) = false := by rw [beq_eq_false_iff_ne]; omega
  have hnz2 : ¬ (n : Int) = 0 := by omega
  go_wp2
  go_quiet (fail)
  have hbq : ((((w.alloc (.cells #[.slice A n c] 26)).alloc (.cells #[.slice none 0 0] 26)).alloc (.cells #[.slice none 0 0] 26)).drewN nq).cell? ⟨w.heap.size, 0, none⟩ = some (.slice A n c) := hb0
  have h4q : ((((w.alloc (.cells #[.slice A n c] 26)).alloc (.cells #[.slice none 0 0] 26)).alloc (.cells #[.slice none 0 0] 26)).drewN nq).heap[w.heap.size + 1]? = some (.cells #[.slice none 0 0] 26 (0, 0)) := h4
  have h5q : ((((w.alloc (.cells #[.slice A n c] 26)).alloc (.cells #[.slice none 0 0] 26)).alloc (.cells #[.slice none 0 0] 26)).drewN nq).heap[w.heap.size + 1 + 1]? = some (.cells #[.slice none 0 0] 26 (0, 0)) := h5
  have hBq := below_drewN hB0 nq
  clear hb0 h4 h5 hB0
  generalize (((w.alloc (.cells #[.slice A n c] 26)).alloc (.cells #[.slice none 0 0] 26)).alloc (.cells #[.slice none 0 0] 26)).drewN nq = Wq at *
  go_wp2
  go_quiet (fail)
  have hbz : (Wq.drewN nq).cell? ⟨w.heap.size, 0, none⟩ = some (.slice A n c) := hbq
  have h4z : (Wq.drewN nq).heap[w.heap.size + 1]? = some (.cells #[.slice none 0 0] 26 (0, 0)) := h4q
  have h5z : (Wq.drewN nq).heap[w.heap.size + 1 + 1]? = some (.cells #[.slice none 0 0] 26 (0, 0)) := h5q
  have hBz := below_drewN hBq nq
  clear hbq h4q h5q hBq
  generalize Wq.drewN nq = Wz at *
  obtain ⟨i, hi, hin⟩ : ∃ i : Nat, x / 8 % (n : Int) = i ∧ i < n := by
    have h1 := Int.emod_nonneg (x / 8) hnz2
    have h2 := Int.emod_lt_of_pos (x / 8) (show (0 : Int) < n by omega)
    exact ⟨(x / 8 % (n : Int)).toNat, by omega, by omega⟩
  obtain ⟨k, hk, hkn⟩ : ∃ k : Nat, x / 8 / 64 % (n : Int) = k ∧ k < n := by
    have h1 := Int.emod_nonneg (x / 8 / 64) hnz2
    have h2 := Int.emod_lt_of_pos (x / 8 / 64) (show (0 : Int) < n by omega)
    exact ⟨(x / 8 / 64 % (n : Int)).toNat, by omega, by omega⟩
  rw [hi, hk]
  have ha : 0 ≤ x % 8 ∧ x % 8 < 8 := by omega
  generalize x % 8 = a at *
  generalize x / 8 / 64 = y1 at *
  generalize x / 8 = y2 at *
  clear hi hk hnz hnz2
  obtain rfl | rfl | rfl | rfl | rfl | rfl | rfl | rfl : a = 0 ∨ a = 1 ∨ a = 2 ∨ a = 3 ∨ a = 4 ∨ a = 5 ∨ a = 6 ∨ a = 7 := by omega
  all_goals clear ha
  · obtain ⟨U, hU⟩ : ∃ U, addT T ⟨#[97]⟩ = U := ⟨_, rfl⟩
    obtain ⟨E, hE⟩ : ∃ E, addE T ⟨#[97]⟩ = E := ⟨_, rfl⟩
    obtain ⟨V, hV⟩ : ∃ V, T ++ [rootT ⟨#[97]⟩] = V := ⟨_, rfl⟩
    have hgd := hide (fun (h0 : E = 0) => (show V = U ∧ goodB U = true from by
      have hy := add_yes hg'.out (tag := ⟨#[97]⟩) (by kernel_rfl) (by rw [hE]; exact h0)
      rw [hU, hV] at hy
      exact ⟨hy.1.symm, by rw [hy.1]; exact hy.2⟩))
    have hbz2 := cell_later (below_alloc (Below.refl Wz.heap.size Wz) (.cells #[.string ⟨#[97]⟩, .string ⟨#[112]⟩] 9)) hbz
    go_wp2_with fail
    generalize hy : Wz.alloc (.cells #[.string ⟨#[97]⟩, .string ⟨#[112]⟩] 9) = Wy at *
    have hy1 := below_alloc (Below.refl Wz.heap.size Wz) (.cells #[.string ⟨#[97]⟩, .string ⟨#[112]⟩] 9)
    rw [hy] at hy1
    replace h4z := (hy1.block _ (blk_lt h4z)).trans h4z
    replace h5z := (hy1.block _ (blk_lt h5z)).trans h5z
    replace hbz := cell_later hy1 hbz
    replace hBz := Below.on hBz hy1
    clear hy hy1 hbz2
    have hp := add_ok A n c T ⟨#[97]⟩ _ (hT.out.below hBz) (by omega) hfit.out (by decide)
    rw [hU, hE] at hp
    go_wp2_with fail
    refine hp.mono ?_
    clear hp
    rintro e w1 ⟨A1, c1, rfl, -, hT1, hb1⟩
    have z1 := below_alloc hb1 (.cells #[.slice A1 U.length c1] 26)
    have h41 := (z1.block _ (blk_lt h4z)).trans h4z
    have h51 := (z1.block _ (blk_lt h5z)).trans h5z
    have bz1 := cell_later z1 hbz
    have t1 := hide (hT1.below (below_alloc (Below.refl _ _) (.cells #[.slice A1 U.length c1] 26)))
    have x1 := blk_cell (blk_new w1 #[.slice A1 U.length c1] 26) 0
    have hB1 := (Below.on hBz z1).drew
    have hl1 : w.heap.size + 1 + 1 < w1.heap.size := by have h1 := hb1.size; have h2 := blk_lt h5z; omega
    have hdr := (Below.refl (w1.alloc (.cells #[.slice A1 U.length c1] 26)).heap.size (w1.alloc (.cells #[.slice A1 U.length c1] 26))).drew
    have hsz : (w1.alloc (.cells #[.slice A1 U.length c1] 26)).drew.heap.size = w1.heap.size + 1 := by show (w1.alloc _).heap.size = _; simp
    have nf1 : w.heap.size + 1 ≠ w.heap.size := by omega
    have nf2 : w.heap.size + 1 ≠ w1.heap.size := by omega
    have nf3 : w.heap.size + 1 + 1 ≠ w.heap.size := by omega
    have nf4 : w.heap.size + 1 + 1 ≠ w1.heap.size := by omega
    have hp := (added_ok A n c T ⟨#[97]⟩ _ (hT.out.below hB1) (by omega) hfit.out (by decide)).mono fun _ _ h => h.len
    rw [hV] at hp
    clear h4z h5z hbz hT1 hb1 hBz z1
    go_wp2
    go_region_held3 (fun X => X.cell? ⟨w.heap.size, 0, none⟩ = some (.slice A n c) ∧ X.cell? ⟨w1.heap.size, 0, none⟩ = some (.slice A1 U.length c1)) (first | exact ⟨bz1, x1⟩ | exact ⟨bz2, x12⟩ | exact ⟨(World.cell?_setCell_far _ ⟨w.heap.size + 1, 0, none⟩ ⟨w.heap.size, 0, none⟩ _ nf1).trans bz2, (World.cell?_setCell_far _ ⟨w.heap.size + 1, 0, none⟩ ⟨w1.heap.size, 0, none⟩ _ nf2).trans x12⟩ | exact ⟨(World.cell?_setCell_far _ ⟨w.heap.size + 1 + 1, 0, none⟩ ⟨w.heap.size, 0, none⟩ _ nf3).trans ((World.cell?_setCell_far _ ⟨w.heap.size + 1, 0, none⟩ ⟨w.heap.size, 0, none⟩ _ nf1).trans bz2), (World.cell?_setCell_far _ ⟨w.heap.size + 1 + 1, 0, none⟩ ⟨w1.heap.size, 0, none⟩ _ nf4).trans ((World.cell?_setCell_far _ ⟨w.heap.size + 1, 0, none⟩ ⟨w1.heap.size, 0, none⟩ _ nf2).trans x12)⟩) (first | (go_at_call 20; refine hp.mono ?_; rintro e w2 ⟨A2, c2, rfl, -, hT2, hb2⟩; have z2 := Below.on hdr hb2; have h42 := (z2.block _ (blk_lt h41)).trans h41; have h52 := (z2.block _ (blk_lt h51)).trans h51; have t12 := hide (t1.out.below z2); have t22 := hide hT2; have bz2 := cell_later z2 bz1; have x12 := cell_later z2 x1; have hB2 := Below.on hB1 hb2; have hl2 : w.heap.size + 1 + 1 < w2.heap.size := (by have h1 := hb2.size; rw [hsz] at h1; omega); have k1 := blk_cell h42 0; have k2 := blk_cell h52 0; have k3 := blk_frozen h42 0; have k4 := blk_frozen h52 0))
    all_goals
      have n45 : w.heap.size + 1 ≠ w.heap.size + 1 + 1 := by omega
      have g4 := blk_far (p := ⟨w.heap.size + 1 + 1, 0, none⟩) (blk_set h42 0 (.slice A1 U.length c1)) n45 (.slice A2 V.length c2)
      have g5 := blk_set (blk_far (p := ⟨w.heap.size + 1, 0, none⟩) h52 n45.symm (.slice A1 U.length c1)) 0 (.slice A2 V.length c2)
      have r4 := blk_cell g4 0
      have r5 := blk_cell g5 0
      have s1 := hide (isTree_box (isTree_box t12.out h42 (.slice A1 U.length c1)) (blk_far (p := ⟨w.heap.size + 1, 0, none⟩) h52 n45.symm (.slice A1 U.length c1)) (.slice A2 V.length c2))
      have s2 := hide (isTree_box (isTree_box t22.out h42 (.slice A1 U.length c1)) (blk_far (p := ⟨w.heap.size + 1, 0, none⟩) h52 n45.symm (.slice A1 U.length c1)) (.slice A2 V.length c2))
      have s3 := hide ((hB2.setCell (p := ⟨w.heap.size + 1, 0, none⟩) (by simp) (.slice A1 U.length c1)).setCell (p := ⟨w.heap.size + 1 + 1, 0, none⟩) (by simp; omega) (.slice A2 V.length c2))
      simp only [List.setIfInBounds_toArray, List.set_cons_zero, List.getElem?_toArray, List.getElem?_cons_zero] at r4 r5
      clear g4 g5
      go_wp2
      exact bodyPost_ret (v := .tuple #[.agg #[.slice A1 U.length c1], .agg #[.slice A2 V.length c2], .bool (E == 0)]) (by simp [results, Tryz.results6, go_sem, r4, r5]) rfl ⟨A1, c1, U, A2, c2, V, (E == 0), rfl, s1.out, s2.out, (fun h0 => hgd.out (by simpa using h0)), s3.out⟩
  · obtain ⟨U, hU⟩ : ∃ U, addT T ⟨#[112]⟩ = U := ⟨_, rfl⟩
    obtain ⟨E, hE⟩ : ∃ E, addE T ⟨#[112]⟩ = E := ⟨_, rfl⟩
    obtain ⟨V, hV⟩ : ∃ V, T ++ [rootT ⟨#[112]⟩] = V := ⟨_, rfl⟩
    have hgd := hide (fun (h0 : E = 0) => (show V = U ∧ goodB U = true from by
      have hy := add_yes hg'.out (tag := ⟨#[112]⟩) (by kernel_rfl) (by rw [hE]; exact h0)
      rw [hU, hV] at hy
      exact ⟨hy.1.symm, by rw [hy.1]; exact hy.2⟩))
    have hbz2 := cell_later (below_alloc (Below.refl Wz.heap.size Wz) (.cells #[.string ⟨#[97]⟩, .string ⟨#[112]⟩] 9)) hbz
    go_wp2_with fail
    generalize hy : Wz.alloc (.cells #[.string ⟨#[97]⟩, .string ⟨#[112]⟩] 9) = Wy at *
    have hy1 := below_alloc (Below.refl Wz.heap.size Wz) (.cells #[.string ⟨#[97]⟩, .string ⟨#[112]⟩] 9)
    rw [hy] at hy1
    replace h4z := (hy1.block _ (blk_lt h4z)).trans h4z
    replace h5z := (hy1.block _ (blk_lt h5z)).trans h5z
    replace hbz := cell_later hy1 hbz
    replace hBz := Below.on hBz hy1
    clear hy hy1 hbz2
    have hp := add_ok A n c T ⟨#[112]⟩ _ (hT.out.below hBz) (by omega) hfit.out (by decide)
    rw [hU, hE] at hp
    go_wp2_with fail
    refine hp.mono ?_
    clear hp
    rintro e w1 ⟨A1, c1, rfl, -, hT1, hb1⟩
    have z1 := below_alloc hb1 (.cells #[.slice A1 U.length c1] 26)
    have h41 := (z1.block _ (blk_lt h4z)).trans h4z
    have h51 := (z1.block _ (blk_lt h5z)).trans h5z
    have bz1 := cell_later z1 hbz
    have t1 := hide (hT1.below (below_alloc (Below.refl _ _) (.cells #[.slice A1 U.length c1] 26)))
    have x1 := blk_cell (blk_new w1 #[.slice A1 U.length c1] 26) 0
    have hB1 := (Below.on hBz z1).drew
    have hl1 : w.heap.size + 1 + 1 < w1.heap.size := by have h1 := hb1.size; have h2 := blk_lt h5z; omega
    have hdr := (Below.refl (w1.alloc (.cells #[.slice A1 U.length c1] 26)).heap.size (w1.alloc (.cells #[.slice A1 U.length c1] 26))).drew
    have hsz : (w1.alloc (.cells #[.slice A1 U.length c1] 26)).drew.heap.size = w1.heap.size + 1 := by show (w1.alloc _).heap.size = _; simp
    have nf1 : w.heap.size + 1 ≠ w.heap.size := by omega
    have nf2 : w.heap.size + 1 ≠ w1.heap.size := by omega
    have nf3 : w.heap.size + 1 + 1 ≠ w.heap.size := by omega
    have nf4 : w.heap.size + 1 + 1 ≠ w1.heap.size := by omega
    have hp := (added_ok A n c T ⟨#[112]⟩ _ (hT.out.below hB1) (by omega) hfit.out (by decide)).mono fun _ _ h => h.len
    rw [hV] at hp
    clear h4z h5z hbz hT1 hb1 hBz z1
    go_wp2
    go_region_held3 (fun X => X.cell? ⟨w.heap.size, 0, none⟩ = some (.slice A n c) ∧ X.cell? ⟨w1.heap.size, 0, none⟩ = some (.slice A1 U.length c1)) (first | exact ⟨bz1, x1⟩ | exact ⟨bz2, x12⟩ | exact ⟨(World.cell?_setCell_far _ ⟨w.heap.size + 1, 0, none⟩ ⟨w.heap.size, 0, none⟩ _ nf1).trans bz2, (World.cell?_setCell_far _ ⟨w.heap.size + 1, 0, none⟩ ⟨w1.heap.size, 0, none⟩ _ nf2).trans x12⟩ | exact ⟨(World.cell?_setCell_far _ ⟨w.heap.size + 1 + 1, 0, none⟩ ⟨w.heap.size, 0, none⟩ _ nf3).trans ((World.cell?_setCell_far _ ⟨w.heap.size + 1, 0, none⟩ ⟨w.heap.size, 0, none⟩ _ nf1).trans bz2), (World.cell?_setCell_far _ ⟨w.heap.size + 1 + 1, 0, none⟩ ⟨w1.heap.size, 0, none⟩ _ nf4).trans ((World.cell?_setCell_far _ ⟨w.heap.size + 1, 0, none⟩ ⟨w1.heap.size, 0, none⟩ _ nf2).trans x12)⟩) (first | (go_at_call 20; refine hp.mono ?_; rintro e w2 ⟨A2, c2, rfl, -, hT2, hb2⟩; have z2 := Below.on hdr hb2; have h42 := (z2.block _ (blk_lt h41)).trans h41; have h52 := (z2.block _ (blk_lt h51)).trans h51; have t12 := hide (t1.out.below z2); have t22 := hide hT2; have bz2 := cell_later z2 bz1; have x12 := cell_later z2 x1; have hB2 := Below.on hB1 hb2; have hl2 : w.heap.size + 1 + 1 < w2.heap.size := (by have h1 := hb2.size; rw [hsz] at h1; omega); have k1 := blk_cell h42 0; have k2 := blk_cell h52 0; have k3 := blk_frozen h42 0; have k4 := blk_frozen h52 0))
    all_goals
      have n45 : w.heap.size + 1 ≠ w.heap.size + 1 + 1 := by omega
      have g4 := blk_far (p := ⟨w.heap.size + 1 + 1, 0, none⟩) (blk_set h42 0 (.slice A1 U.length c1)) n45 (.slice A2 V.length c2)
      have g5 := blk_set (blk_far (p := ⟨w.heap.size + 1, 0, none⟩) h52 n45.symm (.slice A1 U.length c1)) 0 (.slice A2 V.length c2)
      have r4 := blk_cell g4 0
      have r5 := blk_cell g5 0
      have s1 := hide (isTree_box (isTree_box t12.out h42 (.slice A1 U.length c1)) (blk_far (p := ⟨w.heap.size + 1, 0, none⟩) h52 n45.symm (.slice A1 U.length c1)) (.slice A2 V.length c2))
      have s2 := hide (isTree_box (isTree_box t22.out h42 (.slice A1 U.length c1)) (blk_far (p := ⟨w.heap.size + 1, 0, none⟩) h52 n45.symm (.slice A1 U.length c1)) (.slice A2 V.length c2))
      have s3 := hide ((hB2.setCell (p := ⟨w.heap.size + 1, 0, none⟩) (by simp) (.slice A1 U.length c1)).setCell (p := ⟨w.heap.size + 1 + 1, 0, none⟩) (by simp; omega) (.slice A2 V.length c2))
      simp only [List.setIfInBounds_toArray, List.set_cons_zero, List.getElem?_toArray, List.getElem?_cons_zero] at r4 r5
      clear g4 g5
      go_wp2
      exact bodyPost_ret (v := .tuple #[.agg #[.slice A1 U.length c1], .agg #[.slice A2 V.length c2], .bool (E == 0)]) (by simp [results, Tryz.results6, go_sem, r4, r5]) rfl ⟨A1, c1, U, A2, c2, V, (E == 0), rfl, s1.out, s2.out, (fun h0 => hgd.out (by simpa using h0)), s3.out⟩
  · obtain ⟨U, hU⟩ : ∃ U, appT T i k = U := ⟨_, rfl⟩
    obtain ⟨E, hE⟩ : ∃ E, appE T i k = E := ⟨_, rfl⟩
    have hgd := hide (fun (h0 : E = 0) => (show goodB U = true from by rw [← hU]; exact app_yes (by rw [hE]; exact h0)))
    have hp := append_ok A n c T i k _ (hT.out.below hBz)
    rw [hU, hE] at hp
    go_wp2_with fail
    refine hp.mono ?_
    clear hp
    rintro e w1 ⟨A1, c1, rfl, -, hT1, hb1⟩
    have z1 := below_alloc hb1 (.cells #[.slice A1 U.length c1] 26)
    have h41 := (z1.block _ (blk_lt h4z)).trans h4z
    have h51 := (z1.block _ (blk_lt h5z)).trans h5z
    have bz1 := cell_later z1 hbz
    have t1 := hide (hT1.below (below_alloc (Below.refl _ _) (.cells #[.slice A1 U.length c1] 26)))
    have x1 := blk_new w1 #[.slice A1 U.length c1] 26
    have hB1 := Below.on hBz z1
    have hp := rappend_ok A n c T i k _ (hT.out.below hB1)
    rw [hU, hE] at hp
    have hl1 : w.heap.size + 1 + 1 < w1.heap.size := by have h1 := hb1.size; have h2 := blk_lt h5z; omega
    clear h4z h5z hbz hT1 hb1 hBz
    go_wp2_with fail
    refine hp.mono ?_
    clear hp
    rintro e w2 ⟨A2, c2, rfl, -, hT2, hb2⟩
    have z2 := below_alloc hb2 (.cells #[.slice A2 U.length c2] 26)
    have h42 := (z2.block _ (blk_lt h41)).trans h41
    have h52 := (z2.block _ (blk_lt h51)).trans h51
    have t12 := hide (t1.out.below z2)
    have t22 := hide (hT2.below (below_alloc (Below.refl _ _) (.cells #[.slice A2 U.length c2] 26)))
    have x12 := blk_cell ((z2.block _ (blk_lt x1)).trans x1) 0
    have x22 := blk_cell (blk_new w2 #[.slice A2 U.length c2] 26) 0
    have hB2 := Below.on hB1 z2
    have hl2 : w.heap.size + 1 + 1 < w2.heap.size := by have h1 := hb2.size; simp at h1; omega
    have hl3 : w1.heap.size < w2.heap.size := by have h1 := hb2.size; simp at h1; omega
    clear h41 h51 bz1 t1 x1 hB1 hT2 hb2 z1 z2
    have k1 := blk_cell h42 0
    have k2 := blk_cell h52 0
    have k3 := blk_frozen h42 0
    have k4 := blk_frozen h52 0
    go_wp2
    go_region
    have n45 : w.heap.size + 1 ≠ w.heap.size + 1 + 1 := by omega
    have g4 := blk_far (p := ⟨w.heap.size + 1 + 1, 0, none⟩) (blk_set h42 0 (.slice A1 U.length c1)) n45 (.slice A2 U.length c2)
    have g5 := blk_set (blk_far (p := ⟨w.heap.size + 1, 0, none⟩) h52 n45.symm (.slice A1 U.length c1)) 0 (.slice A2 U.length c2)
    have r4 := blk_cell g4 0
    have r5 := blk_cell g5 0
    have s1 := hide (isTree_box (isTree_box t12.out h42 (.slice A1 U.length c1)) (blk_far (p := ⟨w.heap.size + 1, 0, none⟩) h52 n45.symm (.slice A1 U.length c1)) (.slice A2 U.length c2))
    have s2 := hide (isTree_box (isTree_box t22.out h42 (.slice A1 U.length c1)) (blk_far (p := ⟨w.heap.size + 1, 0, none⟩) h52 n45.symm (.slice A1 U.length c1)) (.slice A2 U.length c2))
    have s3 := hide ((hB2.setCell (p := ⟨w.heap.size + 1, 0, none⟩) (by simp) (.slice A1 U.length c1)).setCell (p := ⟨w.heap.size + 1 + 1, 0, none⟩) (by simp; omega) (.slice A2 U.length c2))
    simp only [List.setIfInBounds_toArray, List.set_cons_zero, List.getElem?_toArray, List.getElem?_cons_zero] at r4 r5
    clear g4 g5
    go_wp2
    exact bodyPost_ret (v := .tuple #[.agg #[.slice A1 U.length c1], .agg #[.slice A2 U.length c2], .bool (E == 0)]) (by simp [results, Tryz.results6, go_sem, r4, r5]) rfl ⟨A1, c1, U, A2, c2, U, (E == 0), rfl, s1.out, s2.out, (fun h0 => ⟨rfl, hgd.out (by simpa using h0)⟩), s3.out.drew⟩
  · obtain ⟨U, hU⟩ : ∃ U, appT T i k = U := ⟨_, rfl⟩
    obtain ⟨E, hE⟩ : ∃ E, appE T i k = E := ⟨_, rfl⟩
    have hgd := hide (fun (h0 : E = 0) => (show goodB U = true from by rw [← hU]; exact app_yes (by rw [hE]; exact h0)))
    have hp := append_ok A n c T i k _ (hT.out.below hBz)
    rw [hU, hE] at hp
    go_wp2_with fail
    refine hp.mono ?_
    clear hp
    rintro e w1 ⟨A1, c1, rfl, -, hT1, hb1⟩
    have z1 := below_alloc hb1 (.cells #[.slice A1 U.length c1] 26)
    have h41 := (z1.block _ (blk_lt h4z)).trans h4z
    have h51 := (z1.block _ (blk_lt h5z)).trans h5z
    have bz1 := cell_later z1 hbz
    have t1 := hide (hT1.below (below_alloc (Below.refl _ _) (.cells #[.slice A1 U.length c1] 26)))
    have x1 := blk_new w1 #[.slice A1 U.length c1] 26
    have hB1 := Below.on hBz z1
    have hp := rappend_ok A n c T i k _ (hT.out.below hB1)
    rw [hU, hE] at hp
    have hl1 : w.heap.size + 1 + 1 < w1.heap.size := by have h1 := hb1.size; have h2 := blk_lt h5z; omega
    clear h4z h5z hbz hT1 hb1 hBz
    go_wp2_with fail
    refine hp.mono ?_
    clear hp
    rintro e w2 ⟨A2, c2, rfl, -, hT2, hb2⟩
    have z2 := below_alloc hb2 (.cells #[.slice A2 U.length c2] 26)
    have h42 := (z2.block _ (blk_lt h41)).trans h41
    have h52 := (z2.block _ (blk_lt h51)).trans h51
    have t12 := hide (t1.out.below z2)
    have t22 := hide (hT2.below (below_alloc (Below.refl _ _) (.cells #[.slice A2 U.length c2] 26)))
    have x12 := blk_cell ((z2.block _ (blk_lt x1)).trans x1) 0
    have x22 := blk_cell (blk_new w2 #[.slice A2 U.length c2] 26) 0
    have hB2 := Below.on hB1 z2
    have hl2 : w.heap.size + 1 + 1 < w2.heap.size := by have h1 := hb2.size; simp at h1; omega
    have hl3 : w1.heap.size < w2.heap.size := by have h1 := hb2.size; simp at h1; omega
    clear h41 h51 bz1 t1 x1 hB1 hT2 hb2 z1 z2
    have k1 := blk_cell h42 0
    have k2 := blk_cell h52 0
    have k3 := blk_frozen h42 0
    have k4 := blk_frozen h52 0
    go_wp2
    go_region
    have n45 : w.heap.size + 1 ≠ w.heap.size + 1 + 1 := by omega
    have g4 := blk_far (p := ⟨w.heap.size + 1 + 1, 0, none⟩) (blk_set h42 0 (.slice A1 U.length c1)) n45 (.slice A2 U.length c2)
    have g5 := blk_set (blk_far (p := ⟨w.heap.size + 1, 0, none⟩) h52 n45.symm (.slice A1 U.length c1)) 0 (.slice A2 U.length c2)
    have r4 := blk_cell g4 0
    have r5 := blk_cell g5 0
    have s1 := hide (isTree_box (isTree_box t12.out h42 (.slice A1 U.length c1)) (blk_far (p := ⟨w.heap.size + 1, 0, none⟩) h52 n45.symm (.slice A1 U.length c1)) (.slice A2 U.length c2))
    have s2 := hide (isTree_box (isTree_box t22.out h42 (.slice A1 U.length c1)) (blk_far (p := ⟨w.heap.size + 1, 0, none⟩) h52 n45.symm (.slice A1 U.length c1)) (.slice A2 U.length c2))
    have s3 := hide ((hB2.setCell (p := ⟨w.heap.size + 1, 0, none⟩) (by simp) (.slice A1 U.length c1)).setCell (p := ⟨w.heap.size + 1 + 1, 0, none⟩) (by simp; omega) (.slice A2 U.length c2))
    simp only [List.setIfInBounds_toArray, List.set_cons_zero, List.getElem?_toArray, List.getElem?_cons_zero] at r4 r5
    clear g4 g5
    go_wp2
    exact bodyPost_ret (v := .tuple #[.agg #[.slice A1 U.length c1], .agg #[.slice A2 U.length c2], .bool (E == 0)]) (by simp [results, Tryz.results6, go_sem, r4, r5]) rfl ⟨A1, c1, U, A2, c2, U, (E == 0), rfl, s1.out, s2.out, (fun h0 => ⟨rfl, hgd.out (by simpa using h0)⟩), s3.out.drew⟩
  · obtain ⟨U, hU⟩ : ∃ U, befT T i k = U := ⟨_, rfl⟩
    obtain ⟨E, hE⟩ : ∃ E, befE T i k = E := ⟨_, rfl⟩
    have hgd := hide (fun (h0 : E = 0) => (show goodB U = true from by rw [← hU]; exact bef_yes (by rw [hE]; exact h0)))
    have hp := before_ok A n c T i k _ (hT.out.below hBz)
    rw [hU, hE] at hp
    go_wp2_with fail
    refine hp.mono ?_
    clear hp
    rintro e w1 ⟨A1, c1, rfl, -, hT1, hb1⟩
    have z1 := below_alloc hb1 (.cells #[.slice A1 U.length c1] 26)
    have h41 := (z1.block _ (blk_lt h4z)).trans h4z
    have h51 := (z1.block _ (blk_lt h5z)).trans h5z
    have bz1 := cell_later z1 hbz
    have t1 := hide (hT1.below (below_alloc (Below.refl _ _) (.cells #[.slice A1 U.length c1] 26)))
    have x1 := blk_new w1 #[.slice A1 U.length c1] 26
    have hB1 := Below.on hBz z1
    have hp := rbefore_ok A n c T i k _ (hT.out.below hB1)
    rw [hU, hE] at hp
    have hl1 : w.heap.size + 1 + 1 < w1.heap.size := by have h1 := hb1.size; have h2 := blk_lt h5z; omega
    clear h4z h5z hbz hT1 hb1 hBz
    go_wp2_with fail
    refine hp.mono ?_
    clear hp
    rintro e w2 ⟨A2, c2, rfl, -, hT2, hb2⟩
    have z2 := below_alloc hb2 (.cells #[.slice A2 U.length c2] 26)
    have h42 := (z2.block _ (blk_lt h41)).trans h41
    have h52 := (z2.block _ (blk_lt h51)).trans h51
    have t12 := hide (t1.out.below z2)
    have t22 := hide (hT2.below (below_alloc (Below.refl _ _) (.cells #[.slice A2 U.length c2] 26)))
    have x12 := blk_cell ((z2.block _ (blk_lt x1)).trans x1) 0
    have x22 := blk_cell (blk_new w2 #[.slice A2 U.length c2] 26) 0
    have hB2 := Below.on hB1 z2
    have hl2 : w.heap.size + 1 + 1 < w2.heap.size := by have h1 := hb2.size; simp at h1; omega
    have hl3 : w1.heap.size < w2.heap.size := by have h1 := hb2.size; simp at h1; omega
    clear h41 h51 bz1 t1 x1 hB1 hT2 hb2 z1 z2
    have k1 := blk_cell h42 0
    have k2 := blk_cell h52 0
    have k3 := blk_frozen h42 0
    have k4 := blk_frozen h52 0
    go_wp2
    go_region
    have n45 : w.heap.size + 1 ≠ w.heap.size + 1 + 1 := by omega
    have g4 := blk_far (p := ⟨w.heap.size + 1 + 1, 0, none⟩) (blk_set h42 0 (.slice A1 U.length c1)) n45 (.slice A2 U.length c2)
    have g5 := blk_set (blk_far (p := ⟨w.heap.size + 1, 0, none⟩) h52 n45.symm (.slice A1 U.length c1)) 0 (.slice A2 U.length c2)
    have r4 := blk_cell g4 0
    have r5 := blk_cell g5 0
    have s1 := hide (isTree_box (isTree_box t12.out h42 (.slice A1 U.length c1)) (blk_far (p := ⟨w.heap.size + 1, 0, none⟩) h52 n45.symm (.slice A1 U.length c1)) (.slice A2 U.length c2))
    have s2 := hide (isTree_box (isTree_box t22.out h42 (.slice A1 U.length c1)) (blk_far (p := ⟨w.heap.size + 1, 0, none⟩) h52 n45.symm (.slice A1 U.length c1)) (.slice A2 U.length c2))
    have s3 := hide ((hB2.setCell (p := ⟨w.heap.size + 1, 0, none⟩) (by simp) (.slice A1 U.length c1)).setCell (p := ⟨w.heap.size + 1 + 1, 0, none⟩) (by simp; omega) (.slice A2 U.length c2))
    simp only [List.setIfInBounds_toArray, List.set_cons_zero, List.getElem?_toArray, List.getElem?_cons_zero] at r4 r5
    clear g4 g5
    go_wp2
    exact bodyPost_ret (v := .tuple #[.agg #[.slice A1 U.length c1], .agg #[.slice A2 U.length c2], .bool (E == 0)]) (by simp [results, Tryz.results6, go_sem, r4, r5]) rfl ⟨A1, c1, U, A2, c2, U, (E == 0), rfl, s1.out, s2.out, (fun h0 => ⟨rfl, hgd.out (by simpa using h0)⟩), s3.out.drew⟩
  · obtain ⟨U, hU⟩ : ∃ U, takeT T i = U := ⟨_, rfl⟩
    obtain ⟨E, hE⟩ : ∃ E, takeE T i = E := ⟨_, rfl⟩
    have hgd := hide (fun (h0 : E = 0) => (show goodB U = true from by rw [← hU]; exact tak_yes (by rw [hE]; exact h0)))
    have hp := take_ok A n c T i _ (hT.out.below hBz)
    rw [hU, hE] at hp
    go_wp2_with fail
    refine hp.mono ?_
    clear hp
    rintro e w1 ⟨A1, c1, rfl, -, hT1, hb1⟩
    have z1 := below_alloc hb1 (.cells #[.slice A1 U.length c1] 26)
    have h41 := (z1.block _ (blk_lt h4z)).trans h4z
    have h51 := (z1.block _ (blk_lt h5z)).trans h5z
    have bz1 := cell_later z1 hbz
    have t1 := hide (hT1.below (below_alloc (Below.refl _ _) (.cells #[.slice A1 U.length c1] 26)))
    have x1 := blk_new w1 #[.slice A1 U.length c1] 26
    have hB1 := Below.on hBz z1
    have hp := rtake_ok A n c T i _ (hT.out.below hB1)
    rw [hU, hE] at hp
    have hl1 : w.heap.size + 1 + 1 < w1.heap.size := by have h1 := hb1.size; have h2 := blk_lt h5z; omega
    clear h4z h5z hbz hT1 hb1 hBz
    go_wp2_with fail
    refine hp.mono ?_
    clear hp
    rintro e w2 ⟨A2, c2, rfl, -, hT2, hb2⟩
    have z2 := below_alloc hb2 (.cells #[.slice A2 U.length c2] 26)
    have h42 := (z2.block _ (blk_lt h41)).trans h41
    have h52 := (z2.block _ (blk_lt h51)).trans h51
    have t12 := hide (t1.out.below z2)
    have t22 := hide (hT2.below (below_alloc (Below.refl _ _) (.cells #[.slice A2 U.length c2] 26)))
    have x12 := blk_cell ((z2.block _ (blk_lt x1)).trans x1) 0
    have x22 := blk_cell (blk_new w2 #[.slice A2 U.length c2] 26) 0
    have hB2 := Below.on hB1 z2
    have hl2 : w.heap.size + 1 + 1 < w2.heap.size := by have h1 := hb2.size; simp at h1; omega
    have hl3 : w1.heap.size < w2.heap.size := by have h1 := hb2.size; simp at h1; omega
    clear h41 h51 bz1 t1 x1 hB1 hT2 hb2 z1 z2
    have k1 := blk_cell h42 0
    have k2 := blk_cell h52 0
    have k3 := blk_frozen h42 0
    have k4 := blk_frozen h52 0
    go_wp2
    go_region
    have n45 : w.heap.size + 1 ≠ w.heap.size + 1 + 1 := by omega
    have g4 := blk_far (p := ⟨w.heap.size + 1 + 1, 0, none⟩) (blk_set h42 0 (.slice A1 U.length c1)) n45 (.slice A2 U.length c2)
    have g5 := blk_set (blk_far (p := ⟨w.heap.size + 1, 0, none⟩) h52 n45.symm (.slice A1 U.length c1)) 0 (.slice A2 U.length c2)
    have r4 := blk_cell g4 0
    have r5 := blk_cell g5 0
    have s1 := hide (isTree_box (isTree_box t12.out h42 (.slice A1 U.length c1)) (blk_far (p := ⟨w.heap.size + 1, 0, none⟩) h52 n45.symm (.slice A1 U.length c1)) (.slice A2 U.length c2))
    have s2 := hide (isTree_box (isTree_box t22.out h42 (.slice A1 U.length c1)) (blk_far (p := ⟨w.heap.size + 1, 0, none⟩) h52 n45.symm (.slice A1 U.length c1)) (.slice A2 U.length c2))
    have s3 := hide ((hB2.setCell (p := ⟨w.heap.size + 1, 0, none⟩) (by simp) (.slice A1 U.length c1)).setCell (p := ⟨w.heap.size + 1 + 1, 0, none⟩) (by simp; omega) (.slice A2 U.length c2))
    simp only [List.setIfInBounds_toArray, List.set_cons_zero, List.getElem?_toArray, List.getElem?_cons_zero] at r4 r5
    clear g4 g5
    go_wp2
    exact bodyPost_ret (v := .tuple #[.agg #[.slice A1 U.length c1], .agg #[.slice A2 U.length c2], .bool (E == 0)]) (by simp [results, Tryz.results6, go_sem, r4, r5]) rfl ⟨A1, c1, U, A2, c2, U, (E == 0), rfl, s1.out, s2.out, (fun h0 => ⟨rfl, hgd.out (by simpa using h0)⟩), s3.out.drew⟩
  · obtain ⟨U, hU⟩ : ∃ U, setT T i ⟨#[104, 114, 101, 102]⟩ ⟨#[120]⟩ = U := ⟨_, rfl⟩
    obtain ⟨E, hE⟩ : ∃ E, setE T i ⟨#[104, 114, 101, 102]⟩ ⟨#[120]⟩ = E := ⟨_, rfl⟩
    obtain ⟨V, hV⟩ : ∃ V, setA T i (putL (atl T i) ⟨#[104, 114, 101, 102]⟩ ⟨#[120]⟩) = V := ⟨_, rfl⟩
    have hgd := hide (fun (h0 : E = 0) => (show V = U ∧ goodB U = true from by
      have hy := set_yes hg'.out (k := i) (s := ⟨#[104, 114, 101, 102]⟩) (v := ⟨#[120]⟩) (by have := hl; omega) (by decide) (by kernel_rfl) (by rw [hE]; exact h0)
      rw [hU, hV] at hy
      exact ⟨hy.1.symm, by rw [hy.1]; exact hy.2⟩))
    have hp := aset_ok A n c T i ⟨#[104, 114, 101, 102]⟩ ⟨#[120]⟩ _ (hT.out.below hBz) (by decide) (by decide)
    rw [hU, hE] at hp
    go_wp2_with fail
    refine hp.mono ?_
    clear hp
    rintro e w1 ⟨A1, c1, rfl, -, hT1, hb1⟩
    have z1 := below_alloc hb1 (.cells #[.slice A1 U.length c1] 26)
    have h41 := (z1.block _ (blk_lt h4z)).trans h4z
    have h51 := (z1.block _ (blk_lt h5z)).trans h5z
    have bz1 := cell_later z1 hbz
    have t1 := hide (hT1.below (below_alloc (Below.refl _ _) (.cells #[.slice A1 U.length c1] 26)))
    have x1 := blk_cell (blk_new w1 #[.slice A1 U.length c1] 26) 0
    have hB1 := (Below.on hBz z1).drew
    have hl1 : w.heap.size + 1 + 1 < w1.heap.size := by have h1 := hb1.size; have h2 := blk_lt h5z; omega
    have hdr := (Below.refl (w1.alloc (.cells #[.slice A1 U.length c1] 26)).heap.size (w1.alloc (.cells #[.slice A1 U.length c1] 26))).drew
    have hsz : (w1.alloc (.cells #[.slice A1 U.length c1] 26)).drew.heap.size = w1.heap.size + 1 := by show (w1.alloc _).heap.size = _; simp
    have nf1 : w.heap.size + 1 ≠ w.heap.size := by omega
    have nf2 : w.heap.size + 1 ≠ w1.heap.size := by omega
    have nf3 : w.heap.size + 1 + 1 ≠ w.heap.size := by omega
    have nf4 : w.heap.size + 1 + 1 ≠ w1.heap.size := by omega
    have hp := (rput_ok A n c T i ⟨#[104, 114, 101, 102]⟩ ⟨#[120]⟩ _ (hT.out.below hB1) hin hg'.out (by decide) (by decide)).mono fun _ _ h => h.len
    rw [hV] at hp
    clear h4z h5z hbz hT1 hb1 hBz z1
    go_wp2
    go_region_held3 (fun X => X.cell? ⟨w.heap.size, 0, none⟩ = some (.slice A n c) ∧ X.cell? ⟨w1.heap.size, 0, none⟩ = some (.slice A1 U.length c1)) (first | exact ⟨bz1, x1⟩ | exact ⟨bz2, x12⟩ | exact ⟨(World.cell?_setCell_far _ ⟨w.heap.size + 1, 0, none⟩ ⟨w.heap.size, 0, none⟩ _ nf1).trans bz2, (World.cell?_setCell_far _ ⟨w.heap.size + 1, 0, none⟩ ⟨w1.heap.size, 0, none⟩ _ nf2).trans x12⟩ | exact ⟨(World.cell?_setCell_far _ ⟨w.heap.size + 1 + 1, 0, none⟩ ⟨w.heap.size, 0, none⟩ _ nf3).trans ((World.cell?_setCell_far _ ⟨w.heap.size + 1, 0, none⟩ ⟨w.heap.size, 0, none⟩ _ nf1).trans bz2), (World.cell?_setCell_far _ ⟨w.heap.size + 1 + 1, 0, none⟩ ⟨w1.heap.size, 0, none⟩ _ nf4).trans ((World.cell?_setCell_far _ ⟨w.heap.size + 1, 0, none⟩ ⟨w1.heap.size, 0, none⟩ _ nf2).trans x12)⟩) (first | (go_at_call 27; refine hp.mono ?_; rintro e w2 ⟨A2, c2, rfl, -, hT2, hb2⟩; have z2 := Below.on hdr hb2; have h42 := (z2.block _ (blk_lt h41)).trans h41; have h52 := (z2.block _ (blk_lt h51)).trans h51; have t12 := hide (t1.out.below z2); have t22 := hide hT2; have bz2 := cell_later z2 bz1; have x12 := cell_later z2 x1; have hB2 := Below.on hB1 hb2; have hl2 : w.heap.size + 1 + 1 < w2.heap.size := (by have h1 := hb2.size; rw [hsz] at h1; omega); have k1 := blk_cell h42 0; have k2 := blk_cell h52 0; have k3 := blk_frozen h42 0; have k4 := blk_frozen h52 0))
    all_goals
      have n45 : w.heap.size + 1 ≠ w.heap.size + 1 + 1 := by omega
      have g4 := blk_far (p := ⟨w.heap.size + 1 + 1, 0, none⟩) (blk_set h42 0 (.slice A1 U.length c1)) n45 (.slice A2 V.length c2)
      have g5 := blk_set (blk_far (p := ⟨w.heap.size + 1, 0, none⟩) h52 n45.symm (.slice A1 U.length c1)) 0 (.slice A2 V.length c2)
      have r4 := blk_cell g4 0
      have r5 := blk_cell g5 0
      have s1 := hide (isTree_box (isTree_box t12.out h42 (.slice A1 U.length c1)) (blk_far (p := ⟨w.heap.size + 1, 0, none⟩) h52 n45.symm (.slice A1 U.length c1)) (.slice A2 V.length c2))
      have s2 := hide (isTree_box (isTree_box t22.out h42 (.slice A1 U.length c1)) (blk_far (p := ⟨w.heap.size + 1, 0, none⟩) h52 n45.symm (.slice A1 U.length c1)) (.slice A2 V.length c2))
      have s3 := hide ((hB2.setCell (p := ⟨w.heap.size + 1, 0, none⟩) (by simp) (.slice A1 U.length c1)).setCell (p := ⟨w.heap.size + 1 + 1, 0, none⟩) (by simp; omega) (.slice A2 V.length c2))
      simp only [List.setIfInBounds_toArray, List.set_cons_zero, List.getElem?_toArray, List.getElem?_cons_zero] at r4 r5
      clear g4 g5
      go_wp2
      exact bodyPost_ret (v := .tuple #[.agg #[.slice A1 U.length c1], .agg #[.slice A2 V.length c2], .bool (E == 0)]) (by simp [results, Tryz.results6, go_sem, r4, r5]) rfl ⟨A1, c1, U, A2, c2, V, (E == 0), rfl, s1.out, s2.out, (fun h0 => hgd.out (by simpa using h0)), s3.out⟩
  · obtain ⟨U, hU⟩ : ∃ U, unsT T i ⟨#[104, 114, 101, 102]⟩ = U := ⟨_, rfl⟩
    obtain ⟨E, hE⟩ : ∃ E, getE T i ⟨#[104, 114, 101, 102]⟩ = E := ⟨_, rfl⟩
    have hgd := hide (fun (h0 : E = 0) => (show goodB U = true from by rw [← hU]; exact uns_yes hg'.out (k := i) (by have := hl; omega) (by rw [hE]; exact h0)))
    have hp := auns_ok A n c T i ⟨#[104, 114, 101, 102]⟩ _ (hT.out.below hBz)
    rw [hU, hE] at hp
    go_wp2_with fail
    refine hp.mono ?_
    clear hp
    rintro e w1 ⟨A1, c1, rfl, -, hT1, hb1⟩
    have z1 := below_alloc hb1 (.cells #[.slice A1 U.length c1] 26)
    have h41 := (z1.block _ (blk_lt h4z)).trans h4z
    have h51 := (z1.block _ (blk_lt h5z)).trans h5z
    have bz1 := cell_later z1 hbz
    have t1 := hide (hT1.below (below_alloc (Below.refl _ _) (.cells #[.slice A1 U.length c1] 26)))
    have x1 := blk_new w1 #[.slice A1 U.length c1] 26
    have hB1 := Below.on hBz z1
    have hp := runs_ok A n c T i ⟨#[104, 114, 101, 102]⟩ _ (hT.out.below hB1)
    rw [hU, hE] at hp
    have hl1 : w.heap.size + 1 + 1 < w1.heap.size := by have h1 := hb1.size; have h2 := blk_lt h5z; omega
    clear h4z h5z hbz hT1 hb1 hBz
    go_wp2_with fail
    refine hp.mono ?_
    clear hp
    rintro e w2 ⟨A2, c2, rfl, -, hT2, hb2⟩
    have z2 := below_alloc hb2 (.cells #[.slice A2 U.length c2] 26)
    have h42 := (z2.block _ (blk_lt h41)).trans h41
    have h52 := (z2.block _ (blk_lt h51)).trans h51
    have t12 := hide (t1.out.below z2)
    have t22 := hide (hT2.below (below_alloc (Below.refl _ _) (.cells #[.slice A2 U.length c2] 26)))
    have x12 := blk_cell ((z2.block _ (blk_lt x1)).trans x1) 0
    have x22 := blk_cell (blk_new w2 #[.slice A2 U.length c2] 26) 0
    have hB2 := Below.on hB1 z2
    have hl2 : w.heap.size + 1 + 1 < w2.heap.size := by have h1 := hb2.size; simp at h1; omega
    have hl3 : w1.heap.size < w2.heap.size := by have h1 := hb2.size; simp at h1; omega
    clear h41 h51 bz1 t1 x1 hB1 hT2 hb2 z1 z2
    have k1 := blk_cell h42 0
    have k2 := blk_cell h52 0
    have k3 := blk_frozen h42 0
    have k4 := blk_frozen h52 0
    go_wp2
    go_region
    have n45 : w.heap.size + 1 ≠ w.heap.size + 1 + 1 := by omega
    have g4 := blk_far (p := ⟨w.heap.size + 1 + 1, 0, none⟩) (blk_set h42 0 (.slice A1 U.length c1)) n45 (.slice A2 U.length c2)
    have g5 := blk_set (blk_far (p := ⟨w.heap.size + 1, 0, none⟩) h52 n45.symm (.slice A1 U.length c1)) 0 (.slice A2 U.length c2)
    have r4 := blk_cell g4 0
    have r5 := blk_cell g5 0
    have s1 := hide (isTree_box (isTree_box t12.out h42 (.slice A1 U.length c1)) (blk_far (p := ⟨w.heap.size + 1, 0, none⟩) h52 n45.symm (.slice A1 U.length c1)) (.slice A2 U.length c2))
    have s2 := hide (isTree_box (isTree_box t22.out h42 (.slice A1 U.length c1)) (blk_far (p := ⟨w.heap.size + 1, 0, none⟩) h52 n45.symm (.slice A1 U.length c1)) (.slice A2 U.length c2))
    have s3 := hide ((hB2.setCell (p := ⟨w.heap.size + 1, 0, none⟩) (by simp) (.slice A1 U.length c1)).setCell (p := ⟨w.heap.size + 1 + 1, 0, none⟩) (by simp; omega) (.slice A2 U.length c2))
    simp only [List.setIfInBounds_toArray, List.set_cons_zero, List.getElem?_toArray, List.getElem?_cons_zero] at r4 r5
    clear g4 g5
    go_wp2
    exact bodyPost_ret (v := .tuple #[.agg #[.slice A1 U.length c1], .agg #[.slice A2 U.length c2], .bool (E == 0)]) (by simp [results, Tryz.results6, go_sem, r4, r5]) rfl ⟨A1, c1, U, A2, c2, U, (E == 0), rfl, s1.out, s2.out, (fun h0 => ⟨rfl, hgd.out (by simpa using h0)⟩), s3.out.drew⟩
end Go.Proofs.YtmdccplhmniiiaaGreat
