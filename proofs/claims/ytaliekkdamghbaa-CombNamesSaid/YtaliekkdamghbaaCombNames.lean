/- The limits, the errors and each combinator of chapter 21, at the chapter's example. No condition. -/
import Derived.Test.YtaliekkdamghbaaDf
import Derived.Test.YtaliekkdamghbaaDb
import Derived.Deep.RegionHeld3
import Derived.Deep.CutRange
import Derived.Test.YtaliekkdamghbaaDe
namespace Go.Proofs.Ytaliekkdamghbaa.combNames
open Go.ChangeShapes Go.WideShapes Go.ChangeAt Go.RowKit

theorem far_alloc' {w : World} {a : Addr} {u : Value} (h : w.cell? a = some u) (o : Obj) : (w.alloc o).cell? a = some u := cell_later (below_alloc (Below.refl _ _) _) h
/-- What is told, that is not right: combinators, and lists. -/
def csT (j : Nat) : List Int := [[1], [1, 1, 1], [0, 1], [1, 5], [1, 1], [], List.replicate 64 0].getD j []
def hsT (j : Nat) : List (List Bool) := [ex21H, ex21H, ex21H, ex21H, [[true, false, true, false, false], [false, true, false, true, false], [true, true, true, true]], [], List.replicate 65 []].getD j []
theorem lt7 {j : Nat} (h : j < 7) : j = 0 ∨ j = 1 ∨ j = 2 ∨ j = 3 ∨ j = 4 ∨ j = 5 ∨ j = 6 := by omega
theorem bad_chk {j : Nat} (h : j < 7) : cchk ex21 (csT j) (hsT j) = 2 := by
  rcases lt7 h with rfl | rfl | rfl | rfl | rfl | rfl | rfl <;> kernel_rfl
theorem bad_ask {j : Nat} (h : j < 7) : cask ex21 0 (csT j) (hsT j) = 2 := by
  unfold cask; rw [if_pos (by kernel_rfl), bad_chk h]
theorem bad_mat {j : Nat} (h : j < 7) : matE ex21 0 (csT j) (hsT j) = false := by unfold matE; rw [if_neg (by rw [bad_ask h]; decide)]
theorem bad_all {j : Nat} (h : j < 7) : allE ex21 (csT j) (hsT j) = [] := by unfold allE; rw [if_neg (by rw [bad_chk h]; decide)]
theorem bad_wayE {j : Nat} (h : j < 7) : wayE ex21 0 (csT j) (hsT j) = 2 := by unfold wayE; rw [if_neg (by rw [bad_ask h]; decide), bad_ask h]
theorem bad_wayL {j : Nat} (h : j < 7) : wayL ex21 0 (csT j) (hsT j) = [] := by unfold wayL; rw [if_neg (by rw [bad_wayE h]; decide)]
def CsTab (w : World) (g : Nat) : Prop := ∀ j, j < 7 → ∃ (A : Option Addr) (l c : Nat), w.cell? ⟨g, j, none⟩ = some (.slice A l c) ∧ IsU8 w A l (csT j)
def HsTab (w : World) (g : Nat) : Prop := ∀ j, j < 7 → ∃ (A : Option Addr) (l c : Nat), w.cell? ⟨g, j, none⟩ = some (.slice A l c) ∧ IsBB w A l (hsT j)
theorem CsTab.below {w w' : World} {g : Nat} (h : CsTab w g) (hb : Below w.heap.size w w') : CsTab w' g := fun j hj => by
  obtain ⟨A, l, c, h1, h2⟩ := h j hj
  exact ⟨A, l, c, cell_later hb h1, h2.below hb⟩
theorem HsTab.below {w w' : World} {g : Nat} (h : HsTab w g) (hb : Below w.heap.size w w') : HsTab w' g := fun j hj => by
  obtain ⟨A, l, c, h1, h2⟩ := h j hj
  exact ⟨A, l, c, cell_later hb h1, h2.below hb⟩
theorem ccheck_at {T : List ANode} {cs : List Int} {H : List (List Bool)} {c0 : Int} (h0 : cchk T cs H = c0) (A B C : Option Addr) (n c m d k e : Nat) (w : World) (h : IsTree w A n T) (hcs : IsU8 w B m cs) (hH : IsBB w C k H) :
    Calls Try.prog 26 #[.agg #[.slice A n c], .slice B m d, .slice C k e] w fun r w' => r = .returned (.int .i64 c0) ∧ Below w.heap.size w w' := by
  have := ccheck_ok A B C n c m d k e T cs H w h hcs hH
  rw [h0] at this
  exact this
theorem csTab_lit (W : World) (g : Nat) (t : TypeId) (hg : g = W.heap.size) (A0 A1 A2 A3 A4 A6 : Option Addr) (h0 : IsU8 W A0 1 (csT 0)) (h1 : IsU8 W A1 3 (csT 1)) (h2 : IsU8 W A2 2 (csT 2)) (h3 : IsU8 W A3 2 (csT 3)) (h4 : IsU8 W A4 2 (csT 4)) (h6 : IsU8 W A6 64 (csT 6)) :
    CsTab (W.alloc (.cells #[.slice A0 1 1, .slice A1 3 3, .slice A2 2 2, .slice A3 2 2, .slice A4 2 2, .slice none 0 0, .slice A6 64 64] t)) g := by
  subst hg
  intro j hj
  have hb := below_alloc (Below.refl W.heap.size W) (.cells #[.slice A0 1 1, .slice A1 3 3, .slice A2 2 2, .slice A3 2 2, .slice A4 2 2, .slice none 0 0, .slice A6 64 64] t)
  rcases lt7 hj with rfl | rfl | rfl | rfl | rfl | rfl | rfl
  · exact ⟨A0, 1, 1, World.cell?_alloc_at _ _ _ _ rfl, h0.below hb⟩
  · exact ⟨A1, 3, 3, World.cell?_alloc_at _ _ _ _ rfl, h1.below hb⟩
  · exact ⟨A2, 2, 2, World.cell?_alloc_at _ _ _ _ rfl, h2.below hb⟩
  · exact ⟨A3, 2, 2, World.cell?_alloc_at _ _ _ _ rfl, h3.below hb⟩
  · exact ⟨A4, 2, 2, World.cell?_alloc_at _ _ _ _ rfl, h4.below hb⟩
  · exact ⟨none, 0, 0, World.cell?_alloc_at _ _ _ _ rfl, isU8_nil _⟩
  · exact ⟨A6, 64, 64, World.cell?_alloc_at _ _ _ _ rfl, h6.below hb⟩
theorem hsTab_lit (W : World) (g : Nat) (t : TypeId) (hg : g = W.heap.size) (C A4 A6 : Option Addr) (h0 : IsBB W C 3 ex21H) (h4 : IsBB W A4 3 (hsT 4)) (h6 : IsBB W A6 65 (hsT 6)) :
    HsTab (W.alloc (.cells #[.slice C 3 3, .slice C 3 3, .slice C 3 3, .slice C 3 3, .slice A4 3 3, .slice none 0 0, .slice A6 65 65] t)) g := by
  subst hg
  intro j hj
  have hb := below_alloc (Below.refl W.heap.size W) (.cells #[.slice C 3 3, .slice C 3 3, .slice C 3 3, .slice C 3 3, .slice A4 3 3, .slice none 0 0, .slice A6 65 65] t)
  rcases lt7 hj with rfl | rfl | rfl | rfl | rfl | rfl | rfl
  · exact ⟨C, 3, 3, World.cell?_alloc_at _ _ _ _ rfl, h0.below hb⟩
  · exact ⟨C, 3, 3, World.cell?_alloc_at _ _ _ _ rfl, h0.below hb⟩
  · exact ⟨C, 3, 3, World.cell?_alloc_at _ _ _ _ rfl, h0.below hb⟩
  · exact ⟨C, 3, 3, World.cell?_alloc_at _ _ _ _ rfl, h0.below hb⟩
  · exact ⟨A4, 3, 3, World.cell?_alloc_at _ _ _ _ rfl, h4.below hb⟩
  · exact ⟨none, 0, 0, World.cell?_alloc_at _ _ _ _ rfl, isBB_nil _⟩
  · exact ⟨A6, 65, 65, World.cell?_alloc_at _ _ _ _ rfl, h6.below hb⟩
theorem isTree_nil (w : World) : IsTree w none 0 [] := ⟨rfl, by omega, fun _ h => by simp at h, fun h => absurd h (by omega)⟩

theorem mk_u8 (W : World) : (Instr.makeSlice 25 (.int .i64 64) (.int .i64 64)).run Try.prog W = .ok (.slice (some ⟨W.heap.size, 0, none⟩) 64 64) (W.alloc (.cells (madeCells #[.int .u8 0] 64) 5)) := by
  obtain ⟨i, hi, hz0, hz1, hz2⟩ := info_parts info_u8
  have hr := run_make (P := Try.prog) W 25 5 i (.int .u8 0) Try.underlying25 hi hz0 .i64 .i64 64 64 (by omega) (by omega) (by rw [hz2]; omega) (by omega)
  rw [hz1, show (Value.int .u8 0).cells = #[.int .u8 0] from rfl] at hr
  simpa using hr
theorem mk_bb (W : World) : (Instr.makeSlice 26 (.int .i64 65) (.int .i64 65)).run Try.prog W = .ok (.slice (some ⟨W.heap.size, 0, none⟩) 65 65) (W.alloc (.cells (madeCells #[.slice none 0 0] 65) 31)) := by
  obtain ⟨i, hi, hz0, hz1, hz2⟩ := info_parts info_bb
  have hr := run_make (P := Try.prog) W 26 31 i (.slice none 0 0) Try.underlying26 hi hz0 .i64 .i64 65 65 (by omega) (by omega) (by rw [hz2]; omega) (by omega)
  rw [hz1, show (Value.slice none 0 0).cells = #[.slice none 0 0] from rfl] at hr
  simpa using hr
theorem u8_64 : madeCells #[.int .u8 0] 64 = (u8s (List.replicate 64 0)).toArray := by
  refine Array.ext' ?_
  rw [toList_madeCells_one]
  simp [u8s]
theorem isU8_64 (W : World) (g : Nat) (t : TypeId) (hg : g = W.heap.size) : IsU8 (W.alloc (.cells (madeCells #[.int .u8 0] 64) t)) (some ⟨g, 0, none⟩) 64 (csT 6) := by
  rw [u8_64]
  exact isU8_lt W g t (List.replicate 64 0) (by simp) (fun x hx => by obtain rfl := List.eq_of_mem_replicate hx; omega) hg
theorem isBB_65 (W : World) (g : Nat) (t : TypeId) (hg : g = W.heap.size) : IsBB (W.alloc (.cells (madeCells #[.slice none 0 0] 65) t)) (some ⟨g, 0, none⟩) 65 (hsT 6) := by
  have hrow : ∀ j, rowB (hsT 6) j = [] := fun j => by
    show rowB (List.replicate 65 []) j = []
    unfold rowB
    rw [List.getD_eq_getElem?_getD, List.getElem?_replicate]
    split <;> rfl
  refine isBB_lt W g t (hsT 6) (fun _ => none) (fun _ => 0) _ (by decide) hg (fun j hj => ?_) (fun j _ => ?_)
  · rw [hrow, ← Array.getElem?_toList, toList_madeCells_one, List.getElem?_replicate, if_pos (show j < 65 from hj)]; rfl
  · rw [hrow]; exact ⟨isBools_nil W, by decide, by decide⟩

theorem IsBools.take {w : World} {A : Option Addr} {n m : Nat} {xs : List Bool} (h : IsBools w A n xs) (hm : m ≤ n) : IsBools w A m (xs.take m) := by
  obtain ⟨h1, h2, h3⟩ := h
  refine ⟨by rw [List.length_take]; omega, by omega, fun hn => ?_⟩
  obtain ⟨b, off, ha, hb, hc⟩ := h3 (by omega)
  refine ⟨b, off, ha, hb, fun j hj => ?_⟩
  rw [hc j (by omega)]
  congr 2
  unfold bx
  rw [List.getD_eq_getElem?_getD, List.getD_eq_getElem?_getD, List.getElem?_take, if_pos hj]
/-- The list whose last row is too short. -/
theorem isBB_4 (W : World) (g : Nat) (t : TypeId) (hg : g = W.heap.size) (R0 R1 R2 : Option Addr) (c0 c1 c2 : Nat) (h0 : IsBools W R0 5 [true, false, true, false, false]) (h1 : IsBools W R1 5 [false, true, false, true, false]) (h2 : IsBools W R2 5 [true, true, true, true, true]) (k0 : 5 ≤ c0 ∧ c0 ≤ 9223372036854775807) (k1 : 5 ≤ c1 ∧ c1 ≤ 9223372036854775807) (k2 : 5 ≤ c2 ∧ c2 ≤ 9223372036854775807) :
    IsBB (W.alloc (.cells #[.slice R0 5 c0, .slice R1 5 c1, .slice R2 4 c2] t)) (some ⟨g, 0, none⟩) 3 (hsT 4) := by
  refine isBB_lt W g t (hsT 4) (fun j => if j = 0 then R0 else if j = 1 then R1 else R2) (fun j => if j = 0 then c0 else if j = 1 then c1 else c2) _ (by decide) hg (fun j hj => ?_) (fun j hj => ?_)
  · rcases lt3 hj with rfl | rfl | rfl <;> rfl
  · rcases lt3 hj with rfl | rfl | rfl
    · exact ⟨h0, k0⟩
    · exact ⟨h1, k1⟩
    · exact ⟨IsBools.take h2 (by omega : 4 ≤ 5), by show 4 ≤ c2; omega, k2.2⟩

def twoR : List (List Bool) := [[true, false, true, false, false], [true, true, true, true, true]]
theorem isBB_2 (W : World) (g : Nat) (t : TypeId) (hg : g = W.heap.size) (R0 R2 : Option Addr) (c0 c2 : Nat) (h0 : IsBools W R0 5 [true, false, true, false, false]) (h2 : IsBools W R2 5 [true, true, true, true, true]) (k0 : 5 ≤ c0 ∧ c0 ≤ 9223372036854775807) (k2 : 5 ≤ c2 ∧ c2 ≤ 9223372036854775807) :
    IsBB (W.alloc (.cells #[.slice R0 5 c0, .slice R2 5 c2] t)) (some ⟨g, 0, none⟩) 2 twoR := by
  refine isBB_lt W g t twoR (fun j => if j = 0 then R0 else R2) (fun j => if j = 0 then c0 else c2) _ (by decide) hg (fun j hj => ?_) (fun j hj => ?_)
  · rcases (by have : j < 2 := hj; omega : j = 0 ∨ j = 1) with rfl | rfl <;> rfl
  · rcases (by have : j < 2 := hj; omega : j = 0 ∨ j = 1) with rfl | rfl
    · exact ⟨h0, k0⟩
    · exact ⟨h2, k2⟩
def wantT (j : Nat) : List Bool := [[false, true, true, true, true], [false, true, false, false, false], [false, false, false, true, false], [false, false, false, true, true]].getD j []
def WtTab (w : World) (g : Nat) : Prop := ∀ j, j < 4 → ∃ (A : Option Addr) (c : Nat), w.cell? ⟨g, j, none⟩ = some (.slice A 5 c) ∧ IsBools w A 5 (wantT j)
theorem wtTab_lit (W : World) (g : Nat) (t : TypeId) (hg : g = W.heap.size) (A0 A1 A2 A3 : Option Addr) (h0 : IsBools W A0 5 (wantT 0)) (h1 : IsBools W A1 5 (wantT 1)) (h2 : IsBools W A2 5 (wantT 2)) (h3 : IsBools W A3 5 (wantT 3)) :
    WtTab (W.alloc (.cells #[.slice A0 5 5, .slice A1 5 5, .slice A2 5 5, .slice A3 5 5] t)) g := by
  subst hg
  intro j hj
  have hb := below_alloc (Below.refl W.heap.size W) (.cells #[.slice A0 5 5, .slice A1 5 5, .slice A2 5 5, .slice A3 5 5] t)
  rcases (by omega : j = 0 ∨ j = 1 ∨ j = 2 ∨ j = 3) with rfl | rfl | rfl | rfl
  · exact ⟨A0, 5, World.cell?_alloc_at _ _ _ _ rfl, h0.below hb⟩
  · exact ⟨A1, 5, World.cell?_alloc_at _ _ _ _ rfl, h1.below hb⟩
  · exact ⟨A2, 5, World.cell?_alloc_at _ _ _ _ rfl, h2.below hb⟩
  · exact ⟨A3, 5, World.cell?_alloc_at _ _ _ _ rfl, h3.below hb⟩
set_option maxRecDepth 100000 in
set_option maxHeartbeats 4000000 in
theorem walk (w : World) : Calls Try.prog 6 #[] w fun e w' => e = .returned (.bool true) ∧ Below w.heap.size w w' := by
  go_enter Try.func6, Try.ntmps6
  go_wp2_with fail
  refine (example21_ok _).mono ?_
  rintro e w1 ⟨A, C, c, rfl, hT, hH, hb1⟩
  have hz1 : Below w1.heap.size w1 (w1.alloc (.cells #[.slice A 5 c] 24)) := below_alloc (Below.refl _ _) _
  have hHH := hide (hH.below hz1)
  clear hz1 hH
  have hT := hide (hT.below (below_alloc (Below.refl _ _) (.cells #[.slice A 5 c] 24)))
  have hW := below_alloc hb1 (.cells #[.slice A 5 c] 24)
  have hB1 := Below.refl (w1.alloc (.cells #[.slice A 5 c] 24)).heap.size (w1.alloc (.cells #[.slice A 5 c] 24))
  have hbox1 : (w1.alloc (.cells #[.slice A 5 c] 24)).cell? ⟨w1.heap.size, 0, none⟩ = some (.slice A 5 c) := by go_simp
  obtain ⟨bh, oh, hA, hC, rfl, hbh, hhc, hhr⟩ := hHH.out.2.2 (by omega)
  have hhc' := hide hhc
  have hhr' := hide hhr
  clear hhc hhr
  have hmk1 := mk_u8
  have hmk2 := mk_bb
  go_upto_region 2 with fail
  go_cut [3] from 34 to 40 (fun v wx => Below (w1.alloc (.cells #[.slice A 5 c] 24)).heap.size (w1.alloc (.cells #[.slice A 5 c] 24)) wx ∧ ∃ g, v = .slice (some ⟨g, 0, none⟩) 7 7 ∧ g < wx.heap.size ∧ CsTab wx g)
  case first =>
    go_wp2
    go_meet
    refine ⟨below_alloc (below_alloc (below_alloc (below_alloc (below_alloc (below_alloc (below_alloc (Below.refl _ _) _) _) _) _) _) _) _, _, rfl, by simp, csTab_lit _ _ _ (by simp) _ _ _ _ _ _ ?_ ?_ ?_ ?_ ?_ ?_⟩
    · exact (isU8_lt _ _ _ [1] (by decide) (by decide) (by simp)).below (below_alloc (below_alloc (below_alloc (below_alloc (below_alloc (Below.refl _ _) _) _) _) _) _)
    · exact (isU8_lt _ _ _ [1, 1, 1] (by decide) (by decide) (by simp)).below (below_alloc (below_alloc (below_alloc (below_alloc (Below.refl _ _) _) _) _) _)
    · exact (isU8_lt _ _ _ [0, 1] (by decide) (by decide) (by simp)).below (below_alloc (below_alloc (below_alloc (Below.refl _ _) _) _) _)
    · exact (isU8_lt _ _ _ [1, 5] (by decide) (by decide) (by simp)).below (below_alloc (below_alloc (Below.refl _ _) _) _)
    · exact (isU8_lt _ _ _ [1, 1] (by decide) (by decide) (by simp)).below (below_alloc (Below.refl _ _) _)
    · exact isU8_64 _ _ _ (by simp)
  case rest =>
  obtain ⟨hB2, gC, rfl, hgC, hC2⟩ := hcut
  generalize wc = w2 at *
  have hbox2 := cell_later hB2 hbox1
  have hC2' := hide hC2
  clear hC2
  have f0 : w2.cell? ⟨bh, oh, none⟩ = some (.slice (hA 0) 5 (hC 0)) := (old hB2 _ _ hbh).trans (hhc'.out 0 (by omega))
  have f1 : w2.cell? ⟨bh, oh + 1, none⟩ = some (.slice (hA 1) 5 (hC 1)) := (old hB2 _ _ hbh).trans (hhc'.out 1 (by omega))
  have f2 : w2.cell? ⟨bh, oh + 2, none⟩ = some (.slice (hA 2) 5 (hC 2)) := (old hB2 _ _ hbh).trans (hhc'.out 2 (by omega))
  have i0 : Hid (IsBools w2 (hA 0) 5 [true, false, true, false, false]) := (hhr'.out 0 (by omega)).1.below hB2
  have i1 : Hid (IsBools w2 (hA 1) 5 [false, true, false, true, false]) := (hhr'.out 1 (by omega)).1.below hB2
  have i2 : Hid (IsBools w2 (hA 2) 5 [true, true, true, true, true]) := (hhr'.out 2 (by omega)).1.below hB2
  have k0 : Hid (5 ≤ hC 0 ∧ hC 0 ≤ 9223372036854775807) := (hhr'.out 0 (by omega)).2
  have k1 : Hid (5 ≤ hC 1 ∧ hC 1 ≤ 9223372036854775807) := (hhr'.out 1 (by omega)).2
  have k2 : Hid (5 ≤ hC 2 ∧ hC 2 ≤ 9223372036854775807) := (hhr'.out 2 (by omega)).2
  have hHI2 := hide (hHH.out.below hB2)
  clear hhc' hhr' hHH
  generalize hA 0 = R0 at f0 i0
  generalize hA 1 = R1 at f1 i1
  generalize hA 2 = R2 at f2 i2
  generalize hC 0 = c0 at f0 k0
  generalize hC 1 = c1 at f1 k1
  generalize hC 2 = c2 at f2 k2
  have k24 : (4 : Int) ≤ (c2 : Int) := by have := k2.out.1; omega
  have hbh2 : bh < w2.heap.size := cell_in f0
  go_upto_region 3 with fail
  go_cut [4] from 41 to 57 (fun v wx => Below w2.heap.size w2 wx ∧ ∃ g, v = .slice (some ⟨g, 0, none⟩) 7 7 ∧ g < wx.heap.size ∧ HsTab wx g)
  case first =>
    go_region_held3 (fun X => X.cell? ⟨bh, oh, none⟩ = some (.slice R0 5 c0) ∧ X.cell? ⟨bh, oh + 1, none⟩ = some (.slice R1 5 c1) ∧ X.cell? ⟨bh, oh + 2, none⟩ = some (.slice R2 5 c2)) (first | exact ⟨f0, f1, f2⟩ | exact ⟨far_alloc' f0 _, far_alloc' f1 _, far_alloc' f2 _⟩ | exact ⟨far_alloc' (far_alloc' f0 _) _, far_alloc' (far_alloc' f1 _) _, far_alloc' (far_alloc' f2 _) _⟩ | exact ⟨far_alloc' (far_alloc' (far_alloc' f0 _) _) _, far_alloc' (far_alloc' (far_alloc' f1 _) _) _, far_alloc' (far_alloc' (far_alloc' f2 _) _) _⟩) (fail)
    all_goals
      go_wp2_with fail
      go_meet
      first
        | exact ⟨(below_alloc (below_alloc (below_alloc (Below.refl _ _) _) _) _).drew, _, rfl, by simp, hsTab_lit _ _ _ (by simp) _ _ _ (hHI2.out.below (below_alloc (below_alloc (Below.refl _ _) _) _)) ((isBB_4 _ _ _ (by simp) _ _ _ _ _ _ i0.out i1.out i2.out k0.out k1.out k2.out).below (below_alloc (Below.refl _ _) _)) (isBB_65 _ _ _ (by simp))⟩
        | exact ⟨(below_alloc (below_alloc (below_alloc (Below.refl _ _) _) _) _).drew, _, rfl, by simp, hsTab_lit _ _ _ (by simp) _ _ _ (hHI2.out.below (below_alloc (below_alloc (Below.refl _ _) _) _)) (isBB_4 _ _ _ (by simp) _ _ _ _ _ _ (i0.out.below (below_alloc (Below.refl _ _) _)) (i1.out.below (below_alloc (Below.refl _ _) _)) (i2.out.below (below_alloc (Below.refl _ _) _)) k0.out k1.out k2.out) ((isBB_65 _ _ _ (by simp)).below (below_alloc (Below.refl _ _) _))⟩
  case rest =>
  obtain ⟨hb3, gL, rfl, hgL, hL3⟩ := hcut
  generalize wc = w3 at *
  have hB3 := Below.on hB2 hb3
  have hbox3 := cell_later hb3 hbox2
  have hC3 := hide (hC2'.out.below hb3)
  have hL3' := hide hL3
  have g0 := hide (cell_later hb3 f0)
  have g1 := hide (cell_later hb3 f1)
  have g2 := hide (cell_later hb3 f2)
  have j0 := hide (i0.out.below hb3)
  have j1 := hide (i1.out.below hb3)
  have j2 := hide (i2.out.below hb3)
  have hHI3 := hide (hHI2.out.below hb3)
  clear hL3 hb3 f0 f1 f2 i0 i1 i2 hHI2 hC2' hbox2 hB2
  go_wp2
  go_loopw [5] (fun s wr => ∃ q : Nat, q ≤ 7 ∧ s = .int .i64 q ∧ Below w3.heap.size w3 wr) (fun s _ => 7 - (intOf s).toNat)
  case atStart => exact ⟨0, Nat.zero_le _, rfl, Below.refl _ _⟩
  case round =>
    obtain ⟨q, hq, rfl, hb⟩ := hrel
    have hBw := Below.on hB3 hb
    have hbox := cell_later hb hbox3
    by_cases hlt : q < 7
    · obtain ⟨Ac, lc, cc, gc0, hUc⟩ := hC3.out q hlt
      obtain ⟨AL, ll, cl, gl0, hBl⟩ := hL3'.out q hlt
      have gc := cell_later hb gc0
      have gl := cell_later hb gl0
      have x0 : (0 : Int) ≤ (q : Int) := by omega
      have x1 : (q : Int) < 7 := by omega
      have hk1 := hide (fun W (hW : Below w3.heap.size w3 W) => cmatch_at ex21 0 (csT q) (hsT q) false 2 (bad_ask hlt) (bad_mat hlt) A Ac AL 5 c lc cc ll cl W (hT.out.below (Below.on hB3 hW)) (hUc.below hW) (hBl.below hW))
      have hk2 := hide (fun W (hW : Below w3.heap.size w3 W) => call_at ex21 (csT q) (hsT q) [] 2 (bad_chk hlt) (bad_all hlt) A Ac AL 5 c lc cc ll cl W (hT.out.below (Below.on hB3 hW)) (hUc.below hW) (hBl.below hW))
      have hk3 := hide (fun W (hW : Below w3.heap.size w3 W) => cways_at ex21 0 (csT q) (hsT q) [] 2 (bad_wayE hlt) (bad_wayL hlt) A Ac AL 5 c lc cc ll cl W (hT.out.below (Below.on hB3 hW)) (hUc.below hW) (hBl.below hW))
      have hk4 := hide (fun W (hW : Below w3.heap.size w3 W) => ccheck_at (bad_chk hlt) A Ac AL 5 c lc cc ll cl W (hT.out.below (Below.on hB3 hW)) (hUc.below hW) (hBl.below hW))
      clear gc0 gl0 hUc hBl
      go_wp2
      go_region_held3 (fun X => X.cell? ⟨w1.heap.size, 0, none⟩ = some (.slice A 5 c) ∧ X.cell? ⟨gC, q, none⟩ = some (.slice Ac lc cc) ∧ X.cell? ⟨gL, q, none⟩ = some (.slice AL ll cl)) (first | exact ⟨hbox, gc, gl⟩ | exact ⟨r0, r1, r2⟩) (first | (go_at_call 21; (with_reducible refine (hk1.out _ hb.drew).mono ?_); rintro e5 w5 ⟨rfl, hb5⟩; have r0 := cell_later hb5 hbox; have r1 := cell_later hb5 gc; have r2 := cell_later hb5 gl))
      have hb := Below.on (w1 := wr.drew) hb.drew hb5
      have hbox := r0
      have gc := r1
      have gl := r2
      clear r0 r1 r2 hb5
      go_wp2
      go_region_held3 (fun X => X.cell? ⟨w1.heap.size, 0, none⟩ = some (.slice A 5 c) ∧ X.cell? ⟨gC, q, none⟩ = some (.slice Ac lc cc) ∧ X.cell? ⟨gL, q, none⟩ = some (.slice AL ll cl)) (first | exact ⟨hbox, gc, gl⟩ | exact ⟨r0, r1, r2⟩) (first | (go_at_call 19; (with_reducible refine (hk2.out _ hb.drew).mono ?_); rintro e6 w6 ⟨A6, c6, rfl, -, -, -, hb6⟩; have r0 := cell_later hb6 hbox; have r1 := cell_later hb6 gc; have r2 := cell_later hb6 gl))
      have hb := Below.on (w1 := w5.drew) hb.drew hb6
      have hbox := r0
      have gc := r1
      have gl := r2
      clear r0 r1 r2 hb6
      go_wp2
      go_region_held3 (fun X => X.cell? ⟨w1.heap.size, 0, none⟩ = some (.slice A 5 c) ∧ X.cell? ⟨gC, q, none⟩ = some (.slice Ac lc cc) ∧ X.cell? ⟨gL, q, none⟩ = some (.slice AL ll cl)) (first | exact ⟨hbox, gc, gl⟩ | exact ⟨r0, r1, r2⟩) (first | (go_at_call 24; (with_reducible refine (hk3.out _ hb.drew).mono ?_); rintro e7 w7 ⟨A7, c7, rfl, -, -, -, hb7⟩; have r0 := cell_later hb7 hbox; have r1 := cell_later hb7 gc; have r2 := cell_later hb7 gl))
      have hb := Below.on (w1 := w6.drew) hb.drew hb7
      have hbox := r0
      have gc := r1
      have gl := r2
      clear r0 r1 r2 hb7
      go_wp2
      go_region_held3 (fun X => X.cell? ⟨w1.heap.size, 0, none⟩ = some (.slice A 5 c) ∧ X.cell? ⟨gC, q, none⟩ = some (.slice Ac lc cc) ∧ X.cell? ⟨gL, q, none⟩ = some (.slice AL ll cl)) (first | exact ⟨hbox, gc, gl⟩ | exact ⟨r0, r1, r2⟩) (first | (go_at_call 26; (with_reducible refine (hk4.out _ hb.drew).mono ?_); rintro e8 w8 ⟨rfl, hb8⟩; have r0 := cell_later hb8 hbox; have r1 := cell_later hb8 gc; have r2 := cell_later hb8 gl))
      have hb := hide (Below.on (w1 := w7.drew) hb.drew hb8)
      clear r0 r1 r2 hb8
      go_wp2
      go_roundw
      case rel => exact ⟨q + 1, by omega, by go_num, hb.out⟩
      case measure => simp [intOf]; omega
    · obtain rfl : q = 7 := by omega
      generalize wr = u at *
      have m0 := hide (cell_later hb g0.out)
      have m1 := hide (cell_later hb g1.out)
      have m2 := hide (cell_later hb g2.out)
      have l0 := hide (j0.out.below hb)
      have l1 := hide (j1.out.below hb)
      have l2 := hide (j2.out.below hb)
      have hHI := hide (hHI3.out.below hb)
      have hb0 := Below.refl u.heap.size u
      have ib0 := hide (Below.refl u.heap.size u)
      clear g0 g1 g2 j0 j1 j2 hHI3 hb hC3 hL3' hlt hB3 hbox3
      go_wp2_with fail
      refine (cmatch_at [] (-1) [] [] false 8 (by kernel_rfl) (by kernel_rfl) none none none 0 0 0 0 0 0 _ (isTree_nil _) (isU8_nil _) (isBB_nil _)).mono ?_
      rintro e4 w4 ⟨rfl, hb4⟩
      have hB4 := Below.on hBw hb4
      clear hBw
      have hBw := hB4
      have hb0x := cell_later hb4 hbox
      clear hbox
      have hbox := hb0x
      have ib4 := hide (Below.on ib0.out hb4)
      clear ib0
      have ib0 := ib4
      clear hb4 hB4 hb0x
      go_wp2_with fail
      refine (call_at [] [] [] [] 8 (by kernel_rfl) (by kernel_rfl) none none none 0 0 0 0 0 0 _ (isTree_nil _) (isU8_nil _) (isBB_nil _)).mono ?_
      rintro e5 w5 ⟨A5, c5, rfl, -, -, -, hb5⟩
      have hB5 := Below.on hBw hb5
      clear hBw
      have hBw := hB5
      have hb0x := cell_later hb5 hbox
      clear hbox
      have hbox := hb0x
      have ib5 := hide (Below.on ib0.out hb5)
      clear ib0
      have ib0 := ib5
      clear hb5 hB5 hb0x
      go_wp2_with fail
      refine (cways_at [] (-1) [] [] [] 8 (by kernel_rfl) (by kernel_rfl) none none none 0 0 0 0 0 0 _ (isTree_nil _) (isU8_nil _) (isBB_nil _)).mono ?_
      rintro e6 w6 ⟨A6, c6, rfl, -, -, -, hb6⟩
      have hB6 := Below.on hBw hb6
      clear hBw
      have hBw := hB6
      have hb0x := cell_later hb6 hbox
      clear hbox
      have hbox := hb0x
      have ib6 := hide (Below.on ib0.out hb6)
      clear ib0
      have ib0 := ib6
      clear hb6 hB6 hb0x
      go_wp2_with fail
      have ib6 := ib0.out
      have z6 := below_alloc (Below.refl w6.heap.size w6) (.cells #[.int .u8 1, .int .u8 1] 5)
      refine (cmatch_at ex21 5 [1, 1] ex21H false 2 (by kernel_rfl) (by kernel_rfl) _ _ _ _ c 2 _ 3 _ _ (hT.out.below (Below.on hBw z6)) (isU8_lt _ _ _ [1, 1] (by decide) (by decide) (by simp)) (hHI.out.below (Below.on ib6 z6))).mono ?_
      rintro e7 w7 ⟨rfl, hb7'⟩
      have hb7 := Below.on z6 hb7'
      have hB7 := Below.on hBw hb7
      clear hBw
      have hBw := hB7
      have hb0x := cell_later hb7 hbox
      clear hbox
      have hbox := hb0x
      have ib7 := hide (Below.on ib0.out hb7)
      clear ib0
      have ib0 := ib7
      clear hb7 hB7 hb0x
      clear z6 hb7'
      go_wp2_with fail
      have ib7 := ib0.out
      have z7 := below_alloc (Below.refl w7.heap.size w7) (.cells #[.int .u8 1, .int .u8 1] 5)
      refine (cways_at ex21 (-1) [1, 1] ex21H [] 2 (by kernel_rfl) (by kernel_rfl) _ _ _ _ c 2 _ 3 _ _ (hT.out.below (Below.on hBw z7)) (isU8_lt _ _ _ [1, 1] (by decide) (by decide) (by simp)) (hHI.out.below (Below.on ib7 z7))).mono ?_
      rintro e8 w8 ⟨A8, c8, rfl, -, -, -, hb8'⟩
      have hb8 := Below.on z7 hb8'
      have hB8 := Below.on hBw hb8
      clear hBw
      have hBw := hB8
      have hb0x := cell_later hb8 hbox
      clear hbox
      have hbox := hb0x
      have ib8 := hide (Below.on ib0.out hb8)
      clear ib0
      have ib0 := ib8
      clear hb8 hB8 hb0x
      clear z7 hb8'
      go_wp2_with fail
      have ib8 := ib0.out
      have z8 := below_alloc (Below.refl w8.heap.size w8) (.cells #[.int .u8 1, .int .u8 1] 5)
      refine (cways_at ex21 1 [1, 1] ex21H [] 6 (by kernel_rfl) (by kernel_rfl) _ _ _ _ c 2 _ 3 _ _ (hT.out.below (Below.on hBw z8)) (isU8_lt _ _ _ [1, 1] (by decide) (by decide) (by simp)) (hHI.out.below (Below.on ib8 z8))).mono ?_
      rintro e9 w9 ⟨A9, c9, rfl, -, -, -, hb9'⟩
      have hb9 := Below.on z8 hb9'
      have hB9 := Below.on hBw hb9
      clear hBw
      have hBw := hB9
      have hb0x := cell_later hb9 hbox
      clear hbox
      have hbox := hb0x
      have ib9 := hide (Below.on ib0.out hb9)
      clear ib0
      have ib0 := ib9
      clear hb9 hB9 hb0x
      clear z8 hb9'
      go_upto_region 18 with fail
      go_cut [24] from 162 to 166 (fun v wx => Below w9.heap.size w9 wx ∧ ∃ g, v = .slice (some ⟨g, 0, none⟩) 4 4 ∧ g < wx.heap.size ∧ WtTab wx g)
      case first =>
        go_wp2
        go_meet
        refine ⟨below_alloc (below_alloc (below_alloc (below_alloc (below_alloc (Below.refl _ _) _) _) _) _) _, _, rfl, by simp, wtTab_lit _ _ _ (by simp) _ _ _ _ ?_ ?_ ?_ ?_⟩
        · exact (isBools_lt _ _ _ [false, true, true, true, true] (by decide) (by simp)).below (below_alloc (below_alloc (below_alloc (Below.refl _ _) _) _) _)
        · exact (isBools_lt _ _ _ [false, true, false, false, false] (by decide) (by simp)).below (below_alloc (below_alloc (Below.refl _ _) _) _)
        · exact (isBools_lt _ _ _ [false, false, false, true, false] (by decide) (by simp)).below (below_alloc (Below.refl _ _) _)
        · exact isBools_lt _ _ _ [false, false, false, true, true] (by decide) (by simp)
      case rest =>
      obtain ⟨hb10, gW, rfl, hgW, hWt⟩ := hcut
      generalize wc = w10 at *
      have hB10 := Below.on hBw hb10
      clear hBw
      have hBw := hB10
      have hb0x := cell_later hb10 hbox
      clear hbox
      have hbox := hb0x
      have ib10 := hide (Below.on ib0.out hb10)
      clear ib0
      have ib0 := ib10
      clear hb10 hB10 hb0x
      have hWt' := hide hWt
      have n0 := hide (cell_later ib0.out m0.out)
      have n1 := hide (cell_later ib0.out m1.out)
      have n2 := hide (cell_later ib0.out m2.out)
      have p0 := hide (l0.out.below ib0.out)
      have p1 := hide (l1.out.below ib0.out)
      have p2 := hide (l2.out.below ib0.out)
      have hHI10 := hide (hHI.out.below ib0.out)
      have hB10 := hBw
      have hbox10 := hbox
      clear hWt m0 m1 m2 l0 l1 l2 hHI ib0 hb0 hBw hbox
      go_wp2
      go_loopw [25] (fun s wr => ∃ q : Nat, q ≤ 4 ∧ s = .int .i64 q ∧ Below w10.heap.size w10 wr) (fun s _ => 4 - (intOf s).toNat)
      case atStart => exact ⟨0, Nat.zero_le _, rfl, Below.refl _ _⟩
      case round =>
        obtain ⟨q, hq, rfl, hb⟩ := hrel
        have hBw := Below.on hB10 hb
        have hbox := cell_later hb hbox10
        have m0 := cell_later hb n0.out
        have m1 := cell_later hb n1.out
        have m2 := cell_later hb n2.out
        have l0 := hide (p0.out.below hb)
        have l2 := hide (p2.out.below hb)
        have hlw : w1.heap.size < wr.heap.size := cell_in hbox
        have hlh : bh < wr.heap.size := cell_in m0
        by_cases hlt : q < 4
        · obtain ⟨Aw, cw, gw0, hIw⟩ := hWt'.out q hlt
          have gw := cell_later hb gw0
          have hIw' := hide (hIw.below hb)
          have hgw10 : gW < wr.heap.size := cell_in gw
          clear gw0 hIw m1
          rcases (by omega : q = 0 ∨ q = 1 ∨ q = 2 ∨ q = 3) with rfl | rfl | rfl | rfl
          · rw [show ((0 : Nat) : Int) = (0 : Int) from rfl]
            have v1 : IntKind.i64.wrap (1 : Int) = 1 := by decide +kernel
            have v2 : IntKind.u8.wrap (1 : Int) = 1 := by decide +kernel
            have hkA := hide (call_at ex21 [1] twoR [false, true, true, true, true] 0 (by kernel_rfl) (by kernel_rfl) A (some ⟨wr.heap.size, 0, none⟩) (some ⟨wr.heap.size + 1, 0, none⟩) 5 c 1 1 2 2 (((wr.alloc (.cells #[.int .u8 1] 5)).alloc (.cells #[.slice R0 5 c0, .slice R2 5 c2] 31)).drew)
              (hT.out.below (show Below _ _ _ from (below_alloc (below_alloc hBw _) _).drew)) (IsU8.below (isU8_lt wr wr.heap.size _ [1] (by decide) (by decide) rfl) (below_alloc (Below.refl _ _) _).drew) (isBB_2 (wr.alloc (.cells #[.int .u8 1] 5)) (wr.heap.size + 1) 31 (by simp) R0 R2 c0 c2 (l0.out.below (below_alloc (Below.refl _ _) _)) (l2.out.below (below_alloc (Below.refl _ _) _)) k0.out k2.out))
            have hkB := hide (call_at ex21 [1] twoR [false, true, true, true, true] 0 (by kernel_rfl) (by kernel_rfl) A (some ⟨wr.heap.size + 1, 0, none⟩) (some ⟨wr.heap.size, 0, none⟩) 5 c 1 1 2 2 (((wr.alloc (.cells #[.slice R0 5 c0, .slice R2 5 c2] 31)).alloc (.cells #[.int .u8 1] 5)).drew)
              (hT.out.below (show Below _ _ _ from (below_alloc (below_alloc hBw _) _).drew)) (isU8_lt (wr.alloc (.cells #[.slice R0 5 c0, .slice R2 5 c2] 31)) (wr.heap.size + 1) _ [1] (by decide) (by decide) (by simp)) (IsBB.below (isBB_2 wr wr.heap.size 31 rfl R0 R2 c0 c2 l0.out l2.out k0.out k2.out) (below_alloc (Below.refl _ _) _).drew))
            go_wp2
            go_region_held3 (fun X => X.cell? ⟨w1.heap.size, 0, none⟩ = some (.slice A 5 c) ∧ X.cell? ⟨bh, oh, none⟩ = some (.slice R0 5 c0) ∧ X.cell? ⟨bh, oh + 2, none⟩ = some (.slice R2 5 c2)) (first | exact ⟨hbox, m0, m2⟩ | exact ⟨r0, r1, r2⟩ | exact ⟨far_alloc' hbox _, far_alloc' m0 _, far_alloc' m2 _⟩ | exact ⟨far_alloc' (far_alloc' hbox _) _, far_alloc' (far_alloc' m0 _) _, far_alloc' (far_alloc' m2 _) _⟩) (first | (go_at_call 19; first | ((with_reducible refine hkA.out.mono ?_); rintro e9 wz ⟨A9, c9, rfl, hI9, -, -, hb9⟩; have hz9 : Below wr.heap.size wr wz := Below.on (below_alloc (below_alloc (Below.refl wr.heap.size wr) (.cells #[.int .u8 1] 5)) (.cells #[.slice R0 5 c0, .slice R2 5 c2] 31)).drew hb9; have r0 := cell_later hz9 hbox; have r1 := cell_later hz9 m0; have r2 := cell_later hz9 m2) | ((with_reducible refine hkB.out.mono ?_); rintro e9 wz ⟨A9, c9, rfl, hI9, -, -, hb9⟩; have hz9 : Below wr.heap.size wr wz := Below.on (below_alloc (below_alloc (Below.refl wr.heap.size wr) (.cells #[.slice R0 5 c0, .slice R2 5 c2] 31)) (.cells #[.int .u8 1] 5)).drew hb9; have r0 := cell_later hz9 hbox; have r1 := cell_later hz9 m0; have r2 := cell_later hz9 m2)))
            all_goals
              have gw9 := cell_later hz9 gw
              have hI9' := hide hI9
              have hIw9 := hide (hIw'.out.below hz9)
              have hb10 := hide (Below.on hb hz9)
              clear hI9 r0 r1 r2 hz9 hb9
              go_wp2_with fail
              refine (sameBools_yes _ _ 5 5 _ _ [false, true, true, true, true] _ hI9'.out hIw9.out).mono ?_
              rintro e11 w11 ⟨rfl, hb11⟩
              have hb12 := hide (Below.on hb10.out hb11)
              go_wp2
              go_roundw
              case rel => exact ⟨0 + 1, by omega, by go_num, hb12.out⟩
              case measure => simp [intOf]
          · rw [show ((1 : Nat) : Int) = (1 : Int) from rfl]
            have v1 : IntKind.i64.wrap (2 : Int) = 2 := by decide +kernel
            have v2 : IntKind.u8.wrap (2 : Int) = 2 := by decide +kernel
            have hkA := hide (call_at ex21 [2] twoR [false, true, false, false, false] 0 (by kernel_rfl) (by kernel_rfl) A (some ⟨wr.heap.size, 0, none⟩) (some ⟨wr.heap.size + 1, 0, none⟩) 5 c 1 1 2 2 (((wr.alloc (.cells #[.int .u8 2] 5)).alloc (.cells #[.slice R0 5 c0, .slice R2 5 c2] 31)).drew)
              (hT.out.below (show Below _ _ _ from (below_alloc (below_alloc hBw _) _).drew)) (IsU8.below (isU8_lt wr wr.heap.size _ [2] (by decide) (by decide) rfl) (below_alloc (Below.refl _ _) _).drew) (isBB_2 (wr.alloc (.cells #[.int .u8 2] 5)) (wr.heap.size + 1) 31 (by simp) R0 R2 c0 c2 (l0.out.below (below_alloc (Below.refl _ _) _)) (l2.out.below (below_alloc (Below.refl _ _) _)) k0.out k2.out))
            have hkB := hide (call_at ex21 [2] twoR [false, true, false, false, false] 0 (by kernel_rfl) (by kernel_rfl) A (some ⟨wr.heap.size + 1, 0, none⟩) (some ⟨wr.heap.size, 0, none⟩) 5 c 1 1 2 2 (((wr.alloc (.cells #[.slice R0 5 c0, .slice R2 5 c2] 31)).alloc (.cells #[.int .u8 2] 5)).drew)
              (hT.out.below (show Below _ _ _ from (below_alloc (below_alloc hBw _) _).drew)) (isU8_lt (wr.alloc (.cells #[.slice R0 5 c0, .slice R2 5 c2] 31)) (wr.heap.size + 1) _ [2] (by decide) (by decide) (by simp)) (IsBB.below (isBB_2 wr wr.heap.size 31 rfl R0 R2 c0 c2 l0.out l2.out k0.out k2.out) (below_alloc (Below.refl _ _) _).drew))
            go_wp2
            go_region_held3 (fun X => X.cell? ⟨w1.heap.size, 0, none⟩ = some (.slice A 5 c) ∧ X.cell? ⟨bh, oh, none⟩ = some (.slice R0 5 c0) ∧ X.cell? ⟨bh, oh + 2, none⟩ = some (.slice R2 5 c2)) (first | exact ⟨hbox, m0, m2⟩ | exact ⟨r0, r1, r2⟩ | exact ⟨far_alloc' hbox _, far_alloc' m0 _, far_alloc' m2 _⟩ | exact ⟨far_alloc' (far_alloc' hbox _) _, far_alloc' (far_alloc' m0 _) _, far_alloc' (far_alloc' m2 _) _⟩) (first | (go_at_call 19; first | ((with_reducible refine hkA.out.mono ?_); rintro e9 wz ⟨A9, c9, rfl, hI9, -, -, hb9⟩; have hz9 : Below wr.heap.size wr wz := Below.on (below_alloc (below_alloc (Below.refl wr.heap.size wr) (.cells #[.int .u8 2] 5)) (.cells #[.slice R0 5 c0, .slice R2 5 c2] 31)).drew hb9; have r0 := cell_later hz9 hbox; have r1 := cell_later hz9 m0; have r2 := cell_later hz9 m2) | ((with_reducible refine hkB.out.mono ?_); rintro e9 wz ⟨A9, c9, rfl, hI9, -, -, hb9⟩; have hz9 : Below wr.heap.size wr wz := Below.on (below_alloc (below_alloc (Below.refl wr.heap.size wr) (.cells #[.slice R0 5 c0, .slice R2 5 c2] 31)) (.cells #[.int .u8 2] 5)).drew hb9; have r0 := cell_later hz9 hbox; have r1 := cell_later hz9 m0; have r2 := cell_later hz9 m2)))
            all_goals
              have gw9 := cell_later hz9 gw
              have hI9' := hide hI9
              have hIw9 := hide (hIw'.out.below hz9)
              have hb10 := hide (Below.on hb hz9)
              clear hI9 r0 r1 r2 hz9 hb9
              go_wp2_with fail
              refine (sameBools_yes _ _ 5 5 _ _ [false, true, false, false, false] _ hI9'.out hIw9.out).mono ?_
              rintro e11 w11 ⟨rfl, hb11⟩
              have hb12 := hide (Below.on hb10.out hb11)
              go_wp2
              go_roundw
              case rel => exact ⟨1 + 1, by omega, by go_num, hb12.out⟩
              case measure => simp [intOf]
          · rw [show ((2 : Nat) : Int) = (2 : Int) from rfl]
            have v1 : IntKind.i64.wrap (3 : Int) = 3 := by decide +kernel
            have v2 : IntKind.u8.wrap (3 : Int) = 3 := by decide +kernel
            have hkA := hide (call_at ex21 [3] twoR [false, false, false, true, false] 0 (by kernel_rfl) (by kernel_rfl) A (some ⟨wr.heap.size, 0, none⟩) (some ⟨wr.heap.size + 1, 0, none⟩) 5 c 1 1 2 2 (((wr.alloc (.cells #[.int .u8 3] 5)).alloc (.cells #[.slice R0 5 c0, .slice R2 5 c2] 31)).drew)
              (hT.out.below (show Below _ _ _ from (below_alloc (below_alloc hBw _) _).drew)) (IsU8.below (isU8_lt wr wr.heap.size _ [3] (by decide) (by decide) rfl) (below_alloc (Below.refl _ _) _).drew) (isBB_2 (wr.alloc (.cells #[.int .u8 3] 5)) (wr.heap.size + 1) 31 (by simp) R0 R2 c0 c2 (l0.out.below (below_alloc (Below.refl _ _) _)) (l2.out.below (below_alloc (Below.refl _ _) _)) k0.out k2.out))
            have hkB := hide (call_at ex21 [3] twoR [false, false, false, true, false] 0 (by kernel_rfl) (by kernel_rfl) A (some ⟨wr.heap.size + 1, 0, none⟩) (some ⟨wr.heap.size, 0, none⟩) 5 c 1 1 2 2 (((wr.alloc (.cells #[.slice R0 5 c0, .slice R2 5 c2] 31)).alloc (.cells #[.int .u8 3] 5)).drew)
              (hT.out.below (show Below _ _ _ from (below_alloc (below_alloc hBw _) _).drew)) (isU8_lt (wr.alloc (.cells #[.slice R0 5 c0, .slice R2 5 c2] 31)) (wr.heap.size + 1) _ [3] (by decide) (by decide) (by simp)) (IsBB.below (isBB_2 wr wr.heap.size 31 rfl R0 R2 c0 c2 l0.out l2.out k0.out k2.out) (below_alloc (Below.refl _ _) _).drew))
            go_wp2
            go_region_held3 (fun X => X.cell? ⟨w1.heap.size, 0, none⟩ = some (.slice A 5 c) ∧ X.cell? ⟨bh, oh, none⟩ = some (.slice R0 5 c0) ∧ X.cell? ⟨bh, oh + 2, none⟩ = some (.slice R2 5 c2)) (first | exact ⟨hbox, m0, m2⟩ | exact ⟨r0, r1, r2⟩ | exact ⟨far_alloc' hbox _, far_alloc' m0 _, far_alloc' m2 _⟩ | exact ⟨far_alloc' (far_alloc' hbox _) _, far_alloc' (far_alloc' m0 _) _, far_alloc' (far_alloc' m2 _) _⟩) (first | (go_at_call 19; first | ((with_reducible refine hkA.out.mono ?_); rintro e9 wz ⟨A9, c9, rfl, hI9, -, -, hb9⟩; have hz9 : Below wr.heap.size wr wz := Below.on (below_alloc (below_alloc (Below.refl wr.heap.size wr) (.cells #[.int .u8 3] 5)) (.cells #[.slice R0 5 c0, .slice R2 5 c2] 31)).drew hb9; have r0 := cell_later hz9 hbox; have r1 := cell_later hz9 m0; have r2 := cell_later hz9 m2) | ((with_reducible refine hkB.out.mono ?_); rintro e9 wz ⟨A9, c9, rfl, hI9, -, -, hb9⟩; have hz9 : Below wr.heap.size wr wz := Below.on (below_alloc (below_alloc (Below.refl wr.heap.size wr) (.cells #[.slice R0 5 c0, .slice R2 5 c2] 31)) (.cells #[.int .u8 3] 5)).drew hb9; have r0 := cell_later hz9 hbox; have r1 := cell_later hz9 m0; have r2 := cell_later hz9 m2)))
            all_goals
              have gw9 := cell_later hz9 gw
              have hI9' := hide hI9
              have hIw9 := hide (hIw'.out.below hz9)
              have hb10 := hide (Below.on hb hz9)
              clear hI9 r0 r1 r2 hz9 hb9
              go_wp2_with fail
              refine (sameBools_yes _ _ 5 5 _ _ [false, false, false, true, false] _ hI9'.out hIw9.out).mono ?_
              rintro e11 w11 ⟨rfl, hb11⟩
              have hb12 := hide (Below.on hb10.out hb11)
              go_wp2
              go_roundw
              case rel => exact ⟨2 + 1, by omega, by go_num, hb12.out⟩
              case measure => simp [intOf]
          · rw [show ((3 : Nat) : Int) = (3 : Int) from rfl]
            have v1 : IntKind.i64.wrap (4 : Int) = 4 := by decide +kernel
            have v2 : IntKind.u8.wrap (4 : Int) = 4 := by decide +kernel
            have hkA := hide (call_at ex21 [4] twoR [false, false, false, true, true] 0 (by kernel_rfl) (by kernel_rfl) A (some ⟨wr.heap.size, 0, none⟩) (some ⟨wr.heap.size + 1, 0, none⟩) 5 c 1 1 2 2 (((wr.alloc (.cells #[.int .u8 4] 5)).alloc (.cells #[.slice R0 5 c0, .slice R2 5 c2] 31)).drew)
              (hT.out.below (show Below _ _ _ from (below_alloc (below_alloc hBw _) _).drew)) (IsU8.below (isU8_lt wr wr.heap.size _ [4] (by decide) (by decide) rfl) (below_alloc (Below.refl _ _) _).drew) (isBB_2 (wr.alloc (.cells #[.int .u8 4] 5)) (wr.heap.size + 1) 31 (by simp) R0 R2 c0 c2 (l0.out.below (below_alloc (Below.refl _ _) _)) (l2.out.below (below_alloc (Below.refl _ _) _)) k0.out k2.out))
            have hkB := hide (call_at ex21 [4] twoR [false, false, false, true, true] 0 (by kernel_rfl) (by kernel_rfl) A (some ⟨wr.heap.size + 1, 0, none⟩) (some ⟨wr.heap.size, 0, none⟩) 5 c 1 1 2 2 (((wr.alloc (.cells #[.slice R0 5 c0, .slice R2 5 c2] 31)).alloc (.cells #[.int .u8 4] 5)).drew)
              (hT.out.below (show Below _ _ _ from (below_alloc (below_alloc hBw _) _).drew)) (isU8_lt (wr.alloc (.cells #[.slice R0 5 c0, .slice R2 5 c2] 31)) (wr.heap.size + 1) _ [4] (by decide) (by decide) (by simp)) (IsBB.below (isBB_2 wr wr.heap.size 31 rfl R0 R2 c0 c2 l0.out l2.out k0.out k2.out) (below_alloc (Below.refl _ _) _).drew))
            go_wp2
            go_region_held3 (fun X => X.cell? ⟨w1.heap.size, 0, none⟩ = some (.slice A 5 c) ∧ X.cell? ⟨bh, oh, none⟩ = some (.slice R0 5 c0) ∧ X.cell? ⟨bh, oh + 2, none⟩ = some (.slice R2 5 c2)) (first | exact ⟨hbox, m0, m2⟩ | exact ⟨r0, r1, r2⟩ | exact ⟨far_alloc' hbox _, far_alloc' m0 _, far_alloc' m2 _⟩ | exact ⟨far_alloc' (far_alloc' hbox _) _, far_alloc' (far_alloc' m0 _) _, far_alloc' (far_alloc' m2 _) _⟩) (first | (go_at_call 19; first | ((with_reducible refine hkA.out.mono ?_); rintro e9 wz ⟨A9, c9, rfl, hI9, -, -, hb9⟩; have hz9 : Below wr.heap.size wr wz := Below.on (below_alloc (below_alloc (Below.refl wr.heap.size wr) (.cells #[.int .u8 4] 5)) (.cells #[.slice R0 5 c0, .slice R2 5 c2] 31)).drew hb9; have r0 := cell_later hz9 hbox; have r1 := cell_later hz9 m0; have r2 := cell_later hz9 m2) | ((with_reducible refine hkB.out.mono ?_); rintro e9 wz ⟨A9, c9, rfl, hI9, -, -, hb9⟩; have hz9 : Below wr.heap.size wr wz := Below.on (below_alloc (below_alloc (Below.refl wr.heap.size wr) (.cells #[.slice R0 5 c0, .slice R2 5 c2] 31)) (.cells #[.int .u8 4] 5)).drew hb9; have r0 := cell_later hz9 hbox; have r1 := cell_later hz9 m0; have r2 := cell_later hz9 m2)))
            all_goals
              have gw9 := cell_later hz9 gw
              have hI9' := hide hI9
              have hIw9 := hide (hIw'.out.below hz9)
              have hb10 := hide (Below.on hb hz9)
              clear hI9 r0 r1 r2 hz9 hb9
              go_wp2_with fail
              refine (sameBools_yes _ _ 5 5 _ _ [false, false, false, true, true] _ hI9'.out hIw9.out).mono ?_
              rintro e11 w11 ⟨rfl, hb11⟩
              have hb12 := hide (Below.on hb10.out hb11)
              go_wp2
              go_roundw
              case rel => exact ⟨3 + 1, by omega, by go_num, hb12.out⟩
              case measure => simp [intOf]
        · obtain rfl : q = 4 := by omega
          generalize wr = v at *
          have hHI := hide (hHI10.out.below hb)
          have hHR : IsBB v (some ⟨bh, oh + 1, none⟩) 1 [[false, true, false, true, false]] := (hHI.out.drop (k := 1) (by omega)).take (k := 1) (by omega)
          have hk := hide (call_at ex21 [] [[false, true, false, true, false]] [false, true, false, true, false] 0 (by kernel_rfl) (by kernel_rfl) A none (some ⟨bh, oh + 1, none⟩) 5 c 0 0 1 2 v.drew (hT.out.below (show Below _ _ v.drew from hBw.drew)) (isU8_nil _) (hHR.below (Below.refl v.heap.size v).drew))
          have l1 := hide (p1.out.below hb)
          clear hHR
          go_wp2
          go_region_held3 (fun X => X.cell? ⟨w1.heap.size, 0, none⟩ = some (.slice A 5 c)) (first | exact hbox | exact r0) (first | (go_at_call 19; (with_reducible refine hk.out.mono ?_); rintro e11 w11 ⟨A11, c11, rfl, hI11, -, -, hb11⟩; have r0 := cell_later hb11 hbox))
          have hz11 : Below v.heap.size v w11 := Below.on (w1 := v.drew) (Below.refl _ _).drew hb11
          have hB11 := Below.on hBw hz11
          have hI11' := hide hI11
          have m11 := cell_later hz11 m1
          have l11 := hide (l1.out.below hz11)
          clear hI11 hb11 r0 hz11 l1
          go_wp2_with fail
          refine (alive21_ok _).mono ?_
          rintro e12 w12 ⟨rfl, hb12⟩
          have hB12 := Below.on hB11 hb12
          have m12 := cell_later hb12 m11
          go_wp2_with fail
          refine (sameBools_yes _ _ 5 5 _ _ [false, true, false, true, false] _ (hI11'.out.below hb12) (l11.out.below hb12)).mono ?_
          rintro e13 w13 ⟨rfl, hb13⟩
          have hB13 := Below.on hB12 hb13
          go_wp2
          go_ret
          exact ⟨rfl, Below.on hW hB13⟩

set_option maxRecDepth 100000 in
theorem lifted (os : Os) (started : os.Started) (H : Type) (enc : TypeId × Value → H) :
    ReturnsInHanded {} Try.checked os 6 .any (Rows.combNamesSpec.pre6 enc Try.prog Try.f6 Rows.combNamesRow.domain false) (Rows.combNamesSpec.post enc Try.prog Try.f6 false true false false) := by
  refine returnsInHanded_of_change (C := Try.checked) own started (by kernel_rfl) Try.func6
    (ChangeSpec.witness6 (enc := enc) (C := Try.checked) false ⟨#[], #[], []⟩ 8 (by kernel_rfl) (by kernel_rfl) (by kernel_rfl) (by kernel_rfl)) ?_
  intro W base args ds gs before hval0 hW hcnd _
  have hW' := hW
  obtain ⟨p, q, hA0, hV, rfl, hfz, hnd⟩ := hW
  have hA : DataW.TrodAll enc Try.prog W 0 (fun _ => true) true Try.f6.params.toList args.toList ds p := hA0
  rw [Try.params6] at hA
  obtain ⟨h1, rfl, rfl⟩ := trodAll_nil hA
  obtain rfl : args = #[] := by cases args; simp_all
  obtain ⟨rfl, rfl⟩ := trodVars_none hV
  clear hA0 hval0
  refine (walk W).mono fun e W' ⟨he, bel⟩ => ?_
  subst he
  exact ⟨_, rfl, _, _, _, [], _, [], hW', trodAll_mk1 (shut_bool Try.underlying4 _), trodAll_mk0, rfl, bel.frame _, fun h => by cases h⟩

theorem proved : Rows.CombNamesSaid :=
  OpenClaim.holds_of_wide 6 Try.f6 rfl rfl rfl rfl rfl rfl rfl ⟨rfl, rfl, rfl, rfl, rfl⟩ rfl rfl rfl rfl rfl (by kernel_rfl) Try.func6 (by kernel_rfl)
    (of_decide_eq_true (by kernel_rfl)) (by unfold Func.isWrapper; first | (rw [if_pos (by decide +kernel)]; kernel_rfl) | (rw [if_neg (by decide +kernel)]; exact ⟨rfl, rfl⟩))
    (fun os started H enc _ => lifted os started H enc)
#print axioms proved
end Go.Proofs.Ytaliekkdamghbaa.combNames
