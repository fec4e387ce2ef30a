/- Walks: chapter 19's example and compounds. No condition. -/
import Derived.Test.YtbedomopojiehaaVe
import Derived.Test.YtbedomopojiehaaVf
import Derived.Test.YtbedomopojiehaaLt
import Derived.Test.YtbedomopojiehaaLit
import Derived.Test.YtbedomopojiehaaSb
namespace Go.Proofs.Ytbedomopojiehaa
open Go.RowKit

def cl19 : List (ByteArray × ByteArray) := [(bs [99, 108, 97, 115, 115], bs [120]), (bs [104, 114, 101, 102], bs [])]
def ex19T : List ANode := [⟨bs [104, 116, 109, 108], [], -1, [1, 2]⟩, ⟨bs [97], cl19, 0, []⟩, ⟨bs [97], cl19, 0, []⟩]
theorem goodB_ex19 : goodB ex19T = true := by kernel_rfl
def MadeEx19 (w : World) (e : Ending) (w' : World) : Prop :=
  ∃ (A : Option Addr) (c : Nat), e = .returned (.agg #[.slice A 3 c]) ∧ IsTree w' A 3 ex19T ∧ Below w.heap.size w w'
def exCells19 (g1 g2 : Nat) : Array Value :=
  #[.string (bs [104, 116, 109, 108]), .slice none 0 0, .int .i64 (-1), .slice (some ⟨g2, 0, none⟩) 2 2,
    .string (bs [97]), .slice (some ⟨g1, 0, none⟩) 2 2, .int .i64 0, .slice none 0 0,
    .string (bs [97]), .slice (some ⟨g1, 0, none⟩) 2 2, .int .i64 0, .slice none 0 0]
theorem ex_tree19 {w : World} {g g1 g2 : Nat} (hc : ∀ j, j < 12 → w.cell? ⟨g, j, none⟩ = (exCells19 g1 g2)[j]?) (h1 : IsAttrs w (some ⟨g1, 0, none⟩) 2 cl19) (h2 : IsInts w (some ⟨g2, 0, none⟩) 2 [1, 2]) : IsTree w (some ⟨g, 0, none⟩) 3 ex19T := by
  refine isTree_lt ex19T rfl (by omega) (by decide) (fun j => if j = 0 then none else some ⟨g1, 0, none⟩) (fun j => if j = 0 then some ⟨g2, 0, none⟩ else none) (fun j => if j = 0 then 0 else 2) (fun j => if j = 0 then 2 else 0)
    (fun _ => cell_in (p := ⟨g, 0, none⟩) (v := .string (bs [104, 116, 109, 108])) (hc 0 (by omega))) (fun j hj => ?_) (fun j hj => ?_) (fun j hj => ?_)
  · refine ⟨(hc _ (by omega)).trans ?_, (hc _ (by omega)).trans ?_, (hc _ (by omega)).trans ?_, (hc _ (by omega)).trans ?_⟩
    all_goals (rcases (by omega : j = 0 ∨ j = 1 ∨ j = 2) with rfl | rfl | rfl <;> rfl)
  · rcases (by omega : j = 0 ∨ j = 1 ∨ j = 2) with rfl | rfl | rfl
    · exact ⟨isAttrs_nil w, by decide, by decide⟩
    all_goals exact ⟨h1, by decide, by decide⟩
  · rcases (by omega : j = 0 ∨ j = 1 ∨ j = 2) with rfl | rfl | rfl
    · exact ⟨h2, by decide, by decide⟩
    all_goals exact ⟨isInts_nil w, by decide, by decide⟩
set_option maxRecDepth 100000 in
theorem example19_ok (w : World) : Calls Try.prog 45 #[] w (MadeEx19 w) := by
  go_enter Try.func45, Try.ntmps45
  go_wp2
  refine bodyPost_ret (v := .agg #[.slice (some ⟨w.heap.size + 1 + 1 + 1, 0, none⟩) 3 3]) (by simp [results, Try.results45, go_sem]) rfl ⟨_, _, rfl, ?_, below_alloc (below_alloc (below_alloc (below_alloc (Below.refl _ _) _) _) _) _⟩
  refine ex_tree19 (g1 := w.heap.size + 1) (g2 := w.heap.size + 1 + 1) (fun j hj => ?_) ?_ ?_
  · rw [World.cell?_alloc_at _ _ _ _ (by simp)]; rfl
  · exact (isAttrs_lit _ _ _ cl19 (by decide) (by decide) (by simp)).below (below_alloc (below_alloc (Below.refl _ _) _) _)
  · exact (isInts_lit _ _ _ [1, 2] (by decide) (by simp)).below (below_alloc (Below.refl _ _) _)

def simA1 : Sim := ⟨2, bs [120], 0, bs [], false, 0, 0, false, none, 0, 0⟩
def simA2 : Sim := ⟨5, bs [], 0, bs [], false, 0, 0, false, none, 0, 0⟩
def simB1 : Sim := ⟨11, bs [], 0, bs [], false, 0, 0, false, none, 0, 0⟩
def visA : List Sim := [simA1, simA2]
def visB : List Sim := [simB1]
def MadeVis (w : World) (e : Ending) (w' : World) : Prop :=
  ∃ (A C : Option Addr), e = .returned (.tuple #[.agg #[.string (bs [97]), .slice A 2 2], .agg #[.string (bs [42]), .slice C 1 1]]) ∧ IsSims w' A 2 visA ∧ IsSims w' C 1 visB ∧ Below w.heap.size w w'
theorem isSims_visA (W : World) (g : Nat) (t : TypeId) (hg : g = W.heap.size) : IsSims (W.alloc (.cells (simC simA1 ++ simC simA2) t)) (some ⟨g, 0, none⟩) 2 visA := by
  refine ⟨rfl, by omega, fun _ => ⟨g, 0, rfl, by simp [hg], fun j hj => ?_⟩⟩
  rcases (by omega : j = 0 ∨ j = 1) with rfl | rfl
  all_goals (refine ⟨?_, ?_, ?_, ?_, ?_, ?_, ?_, ?_, ?_⟩ <;> (rw [World.cell?_alloc_at _ _ _ _ hg]; rfl))
theorem isSims_visB (W : World) (g : Nat) (t : TypeId) (hg : g = W.heap.size) : IsSims (W.alloc (.cells (simC simB1) t)) (some ⟨g, 0, none⟩) 1 visB := by
  refine ⟨rfl, by omega, fun _ => ⟨g, 0, rfl, by simp [hg], fun j hj => ?_⟩⟩
  obtain rfl : j = 0 := by omega
  refine ⟨?_, ?_, ?_, ?_, ?_, ?_, ?_, ?_, ?_⟩ <;> (rw [World.cell?_alloc_at _ _ _ _ hg]; rfl)
set_option maxRecDepth 100000 in
theorem visited_ok (w : World) : Calls Try.prog 47 #[] w (MadeVis w) := by
  go_enter Try.func47, Try.ntmps47
  go_wp2
  refine bodyPost_ret (v := .tuple #[.agg #[.string (bs [97]), .slice (some ⟨w.heap.size + 1 + 1, 0, none⟩) 2 2], .agg #[.string (bs [42]), .slice (some ⟨w.heap.size + 1 + 1 + 1 + 1, 0, none⟩) 1 1]]) (by simp [results, Try.results47, go_sem]; exact ⟨rfl, rfl⟩) rfl ⟨_, _, rfl, ?_, ?_, ?_⟩
  · exact (isSims_visA _ _ _ (by simp)).below (below_alloc (below_alloc (Below.refl _ _) _) _)
  · exact isSims_visB _ _ _ (by simp)
  · exact below_alloc (below_alloc (below_alloc (below_alloc (below_alloc (Below.refl _ _) _) _) _) _) _
theorem info_bb19 : (Try.prog.info? 47).map (fun i => (i.zero, i.size, i.bytes)) = some (some (.slice none 0 0), 1, 24) := by kernel_rfl
theorem mk_bb (W : World) : (Instr.makeSlice 74 (.int .i64 2) (.int .i64 2)).run Try.prog W = .ok (.slice (some ⟨W.heap.size, 0, none⟩) 2 2) (W.alloc (.cells (madeCells #[.slice none 0 0] 2) 47)) := by
  obtain ⟨i, hi, hz0, hz1, hz2⟩ := info_parts info_bb19
  have hr := run_make (P := Try.prog) W 74 47 i (.slice none 0 0) Try.underlying74 hi hz0 .i64 .i64 2 2 (by omega) (by omega) (by rw [hz2]; omega) (by omega)
  rw [hz1, show (Value.slice none 0 0).cells = #[.slice none 0 0] from rfl] at hr
  simpa using hr
def told19 : List (List Bool) := [[], []]
theorem isBB_told (W : World) (g : Nat) (t : TypeId) (hg : g = W.heap.size) : IsBB (W.alloc (.cells (madeCells #[.slice none 0 0] 2) t)) (some ⟨g, 0, none⟩) 2 told19 := by
  refine isBB_lt W g t told19 (fun _ => none) (fun _ => 0) _ (by decide) hg (fun j hj => ?_) (fun j hj => ?_)
  · rcases (show j = 0 ∨ j = 1 by have : j < 2 := hj; omega) with rfl | rfl <;> (simp [madeCells]; rfl)
  · rcases (show j = 0 ∨ j = 1 by have : j < 2 := hj; omega) with rfl | rfl <;> exact ⟨isBools_nil _, by decide, by decide⟩
theorem compAll_at (T : List ANode) (tag : ByteArray) (S : List Sim) (m : Int) (H : List (List Bool)) (xs : List Bool) (c0 : Int) (h0 : calE T tag S m H = c0) (h1 : calV T tag S m H = xs) (A : Option Addr) (n c : Nat) (SA : Option Addr) (sn sc : Nat) (TA : Option Addr) (tn tc : Nat) (w : World) (h : IsTree w A n T) (hS0 : IsSims w SA sn S) (hH0 : IsBB w TA tn H) (hmx : HasMax w) :
    Calls Try.prog 43 #[.agg #[.slice A n c], .agg #[.string tag, .slice SA sn sc], .int .i64 m, .slice TA tn tc] w (MadeB w xs c0) := by
  have := compAll_ok A n c T tag SA sn sc S m TA tn tc H w h hS0 hH0 hmx
  rw [h0, h1] at this
  exact this
theorem all19E : calE ex19T (bs [97]) visA 2 told19 = 0 := by kernel_rfl
theorem all19V : calV ex19T (bs [97]) visA 2 told19 = [false, false, true] := by kernel_rfl
theorem mat19E : cmE ex19T 1 (bs [42]) visB (-1) 1 = 0 := by kernel_rfl
theorem mat19F : cmV ex19T 1 (bs [42]) visB (-1) [false] 1 = false := by kernel_rfl
theorem mat19T : cmV ex19T 1 (bs [42]) visB (-1) [true] 1 = true := by kernel_rfl
end Go.Proofs.Ytbedomopojiehaa
/- Walks: what chapter 19's laws check of its examples. Condition: the variable of the library that strings.Contains reads holds a number. -/
namespace Go.Proofs.Ytbedomopojiehaa
open Go.RowKit

theorem match19_at (b v : Bool) (hv : cmV ex19T 1 (bs [42]) visB (-1) [b] 1 = v) (A : Option Addr) (c : Nat) (C : Option Addr) (sc : Nat) (TA : Option Addr) (tc : Nat) (w : World) (h : IsTree w A 3 ex19T) (hS : IsSims w C 1 visB) (hB : IsBools w TA 1 [b]) (hmx : HasMax w) :
    Calls Try.prog 37 #[.agg #[.slice A 3 c], .int .i64 1, .agg #[.string (bs [42]), .slice C 1 sc], .int .i64 (-1), .slice TA 1 tc] w fun r w' => r = .returned (.tuple #[.bool v, .int .i64 0]) ∧ Below w.heap.size w w' := by
  have := compMatch_ok A 3 c ex19T 1 (bs [42]) C 1 sc visB (-1) TA 1 tc [b] w h hS hB hmx
  rw [hv, mat19E] at this
  exact this
theorem far_al {w : World} {a : Addr} {u : Value} (h : w.cell? a = some u) (o : Obj) : (w.alloc o).cell? a = some u := cell_later (below_alloc (Below.refl _ _) _) h
set_option maxRecDepth 100000 in
set_option maxHeartbeats 4000000 in
theorem alive19_ok (w : World) (hm0 : HasMax w) : Calls Try.prog 48 #[] w fun e w' => e = .returned (.bool true) ∧ Below w.heap.size w w' := by
  have hm := hide hm0
  clear hm0
  go_enter Try.func48, Try.ntmps48
  go_wp2_with fail
  refine (visited_ok _).mono ?_
  rintro e w1 ⟨A, C, rfl, hA, hC, hb1⟩
  have hA' := hide hA
  have hC' := hide hC
  have hz := below_alloc (below_alloc (Below.refl w1.heap.size w1) (.cells #[.string ((bs [97])), .slice A 2 2] 65)) (.cells #[.string ((bs [42])), .slice C 1 1] 65)
  have hB0 := Below.on hb1 hz
  clear hA hC
  have a0 : ((w1.alloc (.cells #[.string ((bs [97])), .slice A 2 2] 65)).alloc (.cells #[.string ((bs [42])), .slice C 1 1] 65)).cell? ⟨w1.heap.size, 0, none⟩ = some (.string ((bs [97]))) := by go_simp
  have a1 : ((w1.alloc (.cells #[.string ((bs [97])), .slice A 2 2] 65)).alloc (.cells #[.string ((bs [42])), .slice C 1 1] 65)).cell? ⟨w1.heap.size, 1, none⟩ = some (.slice A 2 2) := by go_simp
  go_wp2
  have hmk' := mk_bb
  have k0 : ((w1.alloc (.cells #[.string (bs [97]), .slice A 2 2] 65)).alloc (.cells #[.string (bs [42]), .slice C 1 1] 65)).cell? ⟨w1.heap.size + 1, 0, none⟩ = some (.string (bs [42])) := by go_simp
  have k1 : ((w1.alloc (.cells #[.string (bs [97]), .slice A 2 2] 65)).alloc (.cells #[.string (bs [42]), .slice C 1 1] 65)).cell? ⟨w1.heap.size + 1, 1, none⟩ = some (.slice C 1 1) := by go_simp
  have hAll := compAll_at ex19T (bs [97]) visA 2 told19 _ 0 all19E all19V
  have hAll' := hide hAll
  clear hAll
  generalize (w1.alloc (.cells #[.string ((bs [97])), .slice A 2 2] 65)).alloc (.cells #[.string ((bs [42])), .slice C 1 1] 65) = u at *
  have hS0 := hide (fun (X : World) (hX : Below u.heap.size u X) => hA'.out.below (Below.on hz hX))
  have hS1 := hide (fun (X : World) (hX : Below u.heap.size u X) => hC'.out.below (Below.on hz hX))
  have hM0 := hide (fun (X : World) (hX : Below u.heap.size u X) => hm.out.below (Below.on hB0 hX))
  have hud := (Below.refl u.heap.size u).drew
  go_region_held3 (fun X => X.cell? ⟨w1.heap.size, 0, none⟩ = some (.string ((bs [97]))) ∧ X.cell? ⟨w1.heap.size, 1, none⟩ = some (.slice A 2 2)) (first | exact ⟨a0, a1⟩ | exact ⟨f0, f1⟩ | exact ⟨g0, g1⟩ | exact ⟨far_al a0 _, far_al a1 _⟩ | exact ⟨far_al f0 _, far_al f1 _⟩) (first
    | (go_at_call 45; (with_reducible refine (example19_ok _).mono ?_); rintro e x1 ⟨A1, c1, rfl, hT1, hx1⟩; first
      | (have hy1 : Below u.heap.size u x1 := Below.on hud hx1; have f0 := cell_later hy1 a0; have f1 := cell_later hy1 a1; have hi1 := isBB_told x1 _ 47 rfl; have hw1 := below_alloc (Below.refl x1.heap.size x1) (.cells (madeCells #[.slice none 0 0] 2) 47); have hv1 := Below.on hy1 hw1; have hT2 := hT1.below hw1)
      | (have hy1 : Below u.heap.size u x1 := Below.on (below_alloc hud (.cells (madeCells #[.slice none 0 0] 2) 47)) hx1; have f0 := cell_later hy1 a0; have f1 := cell_later hy1 a1; have hi1 : IsBB x1 (some ⟨u.heap.size, 0, none⟩) 2 told19 := (isBB_told u.drew u.heap.size 47 rfl).below hx1; have hv1 := hy1; have hT2 := hT1))
    | (go_at_call 43; (with_reducible refine (hAll'.out _ _ _ _ _ _ _ _ _ _ hT2 (hS0.out _ hv1) hi1 (hM0.out _ hv1)).mono ?_); rintro e x2 ⟨A9, c9, rfl, hI9, -, -, hx2⟩; have g0 := cell_later hx2 (cell_later hv1 a0); have g1 := cell_later hx2 (cell_later hv1 a1); have hv2 := Below.on hv1 hx2))
  all_goals
    have hI9' := hide (show IsBools x2 A9 3 [false, false, true] from hI9)
    clear hI9 hT1 hi1 hT2 hv1 f0 f1 g0 g1 hx1 hy1 hx2
    have hu3 := (Below.refl x2.heap.size x2).drew
    have m3 := hide (match19_at false false mat19F)
    have p3 := cell_later hv2 k0
    have q3 := cell_later hv2 k1
    go_wp2
    go_region_held3 (fun X => X.cell? ⟨w1.heap.size + 1, 0, none⟩ = some (.string (bs [42])) ∧ X.cell? ⟨w1.heap.size + 1, 1, none⟩ = some (.slice C 1 1)) (first | exact ⟨p3, q3⟩ | exact ⟨f0, f1⟩ | exact ⟨g0, g1⟩ | exact ⟨far_al p3 _, far_al q3 _⟩ | exact ⟨far_al f0 _, far_al f1 _⟩) (first
      | (go_at_call 45; (with_reducible refine (example19_ok _).mono ?_); rintro e x1 ⟨A1, c1, rfl, hT1, hx1⟩; first
        | (have hy0 : Below x2.heap.size x2 x1 := Below.on hu3 hx1; have hy1 := Below.on hv2 hy0; have f0 := cell_later hy1 k0; have f1 := cell_later hy1 k1; have hi1 : IsBools (x1.alloc (.cells #[.bool false] 4)) (some ⟨x1.heap.size, 0, none⟩) 1 [false] := isBools_lt x1 x1.heap.size 4 [false] (by decide) rfl; have hw1 := below_alloc (Below.refl x1.heap.size x1) (.cells #[.bool false] 4); have hv1 := Below.on hy1 hw1; have hv0 := Below.on hy0 hw1; have hT2 := hT1.below hw1)
        | (have hy0 : Below x2.heap.size x2 x1 := Below.on (below_alloc hu3 (.cells #[.bool false] 4)) hx1; have hy1 := Below.on hv2 hy0; have f0 := cell_later hy1 k0; have f1 := cell_later hy1 k1; have hi1 : IsBools x1 (some ⟨x2.heap.size, 0, none⟩) 1 [false] := (isBools_lt x2.drew x2.heap.size 4 [false] (by decide) rfl).below hx1; have hv1 := hy1; have hv0 := hy0; have hT2 := hT1))
      | (go_at_call 37; (with_reducible refine (m3.out _ _ _ _ _ _ _ hT2 (hS1.out _ hv1) hi1 (hM0.out _ hv1)).mono ?_); rintro e x3 ⟨rfl, hx3⟩; have g0 := cell_later hx3 (cell_later hv1 k0); have g1 := cell_later hx3 (cell_later hv1 k1); have hv3 := Below.on hv1 hx3; have hn3 := Below.on hv0 hx3))
  all_goals
    clear hT1 hi1 hT2 hv1 hv0 hy0 f0 f1 g0 g1 hx1 hy1 hx3
    have hu4 := (Below.refl x3.heap.size x3).drew
    have m4 := hide (match19_at true true mat19T)
    have p4 := cell_later hv3 k0
    have q4 := cell_later hv3 k1
    go_wp2
    go_region_held3 (fun X => X.cell? ⟨w1.heap.size + 1, 0, none⟩ = some (.string (bs [42])) ∧ X.cell? ⟨w1.heap.size + 1, 1, none⟩ = some (.slice C 1 1)) (first | exact ⟨p4, q4⟩ | exact ⟨f0, f1⟩ | exact ⟨g0, g1⟩ | exact ⟨far_al p4 _, far_al q4 _⟩ | exact ⟨far_al f0 _, far_al f1 _⟩) (first
      | (go_at_call 45; (with_reducible refine (example19_ok _).mono ?_); rintro e x1 ⟨A1, c1, rfl, hT1, hx1⟩; first
        | (have hy0 : Below x3.heap.size x3 x1 := Below.on hu4 hx1; have hy1 := Below.on hv3 hy0; have f0 := cell_later hy1 k0; have f1 := cell_later hy1 k1; have hi1 : IsBools (x1.alloc (.cells #[.bool true] 4)) (some ⟨x1.heap.size, 0, none⟩) 1 [true] := isBools_lt x1 x1.heap.size 4 [true] (by decide) rfl; have hw1 := below_alloc (Below.refl x1.heap.size x1) (.cells #[.bool true] 4); have hv1 := Below.on hy1 hw1; have hv0 := Below.on hy0 hw1; have hT2 := hT1.below hw1)
        | (have hy0 : Below x3.heap.size x3 x1 := Below.on (below_alloc hu4 (.cells #[.bool true] 4)) hx1; have hy1 := Below.on hv3 hy0; have f0 := cell_later hy1 k0; have f1 := cell_later hy1 k1; have hi1 : IsBools x1 (some ⟨x3.heap.size, 0, none⟩) 1 [true] := (isBools_lt x3.drew x3.heap.size 4 [true] (by decide) rfl).below hx1; have hv1 := hy1; have hv0 := hy0; have hT2 := hT1))
      | (go_at_call 37; (with_reducible refine (m4.out _ _ _ _ _ _ _ hT2 (hS1.out _ hv1) hi1 (hM0.out _ hv1)).mono ?_); rintro e x4 ⟨rfl, hx4⟩; have g0 := cell_later hx4 (cell_later hv1 k0); have g1 := cell_later hx4 (cell_later hv1 k1); have hv4 := Below.on hv1 hx4; have hn4 := Below.on hv0 hx4))
  all_goals
    clear hT1 hi1 hT2 hv1 hv0 hy0 f0 f1 g0 g1 hx1 hy1 hx4
    have hI4 := hI9'.out.below (Below.on (Below.on hn3 hn4) (below_alloc (Below.refl x4.heap.size x4) (.cells #[.bool false, .bool false, .bool true] 4)))
    have hJ4 : IsBools (x4.alloc (.cells #[.bool false, .bool false, .bool true] 4)) (some ⟨x4.heap.size, 0, none⟩) 3 [false, false, true] := isBools_lt x4 x4.heap.size 4 [false, false, true] (by decide) rfl
    go_wp2_with fail
    refine (sameBools_yes _ _ 3 3 _ _ [false, false, true] _ hI4 hJ4).mono ?_
    rintro e x5 ⟨rfl, hx5⟩
    go_wp2
    go_ret
    exact ⟨rfl, Below.on (below_alloc (Below.on hB0 hv4) _) hx5⟩
end Go.Proofs.Ytbedomopojiehaa
