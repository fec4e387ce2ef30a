/- Walks: the chapter's tree, in which something is not right: each of the kinds. No condition. -/
import Derived.Test.YtfidpmjjddkffaaSpa
import Derived.RegionTactic
import Derived.BigRegion
namespace Go.Proofs.Ytfidpmjjddkffaa
open Go.RowKit

/-- A tree that comes back, made by the call. -/
def MadeSp (w : World) (n : Nat) (T : List ANode) (e : Ending) (w' : World) : Prop :=
  ∃ (A : Option Addr) (c : Nat), e = .returned (.agg #[.slice A n c]) ∧ OwnTree w' (w.heap.size + 1) (.slice A n c) n T ∧ Below w.heap.size w w'
theorem bx_cell {w : World} {g : Nat} {t : TypeId} {v : Value} (h : w.heap[g]? = some (.cells #[v] t (0, 0))) : w.cell? ⟨g, 0, none⟩ = some v := (blk_cell h 0).trans rfl
theorem size_one (w : World) (o : Obj) : (w.alloc o).heap.size = w.heap.size + 1 := by simp
theorem push2 {w : World} (o1 o2 : Obj) {g i h j : Nat} (hg : g < w.heap.size) (hh : h < w.heap.size) (x y : Value) : ((((w.alloc o1).alloc o2).setCell ⟨g, i, none⟩ x).setCell ⟨h, j, none⟩ y) = (((w.setCell ⟨g, i, none⟩ x).setCell ⟨h, j, none⟩ y).alloc o1).alloc o2 := by
  rw [World.setCell_alloc_past _ _ _ _ (by simp; omega), World.setCell_alloc_past _ _ _ _ hg, World.setCell_alloc_past _ _ _ _ (by simp; omega), World.setCell_alloc_past _ _ _ _ (by simp; omega)]
set_option maxRecDepth 100000 in
set_option maxHeartbeats 1000000 in
theorem spoilt0 (w : World) : Calls Try.prog 27 #[.int .i64 0] w (MadeSp w 0 []) := by
  go_enter Try.func27, Try.ntmps27
  go_wp2_with fail
  refine (example_own _).mono ?_
  rintro e w1 ⟨g, rfl, hbg, hgl, hO1, hb1⟩
  have hB2 := below_alloc (Below.on (below_alloc (Below.refl w.heap.size w) (.cells #[.slice none 0 0] 24)) hb1) (.cells #[.slice (some ⟨g, 0, none⟩) 5 5] 24)
  have k1 := (hb1.block w.heap.size (by simp)).trans (blk_new w #[.slice none 0 0] 24)
  have k2 := blk_alloc k1 (.cells #[.slice (some ⟨g, 0, none⟩) 5 5] 24)
  have hw1 : w.heap.size < w1.heap.size := blk_lt k1
  have hbg' : w.heap.size + 1 ≤ g := by simpa using hbg
  have hO2 : OwnTree (w1.alloc (.cells #[.slice (some ⟨g, 0, none⟩) 5 5] 24)) (w.heap.size + 1) (.slice (some ⟨g, 0, none⟩) 5 5) 5 exT := by
    have := hO1.below (below_alloc (Below.refl _ _) (.cells #[.slice (some ⟨g, 0, none⟩) 5 5] 24))
    simpa using this
  have n1 : ¬ g = w1.heap.size := by omega
  have n2 : ¬ w1.heap.size = g := by omega
  have n3 : ¬ g = w.heap.size := by omega
  have n4 : ¬ w.heap.size = g := by omega
  have n5 : ¬ w.heap.size = w1.heap.size := by omega
  have n6 : ¬ w1.heap.size = w.heap.size := by omega
  have p1 := bx_cell k1
  have p2 : w1.frozen? ⟨w.heap.size, 0, none⟩ = false := blk_frozen k1 0
  have hB1 := Below.on (below_alloc (Below.refl w.heap.size w) (.cells #[.slice none 0 0] 24)) hb1
  have hO1' : Hid (OwnTree w1 (w.heap.size + 1) (.slice (some ⟨g, 0, none⟩) 5 5) 5 exT) := by
    have := hO1
    show OwnTree _ _ _ _ _
    simpa using this
  have hO2' := hide hO2
  have kb : w.heap.size + 1 ≤ (w.alloc (.cells #[.slice none 0 0] 24)).heap.size := by simp
  clear hbg hb1 k1 hO1 hO2
  go_wp2
  refine bodyPost_ret (v := .agg #[.slice none 0 0]) (by simp only [results, Try.results27]; go_simp) rfl ⟨_, _, rfl, ?_, ?_⟩
  · exact ownTree_nil _ _ _
  · exact below_alloc (hB1.setCell (by simp) _) _
set_option maxRecDepth 100000 in
set_option maxHeartbeats 1000000 in
theorem spoilt1 (w : World) : Calls Try.prog 27 #[.int .i64 1] w (MadeSp w 5 (setG exT 1 (bs [80]))) := by
  go_enter Try.func27, Try.ntmps27
  go_wp2_with fail
  refine (example_own _).mono ?_
  rintro e w1 ⟨g, rfl, hbg, hgl, hO1, hb1⟩
  have hB2 := below_alloc (Below.on (below_alloc (Below.refl w.heap.size w) (.cells #[.slice none 0 0] 24)) hb1) (.cells #[.slice (some ⟨g, 0, none⟩) 5 5] 24)
  have k1 := (hb1.block w.heap.size (by simp)).trans (blk_new w #[.slice none 0 0] 24)
  have k2 := blk_alloc k1 (.cells #[.slice (some ⟨g, 0, none⟩) 5 5] 24)
  have hw1 : w.heap.size < w1.heap.size := blk_lt k1
  have hbg' : w.heap.size + 1 ≤ g := by simpa using hbg
  have hO2 : OwnTree (w1.alloc (.cells #[.slice (some ⟨g, 0, none⟩) 5 5] 24)) (w.heap.size + 1) (.slice (some ⟨g, 0, none⟩) 5 5) 5 exT := by
    have := hO1.below (below_alloc (Below.refl _ _) (.cells #[.slice (some ⟨g, 0, none⟩) 5 5] 24))
    simpa using this
  have n1 : ¬ g = w1.heap.size := by omega
  have n2 : ¬ w1.heap.size = g := by omega
  have n3 : ¬ g = w.heap.size := by omega
  have n4 : ¬ w.heap.size = g := by omega
  have n5 : ¬ w.heap.size = w1.heap.size := by omega
  have n6 : ¬ w1.heap.size = w.heap.size := by omega
  have p1 := bx_cell k1
  have p2 : w1.frozen? ⟨w.heap.size, 0, none⟩ = false := blk_frozen k1 0
  have hB1 := Below.on (below_alloc (Below.refl w.heap.size w) (.cells #[.slice none 0 0] 24)) hb1
  have hO1' : Hid (OwnTree w1 (w.heap.size + 1) (.slice (some ⟨g, 0, none⟩) 5 5) 5 exT) := by
    have := hO1
    show OwnTree _ _ _ _ _
    simpa using this
  have hO2' := hide hO2
  have kb : w.heap.size + 1 ≤ (w.alloc (.cells #[.slice none 0 0] 24)).heap.size := by simp
  clear hbg hb1 k1 hO1 hO2
  have hOe := hide (hO1'.out.newG (i := 1) (by omega) rfl (bs [80]))
  obtain ⟨A1, ac1, C1, cc1, hN1⟩ := hO1'.out.at (i := 1) (by omega) rfl
  have q0 := hN1.c0
  have q1 := hN1.fz 4
  clear hN1
  go_wp2
  refine bodyPost_ret (v := .agg #[.slice (some ⟨g, 0, none⟩) 5 5]) (by simp only [results, Try.results27]; go_simp) rfl ⟨_, _, rfl, ?_, ?_⟩
  · exact (hOe.out.set (p := ⟨w.heap.size, 0, none⟩) (by simp) _).below (below_alloc (Below.refl _ _) _)
  · exact below_alloc ((hB1.setCell (p := ⟨g, 4, none⟩) (by show w.heap.size ≤ g; omega) _).setCell (by simp) _) _
set_option maxRecDepth 100000 in
set_option maxHeartbeats 1000000 in
theorem spoilt2 (w : World) : Calls Try.prog 27 #[.int .i64 2] w (MadeSp w 5 (setG exT 1 (bs []))) := by
  go_enter Try.func27, Try.ntmps27
  go_wp2_with fail
  refine (example_own _).mono ?_
  rintro e w1 ⟨g, rfl, hbg, hgl, hO1, hb1⟩
  have hB2 := below_alloc (Below.on (below_alloc (Below.refl w.heap.size w) (.cells #[.slice none 0 0] 24)) hb1) (.cells #[.slice (some ⟨g, 0, none⟩) 5 5] 24)
  have k1 := (hb1.block w.heap.size (by simp)).trans (blk_new w #[.slice none 0 0] 24)
  have k2 := blk_alloc k1 (.cells #[.slice (some ⟨g, 0, none⟩) 5 5] 24)
  have hw1 : w.heap.size < w1.heap.size := blk_lt k1
  have hbg' : w.heap.size + 1 ≤ g := by simpa using hbg
  have hO2 : OwnTree (w1.alloc (.cells #[.slice (some ⟨g, 0, none⟩) 5 5] 24)) (w.heap.size + 1) (.slice (some ⟨g, 0, none⟩) 5 5) 5 exT := by
    have := hO1.below (below_alloc (Below.refl _ _) (.cells #[.slice (some ⟨g, 0, none⟩) 5 5] 24))
    simpa using this
  have n1 : ¬ g = w1.heap.size := by omega
  have n2 : ¬ w1.heap.size = g := by omega
  have n3 : ¬ g = w.heap.size := by omega
  have n4 : ¬ w.heap.size = g := by omega
  have n5 : ¬ w.heap.size = w1.heap.size := by omega
  have n6 : ¬ w1.heap.size = w.heap.size := by omega
  have p1 := bx_cell k1
  have p2 : w1.frozen? ⟨w.heap.size, 0, none⟩ = false := blk_frozen k1 0
  have hB1 := Below.on (below_alloc (Below.refl w.heap.size w) (.cells #[.slice none 0 0] 24)) hb1
  have hO1' : Hid (OwnTree w1 (w.heap.size + 1) (.slice (some ⟨g, 0, none⟩) 5 5) 5 exT) := by
    have := hO1
    show OwnTree _ _ _ _ _
    simpa using this
  have hO2' := hide hO2
  have kb : w.heap.size + 1 ≤ (w.alloc (.cells #[.slice none 0 0] 24)).heap.size := by simp
  clear hbg hb1 k1 hO1 hO2
  have hOe := hide (hO1'.out.newG (i := 1) (by omega) rfl (bs []))
  obtain ⟨A1, ac1, C1, cc1, hN1⟩ := hO1'.out.at (i := 1) (by omega) rfl
  have q0 := hN1.c0
  have q1 := hN1.fz 4
  clear hN1
  go_wp2
  refine bodyPost_ret (v := .agg #[.slice (some ⟨g, 0, none⟩) 5 5]) (by simp only [results, Try.results27]; go_simp) rfl ⟨_, _, rfl, ?_, ?_⟩
  · exact (hOe.out.set (p := ⟨w.heap.size, 0, none⟩) (by simp) _).below (below_alloc (Below.refl _ _) _)
  · exact below_alloc ((hB1.setCell (p := ⟨g, 4, none⟩) (by show w.heap.size ≤ g; omega) _).setCell (by simp) _) _
set_option maxRecDepth 100000 in
set_option maxHeartbeats 1000000 in
theorem spoilt3 (w : World) : Calls Try.prog 27 #[.int .i64 3] w (MadeSp w 5 (setP exT 0 4)) := by
  go_enter Try.func27, Try.ntmps27
  go_wp2_with fail
  refine (example_own _).mono ?_
  rintro e w1 ⟨g, rfl, hbg, hgl, hO1, hb1⟩
  have hB2 := below_alloc (Below.on (below_alloc (Below.refl w.heap.size w) (.cells #[.slice none 0 0] 24)) hb1) (.cells #[.slice (some ⟨g, 0, none⟩) 5 5] 24)
  have k1 := (hb1.block w.heap.size (by simp)).trans (blk_new w #[.slice none 0 0] 24)
  have k2 := blk_alloc k1 (.cells #[.slice (some ⟨g, 0, none⟩) 5 5] 24)
  have hw1 : w.heap.size < w1.heap.size := blk_lt k1
  have hbg' : w.heap.size + 1 ≤ g := by simpa using hbg
  have hO2 : OwnTree (w1.alloc (.cells #[.slice (some ⟨g, 0, none⟩) 5 5] 24)) (w.heap.size + 1) (.slice (some ⟨g, 0, none⟩) 5 5) 5 exT := by
    have := hO1.below (below_alloc (Below.refl _ _) (.cells #[.slice (some ⟨g, 0, none⟩) 5 5] 24))
    simpa using this
  have n1 : ¬ g = w1.heap.size := by omega
  have n2 : ¬ w1.heap.size = g := by omega
  have n3 : ¬ g = w.heap.size := by omega
  have n4 : ¬ w.heap.size = g := by omega
  have n5 : ¬ w.heap.size = w1.heap.size := by omega
  have n6 : ¬ w1.heap.size = w.heap.size := by omega
  have p1 := bx_cell k1
  have p2 : w1.frozen? ⟨w.heap.size, 0, none⟩ = false := blk_frozen k1 0
  have hB1 := Below.on (below_alloc (Below.refl w.heap.size w) (.cells #[.slice none 0 0] 24)) hb1
  have hO1' : Hid (OwnTree w1 (w.heap.size + 1) (.slice (some ⟨g, 0, none⟩) 5 5) 5 exT) := by
    have := hO1
    show OwnTree _ _ _ _ _
    simpa using this
  have hO2' := hide hO2
  have kb : w.heap.size + 1 ≤ (w.alloc (.cells #[.slice none 0 0] 24)).heap.size := by simp
  clear hbg hb1 k1 hO1 hO2
  have hOe := hide (hO1'.out.newP (i := 0) (by omega) rfl 4)
  obtain ⟨A0, ac0, C0, cc0, hN0⟩ := hO1'.out.at (i := 0) (by omega) rfl
  have q0 := hN0.c2
  have q1 := hN0.fz 2
  clear hN0
  go_wp2
  refine bodyPost_ret (v := .agg #[.slice (some ⟨g, 0, none⟩) 5 5]) (by simp only [results, Try.results27]; go_simp) rfl ⟨_, _, rfl, ?_, ?_⟩
  · exact (hOe.out.set (p := ⟨w.heap.size, 0, none⟩) (by simp) _).below (below_alloc (Below.refl _ _) _)
  · exact below_alloc ((hB1.setCell (p := ⟨g, 2, none⟩) (by show w.heap.size ≤ g; omega) _).setCell (by simp) _) _
set_option maxRecDepth 100000 in
set_option maxHeartbeats 1000000 in
theorem spoilt4 (w : World) : Calls Try.prog 27 #[.int .i64 4] w (MadeSp w 5 (setP exT 1 5)) := by
  go_enter Try.func27, Try.ntmps27
  go_wp2_with fail
  refine (example_own _).mono ?_
  rintro e w1 ⟨g, rfl, hbg, hgl, hO1, hb1⟩
  have hB2 := below_alloc (Below.on (below_alloc (Below.refl w.heap.size w) (.cells #[.slice none 0 0] 24)) hb1) (.cells #[.slice (some ⟨g, 0, none⟩) 5 5] 24)
  have k1 := (hb1.block w.heap.size (by simp)).trans (blk_new w #[.slice none 0 0] 24)
  have k2 := blk_alloc k1 (.cells #[.slice (some ⟨g, 0, none⟩) 5 5] 24)
  have hw1 : w.heap.size < w1.heap.size := blk_lt k1
  have hbg' : w.heap.size + 1 ≤ g := by simpa using hbg
  have hO2 : OwnTree (w1.alloc (.cells #[.slice (some ⟨g, 0, none⟩) 5 5] 24)) (w.heap.size + 1) (.slice (some ⟨g, 0, none⟩) 5 5) 5 exT := by
    have := hO1.below (below_alloc (Below.refl _ _) (.cells #[.slice (some ⟨g, 0, none⟩) 5 5] 24))
    simpa using this
  have n1 : ¬ g = w1.heap.size := by omega
  have n2 : ¬ w1.heap.size = g := by omega
  have n3 : ¬ g = w.heap.size := by omega
  have n4 : ¬ w.heap.size = g := by omega
  have n5 : ¬ w.heap.size = w1.heap.size := by omega
  have n6 : ¬ w1.heap.size = w.heap.size := by omega
  have p1 := bx_cell k1
  have p2 : w1.frozen? ⟨w.heap.size, 0, none⟩ = false := blk_frozen k1 0
  have hB1 := Below.on (below_alloc (Below.refl w.heap.size w) (.cells #[.slice none 0 0] 24)) hb1
  have hO1' : Hid (OwnTree w1 (w.heap.size + 1) (.slice (some ⟨g, 0, none⟩) 5 5) 5 exT) := by
    have := hO1
    show OwnTree _ _ _ _ _
    simpa using this
  have hO2' := hide hO2
  have kb : w.heap.size + 1 ≤ (w.alloc (.cells #[.slice none 0 0] 24)).heap.size := by simp
  clear hbg hb1 k1 hO1 hO2
  have hOe := hide (hO1'.out.newP (i := 1) (by omega) rfl 5)
  obtain ⟨A1, ac1, C1, cc1, hN1⟩ := hO1'.out.at (i := 1) (by omega) rfl
  have q0 := hN1.c2
  have q1 := hN1.fz 6
  clear hN1
  go_wp2
  refine bodyPost_ret (v := .agg #[.slice (some ⟨g, 0, none⟩) 5 5]) (by simp only [results, Try.results27]; go_simp) rfl ⟨_, _, rfl, ?_, ?_⟩
  · exact (hOe.out.set (p := ⟨w.heap.size, 0, none⟩) (by simp) _).below (below_alloc (Below.refl _ _) _)
  · exact below_alloc ((hB1.setCell (p := ⟨g, 6, none⟩) (by show w.heap.size ≤ g; omega) _).setCell (by simp) _) _
set_option maxRecDepth 100000 in
set_option maxHeartbeats 1000000 in
theorem spoilt5 (w : World) : Calls Try.prog 27 #[.int .i64 5] w (MadeSp w 5 (setP exT 1 (-2))) := by
  go_enter Try.func27, Try.ntmps27
  go_wp2_with fail
  refine (example_own _).mono ?_
  rintro e w1 ⟨g, rfl, hbg, hgl, hO1, hb1⟩
  have hB2 := below_alloc (Below.on (below_alloc (Below.refl w.heap.size w) (.cells #[.slice none 0 0] 24)) hb1) (.cells #[.slice (some ⟨g, 0, none⟩) 5 5] 24)
  have k1 := (hb1.block w.heap.size (by simp)).trans (blk_new w #[.slice none 0 0] 24)
  have k2 := blk_alloc k1 (.cells #[.slice (some ⟨g, 0, none⟩) 5 5] 24)
  have hw1 : w.heap.size < w1.heap.size := blk_lt k1
  have hbg' : w.heap.size + 1 ≤ g := by simpa using hbg
  have hO2 : OwnTree (w1.alloc (.cells #[.slice (some ⟨g, 0, none⟩) 5 5] 24)) (w.heap.size + 1) (.slice (some ⟨g, 0, none⟩) 5 5) 5 exT := by
    have := hO1.below (below_alloc (Below.refl _ _) (.cells #[.slice (some ⟨g, 0, none⟩) 5 5] 24))
    simpa using this
  have n1 : ¬ g = w1.heap.size := by omega
  have n2 : ¬ w1.heap.size = g := by omega
  have n3 : ¬ g = w.heap.size := by omega
  have n4 : ¬ w.heap.size = g := by omega
  have n5 : ¬ w.heap.size = w1.heap.size := by omega
  have n6 : ¬ w1.heap.size = w.heap.size := by omega
  have p1 := bx_cell k1
  have p2 : w1.frozen? ⟨w.heap.size, 0, none⟩ = false := blk_frozen k1 0
  have hB1 := Below.on (below_alloc (Below.refl w.heap.size w) (.cells #[.slice none 0 0] 24)) hb1
  have hO1' : Hid (OwnTree w1 (w.heap.size + 1) (.slice (some ⟨g, 0, none⟩) 5 5) 5 exT) := by
    have := hO1
    show OwnTree _ _ _ _ _
    simpa using this
  have hO2' := hide hO2
  have kb : w.heap.size + 1 ≤ (w.alloc (.cells #[.slice none 0 0] 24)).heap.size := by simp
  clear hbg hb1 k1 hO1 hO2
  have hOe := hide (hO1'.out.newP (i := 1) (by omega) rfl (-2))
  obtain ⟨A1, ac1, C1, cc1, hN1⟩ := hO1'.out.at (i := 1) (by omega) rfl
  have q0 := hN1.c2
  have q1 := hN1.fz 6
  clear hN1
  go_wp2
  refine bodyPost_ret (v := .agg #[.slice (some ⟨g, 0, none⟩) 5 5]) (by simp only [results, Try.results27]; go_simp) rfl ⟨_, _, rfl, ?_, ?_⟩
  · exact (hOe.out.set (p := ⟨w.heap.size, 0, none⟩) (by simp) _).below (below_alloc (Below.refl _ _) _)
  · exact below_alloc ((hB1.setCell (p := ⟨g, 6, none⟩) (by show w.heap.size ≤ g; omega) _).setCell (by simp) _) _
set_option maxRecDepth 100000 in
set_option maxHeartbeats 1000000 in
theorem spoilt6 (w : World) : Calls Try.prog 27 #[.int .i64 6] w (MadeSp w 5 (setK exT 0 [2])) := by
  go_enter Try.func27, Try.ntmps27
  go_wp2_with fail
  refine (example_own _).mono ?_
  rintro e w1 ⟨g, rfl, hbg, hgl, hO1, hb1⟩
  have hB2 := below_alloc (Below.on (below_alloc (Below.refl w.heap.size w) (.cells #[.slice none 0 0] 24)) hb1) (.cells #[.slice (some ⟨g, 0, none⟩) 5 5] 24)
  have k1 := (hb1.block w.heap.size (by simp)).trans (blk_new w #[.slice none 0 0] 24)
  have k2 := blk_alloc k1 (.cells #[.slice (some ⟨g, 0, none⟩) 5 5] 24)
  have hw1 : w.heap.size < w1.heap.size := blk_lt k1
  have hbg' : w.heap.size + 1 ≤ g := by simpa using hbg
  have hO2 : OwnTree (w1.alloc (.cells #[.slice (some ⟨g, 0, none⟩) 5 5] 24)) (w.heap.size + 1) (.slice (some ⟨g, 0, none⟩) 5 5) 5 exT := by
    have := hO1.below (below_alloc (Below.refl _ _) (.cells #[.slice (some ⟨g, 0, none⟩) 5 5] 24))
    simpa using this
  have n1 : ¬ g = w1.heap.size := by omega
  have n2 : ¬ w1.heap.size = g := by omega
  have n3 : ¬ g = w.heap.size := by omega
  have n4 : ¬ w.heap.size = g := by omega
  have n5 : ¬ w.heap.size = w1.heap.size := by omega
  have n6 : ¬ w1.heap.size = w.heap.size := by omega
  have p1 := bx_cell k1
  have p2 : w1.frozen? ⟨w.heap.size, 0, none⟩ = false := blk_frozen k1 0
  have hB1 := Below.on (below_alloc (Below.refl w.heap.size w) (.cells #[.slice none 0 0] 24)) hb1
  have hO1' : Hid (OwnTree w1 (w.heap.size + 1) (.slice (some ⟨g, 0, none⟩) 5 5) 5 exT) := by
    have := hO1
    show OwnTree _ _ _ _ _
    simpa using this
  have hO2' := hide hO2
  have kb : w.heap.size + 1 ≤ (w.alloc (.cells #[.slice none 0 0] 24)).heap.size := by simp
  clear hbg hb1 k1 hO1 hO2
  have hOe := hide (hO2'.out.newK (i := 0) (by omega) rfl (by simp; omega) [2] (m := 1) rfl (by omega))
  obtain ⟨A0, ac0, C0, cc0, hN0⟩ := hO1'.out.at (i := 0) (by omega) rfl
  have q0 := hN0.c3
  have q1 := hN0.fz 3
  clear hN0
  go_wp2
  refine bodyPost_ret (v := .agg #[.slice (some ⟨g, 0, none⟩) 5 5]) (by simp only [results, Try.results27]; go_simp) rfl ⟨_, _, rfl, ?_, ?_⟩
  · have hz := hOe.out.set (p := ⟨w.heap.size, 0, none⟩) (by simp) (.slice (some ⟨g, 0, none⟩) 5 5)
    rw [push2 _ _ hgl hw1, size_one] at hz
    exact hz
  · exact below_alloc (below_alloc ((hB1.setCell (p := ⟨g, 3, none⟩) (by show w.heap.size ≤ g; omega) _).setCell (by simp) _) _) _
set_option maxRecDepth 100000 in
set_option maxHeartbeats 1000000 in
theorem spoilt7 (w : World) : Calls Try.prog 27 #[.int .i64 7] w (MadeSp w 5 (setK exT 0 [2, 1, 1])) := by
  go_enter Try.func27, Try.ntmps27
  go_wp2_with fail
  refine (example_own _).mono ?_
  rintro e w1 ⟨g, rfl, hbg, hgl, hO1, hb1⟩
  have hB2 := below_alloc (Below.on (below_alloc (Below.refl w.heap.size w) (.cells #[.slice none 0 0] 24)) hb1) (.cells #[.slice (some ⟨g, 0, none⟩) 5 5] 24)
  have k1 := (hb1.block w.heap.size (by simp)).trans (blk_new w #[.slice none 0 0] 24)
  have k2 := blk_alloc k1 (.cells #[.slice (some ⟨g, 0, none⟩) 5 5] 24)
  have hw1 : w.heap.size < w1.heap.size := blk_lt k1
  have hbg' : w.heap.size + 1 ≤ g := by simpa using hbg
  have hO2 : OwnTree (w1.alloc (.cells #[.slice (some ⟨g, 0, none⟩) 5 5] 24)) (w.heap.size + 1) (.slice (some ⟨g, 0, none⟩) 5 5) 5 exT := by
    have := hO1.below (below_alloc (Below.refl _ _) (.cells #[.slice (some ⟨g, 0, none⟩) 5 5] 24))
    simpa using this
  have n1 : ¬ g = w1.heap.size := by omega
  have n2 : ¬ w1.heap.size = g := by omega
  have n3 : ¬ g = w.heap.size := by omega
  have n4 : ¬ w.heap.size = g := by omega
  have n5 : ¬ w.heap.size = w1.heap.size := by omega
  have n6 : ¬ w1.heap.size = w.heap.size := by omega
  have p1 := bx_cell k1
  have p2 : w1.frozen? ⟨w.heap.size, 0, none⟩ = false := blk_frozen k1 0
  have hB1 := Below.on (below_alloc (Below.refl w.heap.size w) (.cells #[.slice none 0 0] 24)) hb1
  have hO1' : Hid (OwnTree w1 (w.heap.size + 1) (.slice (some ⟨g, 0, none⟩) 5 5) 5 exT) := by
    have := hO1
    show OwnTree _ _ _ _ _
    simpa using this
  have hO2' := hide hO2
  have kb : w.heap.size + 1 ≤ (w.alloc (.cells #[.slice none 0 0] 24)).heap.size := by simp
  clear hbg hb1 k1 hO1 hO2
  have hOe := hide (hO2'.out.newK (i := 0) (by omega) rfl (by simp; omega) [2, 1, 1] (m := 3) rfl (by omega))
  obtain ⟨A0, ac0, C0, cc0, hN0⟩ := hO1'.out.at (i := 0) (by omega) rfl
  have q0 := hN0.c3
  have q1 := hN0.fz 3
  clear hN0
  go_wp2
  refine bodyPost_ret (v := .agg #[.slice (some ⟨g, 0, none⟩) 5 5]) (by simp only [results, Try.results27]; go_simp) rfl ⟨_, _, rfl, ?_, ?_⟩
  · have hz := hOe.out.set (p := ⟨w.heap.size, 0, none⟩) (by simp) (.slice (some ⟨g, 0, none⟩) 5 5)
    rw [push2 _ _ hgl hw1, size_one] at hz
    exact hz
  · exact below_alloc (below_alloc ((hB1.setCell (p := ⟨g, 3, none⟩) (by show w.heap.size ≤ g; omega) _).setCell (by simp) _) _) _
set_option maxRecDepth 100000 in
set_option maxHeartbeats 1000000 in
theorem spoilt8 (w : World) : Calls Try.prog 27 #[.int .i64 8] w (MadeSp w 5 (setK exT 0 [2, 1, 4])) := by
  go_enter Try.func27, Try.ntmps27
  go_wp2_with fail
  refine (example_own _).mono ?_
  rintro e w1 ⟨g, rfl, hbg, hgl, hO1, hb1⟩
  have hB2 := below_alloc (Below.on (below_alloc (Below.refl w.heap.size w) (.cells #[.slice none 0 0] 24)) hb1) (.cells #[.slice (some ⟨g, 0, none⟩) 5 5] 24)
  have k1 := (hb1.block w.heap.size (by simp)).trans (blk_new w #[.slice none 0 0] 24)
  have k2 := blk_alloc k1 (.cells #[.slice (some ⟨g, 0, none⟩) 5 5] 24)
  have hw1 : w.heap.size < w1.heap.size := blk_lt k1
  have hbg' : w.heap.size + 1 ≤ g := by simpa using hbg
  have hO2 : OwnTree (w1.alloc (.cells #[.slice (some ⟨g, 0, none⟩) 5 5] 24)) (w.heap.size + 1) (.slice (some ⟨g, 0, none⟩) 5 5) 5 exT := by
    have := hO1.below (below_alloc (Below.refl _ _) (.cells #[.slice (some ⟨g, 0, none⟩) 5 5] 24))
    simpa using this
  have n1 : ¬ g = w1.heap.size := by omega
  have n2 : ¬ w1.heap.size = g := by omega
  have n3 : ¬ g = w.heap.size := by omega
  have n4 : ¬ w.heap.size = g := by omega
  have n5 : ¬ w.heap.size = w1.heap.size := by omega
  have n6 : ¬ w1.heap.size = w.heap.size := by omega
  have p1 := bx_cell k1
  have p2 : w1.frozen? ⟨w.heap.size, 0, none⟩ = false := blk_frozen k1 0
  have hB1 := Below.on (below_alloc (Below.refl w.heap.size w) (.cells #[.slice none 0 0] 24)) hb1
  have hO1' : Hid (OwnTree w1 (w.heap.size + 1) (.slice (some ⟨g, 0, none⟩) 5 5) 5 exT) := by
    have := hO1
    show OwnTree _ _ _ _ _
    simpa using this
  have hO2' := hide hO2
  have kb : w.heap.size + 1 ≤ (w.alloc (.cells #[.slice none 0 0] 24)).heap.size := by simp
  clear hbg hb1 k1 hO1 hO2
  have hOe := hide (hO2'.out.newK (i := 0) (by omega) rfl (by simp; omega) [2, 1, 4] (m := 3) rfl (by omega))
  obtain ⟨A0, ac0, C0, cc0, hN0⟩ := hO1'.out.at (i := 0) (by omega) rfl
  have q0 := hN0.c3
  have q1 := hN0.fz 3
  clear hN0
  go_wp2
  refine bodyPost_ret (v := .agg #[.slice (some ⟨g, 0, none⟩) 5 5]) (by simp only [results, Try.results27]; go_simp) rfl ⟨_, _, rfl, ?_, ?_⟩
  · have hz := hOe.out.set (p := ⟨w.heap.size, 0, none⟩) (by simp) (.slice (some ⟨g, 0, none⟩) 5 5)
    rw [push2 _ _ hgl hw1, size_one] at hz
    exact hz
  · exact below_alloc (below_alloc ((hB1.setCell (p := ⟨g, 3, none⟩) (by show w.heap.size ≤ g; omega) _).setCell (by simp) _) _) _
set_option maxRecDepth 100000 in
set_option maxHeartbeats 1000000 in
theorem spoilt9 (w : World) : Calls Try.prog 27 #[.int .i64 9] w (MadeSp w 5 (setK exT 0 [2, 1, 5])) := by
  go_enter Try.func27, Try.ntmps27
  go_wp2_with fail
  refine (example_own _).mono ?_
  rintro e w1 ⟨g, rfl, hbg, hgl, hO1, hb1⟩
  have hB2 := below_alloc (Below.on (below_alloc (Below.refl w.heap.size w) (.cells #[.slice none 0 0] 24)) hb1) (.cells #[.slice (some ⟨g, 0, none⟩) 5 5] 24)
  have k1 := (hb1.block w.heap.size (by simp)).trans (blk_new w #[.slice none 0 0] 24)
  have k2 := blk_alloc k1 (.cells #[.slice (some ⟨g, 0, none⟩) 5 5] 24)
  have hw1 : w.heap.size < w1.heap.size := blk_lt k1
  have hbg' : w.heap.size + 1 ≤ g := by simpa using hbg
  have hO2 : OwnTree (w1.alloc (.cells #[.slice (some ⟨g, 0, none⟩) 5 5] 24)) (w.heap.size + 1) (.slice (some ⟨g, 0, none⟩) 5 5) 5 exT := by
    have := hO1.below (below_alloc (Below.refl _ _) (.cells #[.slice (some ⟨g, 0, none⟩) 5 5] 24))
    simpa using this
  have n1 : ¬ g = w1.heap.size := by omega
  have n2 : ¬ w1.heap.size = g := by omega
  have n3 : ¬ g = w.heap.size := by omega
  have n4 : ¬ w.heap.size = g := by omega
  have n5 : ¬ w.heap.size = w1.heap.size := by omega
  have n6 : ¬ w1.heap.size = w.heap.size := by omega
  have p1 := bx_cell k1
  have p2 : w1.frozen? ⟨w.heap.size, 0, none⟩ = false := blk_frozen k1 0
  have hB1 := Below.on (below_alloc (Below.refl w.heap.size w) (.cells #[.slice none 0 0] 24)) hb1
  have hO1' : Hid (OwnTree w1 (w.heap.size + 1) (.slice (some ⟨g, 0, none⟩) 5 5) 5 exT) := by
    have := hO1
    show OwnTree _ _ _ _ _
    simpa using this
  have hO2' := hide hO2
  have kb : w.heap.size + 1 ≤ (w.alloc (.cells #[.slice none 0 0] 24)).heap.size := by simp
  clear hbg hb1 k1 hO1 hO2
  have hOe := hide (hO2'.out.newK (i := 0) (by omega) rfl (by simp; omega) [2, 1, 5] (m := 3) rfl (by omega))
  obtain ⟨A0, ac0, C0, cc0, hN0⟩ := hO1'.out.at (i := 0) (by omega) rfl
  have q0 := hN0.c3
  have q1 := hN0.fz 3
  clear hN0
  go_wp2
  refine bodyPost_ret (v := .agg #[.slice (some ⟨g, 0, none⟩) 5 5]) (by simp only [results, Try.results27]; go_simp) rfl ⟨_, _, rfl, ?_, ?_⟩
  · have hz := hOe.out.set (p := ⟨w.heap.size, 0, none⟩) (by simp) (.slice (some ⟨g, 0, none⟩) 5 5)
    rw [push2 _ _ hgl hw1, size_one] at hz
    exact hz
  · exact below_alloc (below_alloc ((hB1.setCell (p := ⟨g, 3, none⟩) (by show w.heap.size ≤ g; omega) _).setCell (by simp) _) _) _
set_option maxRecDepth 100000 in
set_option maxHeartbeats 1000000 in
theorem spoilt12 (w : World) : Calls Try.prog 27 #[.int .i64 12] w (MadeSp w 5 (setA exT 1 [(bs [98], bs []), (bs [97], bs [])])) := by
  go_enter Try.func27, Try.ntmps27
  go_wp2_with fail
  refine (example_own _).mono ?_
  rintro e w1 ⟨g, rfl, hbg, hgl, hO1, hb1⟩
  have hB2 := below_alloc (Below.on (below_alloc (Below.refl w.heap.size w) (.cells #[.slice none 0 0] 24)) hb1) (.cells #[.slice (some ⟨g, 0, none⟩) 5 5] 24)
  have k1 := (hb1.block w.heap.size (by simp)).trans (blk_new w #[.slice none 0 0] 24)
  have k2 := blk_alloc k1 (.cells #[.slice (some ⟨g, 0, none⟩) 5 5] 24)
  have hw1 : w.heap.size < w1.heap.size := blk_lt k1
  have hbg' : w.heap.size + 1 ≤ g := by simpa using hbg
  have hO2 : OwnTree (w1.alloc (.cells #[.slice (some ⟨g, 0, none⟩) 5 5] 24)) (w.heap.size + 1) (.slice (some ⟨g, 0, none⟩) 5 5) 5 exT := by
    have := hO1.below (below_alloc (Below.refl _ _) (.cells #[.slice (some ⟨g, 0, none⟩) 5 5] 24))
    simpa using this
  have n1 : ¬ g = w1.heap.size := by omega
  have n2 : ¬ w1.heap.size = g := by omega
  have n3 : ¬ g = w.heap.size := by omega
  have n4 : ¬ w.heap.size = g := by omega
  have n5 : ¬ w.heap.size = w1.heap.size := by omega
  have n6 : ¬ w1.heap.size = w.heap.size := by omega
  have p1 := bx_cell k1
  have p2 : w1.frozen? ⟨w.heap.size, 0, none⟩ = false := blk_frozen k1 0
  have hB1 := Below.on (below_alloc (Below.refl w.heap.size w) (.cells #[.slice none 0 0] 24)) hb1
  have hO1' : Hid (OwnTree w1 (w.heap.size + 1) (.slice (some ⟨g, 0, none⟩) 5 5) 5 exT) := by
    have := hO1
    show OwnTree _ _ _ _ _
    simpa using this
  have hO2' := hide hO2
  have kb : w.heap.size + 1 ≤ (w.alloc (.cells #[.slice none 0 0] 24)).heap.size := by simp
  clear hbg hb1 k1 hO1 hO2
  have hOe := hide (hO2'.out.newA (i := 1) (by omega) rfl (by simp; omega) [(bs [98], bs []), (bs [97], bs [])] (m := 2) rfl (by omega))
  obtain ⟨A1, ac1, C1, cc1, hN1⟩ := hO1'.out.at (i := 1) (by omega) rfl
  have q0 := hN1.c1
  have q1 := hN1.fz 5
  clear hN1
  go_wp2
  refine bodyPost_ret (v := .agg #[.slice (some ⟨g, 0, none⟩) 5 5]) (by simp only [results, Try.results27]; go_simp) rfl ⟨_, _, rfl, ?_, ?_⟩
  · have hz := hOe.out.set (p := ⟨w.heap.size, 0, none⟩) (by simp) (.slice (some ⟨g, 0, none⟩) 5 5)
    rw [push2 _ _ hgl hw1, size_one] at hz
    exact hz
  · exact below_alloc (below_alloc ((hB1.setCell (p := ⟨g, 5, none⟩) (by show w.heap.size ≤ g; omega) _).setCell (by simp) _) _) _
set_option maxRecDepth 100000 in
set_option maxHeartbeats 1000000 in
theorem spoilt13 (w : World) : Calls Try.prog 27 #[.int .i64 13] w (MadeSp w 5 (setA exT 1 [(bs [97], bs []), (bs [97], bs [])])) := by
  go_enter Try.func27, Try.ntmps27
  go_wp2_with fail
  refine (example_own _).mono ?_
  rintro e w1 ⟨g, rfl, hbg, hgl, hO1, hb1⟩
  have hB2 := below_alloc (Below.on (below_alloc (Below.refl w.heap.size w) (.cells #[.slice none 0 0] 24)) hb1) (.cells #[.slice (some ⟨g, 0, none⟩) 5 5] 24)
  have k1 := (hb1.block w.heap.size (by simp)).trans (blk_new w #[.slice none 0 0] 24)
  have k2 := blk_alloc k1 (.cells #[.slice (some ⟨g, 0, none⟩) 5 5] 24)
  have hw1 : w.heap.size < w1.heap.size := blk_lt k1
  have hbg' : w.heap.size + 1 ≤ g := by simpa using hbg
  have hO2 : OwnTree (w1.alloc (.cells #[.slice (some ⟨g, 0, none⟩) 5 5] 24)) (w.heap.size + 1) (.slice (some ⟨g, 0, none⟩) 5 5) 5 exT := by
    have := hO1.below (below_alloc (Below.refl _ _) (.cells #[.slice (some ⟨g, 0, none⟩) 5 5] 24))
    simpa using this
  have n1 : ¬ g = w1.heap.size := by omega
  have n2 : ¬ w1.heap.size = g := by omega
  have n3 : ¬ g = w.heap.size := by omega
  have n4 : ¬ w.heap.size = g := by omega
  have n5 : ¬ w.heap.size = w1.heap.size := by omega
  have n6 : ¬ w1.heap.size = w.heap.size := by omega
  have p1 := bx_cell k1
  have p2 : w1.frozen? ⟨w.heap.size, 0, none⟩ = false := blk_frozen k1 0
  have hB1 := Below.on (below_alloc (Below.refl w.heap.size w) (.cells #[.slice none 0 0] 24)) hb1
  have hO1' : Hid (OwnTree w1 (w.heap.size + 1) (.slice (some ⟨g, 0, none⟩) 5 5) 5 exT) := by
    have := hO1
    show OwnTree _ _ _ _ _
    simpa using this
  have hO2' := hide hO2
  have kb : w.heap.size + 1 ≤ (w.alloc (.cells #[.slice none 0 0] 24)).heap.size := by simp
  clear hbg hb1 k1 hO1 hO2
  have hOe := hide (hO2'.out.newA (i := 1) (by omega) rfl (by simp; omega) [(bs [97], bs []), (bs [97], bs [])] (m := 2) rfl (by omega))
  obtain ⟨A1, ac1, C1, cc1, hN1⟩ := hO1'.out.at (i := 1) (by omega) rfl
  have q0 := hN1.c1
  have q1 := hN1.fz 5
  clear hN1
  go_wp2
  refine bodyPost_ret (v := .agg #[.slice (some ⟨g, 0, none⟩) 5 5]) (by simp only [results, Try.results27]; go_simp) rfl ⟨_, _, rfl, ?_, ?_⟩
  · have hz := hOe.out.set (p := ⟨w.heap.size, 0, none⟩) (by simp) (.slice (some ⟨g, 0, none⟩) 5 5)
    rw [push2 _ _ hgl hw1, size_one] at hz
    exact hz
  · exact below_alloc (below_alloc ((hB1.setCell (p := ⟨g, 5, none⟩) (by show w.heap.size ≤ g; omega) _).setCell (by simp) _) _) _
set_option maxRecDepth 100000 in
set_option maxHeartbeats 1000000 in
theorem spoilt14 (w : World) : Calls Try.prog 27 #[.int .i64 14] w (MadeSp w 5 (setA exT 1 [(bs [49, 97], bs [])])) := by
  go_enter Try.func27, Try.ntmps27
  go_wp2_with fail
  refine (example_own _).mono ?_
  rintro e w1 ⟨g, rfl, hbg, hgl, hO1, hb1⟩
  have hB2 := below_alloc (Below.on (below_alloc (Below.refl w.heap.size w) (.cells #[.slice none 0 0] 24)) hb1) (.cells #[.slice (some ⟨g, 0, none⟩) 5 5] 24)
  have k1 := (hb1.block w.heap.size (by simp)).trans (blk_new w #[.slice none 0 0] 24)
  have k2 := blk_alloc k1 (.cells #[.slice (some ⟨g, 0, none⟩) 5 5] 24)
  have hw1 : w.heap.size < w1.heap.size := blk_lt k1
  have hbg' : w.heap.size + 1 ≤ g := by simpa using hbg
  have hO2 : OwnTree (w1.alloc (.cells #[.slice (some ⟨g, 0, none⟩) 5 5] 24)) (w.heap.size + 1) (.slice (some ⟨g, 0, none⟩) 5 5) 5 exT := by
    have := hO1.below (below_alloc (Below.refl _ _) (.cells #[.slice (some ⟨g, 0, none⟩) 5 5] 24))
    simpa using this
  have n1 : ¬ g = w1.heap.size := by omega
  have n2 : ¬ w1.heap.size = g := by omega
  have n3 : ¬ g = w.heap.size := by omega
  have n4 : ¬ w.heap.size = g := by omega
  have n5 : ¬ w.heap.size = w1.heap.size := by omega
  have n6 : ¬ w1.heap.size = w.heap.size := by omega
  have p1 := bx_cell k1
  have p2 : w1.frozen? ⟨w.heap.size, 0, none⟩ = false := blk_frozen k1 0
  have hB1 := Below.on (below_alloc (Below.refl w.heap.size w) (.cells #[.slice none 0 0] 24)) hb1
  have hO1' : Hid (OwnTree w1 (w.heap.size + 1) (.slice (some ⟨g, 0, none⟩) 5 5) 5 exT) := by
    have := hO1
    show OwnTree _ _ _ _ _
    simpa using this
  have hO2' := hide hO2
  have kb : w.heap.size + 1 ≤ (w.alloc (.cells #[.slice none 0 0] 24)).heap.size := by simp
  clear hbg hb1 k1 hO1 hO2
  have hOe := hide (hO2'.out.newA (i := 1) (by omega) rfl (by simp; omega) [(bs [49, 97], bs [])] (m := 1) rfl (by omega))
  obtain ⟨A1, ac1, C1, cc1, hN1⟩ := hO1'.out.at (i := 1) (by omega) rfl
  have q0 := hN1.c1
  have q1 := hN1.fz 5
  clear hN1
  go_wp2
  refine bodyPost_ret (v := .agg #[.slice (some ⟨g, 0, none⟩) 5 5]) (by simp only [results, Try.results27]; go_simp) rfl ⟨_, _, rfl, ?_, ?_⟩
  · have hz := hOe.out.set (p := ⟨w.heap.size, 0, none⟩) (by simp) (.slice (some ⟨g, 0, none⟩) 5 5)
    rw [push2 _ _ hgl hw1, size_one] at hz
    exact hz
  · exact below_alloc (below_alloc ((hB1.setCell (p := ⟨g, 5, none⟩) (by show w.heap.size ≤ g; omega) _).setCell (by simp) _) _) _
end Go.Proofs.Ytfidpmjjddkffaa
