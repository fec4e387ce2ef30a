/- Walks: the chapter's tree, in which something is not right: those that take more than one store. No condition. -/
import Derived.Test.YtfidpmjjddkffaaSpb
import Derived.Test.YtfidpmjjddkffaaFk
import Derived.Deep.RegionHeld3
namespace Go.Proofs.Ytfidpmjjddkffaa
open Go.RowKit

theorem setCell_comm (w : World) {g i h j : Nat} (hij : ¬ i = j) (x y : Value) : (w.setCell ⟨g, i, none⟩ x).setCell ⟨h, j, none⟩ y = (w.setCell ⟨h, j, none⟩ y).setCell ⟨g, i, none⟩ x := by
  unfold World.setCell
  simp only
  congr 1
  apply Array.ext
  · simp
  · intro k h1 h2
    simp only [Array.getElem_modify, Option.isSome_none, Bool.false_eq_true, if_false]
    by_cases hg : g = k
    · by_cases hh : h = k
      · simp only [hg, hh, if_true]
        cases w.heap[k]'(by simpa using h1) with
        | cells c e f => simp only; rw [Array.setIfInBounds_comm _ _ hij]
        | _ => rfl
      · simp only [hg, hh, if_true, if_false]
    · by_cases hh : h = k
      · simp only [hg, hh, if_true, if_false]
      · simp only [hg, hh, if_false]
theorem far_al {w : World} {a : Addr} {u : Value} (h : w.cell? a = some u) (o : Obj) : (w.alloc o).cell? a = some u := cell_later (below_alloc (Below.refl _ _) _) h
theorem far_st {w : World} {a : Addr} {q i : Nat} {u : Value} (h : w.cell? a = some u) (x : Value) (hne : q ≠ a.block) : (w.setCell ⟨q, i, none⟩ x).cell? a = some u := (World.cell?_setCell_far _ _ _ _ hne).trans h
theorem OwnTree.drew' {w : World} {base k : Nat} {v : Value} {T : List ANode} (h : OwnTree w base v k T) : OwnTree w.drew base v k T := h.below (Below.refl _ _).drew
set_option maxRecDepth 100000 in
set_option maxHeartbeats 1000000 in
theorem spoilt11 (w : World) : Calls Try.prog 27 #[.int .i64 11] w (MadeSp w 5 (setK (setP exT 4 4) 4 [4])) := by
  go_enter Try.func27, Try.ntmps27
  go_wp2_with fail
  refine (example_own _).mono ?_
  rintro e w1 ⟨g, rfl, hbg, hgl, hO1, hb1⟩
  have hB2 := below_alloc (Below.on (below_alloc (Below.refl w.heap.size w) (.cells #[.slice none 0 0] 24)) hb1) (.cells #[.slice (some ⟨g, 0, none⟩) 5 5] 24)
  have k1 := (hb1.block w.heap.size (by simp)).trans (blk_new w #[.slice none 0 0] 24)
  have k2 := blk_alloc k1 (.cells #[.slice (some ⟨g, 0, none⟩) 5 5] 24)
  have hw1 : w.heap.size < w1.heap.size := blk_lt k1
  have hbg' : w.heap.size + 1 ≤ g := by simpa using hbg
  have hO2 : OwnTree (w1.alloc (.cells #[.slice (some ⟨g, 0, none⟩) 5 5] 24)) (w.heap.size + 1) (.slice (some ⟨g, 0, none⟩) 5 5) 5 exT := by
    have := hO1.below (below_alloc (Below.refl _ _) (.cells #[.slice (some ⟨g, 0, none⟩) 5 5] 24))
    simpa using this
  have n1 : ¬ g = w1.heap.size := by omega
  have n2 : ¬ w1.heap.size = g := by omega
  have n3 : ¬ g = w.heap.size := by omega
  have n4 : ¬ w.heap.size = g := by omega
  have n5 : ¬ w.heap.size = w1.heap.size := by omega
  have n6 : ¬ w1.heap.size = w.heap.size := by omega
  have p1 := bx_cell k1
  have p2 : w1.frozen? ⟨w.heap.size, 0, none⟩ = false := blk_frozen k1 0
  have hB1 := Below.on (below_alloc (Below.refl w.heap.size w) (.cells #[.slice none 0 0] 24)) hb1
  have hO1' : Hid (OwnTree w1 (w.heap.size + 1) (.slice (some ⟨g, 0, none⟩) 5 5) 5 exT) := by
    have := hO1
    show OwnTree _ _ _ _ _
    simpa using this
  have hO2' := hide hO2
  have kb : w.heap.size + 1 ≤ (w.alloc (.cells #[.slice none 0 0] 24)).heap.size := by simp
  clear hbg hb1 k1 hO1 hO2
  obtain ⟨A4, ac4, C4, cc4, hN4⟩ := hO1'.out.at (i := 4) (by omega) rfl
  have q0 : w1.cell? ⟨g, 18, none⟩ = _ := hN4.c2
  have f0 := hN4.fz 18
  have q1 : w1.cell? ⟨g, 19, none⟩ = _ := hN4.c3
  have f1 := hN4.fz 19
  clear hN4
  have hOa := hO2'.out.newP (i := 4) (by omega) rfl 4
  have hOe := hide ((hOa.newK (i := 4) (by omega) rfl (by simp; omega) [4] (m := 1) rfl (by omega)).set (p := ⟨w.heap.size, 0, none⟩) (by simp) (.slice (some ⟨g, 0, none⟩) 5 5))
  clear hOa
  go_wp2_with fail
  go_region
  go_wp2
  refine bodyPost_ret (v := .agg #[.slice (some ⟨g, 0, none⟩) 5 5]) (by simp only [results, Try.results27]; go_simp) rfl ⟨_, _, rfl, ?_, ?_⟩
  · have hz := hOe.out.drew'
    simp (disch := (first | omega | (simp; omega))) only [World.setCell_alloc_past] at hz
    simp only [World.size_setCell, size_one] at hz
    exact hz
  · exact (below_alloc (below_alloc (((hB1.setCell (p := ⟨g, 18, none⟩) (by show w.heap.size ≤ g; omega) _).setCell (p := ⟨g, 19, none⟩) (by show w.heap.size ≤ g; omega) _).setCell (by simp) _) _) _).drew
set_option maxRecDepth 100000 in
set_option maxHeartbeats 1000000 in
theorem spoilt10 (w : World) : Calls Try.prog 27 #[.int .i64 10] w (MadeSp w 5 (setK (setP (setK exT 0 [1]) 2 3) 3 [2])) := by
  go_enter Try.func27, Try.ntmps27
  go_wp2_with fail
  refine (example_own _).mono ?_
  rintro e w1 ⟨g, rfl, hbg, hgl, hO1, hb1⟩
  have hB2 := below_alloc (Below.on (below_alloc (Below.refl w.heap.size w) (.cells #[.slice none 0 0] 24)) hb1) (.cells #[.slice (some ⟨g, 0, none⟩) 5 5] 24)
  have k1 := (hb1.block w.heap.size (by simp)).trans (blk_new w #[.slice none 0 0] 24)
  have k2 := blk_alloc k1 (.cells #[.slice (some ⟨g, 0, none⟩) 5 5] 24)
  have hw1 : w.heap.size < w1.heap.size := blk_lt k1
  have hbg' : w.heap.size + 1 ≤ g := by simpa using hbg
  have hO2 : OwnTree (w1.alloc (.cells #[.slice (some ⟨g, 0, none⟩) 5 5] 24)) (w.heap.size + 1) (.slice (some ⟨g, 0, none⟩) 5 5) 5 exT := by
    have := hO1.below (below_alloc (Below.refl _ _) (.cells #[.slice (some ⟨g, 0, none⟩) 5 5] 24))
    simpa using this
  have n1 : ¬ g = w1.heap.size := by omega
  have n2 : ¬ w1.heap.size = g := by omega
  have n3 : ¬ g = w.heap.size := by omega
  have n4 : ¬ w.heap.size = g := by omega
  have n5 : ¬ w.heap.size = w1.heap.size := by omega
  have n6 : ¬ w1.heap.size = w.heap.size := by omega
  have p1 := bx_cell k1
  have p2 : w1.frozen? ⟨w.heap.size, 0, none⟩ = false := blk_frozen k1 0
  have hB1 := Below.on (below_alloc (Below.refl w.heap.size w) (.cells #[.slice none 0 0] 24)) hb1
  have hO1' : Hid (OwnTree w1 (w.heap.size + 1) (.slice (some ⟨g, 0, none⟩) 5 5) 5 exT) := by
    have := hO1
    show OwnTree _ _ _ _ _
    simpa using this
  have hO2' := hide hO2
  have kb : w.heap.size + 1 ≤ (w.alloc (.cells #[.slice none 0 0] 24)).heap.size := by simp
  clear hbg hb1 k1 hO1 hO2
  obtain ⟨A0, ac0, C0, cc0, hN0⟩ := hO1'.out.at (i := 0) (by omega) rfl
  have q0 : w1.cell? ⟨g, 3, none⟩ = _ := hN0.c3
  have f0 := hN0.fz 3
  clear hN0
  obtain ⟨A2, ac2, C2, cc2, hN2⟩ := hO1'.out.at (i := 2) (by omega) rfl
  have q1 : w1.cell? ⟨g, 10, none⟩ = _ := hN2.c2
  have f1 := hN2.fz 10
  clear hN2
  obtain ⟨A3, ac3, C3, cc3, hN3⟩ := hO1'.out.at (i := 3) (by omega) rfl
  have q2 : w1.cell? ⟨g, 15, none⟩ = _ := hN3.c3
  have f2 := hN3.fz 15
  clear hN3
  have l1 : g < w1.heap.size + 1 := by omega
  have l2 : g < w1.heap.size + 1 + 1 := by omega
  have l3 : w.heap.size < w1.heap.size + 1 := by omega
  have l4 : w.heap.size < w1.heap.size + 1 + 1 := by omega
  have hOe := hide ((((hO2'.out.newK (i := 0) (by omega) rfl (by simp; omega) [1] (m := 1) rfl (by omega)).newP (i := 2) (by omega) rfl 3).newK (i := 3) (by omega) rfl (by simp; omega) [2] (m := 1) rfl (by omega)).set (p := ⟨w.heap.size, 0, none⟩) (by simp) (.slice (some ⟨g, 0, none⟩) 5 5))
  have hOf := hide ((((hO2'.out.newK (i := 3) (by omega) rfl (by simp; omega) [2] (m := 1) rfl (by omega)).newK (i := 0) (by omega) rfl (by simp; omega) [1] (m := 1) rfl (by omega)).newP (i := 2) (by omega) rfl 3).set (p := ⟨w.heap.size, 0, none⟩) (by simp) (.slice (some ⟨g, 0, none⟩) 5 5))
  go_wp2_with fail
  go_region
  · go_wp2
    refine bodyPost_ret (v := .agg #[.slice (some ⟨g, 0, none⟩) 5 5]) (by simp only [results, Try.results27]; go_simp) rfl ⟨_, _, rfl, ?_, ?_⟩
    · have hz := hOe.out.drew'
      simp (disch := (first | omega | (simp; omega))) only [World.setCell_alloc_past] at hz
      simp only [World.size_setCell, size_one] at hz
      exact hz
    · exact (below_alloc (below_alloc (below_alloc ((((hB1.setCell (p := ⟨g, 3, none⟩) (by show w.heap.size ≤ g; omega) _).setCell (p := ⟨g, 10, none⟩) (by show w.heap.size ≤ g; omega) _).setCell (p := ⟨g, 15, none⟩) (by show w.heap.size ≤ g; omega) _).setCell (by simp) _) _) _) _).drew
  · go_wp2
    refine bodyPost_ret (v := .agg #[.slice (some ⟨g, 0, none⟩) 5 5]) (by simp only [results, Try.results27]; go_simp) rfl ⟨_, _, rfl, ?_, ?_⟩
    · have hz := hOf.out.drew'
      simp (disch := (first | omega | (simp; omega))) only [World.setCell_alloc_past] at hz
      simp only [World.size_setCell, size_one] at hz
      rw [setCell_comm _ (g := g) (h := g) (i := 10) (j := 15) (by omega), setCell_comm _ (g := g) (h := g) (i := 3) (j := 15) (by omega)]
      exact hz
    · exact (below_alloc (below_alloc (below_alloc ((((hB1.setCell (p := ⟨g, 3, none⟩) (by show w.heap.size ≤ g; omega) _).setCell (p := ⟨g, 10, none⟩) (by show w.heap.size ≤ g; omega) _).setCell (p := ⟨g, 15, none⟩) (by show w.heap.size ≤ g; omega) _).setCell (by simp) _) _) _) _).drew
set_option maxRecDepth 100000 in
set_option maxHeartbeats 1000000 in
theorem spoilt15 (w : World) : Calls Try.prog 27 #[.int .i64 15] w (MadeSp w 5 (setA exT 1 [(bs [97], longS 401)])) := by
  go_enter Try.func27, Try.ntmps27
  go_wp2_with fail
  refine (example_own _).mono ?_
  rintro e w1 ⟨g, rfl, hbg, hgl, hO1, hb1⟩
  have hB2 := below_alloc (Below.on (below_alloc (Below.refl w.heap.size w) (.cells #[.slice none 0 0] 24)) hb1) (.cells #[.slice (some ⟨g, 0, none⟩) 5 5] 24)
  have k1 := (hb1.block w.heap.size (by simp)).trans (blk_new w #[.slice none 0 0] 24)
  have k2 := blk_alloc k1 (.cells #[.slice (some ⟨g, 0, none⟩) 5 5] 24)
  have hw1 : w.heap.size < w1.heap.size := blk_lt k1
  have hbg' : w.heap.size + 1 ≤ g := by simpa using hbg
  have hO2 : OwnTree (w1.alloc (.cells #[.slice (some ⟨g, 0, none⟩) 5 5] 24)) (w.heap.size + 1) (.slice (some ⟨g, 0, none⟩) 5 5) 5 exT := by
    have := hO1.below (below_alloc (Below.refl _ _) (.cells #[.slice (some ⟨g, 0, none⟩) 5 5] 24))
    simpa using this
  have n1 : ¬ g = w1.heap.size := by omega
  have n2 : ¬ w1.heap.size = g := by omega
  have n3 : ¬ g = w.heap.size := by omega
  have n4 : ¬ w.heap.size = g := by omega
  have n5 : ¬ w.heap.size = w1.heap.size := by omega
  have n6 : ¬ w1.heap.size = w.heap.size := by omega
  have p1 := bx_cell k1
  have p2 : w1.frozen? ⟨w.heap.size, 0, none⟩ = false := blk_frozen k1 0
  have hB1 := Below.on (below_alloc (Below.refl w.heap.size w) (.cells #[.slice none 0 0] 24)) hb1
  have hO1' : Hid (OwnTree w1 (w.heap.size + 1) (.slice (some ⟨g, 0, none⟩) 5 5) 5 exT) := by
    have := hO1
    show OwnTree _ _ _ _ _
    simpa using this
  have hO2' := hide hO2
  have kb : w.heap.size + 1 ≤ (w.alloc (.cells #[.slice none 0 0] 24)).heap.size := by simp
  clear hbg hb1 k1 hO1 hO2
  obtain ⟨A1, ac1, C1, cc1, hN1⟩ := hO1'.out.at (i := 1) (by omega) rfl
  have q0 : w1.cell? ⟨g, 5, none⟩ = _ := hN1.c1
  have f0 := hN1.fz 5
  clear hN1
  have kbox : (w1.alloc (.cells #[.slice (some ⟨g, 0, none⟩) 5 5] 24)).cell? ⟨w1.heap.size, 0, none⟩ = some (.slice (some ⟨g, 0, none⟩) 5 5) := by go_simp
  go_wp2_with fail
  go_region_held3 (fun X => X.cell? ⟨w1.heap.size, 0, none⟩ = some (.slice (some ⟨g, 0, none⟩) 5 5)) (first | exact kbox | exact r0 | exact far_al r0 _ | exact far_al (far_st r0 _ (by omega)) _) (first | (go_at_call 28; refine (long_ok 401 (by decide) _).mono ?_; rintro e w2 ⟨rfl, hb2⟩; have r0 := cell_later hb2 kbox; have hbw := Below.on (below_alloc (Below.refl w1.heap.size w1) _).drew hb2; have s0 := cell_later hbw q0; have s1 := (hbw.frozen (p := ⟨g, 5, none⟩) hgl).trans f0; have s2 := cell_later hbw p1; have s3 := (hbw.frozen (p := ⟨w.heap.size, 0, none⟩) hw1).trans p2; have y3 : w1.heap.size < w2.heap.size := cell_in r0; have y1 : w.heap.size < w2.heap.size := Nat.lt_trans hw1 y3; have y2 : g < w2.heap.size := Nat.lt_trans hgl y3; have y4 : ¬ g = w2.heap.size := (by omega); have y5 : ¬ w2.heap.size = g := (by omega); have y6 : ¬ w2.heap.size = w.heap.size := (by omega); have y7 : ¬ w2.heap.size = w1.heap.size := (by omega)))
  go_wp2
  refine bodyPost_ret (v := .agg #[.slice (some ⟨g, 0, none⟩) 5 5]) (by simp only [results, Try.results27]; go_simp) rfl ⟨_, _, rfl, ?_, ?_⟩
  · have hz := (((hO2'.out.below (Below.on (Below.refl _ _).drew hb2)).newA (i := 1) (by omega) rfl (by omega) [(bs [97], longS 401)] (m := 1) rfl (by omega)).set (p := ⟨w.heap.size, 0, none⟩) (by simp) (.slice (some ⟨g, 0, none⟩) 5 5))
    simp (disch := (first | omega | (simp; omega))) only [World.setCell_alloc_past] at hz
    exact hz
  · exact below_alloc (((Below.on hB1 hbw).setCell (p := ⟨g, 5, none⟩) (by show w.heap.size ≤ g; omega) _).setCell (by simp) _) _
end Go.Proofs.Ytfidpmjjddkffaa
