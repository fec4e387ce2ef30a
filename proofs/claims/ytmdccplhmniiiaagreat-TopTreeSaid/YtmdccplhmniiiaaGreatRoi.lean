/- Rows of numbers that the call has made: a number is laid in their midst. Conditions as each states. -/
import Derived.Test.YtmdccplhmniiiaaGreatRow
import Derived.Test.YtmdccplhmniiiaaGreatPush
namespace Go.Proofs.YtmdccplhmniiiaaGreat
open Go.RowKit

theorem size_int : (Tryz.prog.info? 3).map (·.size) = some 1 := by kernel_rfl
set_option maxRecDepth 100000 in
set_option maxHeartbeats 4000000 in
/-- There is room, and the place is not the end. -/
theorem insI_shift (g n c i base : Nat) (xs vs : List Value) (W : World) (hown : W.ownsRow base 3 1 (.slice (some ⟨g, 0, none⟩) n c) n xs) (hi : i < n) (hn : n ≤ 1000) (hr : n + 1 ≤ c) (hv : vs.length = 1)
    (h1v : ∀ v ∈ vs, v.oneCell' = true) (h1x : ∀ v ∈ xs, v.oneCell' = true) (hbase : base ≤ W.heap.size) :
    Calls Tryz.prog 69 #[.slice (some ⟨g, 0, none⟩) n c, .int .i64 i, .slice (some ⟨W.heap.size, 0, none⟩) 1 1] (W.alloc (.cells vs.toArray 3))
      (MadeRow W base 3 1 (.slice (some ⟨g, 0, none⟩) n c) (n + 1) (xs.take i ++ vs ++ xs.drop i)) := by
  have hown0 := hown
  rcases hown.2 with ⟨h0, -⟩ | ⟨g', cap', cur, h0, hgb, hgc, hnc, hcm, hcs, hct⟩
  · cases h0
  cases h0
  have hgl : g < W.heap.size := (World.ownsRow.lt hown0 g rfl).2
  have hxl : xs.length = n := by simpa using hown0.1
  simp only [Nat.mul_one] at hcs hct
  have hz2 : ¬ ((i : Int) = (n : Int)) := by omega
  have hz3 : ¬ ((c : Int) < (n : Int) + 1) := by omega
  have hc63 : c ≤ 9223372036854775807 := by unfold maxLen at hcm; omega
  have hq1 : ¬ (c = i) := by omega
  have hq2 : ¬ (c = i + 1) := by omega
  have hov : ∀ lb cb, (callFunc 86 #[.slice (some ⟨W.heap.size, 0, none⟩) 1 1, .slice (some ⟨g, (i + 1), none⟩) lb cb]).run Tryz.prog (W.alloc (.cells vs.toArray 3)) = .ok (.value (.bool false)) (W.alloc (.cells vs.toArray 3)) := fun lb cb => by
    rw [run_callFunc_extern Tryz.func86 (by kernel_rfl) (by kernel_rfl) (by kernel_rfl) (e := Extern.SlicesOverlaps.overlaps #[22, 22] #[4]) (by kernel_rfl),
      Lib.run_overlaps_apart _ 22 4 3 Tryz.underlying22 1 (fun w => by kernel_rfl) ⟨W.heap.size, 0, none⟩ ⟨g, (i + 1), none⟩ 1 1 lb cb (by simp; omega) 3 3 1 (c) ?_ ?_ (by omega) ?_ ?_]
    · rfl
    · unfold World.shape?; rw [heap_alloc_new]; simp [hv]
    · simp [World.shape?, Below.heap_alloc _ _ _ hgl, hgc, hcs]
    · exact World.frozen?_alloc_at _ _ _ _ rfl
    · exact World.frozen?_alloc_at _ _ _ _ rfl
  have hr1 : ∀ ty dc sc, (Builtin.copy_ #[22, 22] ty #[.slice (some ⟨g, (i + 1), none⟩) (n - i) dc, .slice (some ⟨g, i, none⟩) (n + 1 - i) sc]).run Tryz.prog (W.alloc (.cells vs.toArray 3)).drew = _ := fun ty dc sc =>
    run_copyK _ _ _ ty 3 g (i + 1) (n - i) dc ⟨g, i, none⟩ (n + 1 - i) sc cur 3 (xs.drop i) (n - i) 1 Tryz.underlying22 size_int (by simp only [Nat.min_def]; split <;> omega)
      ((Below.heap_alloc _ _ _ hgl).trans hgc) (by rw [List.length_drop, hxl]; omega) (by rw [← hct]; exact src_row ((Below.heap_alloc _ _ _ hgl).trans hgc)) (by rw [List.length_drop, hxl, hcs]; omega) (fun v hv => h1x v (List.mem_of_mem_drop hv))
  obtain ⟨C1, hC1⟩ : ∃ C1, C1 = List.take (i + 1) cur.toList ++ List.drop i xs ++ List.drop ((i + 1) + (List.drop i xs).length) cur.toList := ⟨_, rfl⟩
  rw [← hC1] at hr1
  have hc1l : C1.length = c := by rw [hC1]; simp only [List.length_append, List.length_take, List.length_drop, Array.length_toList, hcs, hxl]; omega
  obtain ⟨W1, hW1⟩ : ∃ W1, W1 = (W.alloc (.cells vs.toArray 3)).drew.setRow g C1.toArray := ⟨_, rfl⟩
  have hg1 : W1.heap[g]? = some (.cells C1.toArray 3 (0, 0)) := by rw [hW1]; exact setRow_heap _ _ _ _ _ _ ((Below.heap_alloc _ _ _ hgl).trans hgc)
  have hv1 : W1.heap[W.heap.size]? = some (.cells vs.toArray 3 (0, 0)) := by rw [hW1, setRow_other _ _ _ _ (by omega)]; exact heap_alloc_new W _
  have hgr1 : (W.alloc (.cells vs.toArray 3)).grownBy W1 (some g) := by rw [hW1]; exact grownBy_drewRow _ _ _
  rw [← hW1] at hr1
  have hr2 : ∀ ty dc, (Builtin.copy_ #[22, 22] ty #[.slice (some ⟨g, i, none⟩) (n + 1 - i) dc, .slice (some ⟨W.heap.size, 0, none⟩) 1 1]).run Tryz.prog W1 = _ := fun ty dc =>
    run_copyK _ _ _ ty 3 g i (n + 1 - i) dc ⟨W.heap.size, 0, none⟩ 1 1 C1.toArray 3 vs 1 1 Tryz.underlying22 size_int (by simp only [Nat.min_def]; split <;> omega)
      hg1 (by rw [hv]) (src_new hv1) (by simp [hc1l, hv]; omega) h1v
  have hfin : (C1.take i ++ vs ++ C1.drop (i + 1)).take (n + 1) = xs.take i ++ vs ++ xs.drop i := by
    have := splice_shift (p := i) (s := 1) (vs := vs) (R := List.drop ((i + 1) + (List.drop i xs).length) cur.toList) hct (by omega) (by rw [Array.length_toList, hcs]; omega) hv (C := C1) hC1
    exact this
  have hE : MadeRow W base 3 1 (.slice (some ⟨g, 0, none⟩) n c) (n + 1) (xs.take i ++ vs ++ xs.drop i) (.returned (.slice (some ⟨g, 0, none⟩) (n + 1) c)) (W1.setRow g (C1.take i ++ (vs ++ C1.drop (i + 1))).toArray) := by
    refine ⟨_, _, rfl, own_row (setRow_heap _ _ _ _ _ _ hg1) hgb hr hcm ?_ (by rw [Nat.mul_one, ← List.append_assoc]; exact hfin), grew_of' hown0 hbase (grownBy_trans' hgr1 (grownBy_setRow _ _ _)) (fun k hk => .inl hk)⟩
    simp only [List.size_toArray, List.length_append, List.length_take, List.length_drop, hc1l, hv]; omega
  have hE' := hide hE
  have hr1' := hide hr1
  have hr2' := hide hr2
  clear hE hr1 hr2 hfin hgr1 hv1 hg1 hW1 hc1l hC1 hxl hcs hct hgc
  go_enter Tryz.func69, Tryz.ntmps69
  go_wp2_with (simp only [hov])
  have hw1 : IntKind.i64.wrap ((i : Int) + 1) = (i : Int) + 1 := by rw [IntKind.wrap_i64]; omega
  have hb1 : (0 : Int) ≤ (i : Int) + 1 := by omega
  have hb3 : (i : Int) + 1 ≤ (n : Int) + 1 := by omega
  have hb4 : (i : Int) ≤ (n : Int) := by omega
  have hb5 : (i : Int) ≤ (n : Int) + 1 := by omega
  have htn : ((i : Int) + 1).toNat = i + 1 := by omega
  go_region_law (refine step_copy_eq rfl _ _ 22 22 rfl (.slice (some ⟨g, (i + 1), none⟩) (n - i) (c - (i + 1))) (.slice (some ⟨g, i, none⟩) (n + 1 - i) (c - i)) (by simp [Act.eval, Act.put]) (by simp [Act.eval, Act.put]) (hr1'.out 3 (c - (i + 1)) (c - i)) ?_)
  go_wp2_with ((with_reducible refine wpList_copy_lit (k := 82) _ _ _ _ (.slice (some ⟨g, i, none⟩) (n + 1 - i) (c - i)) (.slice (some ⟨W.heap.size, 0, none⟩) 1 1) ?_ ?_ (hr2'.out _ _) ?_); rfl; rfl)
  go_ret
  exact hE'.out

set_option maxRecDepth 100000 in
set_option maxHeartbeats 4000000 in
/-- There is no room, and the place is not the end. -/
theorem insI_grow (g n c i base : Nat) (xs vs : List Value) (W : World) (hown : W.ownsRow base 3 1 (.slice (some ⟨g, 0, none⟩) n c) n xs) (hi : i < n) (hn : n ≤ 1000) (hr : ¬ n + 1 ≤ c) (hv : vs.length = 1)
    (h1v : ∀ v ∈ vs, v.oneCell' = true) (h1x : ∀ v ∈ xs, v.oneCell' = true) (hbase : base ≤ W.heap.size) :
    Calls Tryz.prog 69 #[.slice (some ⟨g, 0, none⟩) n c, .int .i64 i, .slice (some ⟨W.heap.size, 0, none⟩) 1 1] (W.alloc (.cells vs.toArray 3))
      (MadeRow W base 3 1 (.slice (some ⟨g, 0, none⟩) n c) (n + 1) (xs.take i ++ vs ++ xs.drop i)) := by
  obtain ⟨i0, hi0, hz0, hzs, hzb⟩ := info_parts info_int
  have hown0 := hown
  rcases hown.2 with ⟨h0, -⟩ | ⟨g', cap', cur, h0, hgb, hgc, hnc, hcm, hcs, hct⟩
  · cases h0
  cases h0
  have hgl : g < W.heap.size := (World.ownsRow.lt hown0 g rfl).2
  have hxl : xs.length = n := by simpa using hown0.1
  simp only [Nat.mul_one] at hcs hct
  obtain rfl : n = c := by omega
  have hz2 : ¬ ((i : Int) = (n : Int)) := by omega
  have hz3 : (n : Int) < (n : Int) + 1 := by omega
  have hW0 : (W.alloc (.cells vs.toArray 3)).heap.size = W.heap.size + 1 := by simp
  have hg0 : (W.alloc (.cells vs.toArray 3)).heap[g]? = some (.cells cur 3 (0, 0)) := (Below.heap_alloc _ _ _ hgl).trans hgc
  have hv0 : (W.alloc (.cells vs.toArray 3)).heap[W.heap.size]? = some (.cells vs.toArray 3 (0, 0)) := heap_alloc_new W _
  have hgr0 : (W.alloc (.cells vs.toArray 3)).grownBy (W.alloc (.cells vs.toArray 3)) (some g) := World.grownBy.refl _ _
  obtain ⟨W0, hWW⟩ : ∃ W0, W0 = W.alloc (.cells vs.toArray 3) := ⟨_, rfl⟩
  rw [← hWW] at hW0 hg0 hv0 hgr0
  have hold : (Builtin.firstCells i0.size i (.slice (some ⟨g, 0, none⟩) i n)).run Tryz.prog W0.drew = .ok (xs.take i).toArray W0.drew := by
    rw [hzs]
    exact Go.run_firstCells_some W0.drew 1 i ⟨g, 0, none⟩ i n (xs.take i) (by rw [List.length_take]; omega) (fun j v hj => by
      have := src_row (o := 0) (m := i) hg0 j v (by rw [List.drop_zero, ← hj, ← hct, List.take_take, Nat.min_eq_left (by omega)])
      exact this)
  have hrz : ∀ ty, (Builtin.append_ #[22, 3] ty #[.slice (some ⟨g, 0, none⟩) i n, .int .i64 ((n + 1 - i : Nat) : Int)]).run Tryz.prog W0 = _ := fun ty =>
    Lib.run_append_grow_zeros W0 22 3 ty 3 i0 _ .i64 .i64 Tryz.underlying22 Tryz.underlying3 hi0 hz0 (some ⟨g, 0, none⟩) i n (xs.take i) hold (n + 1 - i) (by omega) (by omega) (by omega) (by omega) (by rw [hzb]; omega) (by rw [hzb]; exact growslice_fits (by omega) (by omega))
  rw [show i + (n + 1 - i) = n + 1 by omega] at hrz
  have hGn := grownCap_ge W0 (n + 1) n 3
  have hGm := grownCap_le_maxLen W0 (n + 1) n 3 (by unfold maxLen; omega)
  generalize grownCap W0 (n + 1) n 3 = G at hrz hGn hGm
  obtain ⟨ROW, hROW⟩ : ∃ ROW : Array Value, ROW = (xs.take i).toArray ++ Builtin.zeroCells (Value.int .i64 0).cells (n + 1 - i) ++ Builtin.zeroCells (Value.int .i64 0).cells (G - (n + 1)) := ⟨_, rfl⟩
  have hRs : ROW.size = G := by
    rw [hROW]
    simp only [Array.size_append, zeroCells_size, List.size_toArray, List.length_take, hxl]
    have : (Value.int .i64 0).cells.size = 1 := by kernel_rfl
    rw [this]; omega
  have hRt : ROW.toList.take i = xs.take i := by
    rw [hROW]
    simp only [Array.toList_append]
    rw [List.append_assoc]
    exact List.take_left' (by rw [List.length_take]; omega)
  rw [← hROW] at hrz
  obtain ⟨W1, hW1⟩ : ∃ W1, W1 = W0.drew.alloc (.cells ROW 3) := ⟨_, rfl⟩
  have hg1 : W1.heap[g]? = some (.cells cur 3 (0, 0)) := by rw [hW1]; exact (Below.heap_alloc W0.drew _ _ (by show g < W0.heap.size; omega)).trans hg0
  have hv1 : W1.heap[W.heap.size]? = some (.cells vs.toArray 3 (0, 0)) := by rw [hW1]; exact (Below.heap_alloc W0.drew _ _ (by show W.heap.size < W0.heap.size; omega)).trans hv0
  have hh1 : W1.heap[W.heap.size + 1]? = some (.cells ROW 3 (0, 0)) := by rw [hW1, ← hW0]; exact heap_alloc_new W0.drew _
  have hgr1 : W0.grownBy W1 none := by
    rw [hW1]
    have h := World.grownBy_alloc W0.drew (.cells ROW 3) none
    exact ⟨h.os, h.tape, h.output, h.size, h.block⟩
  rw [← hW1, hW0] at hrz
  have hr2 : ∀ ty dc, (Builtin.copy_ #[22, 22] ty #[.slice (some ⟨W.heap.size + 1, i, none⟩) (n + 1 - i) dc, .slice (some ⟨W.heap.size, 0, none⟩) 1 1]).run Tryz.prog W1 = _ := fun ty dc =>
    run_copyK _ _ _ ty 3 (W.heap.size + 1) i (n + 1 - i) dc ⟨W.heap.size, 0, none⟩ 1 1 ROW 3 vs 1 1 Tryz.underlying22 size_int (by simp only [Nat.min_def]; split <;> omega)
      hh1 (by rw [hv]) (src_new hv1) (by rw [hRs, hv]; omega) h1v
  obtain ⟨C1, hC1⟩ : ∃ C1, C1 = List.take i ROW.toList ++ vs ++ List.drop (i + vs.length) ROW.toList := ⟨_, rfl⟩
  have hc1l : C1.length = G := by rw [hC1]; simp only [List.length_append, List.length_take, List.length_drop, Array.length_toList, hRs, hv]; omega
  rw [← hC1] at hr2
  obtain ⟨W2, hW2⟩ : ∃ W2, W2 = W1.setRow (W.heap.size + 1) C1.toArray := ⟨_, rfl⟩
  have hg2 : W2.heap[g]? = some (.cells cur 3 (0, 0)) := by rw [hW2, setRow_other _ _ _ _ (by omega)]; exact hg1
  have hh2 : W2.heap[W.heap.size + 1]? = some (.cells C1.toArray 3 (0, 0)) := by rw [hW2]; exact setRow_heap _ _ _ _ _ _ hh1
  have hgr2 : W1.grownBy W2 (some (W.heap.size + 1)) := by rw [hW2]; exact grownBy_setRow _ _ _
  rw [← hW2] at hr2
  have hr3 : ∀ ty dc sc, (Builtin.copy_ #[22, 22] ty #[.slice (some ⟨W.heap.size + 1, (i + 1), none⟩) (n - i) dc, .slice (some ⟨g, i, none⟩) (n - i) sc]).run Tryz.prog W2.drew = _ := fun ty dc sc =>
    run_copyK W2.drew _ _ ty 3 (W.heap.size + 1) (i + 1) (n - i) dc ⟨g, i, none⟩ (n - i) sc C1.toArray 3 (xs.drop i) (n - i) 1 Tryz.underlying22 size_int (by simp only [Nat.min_def]; split <;> omega)
      hh2 (by rw [List.length_drop, hxl]; omega) (by rw [← hct]; exact src_row hg2) (by rw [List.length_drop, hxl, List.size_toArray, hc1l]; omega) (fun v hv => h1x v (List.mem_of_mem_drop hv))
  obtain ⟨W3, hW3⟩ : ∃ W3, W3 = W2.drew.setRow (W.heap.size + 1) (C1.toArray.toList.take (i + 1) ++ xs.drop i ++ C1.toArray.toList.drop ((i + 1) + (xs.drop i).length)).toArray := ⟨_, rfl⟩
  have hh3 : W3.heap[W.heap.size + 1]? = some (.cells (C1.toArray.toList.take (i + 1) ++ xs.drop i ++ C1.toArray.toList.drop ((i + 1) + (xs.drop i).length)).toArray 3 (0, 0)) := by rw [hW3]; exact setRow_heap W2.drew _ _ _ _ _ hh2
  have hgr3 : W2.grownBy W3 (some (W.heap.size + 1)) := by rw [hW3]; exact grownBy_drewRow _ _ _
  rw [← hW3] at hr3
  have hgrAll : W0.grownBy W3 none := World.grownBy.andThen' hgr1 (World.grownBy.andThen' hgr2 hgr3 (fun j hj => .inr hj)) (fun j hj => .inl (by injection hj with hj; omega))
  have hE : MadeRow W base 3 1 (.slice (some ⟨g, 0, none⟩) n n) (n + 1) (xs.take i ++ vs ++ xs.drop i) (.returned (.slice (some ⟨W.heap.size + 1, 0, none⟩) (n + 1) G)) W3 := by
    refine ⟨_, _, rfl, own_row hh3 (by omega) hGn hGm ?_ ?_, grew_of' hown0 hbase (o := .cells vs.toArray 3) ?_ (fun k hk => .inr (by simp [Value.ownBlock] at hk; omega))⟩
    · simp only [List.size_toArray, List.length_append, List.length_take, List.length_drop, hc1l, hxl]; omega
    · have := splice_grow (p := i) (s := 1) (vs := vs) (R := List.drop (i + vs.length) ROW.toList) (R' := C1.drop ((i + 1) + (xs.drop i).length)) hxl hRt (by omega) hv hC1
      rw [← List.append_assoc] at this
      rw [Nat.mul_one]
      exact this
    · rw [← hWW]; exact World.grownBy.but' hgrAll _
  have hE' := hide hE
  have hkk : (n : Int) + 1 - (i : Int) = ((n + 1 - i : Nat) : Int) := by omega
  rw [← hkk] at hrz
  have hrz' := hide hrz
  have hr2' := hide hr2
  have hr3' := hide hr3
  have hGi : ¬ (G = i) := by omega
  have hGj : ¬ (G = i + 1) := by omega
  have hG63 : G ≤ 9223372036854775807 := by unfold maxLen at hGm; omega
  clear hE hrz hr2 hr3 hgrAll hgr3 hh3 hW3 hgr2 hh2 hg2 hW2 hc1l hC1 hgr1 hh1 hv1 hg1 hW1 hRt hRs hROW hold hkk hGn hGm hgr0 hv0 hg0 hW0 hxl hcs hct hgc
  subst hWW
  go_enter Tryz.func69, Tryz.ntmps69
  go_wp2_with (first | (at_builtin; refine Lib.wpList_append_run _ rfl _ _ _ _ rfl _ _ rfl rfl _ _ (hrz'.out _) ?_) | ((with_reducible refine wpList_copy_lit (k := 45) _ _ _ _ (.slice (some ⟨W.heap.size + 1, i, none⟩) (n + 1 - i) (G - i)) (.slice (some ⟨W.heap.size, 0, none⟩) 1 1) ?_ ?_ (hr2'.out _ _) ?_); rfl; rfl))
  have hw1 : IntKind.i64.wrap ((i : Int) + 1) = (i : Int) + 1 := by rw [IntKind.wrap_i64]; omega
  have hb1 : (0 : Int) ≤ (i : Int) + 1 := by omega
  have hb3 : (i : Int) + 1 ≤ (n : Int) + 1 := by omega
  have hb4 : (i : Int) ≤ (n : Int) := by omega
  have hb5 : (i : Int) ≤ (n : Int) + 1 := by omega
  have hb6 : ¬ (n = i) := by omega
  have htn : ((i : Int) + 1).toNat = i + 1 := by omega
  go_region_law (refine step_copy_eq rfl _ _ 22 22 rfl (.slice (some ⟨W.heap.size + 1, (i + 1), none⟩) (n - i) (G - (i + 1))) (.slice (some ⟨g, i, none⟩) (n - i) (n - i)) (by simp [Act.eval, Act.put]) (by simp [Act.eval, Act.put]) (hr3'.out 3 (G - (i + 1)) (n - i)) ?_)
  go_wp2
  go_ret
  exact hE'.out
set_option maxRecDepth 100000 in
set_option maxHeartbeats 4000000 in
/-- The place is the end. -/
theorem insI_end (A : Option Addr) (n c base : Nat) (xs vs : List Value) (W : World) (hown : W.ownsRow base 3 1 (.slice A n c) n xs) (hn : n ≤ 1000) (hv : vs.length = 1)
    (h1v : ∀ v ∈ vs, v.oneCell' = true) (hbase : base ≤ W.heap.size) :
    Calls Tryz.prog 69 #[.slice A n c, .int .i64 n, .slice (some ⟨W.heap.size, 0, none⟩) 1 1] (W.alloc (.cells vs.toArray 3))
      (MadeRow W base 3 1 (.slice A n c) (n + 1) (xs ++ vs)) := by
  obtain ⟨i0, hI, hz0, hz1, hz2⟩ := info_parts info_int
  obtain ⟨A', c', hv0, hnc, hcm⟩ := sl_of_own hown
  injection hv0 with e1 e2 e3
  subst e3
  have hc63 : c ≤ 9223372036854775807 := by unfold maxLen at hcm; omega
  have hown' := hide hown
  have hown2 := hide (World.ownsRow.alloc hown (.cells vs.toArray 3))
  have hsrc := hide (src_new (heap_alloc_new W (.cells vs.toArray 3)))
  have h1v' := hide h1v
  have hv' := hide hv
  subst e1
  clear hown h1v hv e2
  have hA : A = none → n = c := fun h => by
    subst h
    rcases hown'.out.2 with ⟨h0, _⟩ | ⟨g, cap, cur, h0, _⟩
    · injection h0 with _ h1 h2; omega
    · cases h0
  have hA' := hide hA
  clear hA
  go_enter Tryz.func69, Tryz.ntmps69
  go_wp2_with (at_builtin; refine wpList_append_mine rfl _ _ 22 rfl 3 i0 (.int .i64 0) 1 8 Tryz.underlying22 hI hz0 hz1 hz2 rfl (by decide) hown2.out rfl ⟨W.heap.size, 0, none⟩ 1 1 vs rfl (by rw [hv'.out]) hsrc.out h1v'.out (by decide) (by unfold maxLen; omega) (by omega) (by simp; omega) ?_; intro v' w' hownv hgv hwv)
  all_goals
    have hM := end_made (c' := c) hown'.out hbase hownv hgv hwv
    have hM' := end_made (c' := n) hown'.out hbase hownv hgv hwv
    obtain ⟨A2, c2, hv2, _, _⟩ := sl_of_own hownv
    subst hv2
    go_ret
    first | exact hM | exact hM'

/-- slices.Insert of one number. -/
theorem insI_ok (A : Option Addr) (n c i base : Nat) (xs vs : List Value) (W : World) (hown : W.ownsRow base 3 1 (.slice A n c) n xs) (hi : i ≤ n) (hn : n ≤ 1000) (hv : vs.length = 1)
    (h1v : ∀ v ∈ vs, v.oneCell' = true) (h1x : ∀ v ∈ xs, v.oneCell' = true) (hbase : base ≤ W.heap.size) :
    Calls Tryz.prog 69 #[.slice A n c, .int .i64 i, .slice (some ⟨W.heap.size, 0, none⟩) 1 1] (W.alloc (.cells vs.toArray 3))
      (MadeRow W base 3 1 (.slice A n c) (n + 1) (xs.take i ++ vs ++ xs.drop i)) := by
  by_cases hin : i = n
  · subst hin
    have := insI_end A i c base xs vs W hown hn hv h1v hbase
    rw [List.take_of_length_le (by rw [hown.1]; omega), List.drop_of_length_le (by rw [hown.1]; omega), List.append_nil]
    exact this
  · rcases hown.2 with ⟨h0, h1⟩ | ⟨g, cap, cur, h0, -⟩
    · omega
    · cases h0
      by_cases hr : n + 1 ≤ c
      · exact insI_shift g n c i base xs vs W hown (by omega) hn hr hv h1v h1x hbase
      · exact insI_grow g n c i base xs vs W hown (by omega) hn hr hv h1v h1x hbase
end Go.Proofs.YtmdccplhmniiiaaGreat
