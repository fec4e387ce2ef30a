/- Walks: taking an element out, with its errors, by the program. No condition. -/
import Derived.Test.YtmdccplhmniiiaaGreatMub
import Derived.Test.YtmdccplhmniiiaaGreatAset
namespace Go.Proofs.YtmdccplhmniiiaaGreat
open Go.RowKit

/-- The error of a tree, an element that is to move and another. -/
def moveI (T : List ANode) (i j : Int) : Int := if goodB T = true then (if (1 ≤ i ∧ i < T.length) ∧ 0 ≤ j ∧ j < T.length then 0 else 2) else 8
theorem moveI_ok {T : List ANode} {i j : Int} (hg : goodB T = true) (hi : 1 ≤ i ∧ i < T.length) (hj : 0 ≤ j ∧ j < T.length) : moveI T i j = 0 := by unfold moveI; rw [if_pos hg, if_pos ⟨hi, hj⟩]
theorem moveI_zero {T : List ANode} {i j : Int} (h : moveI T i j = 0) : goodB T = true ∧ (1 ≤ i ∧ i < T.length) ∧ 0 ≤ j ∧ j < T.length := by
  unfold moveI at h
  split at h
  · split at h
    · rename_i h1 h2; exact ⟨h1, h2⟩
    · cases h
  · cases h
theorem mcheck_ok (A : Option Addr) (n c : Nat) (T : List ANode) (i j : Int) (w : World) (h : IsTree w A n T) :
    Calls Tryz.prog 44 #[.agg #[.slice A n c], .int .i64 i, .int .i64 j] w fun e w' => e = .returned (.int .i64 (moveI T i j)) ∧ Below w.heap.size w w' := by
  have hT := hide h
  have hl := h.1
  clear h
  have hB0 := below_alloc (Below.refl w.heap.size w) (.cells #[.slice A n c] 26)
  have hbox0 : (w.alloc (.cells #[.slice A n c] 26)).cell? ⟨w.heap.size, 0, none⟩ = some (.slice A n c) := by go_simp
  by_cases hg : goodB T = true
  · have hc0 : chk T = 0 := chk_ok hg
    by_cases hr : (1 ≤ i ∧ i < n) ∧ 0 ≤ j ∧ j < n
    · have hq := hide (moveI_ok (i := i) (j := j) hg (by omega) (by omega))
      obtain ⟨k, rfl⟩ := Int.eq_ofNat_of_zero_le (by omega : 0 ≤ i)
      obtain ⟨m, rfl⟩ := Int.eq_ofNat_of_zero_le hr.2.1
      have hk : k < n := by omega
      have hk1 : 1 ≤ k := by omega
      have hm : m < n := by omega
      clear hg hr
      go_enter Tryz.func44, Tryz.ntmps44
      go_wp2_with fail
      refine (check_ok _ _ _ T _ (hT.out.below hB0)).mono ?_
      rintro e w1 ⟨rfl, hb1⟩
      have hbox1 := cell_later hb1 hbox0
      have hB1 := Below.on hB0 hb1
      go_wp2
      go_ret
      exact ⟨ret_int hq.out.symm, hB1⟩
    · have hq : Hid (moveI T i j = 2) := by
        show _ = _
        unfold moveI; rw [if_pos hg, if_neg (by omega)]
      have hr' : i < 1 ∨ (1 ≤ i ∧ (n : Int) ≤ i) ∨ (1 ≤ i ∧ i < n ∧ j < 0) ∨ (1 ≤ i ∧ i < n ∧ 0 ≤ j ∧ (n : Int) ≤ j) := by omega
      clear hg hr
      rcases hr' with h1 | ⟨h1, h2⟩ | ⟨h1, h2, h3⟩ | ⟨h1, h2, h3, h4⟩
      all_goals
        go_enter Tryz.func44, Tryz.ntmps44
        go_wp2_with fail
        refine (check_ok _ _ _ T _ (hT.out.below hB0)).mono ?_
        rintro e w1 ⟨rfl, hb1⟩
        have hbox1 := cell_later hb1 hbox0
        have hB1 := Below.on hB0 hb1
        go_wp2
        go_ret
        exact ⟨ret_int hq.out.symm, hB1⟩
  · have hc0 : chk T = 8 := chk_bad hg
    have hq : Hid (moveI T i j = 8) := if_neg hg
    clear hg
    go_enter Tryz.func44, Tryz.ntmps44
    go_wp2_with fail
    refine (check_ok _ _ _ T _ (hT.out.below hB0)).mono ?_
    rintro e w1 ⟨rfl, hb1⟩
    have hbox1 := cell_later hb1 hbox0
    have hB1 := Below.on hB0 hb1
    go_wp2
    go_ret
    exact ⟨ret_int hq.out.symm, hB1⟩

def takeE (T : List ANode) (i : Int) : Int := if moveI T i i = 0 then (if par T i.toNat < 0 then 6 else 0) else moveI T i i
def takeT (T : List ANode) (i : Int) : List ANode := if takeE T i = 0 then takenT T i.toNat else []
theorem takenT_len (T : List ANode) (k : Nat) : (takenT T k).length = T.length := by unfold takenT setP; rw [List.length_set, cutT_len]

set_option maxRecDepth 100000 in
set_option maxHeartbeats 4000000 in
theorem take_ok (A : Option Addr) (n c : Nat) (T : List ANode) (i : Int) (w : World) (h : IsTree w A n T) :
    Calls Tryz.prog 24 #[.agg #[.slice A n c], .int .i64 i] w (MadeOwn2 w (takeT T i) (takeE T i)) := by
  have hT := hide h
  have hl := h.1
  have ho := hide h.2.2.2
  clear h
  have hB0 : Below w.heap.size w ((w.alloc (.cells #[.slice A n c] 26)).alloc (.cells #[.slice none 0 0] 26)) := below_alloc (below_alloc (Below.refl _ _) _) _
  have hbox0 : ((w.alloc (.cells #[.slice A n c] 26)).alloc (.cells #[.slice none 0 0] 26)).cell? ⟨w.heap.size, 0, none⟩ = some (.slice A n c) := by go_simp
  have hr0 : ((w.alloc (.cells #[.slice A n c] 26)).alloc (.cells #[.slice none 0 0] 26)).heap[w.heap.size + 1]? = some (.cells #[.slice none 0 0] 26 (0, 0)) := blk_at _ _ _ _ (by simp)
  by_cases h0 : moveI T i i = 0
  · obtain ⟨hg, hir, -⟩ := moveI_zero h0
    obtain ⟨k, rfl⟩ := Int.eq_ofNat_of_zero_le (by omega : 0 ≤ i)
    have hk1 : 1 ≤ k := by omega
    have hk : k < n := by omega
    have hq0 : (moveI T k k != 0) = false := by simp [h0]
    have hn64 : n ≤ 64 := by have := ((goodB_iff T).1 hg).2.1; omega
    obtain ⟨b, off, aA, cA, aC, cC, rfl, hbl, -, -, c2, -, -, -⟩ := ho.out (by omega)
    have c2' := hide (c2 k hk)
    have hfit := hide (good_fits hg)
    have hE : takeE T k = if par T k < 0 then 6 else 0 := by unfold takeE; rw [if_pos h0, Int.toNat_natCast]
    by_cases hp : par T k < 0
    · rw [if_pos hp] at hE
      have hX : takeT T k = [] := by unfold takeT; rw [hE]; rfl
      rw [hE, hX]
      clear hE hX h0 hg hir c2 ho
      go_enter Tryz.func24, Tryz.ntmps24
      go_wp2_with fail
      refine (mcheck_ok _ _ _ T _ _ _ (hT.out.below hB0)).mono ?_
      rintro e w1 ⟨rfl, hb1⟩
      have hbox1 := cell_later hb1 hbox0
      have hB1 := Below.on hB0 hb1
      have hr1 := (hb1.block (w.heap.size + 1) (blk_lt hr0)).trans hr0
      have q1 : w1.cell? ⟨w.heap.size + 1, 0, none⟩ = some (.slice none 0 0) := by rw [blk_cell hr1]; rfl
      have q2 : w1.frozen? ⟨w.heap.size + 1, 0, none⟩ = false := blk_frozen hr1 0
      have g1 := (old hB1 _ _ hbl).trans c2'.out
      go_wp2
      have hres := (blk_cell (blk_set hr1 0 (.slice none 0 0)) 0).trans (rfl : (#[Value.slice none 0 0].setIfInBounds 0 (.slice none 0 0))[0]? = some (.slice none 0 0))
      refine bodyPost_ret (v := .tuple #[.agg #[.slice none 0 0], .int .i64 6]) (by simp [results, Tryz.results24, go_sem, hres]) rfl (made2_nil rfl (hB1.setCell (p := ⟨w.heap.size + 1, 0, none⟩) (by show w.heap.size ≤ w.heap.size + 1; omega) _))
    · have hpp := good_par hg (by omega : k < T.length)
      obtain ⟨p, hpe⟩ := Int.eq_ofNat_of_zero_le (by omega : 0 ≤ par T k)
      rw [if_neg hp] at hE
      have hX : takeT T k = takenT T k := by unfold takeT; rw [if_pos hE, Int.toNat_natCast]
      rw [hE, hX]
      rw [hpe] at c2'
      clear hE hX h0 hg hir c2 ho hp hpp
      go_enter Tryz.func24, Tryz.ntmps24
      go_wp2_with fail
      refine (mcheck_ok _ _ _ T _ _ _ (hT.out.below hB0)).mono ?_
      rintro e w1 ⟨rfl, hb1⟩
      have hbox1 := cell_later hb1 hbox0
      have hB1 := Below.on hB0 hb1
      have hr1 := (hb1.block (w.heap.size + 1) (blk_lt hr0)).trans hr0
      have g1 := (old hB1 _ _ hbl).trans c2'.out
      go_wp2_with fail
      refine (taken_ok _ n c T k _ (hT.out.below hB1) (by omega) hfit.out hk).mono ?_
      rintro e w2 ⟨A2, c2, rfl, hO2, hT2, hb2⟩
      have hB2 := hide (Below.on hB1 hb2)
      have hr2 := (hb2.block (w.heap.size + 1) (blk_lt hr1)).trans hr1
      have q1 : w2.cell? ⟨w.heap.size + 1, 0, none⟩ = some (.slice none 0 0) := by rw [blk_cell hr2]; rfl
      have q2 : w2.frozen? ⟨w.heap.size + 1, 0, none⟩ = false := blk_frozen hr2 0
      have hlw := blk_lt hr1
      have hO3 := hide (hO2.set (p := ⟨w.heap.size + 1, 0, none⟩) (by show w.heap.size + 1 < w1.heap.size; omega) (.slice A2 n c2))
      have hle := takenT_len T k
      clear hO2 hT2 hb2 hB1
      go_wp2
      have hres := (blk_cell (blk_set hr2 0 (.slice A2 n c2)) 0).trans (rfl : (#[Value.slice none 0 0].setIfInBounds 0 (.slice A2 n c2))[0]? = some (.slice A2 n c2))
      refine bodyPost_ret (v := .tuple #[.agg #[.slice A2 n c2], .int .i64 0]) (by simp [results, Tryz.results24, go_sem, hres]) rfl ?_
      have hfe : Fits (takenT T k) := fits_setP (fits_cut hfit.out (k : Int)) (by rw [cutT_len]; omega) (-1)
      obtain ⟨A3, c3, hv, _, _, hT3⟩ := isTree_of_own hO3.out (by omega) (by omega) hfe
      injection hv with e1 e2 e3
      subst e1 e3
      have hle2 : (takenT T k).length = n := by omega
      refine ⟨A2, c2, by rw [hle2], by rw [hle2]; exact hO3.out.base (by omega), by rw [hle2]; exact hT3, hB2.out.setCell (p := ⟨w.heap.size + 1, 0, none⟩) (by show w.heap.size ≤ w.heap.size + 1; omega) _⟩
  · have hE : takeE T i = moveI T i i := by unfold takeE; rw [if_neg h0]
    have hX : takeT T i = [] := by unfold takeT; rw [hE, if_neg h0]
    have hq0 : (moveI T i i != 0) = true := by simp [h0]
    rw [hE, hX]
    clear hE hX h0 ho
    go_enter Tryz.func24, Tryz.ntmps24
    go_wp2_with fail
    refine (mcheck_ok _ _ _ T _ _ _ (hT.out.below hB0)).mono ?_
    rintro e w1 ⟨rfl, hb1⟩
    have hbox1 := cell_later hb1 hbox0
    have hB1 := Below.on hB0 hb1
    have hr1 := (hb1.block (w.heap.size + 1) (blk_lt hr0)).trans hr0
    have q1 : w1.cell? ⟨w.heap.size + 1, 0, none⟩ = some (.slice none 0 0) := by rw [blk_cell hr1]; rfl
    have q2 : w1.frozen? ⟨w.heap.size + 1, 0, none⟩ = false := blk_frozen hr1 0
    go_wp2
    have hres := (blk_cell (blk_set hr1 0 (.slice none 0 0)) 0).trans (rfl : (#[Value.slice none 0 0].setIfInBounds 0 (.slice none 0 0))[0]? = some (.slice none 0 0))
    refine bodyPost_ret (v := .tuple #[.agg #[.slice none 0 0], .int .i64 (moveI T i i)]) (by simp [results, Tryz.results24, go_sem, hres]) rfl (made2_nil rfl (hB1.setCell (p := ⟨w.heap.size + 1, 0, none⟩) (by show w.heap.size ≤ w.heap.size + 1; omega) _))
end Go.Proofs.YtmdccplhmniiiaaGreat
