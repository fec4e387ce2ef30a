/- Walks: Append and Before, by the program. No condition. -/
import Derived.Test.YtmdccplhmniiiaaGreatMud
namespace Go.Proofs.YtmdccplhmniiiaaGreat
open Go.RowKit

def appE (T : List ANode) (p k : Int) : Int := if moveI T k p = 0 then putE T p.toNat k.toNat else moveI T k p
def appT (T : List ANode) (p k : Int) : List ANode := if moveI T k p = 0 then putV T p.toNat k.toNat (-1) else []
def befE (T : List ANode) (k nx : Int) : Int := if moveI T k nx = 0 then (if k = nx then 14 else if par T nx.toNat < 0 then 6 else putE T (par T nx.toNat).toNat k.toNat) else moveI T k nx
def befT (T : List ANode) (k nx : Int) : List ANode := if moveI T k nx = 0 then (if k = nx then [] else if par T nx.toNat < 0 then [] else putV T (par T nx.toNat).toNat k.toNat nx) else []
theorem putV_len (T : List ANode) (p k : Nat) (nx : Int) : putV T p k nx = [] ∨ (putV T p k nx).length = T.length := by
  unfold putV; split
  · exact .inl rfl
  · exact .inr (putT_len _ _ _ _)
theorem putV_fits {T : List ANode} (hg : goodB T = true) {p k : Nat} (hp : p < T.length) (hk : k < T.length) (h1 : 1 ≤ k) (nx : Int) : Fits (putV T p k nx) := by
  unfold putV
  cases h : cycB T p k
  · exact good_fits (good_put hg hp hk h1 nx (by unfold cycB at h; simpa using h))
  · exact fits_nil

/- After the inner call that made the tree (w2: A2, c2 over XT, its code CD; hO2, hb2, hB2, hr2). -/
set_option maxRecDepth 100000 in
set_option maxHeartbeats 4000000 in
theorem append_ok (A : Option Addr) (n c : Nat) (T : List ANode) (p k : Int) (w : World) (h : IsTree w A n T) :
    Calls Tryz.prog 16 #[.agg #[.slice A n c], .int .i64 p, .int .i64 k] w (MadeOwn2 w (appT T p k) (appE T p k)) := by
  have hT := hide h
  have hl := h.1
  have ho := hide h.2.2.2
  clear h
  have hB0 : Below w.heap.size w ((w.alloc (.cells #[.slice A n c] 26)).alloc (.cells #[.slice none 0 0] 26)) := below_alloc (below_alloc (Below.refl _ _) _) _
  have hbox0 : ((w.alloc (.cells #[.slice A n c] 26)).alloc (.cells #[.slice none 0 0] 26)).cell? ⟨w.heap.size, 0, none⟩ = some (.slice A n c) := by go_simp
  have hr0 : ((w.alloc (.cells #[.slice A n c] 26)).alloc (.cells #[.slice none 0 0] 26)).heap[w.heap.size + 1]? = some (.cells #[.slice none 0 0] 26 (0, 0)) := blk_at _ _ _ _ (by simp)
  by_cases h0 : moveI T k p = 0
  · obtain ⟨hg, hir, hjr⟩ := moveI_zero h0
    obtain ⟨k, rfl⟩ := Int.eq_ofNat_of_zero_le (by omega : 0 ≤ k)
    obtain ⟨p, rfl⟩ := Int.eq_ofNat_of_zero_le hjr.1
    have hk1 : 1 ≤ k := by omega
    have hk : k < n := by omega
    have hp : p < n := by omega
    have hq0 : (moveI T k p != 0) = false := by simp [h0]
    have hn64 : n ≤ 64 := by have := ((goodB_iff T).1 hg).2.1; omega
    have hfe := hide (putV_fits hg (by omega : p < T.length) (by omega : k < T.length) hk1 (-1))
    have hE : appE T p k = putE T p k := by unfold appE; rw [if_pos h0]; rfl
    have hX : appT T p k = putV T p k (-1) := by unfold appT; rw [if_pos h0]; rfl
    rw [hE, hX]
    have hlX : (putV T p k (-1)).length ≤ 64 := by rcases putV_len T p k (-1) with h | h <;> simp [h] <;> omega
    have hg' := hide hg
    have hput := hide (fun W hW => put_ok A n c T p k (-1) W hW hg hp hk hk1)
    obtain ⟨XT, hXT⟩ : ∃ XT, putV T p k (-1) = XT := ⟨_, rfl⟩
    obtain ⟨CD, hCD⟩ : ∃ CD, putE T p k = CD := ⟨_, rfl⟩
    rw [hXT, hCD] at hput
    rw [hXT] at hlX hfe
    rw [hXT, hCD]
    clear hE hX h0 hg hir hjr hXT hCD
    go_enter Tryz.func16, Tryz.ntmps16
    go_wp2_with fail
    refine (mcheck_ok _ _ _ T _ _ _ (hT.out.below hB0)).mono ?_
    rintro e w1 ⟨rfl, hb1⟩
    have hbox1 := cell_later hb1 hbox0
    have hB1 := Below.on hB0 hb1
    have hr1 := (hb1.block (w.heap.size + 1) (blk_lt hr0)).trans hr0
    have q1 : w1.cell? ⟨w.heap.size + 1, 0, none⟩ = some (.slice none 0 0) := by rw [blk_cell hr1]; rfl
    have q2 : w1.frozen? ⟨w.heap.size + 1, 0, none⟩ = false := blk_frozen hr1 0
    go_wp2_with fail
    refine (hput.out _ (hT.out.below hB1)).mono ?_
    rintro e w2 ⟨A2, c2, rfl, hO2, hT2, hb2⟩
    have hB2 := Below.on hB1 hb2
    have hr2 := (hb2.block (w.heap.size + 1) (blk_lt hr1)).trans hr1
    have q1 : w2.cell? ⟨w.heap.size + 1, 0, none⟩ = some (.slice none 0 0) := by rw [blk_cell hr2]; rfl
    have q2 : w2.frozen? ⟨w.heap.size + 1, 0, none⟩ = false := blk_frozen hr2 0
    have hlw := blk_lt hr1
    have hO3 := hO2.set (p := ⟨w.heap.size + 1, 0, none⟩) (by show w.heap.size + 1 < w1.heap.size; omega) (.slice A2 (XT).length c2)
    have hres := (blk_cell (blk_set hr2 0 (.slice A2 (XT).length c2)) 0).trans (rfl : (#[Value.slice none 0 0].setIfInBounds 0 (.slice A2 (XT).length c2))[0]? = some (.slice A2 (XT).length c2))
    have hres' := hide hres
    have hE : MadeOwn2 w (XT) (CD) (.returned (.tuple #[.agg #[.slice A2 (XT).length c2], .int .i64 (CD)])) (w2.setCell ⟨w.heap.size + 1, 0, none⟩ (.slice A2 (XT).length c2)) := by
      obtain ⟨A3, c3, hv, _, _, hT3⟩ := isTree_of_own hO3 rfl (by omega) hfe.out
      injection hv with e1 e2 e3
      subst e1
      exact ⟨A2, c2, rfl, hO3.base (by show w.heap.size ≤ w1.heap.size; omega), hT3, hB2.setCell (p := ⟨w.heap.size + 1, 0, none⟩) (by show w.heap.size ≤ w.heap.size + 1; omega) _⟩
    have hE' := hide hE
    clear hE hres hO3 hO2 hT2 hb2 hB2
    go_wp2
    exact bodyPost_ret (v := .tuple #[.agg #[.slice A2 XT.length c2], .int .i64 CD]) (by simp [results, Tryz.results16, go_sem, hres'.out]) rfl hE'.out
  · have hE : appE T p k = moveI T k p := by unfold appE; rw [if_neg h0]
    have hX : appT T p k = [] := by unfold appT; rw [if_neg h0]
    have hq0 : (moveI T k p != 0) = true := by simp [h0]
    rw [hE, hX]
    clear hE hX h0 ho
    go_enter Tryz.func16, Tryz.ntmps16
    go_wp2_with fail
    refine (mcheck_ok _ _ _ T _ _ _ (hT.out.below hB0)).mono ?_
    rintro e w1 ⟨rfl, hb1⟩
    have hbox1 := cell_later hb1 hbox0
    have hB1 := Below.on hB0 hb1
    have hr1 := (hb1.block (w.heap.size + 1) (blk_lt hr0)).trans hr0
    have q1 : w1.cell? ⟨w.heap.size + 1, 0, none⟩ = some (.slice none 0 0) := by rw [blk_cell hr1]; rfl
    have q2 : w1.frozen? ⟨w.heap.size + 1, 0, none⟩ = false := blk_frozen hr1 0
    go_wp2
    have hres := (blk_cell (blk_set hr1 0 (.slice none 0 0)) 0).trans (rfl : (#[Value.slice none 0 0].setIfInBounds 0 (.slice none 0 0))[0]? = some (.slice none 0 0))
    refine bodyPost_ret (v := .tuple #[.agg #[.slice none 0 0], .int .i64 (moveI T k p)]) (by simp [results, Tryz.results16, go_sem, hres]) rfl (made2_nil rfl (hB1.setCell (p := ⟨w.heap.size + 1, 0, none⟩) (by show w.heap.size ≤ w.heap.size + 1; omega) _))

set_option maxRecDepth 100000 in
set_option maxHeartbeats 4000000 in
theorem before_ok (A : Option Addr) (n c : Nat) (T : List ANode) (k m : Int) (w : World) (h : IsTree w A n T) :
    Calls Tryz.prog 22 #[.agg #[.slice A n c], .int .i64 k, .int .i64 m] w (MadeOwn2 w (befT T k m) (befE T k m)) := by
  have hT := hide h
  have hl := h.1
  have ho := hide h.2.2.2
  clear h
  have hB0 : Below w.heap.size w ((w.alloc (.cells #[.slice A n c] 26)).alloc (.cells #[.slice none 0 0] 26)) := below_alloc (below_alloc (Below.refl _ _) _) _
  have hbox0 : ((w.alloc (.cells #[.slice A n c] 26)).alloc (.cells #[.slice none 0 0] 26)).cell? ⟨w.heap.size, 0, none⟩ = some (.slice A n c) := by go_simp
  have hr0 : ((w.alloc (.cells #[.slice A n c] 26)).alloc (.cells #[.slice none 0 0] 26)).heap[w.heap.size + 1]? = some (.cells #[.slice none 0 0] 26 (0, 0)) := blk_at _ _ _ _ (by simp)
  by_cases h0 : moveI T k m = 0
  · obtain ⟨hg, hir, hjr⟩ := moveI_zero h0
    obtain ⟨k, rfl⟩ := Int.eq_ofNat_of_zero_le (by omega : 0 ≤ k)
    obtain ⟨m, rfl⟩ := Int.eq_ofNat_of_zero_le hjr.1
    have hk1 : 1 ≤ k := by omega
    have hk : k < n := by omega
    have hm : m < n := by omega
    have hq0 : (moveI T k m != 0) = false := by simp [h0]
    have hn64 : n ≤ 64 := by have := ((goodB_iff T).1 hg).2.1; omega
    by_cases hkm : k = m
    · have hE : befE T k m = 14 := by unfold befE; rw [if_pos h0]; rw [if_pos (by omega)]
      have hX : befT T k m = [] := by unfold befT; rw [if_pos h0]; rw [if_pos (by omega)]
      rw [hE, hX]
      have hkm' : ((k : Int) == (m : Int)) = true := by simp [hkm]
      clear hE hX h0 hg hir hjr hkm
      go_enter Tryz.func22, Tryz.ntmps22
      go_wp2_with fail
      refine (mcheck_ok _ _ _ T _ _ _ (hT.out.below hB0)).mono ?_
      rintro e w1 ⟨rfl, hb1⟩
      have hbox1 := cell_later hb1 hbox0
      have hB1 := Below.on hB0 hb1
      have hr1 := (hb1.block (w.heap.size + 1) (blk_lt hr0)).trans hr0
      have q1 : w1.cell? ⟨w.heap.size + 1, 0, none⟩ = some (.slice none 0 0) := by rw [blk_cell hr1]; rfl
      have q2 : w1.frozen? ⟨w.heap.size + 1, 0, none⟩ = false := blk_frozen hr1 0
      go_wp2
      have hres := (blk_cell (blk_set hr1 0 (.slice none 0 0)) 0).trans (rfl : (#[Value.slice none 0 0].setIfInBounds 0 (.slice none 0 0))[0]? = some (.slice none 0 0))
      refine bodyPost_ret (v := .tuple #[.agg #[.slice none 0 0], .int .i64 14]) (by simp [results, Tryz.results22, go_sem, hres]) rfl (made2_nil rfl (hB1.setCell (p := ⟨w.heap.size + 1, 0, none⟩) (by show w.heap.size ≤ w.heap.size + 1; omega) _))
    · have hkm' : ((k : Int) == (m : Int)) = false := by simp; omega
      obtain ⟨b, off, aA, cA, aC, cC, rfl, hbl, -, -, c2, -, -, -⟩ := ho.out (by omega)
      have c2' := hide (c2 m hm)
      by_cases hp : par T m < 0
      · have hE : befE T k m = 6 := by unfold befE; rw [if_pos h0]; rw [if_neg (by omega), Int.toNat_natCast, if_pos hp]
        have hX : befT T k m = [] := by unfold befT; rw [if_pos h0]; rw [if_neg (by omega), Int.toNat_natCast, if_pos hp]
        rw [hE, hX]
        clear hE hX h0 hg hir hjr hkm c2
        go_enter Tryz.func22, Tryz.ntmps22
        go_wp2_with fail
        refine (mcheck_ok _ _ _ T _ _ _ (hT.out.below hB0)).mono ?_
        rintro e w1 ⟨rfl, hb1⟩
        have hbox1 := cell_later hb1 hbox0
        have hB1 := Below.on hB0 hb1
        have hr1 := (hb1.block (w.heap.size + 1) (blk_lt hr0)).trans hr0
        have q1 : w1.cell? ⟨w.heap.size + 1, 0, none⟩ = some (.slice none 0 0) := by rw [blk_cell hr1]; rfl
        have q2 : w1.frozen? ⟨w.heap.size + 1, 0, none⟩ = false := blk_frozen hr1 0
        have g1 := (old hB1 _ _ hbl).trans c2'.out
        go_wp2
        have hres := (blk_cell (blk_set hr1 0 (.slice none 0 0)) 0).trans (rfl : (#[Value.slice none 0 0].setIfInBounds 0 (.slice none 0 0))[0]? = some (.slice none 0 0))
        refine bodyPost_ret (v := .tuple #[.agg #[.slice none 0 0], .int .i64 6]) (by simp [results, Tryz.results22, go_sem, hres]) rfl (made2_nil rfl (hB1.setCell (p := ⟨w.heap.size + 1, 0, none⟩) (by show w.heap.size ≤ w.heap.size + 1; omega) _))
      · have hpp := good_par hg (by omega : m < T.length)
        obtain ⟨p, hpe⟩ := Int.eq_ofNat_of_zero_le (by omega : 0 ≤ par T m)
        have hp' : p < n := by omega
        have hE : befE T k m = putE T p k := by unfold befE; rw [if_pos h0, if_neg (by omega), Int.toNat_natCast, if_neg hp, hpe]; rfl
        have hX : befT T k m = putV T p k m := by unfold befT; rw [if_pos h0, if_neg (by omega), Int.toNat_natCast, if_neg hp, hpe]; rfl
        rw [hpe] at c2'
        rw [hE, hX]
        have hfe := hide (putV_fits hg (by omega : p < T.length) (by omega : k < T.length) hk1 m)
        have hlX : (putV T p k m).length ≤ 64 := by rcases putV_len T p k m with h | h <;> simp [h] <;> omega
        have hput := hide (fun W hW => put_ok (some ⟨b, off, none⟩) n c T p k m W hW hg hp' hk hk1)
        obtain ⟨XT, hXT⟩ : ∃ XT, putV T p k m = XT := ⟨_, rfl⟩
        obtain ⟨CD, hCD⟩ : ∃ CD, putE T p k = CD := ⟨_, rfl⟩
        rw [hXT, hCD] at hput
        rw [hXT] at hlX hfe
        rw [hXT, hCD]
        have j0 : (0 : Int) ≤ (m : Int) := by omega
        have j1 : (m : Int) < (n : Int) := by omega
        clear hE hX h0 hg hir hjr hkm c2 hp hpp hpe hXT hCD
        go_enter Tryz.func22, Tryz.ntmps22
        go_wp2_with fail
        refine (mcheck_ok _ _ _ T _ _ _ (hT.out.below hB0)).mono ?_
        rintro e w1 ⟨rfl, hb1⟩
        have hbox1 := cell_later hb1 hbox0
        have hB1 := Below.on hB0 hb1
        have hr1 := (hb1.block (w.heap.size + 1) (blk_lt hr0)).trans hr0
        have q1 : w1.cell? ⟨w.heap.size + 1, 0, none⟩ = some (.slice none 0 0) := by rw [blk_cell hr1]; rfl
        have q2 : w1.frozen? ⟨w.heap.size + 1, 0, none⟩ = false := blk_frozen hr1 0
        have g1 := (old hB1 _ _ hbl).trans c2'.out
        have hpw := hide (hput.out w1.drew ((hT.out.below hB1).below (Below.refl _ _).drew))
        go_wp2
        go_region_with (first | (go_at_call 45; (with_reducible refine hpw.out.mono ?_); rintro e w2 ⟨A2, c2, rfl, hO2, hT2, hb2⟩; have hr2 : w2.heap[w.heap.size + 1]? = some (.cells #[.slice none 0 0] 26 (0, 0)) := (hb2.block (w.heap.size + 1) (blk_lt hr1)).trans hr1; have q3 : w2.cell? ⟨w.heap.size + 1, 0, none⟩ = some (.slice none 0 0) := by { rw [blk_cell hr2]; rfl }; have q4 : w2.frozen? ⟨w.heap.size + 1, 0, none⟩ = false := blk_frozen hr2 0))
        all_goals
          have hB2 := Below.on hB1.drew hb2
          have hlw := blk_lt hr1
          have hO3 := hO2.set (p := ⟨w.heap.size + 1, 0, none⟩) (by show w.heap.size + 1 < w1.heap.size; omega) (.slice A2 (XT).length c2)
          have hres := (blk_cell (blk_set hr2 0 (.slice A2 (XT).length c2)) 0).trans (rfl : (#[Value.slice none 0 0].setIfInBounds 0 (.slice A2 (XT).length c2))[0]? = some (.slice A2 (XT).length c2))
          have hres' := hide hres
          have hE : MadeOwn2 w (XT) (CD) (.returned (.tuple #[.agg #[.slice A2 (XT).length c2], .int .i64 (CD)])) (w2.setCell ⟨w.heap.size + 1, 0, none⟩ (.slice A2 (XT).length c2)) := by
            obtain ⟨A3, c3, hv, _, _, hT3⟩ := isTree_of_own hO3 rfl (by omega) hfe.out
            injection hv with e1 e2 e3
            subst e1
            exact ⟨A2, c2, rfl, hO3.base (by show w.heap.size ≤ w1.heap.size; omega), hT3, hB2.setCell (p := ⟨w.heap.size + 1, 0, none⟩) (by show w.heap.size ≤ w.heap.size + 1; omega) _⟩
          have hE' := hide hE
          clear hE hres hO3 hO2 hT2 hb2 hB2
          clear hpw hput
          go_wp2
          exact bodyPost_ret (v := .tuple #[.agg #[.slice A2 XT.length c2], .int .i64 CD]) (by simp [results, Tryz.results22, go_sem, hres'.out]) rfl hE'.out
  · have hE : befE T k m = moveI T k m := by unfold befE; rw [if_neg h0]
    have hX : befT T k m = [] := by unfold befT; rw [if_neg h0]
    have hq0 : (moveI T k m != 0) = true := by simp [h0]
    rw [hE, hX]
    clear hE hX h0 ho
    go_enter Tryz.func22, Tryz.ntmps22
    go_wp2_with fail
    refine (mcheck_ok _ _ _ T _ _ _ (hT.out.below hB0)).mono ?_
    rintro e w1 ⟨rfl, hb1⟩
    have hbox1 := cell_later hb1 hbox0
    have hB1 := Below.on hB0 hb1
    have hr1 := (hb1.block (w.heap.size + 1) (blk_lt hr0)).trans hr0
    have q1 : w1.cell? ⟨w.heap.size + 1, 0, none⟩ = some (.slice none 0 0) := by rw [blk_cell hr1]; rfl
    have q2 : w1.frozen? ⟨w.heap.size + 1, 0, none⟩ = false := blk_frozen hr1 0
    go_wp2
    have hres := (blk_cell (blk_set hr1 0 (.slice none 0 0)) 0).trans (rfl : (#[Value.slice none 0 0].setIfInBounds 0 (.slice none 0 0))[0]? = some (.slice none 0 0))
    refine bodyPost_ret (v := .tuple #[.agg #[.slice none 0 0], .int .i64 (moveI T k m)]) (by simp [results, Tryz.results22, go_sem, hres]) rfl (made2_nil rfl (hB1.setCell (p := ⟨w.heap.size + 1, 0, none⟩) (by show w.heap.size ≤ w.heap.size + 1; omega) _))
end Go.Proofs.YtmdccplhmniiiaaGreat
