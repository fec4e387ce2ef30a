/- Walks: Append, Before and Take, by the reference. No condition. -/
import Derived.Test.YtmdccplhmniiiaaGreatMuf
import Derived.Test.YtmdccplhmniiiaaGreatMug
namespace Go.Proofs.YtmdccplhmniiiaaGreat
open Go.RowKit

/- After the inner call that made the tree (world w«K»: A2, c2 over XT; the world ahead of it w«J»). -/
set_option maxRecDepth 100000 in
set_option maxHeartbeats 4000000 in
theorem rmask_ok (A : Option Addr) (n c : Nat) (T : List ANode) (i j : Int) (w : World) (h : IsTree w A n T) :
    Calls Tryz.prog 50 #[.agg #[.slice A n c], .int .i64 i, .int .i64 j] w fun e w' => e = .returned (.int .i64 (moveI T i j)) ∧ Below w.heap.size w w' := by
  have hT := hide h
  have hl := h.1
  clear h
  have hB0 := below_alloc (Below.refl w.heap.size w) (.cells #[.slice A n c] 26)
  have hbox0 : (w.alloc (.cells #[.slice A n c] 26)).cell? ⟨w.heap.size, 0, none⟩ = some (.slice A n c) := by go_simp
  by_cases hg : goodB T = true
  · have hc0 : chk T = 0 := chk_ok hg
    by_cases h1 : 0 ≤ i ∧ i < T.length
    · have hx1 : askI T [i] = 0 := askI_ok hg (by simpa using h1)
      by_cases h2 : 0 ≤ j ∧ j < T.length
      · have hx2 : askI T [j] = 0 := askI_ok hg (by simpa using h2)
        by_cases h3 : i = 0
        · have hq : Hid (moveI T i j = 2) := by
            show _ = _
            unfold moveI; rw [if_pos hg, if_neg (by omega)]
          have h3' : (i == 0) = true := by simp [h3]
          clear hg h1 h2 h3
          go_enter Tryz.func50, Tryz.ntmps50
          go_wp2_with fail
          refine (rcheck_ok _ _ _ T _ (hT.out.below hB0)).mono ?_
          rintro e w1 ⟨rfl, hb1⟩
          have hbox1 := cell_later hb1 hbox0
          have hB1 := Below.on hB0 hb1
          go_wp2_with fail
          refine (rasked_ok _ _ _ T _ _ (hT.out.below hB1)).mono ?_
          rintro e w2 ⟨rfl, hb2⟩
          have hbox2 := cell_later hb2 hbox1
          have hB2 := Below.on hB1 hb2
          go_wp2_with fail
          refine (rasked_ok _ _ _ T _ _ (hT.out.below hB2)).mono ?_
          rintro e w3 ⟨rfl, hb3⟩
          have hbox3 := cell_later hb3 hbox2
          have hB3 := Below.on hB2 hb3
          go_wp2
          go_ret
          exact ⟨ret_int hq.out.symm, hB3⟩
        · have hq : Hid (moveI T i j = 0) := moveI_ok hg (by omega) (by omega)
          have h3' : (i == 0) = false := by simp [h3]
          clear hg h1 h2 h3
          go_enter Tryz.func50, Tryz.ntmps50
          go_wp2_with fail
          refine (rcheck_ok _ _ _ T _ (hT.out.below hB0)).mono ?_
          rintro e w1 ⟨rfl, hb1⟩
          have hbox1 := cell_later hb1 hbox0
          have hB1 := Below.on hB0 hb1
          go_wp2_with fail
          refine (rasked_ok _ _ _ T _ _ (hT.out.below hB1)).mono ?_
          rintro e w2 ⟨rfl, hb2⟩
          have hbox2 := cell_later hb2 hbox1
          have hB2 := Below.on hB1 hb2
          go_wp2_with fail
          refine (rasked_ok _ _ _ T _ _ (hT.out.below hB2)).mono ?_
          rintro e w3 ⟨rfl, hb3⟩
          have hbox3 := cell_later hb3 hbox2
          have hB3 := Below.on hB2 hb3
          go_wp2
          go_ret
          exact ⟨ret_int hq.out.symm, hB3⟩
      · have hx2 : askI T [j] = 2 := askI_no hg j (by simp) h2
        have hq : Hid (moveI T i j = 2) := by
          show _ = _
          unfold moveI; rw [if_pos hg, if_neg (by omega)]
        clear hg h1 h2
        go_enter Tryz.func50, Tryz.ntmps50
        go_wp2_with fail
        refine (rcheck_ok _ _ _ T _ (hT.out.below hB0)).mono ?_
        rintro e w1 ⟨rfl, hb1⟩
        have hbox1 := cell_later hb1 hbox0
        have hB1 := Below.on hB0 hb1
        go_wp2_with fail
        refine (rasked_ok _ _ _ T _ _ (hT.out.below hB1)).mono ?_
        rintro e w2 ⟨rfl, hb2⟩
        have hbox2 := cell_later hb2 hbox1
        have hB2 := Below.on hB1 hb2
        go_wp2_with fail
        refine (rasked_ok _ _ _ T _ _ (hT.out.below hB2)).mono ?_
        rintro e w3 ⟨rfl, hb3⟩
        have hbox3 := cell_later hb3 hbox2
        have hB3 := Below.on hB2 hb3
        go_wp2
        go_ret
        exact ⟨ret_int hq.out.symm, hB3⟩
    · have hx1 : askI T [i] = 2 := askI_no hg i (by simp) h1
      have hq : Hid (moveI T i j = 2) := by
        show _ = _
        unfold moveI; rw [if_pos hg, if_neg (by omega)]
      clear hg h1
      go_enter Tryz.func50, Tryz.ntmps50
      go_wp2_with fail
      refine (rcheck_ok _ _ _ T _ (hT.out.below hB0)).mono ?_
      rintro e w1 ⟨rfl, hb1⟩
      have hbox1 := cell_later hb1 hbox0
      have hB1 := Below.on hB0 hb1
      go_wp2_with fail
      refine (rasked_ok _ _ _ T _ _ (hT.out.below hB1)).mono ?_
      rintro e w2 ⟨rfl, hb2⟩
      have hbox2 := cell_later hb2 hbox1
      have hB2 := Below.on hB1 hb2
      go_wp2
      go_ret
      exact ⟨ret_int hq.out.symm, hB2⟩
  · have hc0 : chk T = 8 := chk_bad hg
    have hq : Hid (moveI T i j = 8) := if_neg hg
    clear hg
    go_enter Tryz.func50, Tryz.ntmps50
    go_wp2_with fail
    refine (rcheck_ok _ _ _ T _ (hT.out.below hB0)).mono ?_
    rintro e w1 ⟨rfl, hb1⟩
    have hbox1 := cell_later hb1 hbox0
    have hB1 := Below.on hB0 hb1
    go_wp2_with fail
    refine (rcheck_ok _ _ _ T _ (hT.out.below hB1)).mono ?_
    rintro e w2 ⟨rfl, hb2⟩
    have hbox2 := cell_later hb2 hbox1
    have hB2 := Below.on hB1 hb2
    go_wp2
    go_ret
    exact ⟨ret_int hq.out.symm, hB2⟩

theorem appT_put {T : List ANode} {p k : Nat} (h0 : moveI T k p = 0) (hc : cycB T p k = false) : appE T p k = 0 ∧ appT T p k = putT T p k (-1) := by
  unfold appE appT putE putV
  rw [if_pos h0, if_pos h0, Int.toNat_natCast, Int.toNat_natCast, hc]
  exact ⟨rfl, rfl⟩
theorem appT_cyc {T : List ANode} {p k : Nat} (h0 : moveI T k p = 0) (hc : cycB T p k = true) : appE T p k = 40 ∧ appT T p k = [] := by
  unfold appE appT putE putV
  rw [if_pos h0, if_pos h0, Int.toNat_natCast, Int.toNat_natCast, hc]
  exact ⟨rfl, rfl⟩
set_option maxRecDepth 100000 in
set_option maxHeartbeats 4000000 in
theorem rappend_ok (A : Option Addr) (n c : Nat) (T : List ANode) (p k : Int) (w : World) (h : IsTree w A n T) :
    Calls Tryz.prog 21 #[.agg #[.slice A n c], .int .i64 p, .int .i64 k] w (MadeOwn2 w (appT T p k) (appE T p k)) := by
  have hT := hide h
  have hl := h.1
  have ho := hide h.2.2.2
  clear h
  have hB0 : Below w.heap.size w ((w.alloc (.cells #[.slice A n c] 26)).alloc (.cells #[.slice none 0 0] 26)) := below_alloc (below_alloc (Below.refl _ _) _) _
  have hbox0 : ((w.alloc (.cells #[.slice A n c] 26)).alloc (.cells #[.slice none 0 0] 26)).cell? ⟨w.heap.size, 0, none⟩ = some (.slice A n c) := by go_simp
  have hr0 : ((w.alloc (.cells #[.slice A n c] 26)).alloc (.cells #[.slice none 0 0] 26)).heap[w.heap.size + 1]? = some (.cells #[.slice none 0 0] 26 (0, 0)) := blk_at _ _ _ _ (by simp)
  by_cases h0 : moveI T k p = 0
  · obtain ⟨hg, hir, hjr⟩ := moveI_zero h0
    obtain ⟨k, rfl⟩ := Int.eq_ofNat_of_zero_le (by omega : 0 ≤ k)
    obtain ⟨p, rfl⟩ := Int.eq_ofNat_of_zero_le hjr.1
    have hk1 : 1 ≤ k := by omega
    have hk : k < n := by omega
    have hp : p < n := by omega
    have hq0 : (moveI T k p != 0) = false := by simp [h0]
    have hn64 : n ≤ 64 := by have := ((goodB_iff T).1 hg).2.1; omega
    have hcb := cyc_bel hg (by omega : p < T.length) (by omega : k < T.length)
    rw [bel_iff hg (by omega : p < T.length) (by omega : k < T.length)] at hcb
    have hg' := hide hg
    cases hc : cycB T p k
    · obtain ⟨hE, hX⟩ := appT_put h0 hc
      rw [hE, hX]
      rw [hc] at hcb
      have hpk : ((p : Int) == (k : Int)) = false := by
        have : p ≠ k := fun e => by rw [e] at hcb; simp at hcb
        simp; omega
      have hun : decide ((k : Int) ∈ anc T (par T p)) = false := by
        cases h : decide ((k : Int) ∈ anc T (par T p))
        · rfl
        · rw [h] at hcb; simp at hcb
      have hanc : (k : Int) ∉ anc T p := by unfold cycB at hc; simpa using hc
      have hfe := hide (good_fits (good_put hg (by omega : p < T.length) (by omega : k < T.length) hk1 (-1) hanc))
      have hlX : (putT T p k (-1)).length = n := by rw [putT_len]; exact hl
      have hput := hide (fun W hW => rput15_ok A n c T p k (-1) W hW hg hp hk hk1 hanc (.inl (by omega)))
      obtain ⟨XT, hXT⟩ : ∃ XT, putT T p k (-1) = XT := ⟨_, rfl⟩
      rw [hXT] at hput hlX hfe ⊢
      clear hE hX h0 hg hir hjr hXT hcb hc hanc
      go_enter Tryz.func21, Tryz.ntmps21
      go_wp2_with fail
      refine (rmask_ok _ _ _ T _ _ _ (hT.out.below hB0)).mono ?_
      rintro e w1 ⟨rfl, hb1⟩
      have hbox1 := cell_later hb1 hbox0
      have hB1 := Below.on hB0 hb1
      have hr1 := (hb1.block (w.heap.size + 1) (blk_lt hr0)).trans hr0
      have q1 : w1.cell? ⟨w.heap.size + 1, 0, none⟩ = some (.slice none 0 0) := by rw [blk_cell hr1]; rfl
      have q2 : w1.frozen? ⟨w.heap.size + 1, 0, none⟩ = false := blk_frozen hr1 0
      go_wp2_with fail
      have hru := runder_ok _ _ c T p k _ (hT.out.below hB1) hp hg'.out
      rw [hun] at hru
      refine hru.mono ?_
      clear hru
      rintro e w2 ⟨rfl, hb2⟩
      have hbox2 := cell_later hb2 hbox1
      have hB2 := Below.on hB1 hb2
      have hr2 := (hb2.block (w.heap.size + 1) (blk_lt hr1)).trans hr1
      have q1 : w2.cell? ⟨w.heap.size + 1, 0, none⟩ = some (.slice none 0 0) := by rw [blk_cell hr2]; rfl
      have q2 : w2.frozen? ⟨w.heap.size + 1, 0, none⟩ = false := blk_frozen hr2 0
      go_wp2_with fail
      refine (hput.out _ (hT.out.below hB2)).mono ?_
      rintro e w3 ⟨A2, c2, rfl, hO2, -, hb3⟩
      have hB3 := Below.on hB2 hb3
      have hr3 := (hb3.block (w.heap.size + 1) (blk_lt hr2)).trans hr2
      have q1 : w3.cell? ⟨w.heap.size + 1, 0, none⟩ = some (.slice none 0 0) := by rw [blk_cell hr3]; rfl
      have q2 : w3.frozen? ⟨w.heap.size + 1, 0, none⟩ = false := blk_frozen hr3 0
      have hlw := blk_lt hr2
      have hO3 := hO2.set (p := ⟨w.heap.size + 1, 0, none⟩) (by show w.heap.size + 1 < w2.heap.size; omega) (.slice A2 n c2)
      have hres := (blk_cell (blk_set hr3 0 (.slice A2 n c2)) 0).trans (rfl : (#[Value.slice none 0 0].setIfInBounds 0 (.slice A2 n c2))[0]? = some (.slice A2 n c2))
      have hres' := hide hres
      have hE : MadeOwn2 w (XT) 0 (.returned (.tuple #[.agg #[.slice A2 n c2], .int .i64 0])) (w3.setCell ⟨w.heap.size + 1, 0, none⟩ (.slice A2 n c2)) := by
        obtain ⟨A3, c3, hv, _, _, hT3⟩ := isTree_of_own hO3 hlX (by omega) hfe.out
        injection hv with e1 e2 e3
        subst e1
        exact ⟨A2, c2, by rw [hlX], by rw [hlX]; exact hO3.base (by show w.heap.size ≤ w2.heap.size; omega), by rw [hlX]; exact hT3, hB3.setCell (p := ⟨w.heap.size + 1, 0, none⟩) (by show w.heap.size ≤ w.heap.size + 1; omega) _⟩
      have hE' := hide hE
      clear hE hres hO3 hO2 hb3 hB3
      go_wp2
      exact bodyPost_ret (v := .tuple #[.agg #[.slice A2 n c2], .int .i64 0]) (by simp [results, Tryz.results21, go_sem, hres'.out]) rfl hE'.out
    · obtain ⟨hE, hX⟩ := appT_cyc h0 hc
      rw [hE, hX]
      rw [hc] at hcb
      by_cases hpe : p = k
      · have hpk : ((p : Int) == (k : Int)) = true := by simp [hpe]
        clear hE hX h0 hg hir hjr hcb hc hpe
        go_enter Tryz.func21, Tryz.ntmps21
        go_wp2_with fail
        refine (rmask_ok _ _ _ T _ _ _ (hT.out.below hB0)).mono ?_
        rintro e w1 ⟨rfl, hb1⟩
        have hbox1 := cell_later hb1 hbox0
        have hB1 := Below.on hB0 hb1
        have hr1 := (hb1.block (w.heap.size + 1) (blk_lt hr0)).trans hr0
        have q1 : w1.cell? ⟨w.heap.size + 1, 0, none⟩ = some (.slice none 0 0) := by rw [blk_cell hr1]; rfl
        have q2 : w1.frozen? ⟨w.heap.size + 1, 0, none⟩ = false := blk_frozen hr1 0
        go_wp2
        have hres := (blk_cell (blk_set hr1 0 (.slice none 0 0)) 0).trans (rfl : (#[Value.slice none 0 0].setIfInBounds 0 (.slice none 0 0))[0]? = some (.slice none 0 0))
        refine bodyPost_ret (v := .tuple #[.agg #[.slice none 0 0], .int .i64 40]) (by simp [results, Tryz.results21, go_sem, hres]) rfl (made2_nil rfl (hB1.setCell (p := ⟨w.heap.size + 1, 0, none⟩) (by show w.heap.size ≤ w.heap.size + 1; omega) _))
      · have hpk : ((p : Int) == (k : Int)) = false := by simp; omega
        have hun : decide ((k : Int) ∈ anc T (par T p)) = true := by
          rw [show decide (p = k) = false by simpa using hpe, Bool.or_false] at hcb
          exact hcb.symm
        clear hE hX h0 hg hir hjr hcb hc hpe
        go_enter Tryz.func21, Tryz.ntmps21
        go_wp2_with fail
        refine (rmask_ok _ _ _ T _ _ _ (hT.out.below hB0)).mono ?_
        rintro e w1 ⟨rfl, hb1⟩
        have hbox1 := cell_later hb1 hbox0
        have hB1 := Below.on hB0 hb1
        have hr1 := (hb1.block (w.heap.size + 1) (blk_lt hr0)).trans hr0
        have q1 : w1.cell? ⟨w.heap.size + 1, 0, none⟩ = some (.slice none 0 0) := by rw [blk_cell hr1]; rfl
        have q2 : w1.frozen? ⟨w.heap.size + 1, 0, none⟩ = false := blk_frozen hr1 0
        go_wp2_with fail
        have hru := runder_ok _ _ c T p k _ (hT.out.below hB1) hp hg'.out
        rw [hun] at hru
        refine hru.mono ?_
        clear hru
        rintro e w2 ⟨rfl, hb2⟩
        have hB2 := Below.on hB1 hb2
        have hr2 := (hb2.block (w.heap.size + 1) (blk_lt hr1)).trans hr1
        have q1 : w2.cell? ⟨w.heap.size + 1, 0, none⟩ = some (.slice none 0 0) := by rw [blk_cell hr2]; rfl
        have q2 : w2.frozen? ⟨w.heap.size + 1, 0, none⟩ = false := blk_frozen hr2 0
        go_wp2
        have hres := (blk_cell (blk_set hr2 0 (.slice none 0 0)) 0).trans (rfl : (#[Value.slice none 0 0].setIfInBounds 0 (.slice none 0 0))[0]? = some (.slice none 0 0))
        refine bodyPost_ret (v := .tuple #[.agg #[.slice none 0 0], .int .i64 40]) (by simp [results, Tryz.results21, go_sem, hres]) rfl (made2_nil rfl (hB2.setCell (p := ⟨w.heap.size + 1, 0, none⟩) (by show w.heap.size ≤ w.heap.size + 1; omega) _))
  · have hE : appE T p k = moveI T k p := by unfold appE; rw [if_neg h0]
    have hX : appT T p k = [] := by unfold appT; rw [if_neg h0]
    have hq0 : (moveI T k p != 0) = true := by simp [h0]
    rw [hE, hX]
    clear hE hX h0 ho
    go_enter Tryz.func21, Tryz.ntmps21
    go_wp2_with fail
    refine (rmask_ok _ _ _ T _ _ _ (hT.out.below hB0)).mono ?_
    rintro e w1 ⟨rfl, hb1⟩
    have hbox1 := cell_later hb1 hbox0
    have hB1 := Below.on hB0 hb1
    have hr1 := (hb1.block (w.heap.size + 1) (blk_lt hr0)).trans hr0
    have q1 : w1.cell? ⟨w.heap.size + 1, 0, none⟩ = some (.slice none 0 0) := by rw [blk_cell hr1]; rfl
    have q2 : w1.frozen? ⟨w.heap.size + 1, 0, none⟩ = false := blk_frozen hr1 0
    go_wp2_with fail
    refine (rmask_ok _ _ _ T _ _ _ (hT.out.below hB1)).mono ?_
    rintro e w2 ⟨rfl, hb2⟩
    have hbox2 := cell_later hb2 hbox1
    have hB2 := Below.on hB1 hb2
    have hr2 := (hb2.block (w.heap.size + 1) (blk_lt hr1)).trans hr1
    have q1 : w2.cell? ⟨w.heap.size + 1, 0, none⟩ = some (.slice none 0 0) := by rw [blk_cell hr2]; rfl
    have q2 : w2.frozen? ⟨w.heap.size + 1, 0, none⟩ = false := blk_frozen hr2 0
    go_wp2
    have hres := (blk_cell (blk_set hr2 0 (.slice none 0 0)) 0).trans (rfl : (#[Value.slice none 0 0].setIfInBounds 0 (.slice none 0 0))[0]? = some (.slice none 0 0))
    refine bodyPost_ret (v := .tuple #[.agg #[.slice none 0 0], .int .i64 (moveI T k p)]) (by simp [results, Tryz.results21, go_sem, hres]) rfl (made2_nil rfl (hB2.setCell (p := ⟨w.heap.size + 1, 0, none⟩) (by show w.heap.size ≤ w.heap.size + 1; omega) _))

theorem befT_put {T : List ANode} {p k m : Nat} (h0 : moveI T k m = 0) (hkm : k ≠ m) (hp : par T m = p) (hc : cycB T p k = false) : befE T k m = 0 ∧ befT T k m = putT T p k m := by
  have e1 : ¬ ((k : Int) = (m : Int)) := by omega
  have e2 : ¬ ((p : Int) < 0) := by omega
  simp [befE, befT, putE, putV, h0, e1, e2, hp, hc]
theorem befT_cyc {T : List ANode} {p k m : Nat} (h0 : moveI T k m = 0) (hkm : k ≠ m) (hp : par T m = p) (hc : cycB T p k = true) : befE T k m = 40 ∧ befT T k m = [] := by
  have e1 : ¬ ((k : Int) = (m : Int)) := by omega
  have e2 : ¬ ((p : Int) < 0) := by omega
  simp [befE, befT, putE, putV, h0, e1, e2, hp, hc]
set_option maxRecDepth 100000 in
set_option maxHeartbeats 4000000 in
theorem rbefore_ok (A : Option Addr) (n c : Nat) (T : List ANode) (k m : Int) (w : World) (h : IsTree w A n T) :
    Calls Tryz.prog 23 #[.agg #[.slice A n c], .int .i64 k, .int .i64 m] w (MadeOwn2 w (befT T k m) (befE T k m)) := by
  have hT := hide h
  have hl := h.1
  have ho := hide h.2.2.2
  clear h
  have hB0 : Below w.heap.size w ((w.alloc (.cells #[.slice A n c] 26)).alloc (.cells #[.slice none 0 0] 26)) := below_alloc (below_alloc (Below.refl _ _) _) _
  have hbox0 : ((w.alloc (.cells #[.slice A n c] 26)).alloc (.cells #[.slice none 0 0] 26)).cell? ⟨w.heap.size, 0, none⟩ = some (.slice A n c) := by go_simp
  have hr0 : ((w.alloc (.cells #[.slice A n c] 26)).alloc (.cells #[.slice none 0 0] 26)).heap[w.heap.size + 1]? = some (.cells #[.slice none 0 0] 26 (0, 0)) := blk_at _ _ _ _ (by simp)
  by_cases h0 : moveI T k m = 0
  · obtain ⟨hg, hir, hjr⟩ := moveI_zero h0
    obtain ⟨k, rfl⟩ := Int.eq_ofNat_of_zero_le (by omega : 0 ≤ k)
    obtain ⟨m, rfl⟩ := Int.eq_ofNat_of_zero_le hjr.1
    have hk1 : 1 ≤ k := by omega
    have hk : k < n := by omega
    have hm : m < n := by omega
    have hq0 : (moveI T k m != 0) = false := by simp [h0]
    have hn64 : n ≤ 64 := by have := ((goodB_iff T).1 hg).2.1; omega
    have hg' := hide hg
    by_cases hkm : k = m
    · have hE : befE T k m = 14 := by unfold befE; rw [if_pos h0]; rw [if_pos (by omega)]
      have hX : befT T k m = [] := by unfold befT; rw [if_pos h0]; rw [if_pos (by omega)]
      rw [hE, hX]
      have hkm' : ((k : Int) == (m : Int)) = true := by simp [hkm]
      clear hE hX h0 hg hir hjr hkm
      go_enter Tryz.func23, Tryz.ntmps23
      go_wp2_with fail
      refine (rmask_ok _ _ _ T _ _ _ (hT.out.below hB0)).mono ?_
      rintro e w1 ⟨rfl, hb1⟩
      have hbox1 := cell_later hb1 hbox0
      have hB1 := Below.on hB0 hb1
      have hr1 := (hb1.block (w.heap.size + 1) (blk_lt hr0)).trans hr0
      have q1 : w1.cell? ⟨w.heap.size + 1, 0, none⟩ = some (.slice none 0 0) := by rw [blk_cell hr1]; rfl
      have q2 : w1.frozen? ⟨w.heap.size + 1, 0, none⟩ = false := blk_frozen hr1 0
      go_wp2
      have hres := (blk_cell (blk_set hr1 0 (.slice none 0 0)) 0).trans (rfl : (#[Value.slice none 0 0].setIfInBounds 0 (.slice none 0 0))[0]? = some (.slice none 0 0))
      refine bodyPost_ret (v := .tuple #[.agg #[.slice none 0 0], .int .i64 14]) (by simp [results, Tryz.results23, go_sem, hres]) rfl (made2_nil rfl (hB1.setCell (p := ⟨w.heap.size + 1, 0, none⟩) (by show w.heap.size ≤ w.heap.size + 1; omega) _))
    · have hkm' : ((k : Int) == (m : Int)) = false := by simp; omega
      obtain ⟨b, off, aA, cA, aC, cC, rfl, hbl, -, -, c2, -, -, -⟩ := ho.out (by omega)
      have c2' := hide (c2 m hm)
      by_cases hp : par T m < 0
      · have hE : befE T k m = 6 := by unfold befE; rw [if_pos h0]; rw [if_neg (by omega), Int.toNat_natCast, if_pos hp]
        have hX : befT T k m = [] := by unfold befT; rw [if_pos h0]; rw [if_neg (by omega), Int.toNat_natCast, if_pos hp]
        rw [hE, hX]
        clear hE hX h0 hg hir hjr hkm c2
        go_enter Tryz.func23, Tryz.ntmps23
        go_wp2_with fail
        refine (rmask_ok _ _ _ T _ _ _ (hT.out.below hB0)).mono ?_
        rintro e w1 ⟨rfl, hb1⟩
        have hbox1 := cell_later hb1 hbox0
        have hB1 := Below.on hB0 hb1
        have hr1 := (hb1.block (w.heap.size + 1) (blk_lt hr0)).trans hr0
        have q1 : w1.cell? ⟨w.heap.size + 1, 0, none⟩ = some (.slice none 0 0) := by rw [blk_cell hr1]; rfl
        have q2 : w1.frozen? ⟨w.heap.size + 1, 0, none⟩ = false := blk_frozen hr1 0
        have g1 := (old hB1 _ _ hbl).trans c2'.out
        go_wp2
        have hres := (blk_cell (blk_set hr1 0 (.slice none 0 0)) 0).trans (rfl : (#[Value.slice none 0 0].setIfInBounds 0 (.slice none 0 0))[0]? = some (.slice none 0 0))
        refine bodyPost_ret (v := .tuple #[.agg #[.slice none 0 0], .int .i64 6]) (by simp [results, Tryz.results23, go_sem, hres]) rfl (made2_nil rfl (hB1.setCell (p := ⟨w.heap.size + 1, 0, none⟩) (by show w.heap.size ≤ w.heap.size + 1; omega) _))
      · have hpp := good_par hg (by omega : m < T.length)
        obtain ⟨p, hpe⟩ := Int.eq_ofNat_of_zero_le (by omega : 0 ≤ par T m)
        have hp' : p < n := by omega
        have hcb := cyc_bel hg (by omega : p < T.length) (by omega : k < T.length)
        rw [bel_iff hg (by omega : p < T.length) (by omega : k < T.length)] at hcb
        have hmem : (m : Int) ∈ less1 (kids T p) k := by
          rw [less1_mem]
          have := par_kid hg (by omega : m < T.length) (by omega)
          rw [hpe, Int.toNat_natCast] at this
          exact ⟨this, by omega⟩
        rw [hpe] at c2'
        cases hc : cycB T p k
        · obtain ⟨hE, hX⟩ := befT_put h0 hkm hpe hc
          rw [hE, hX]
          rw [hc] at hcb
          have hpk : ((p : Int) == (k : Int)) = false := by
            have : p ≠ k := fun e => by rw [e] at hcb; simp at hcb
            simp; omega
          have hun : decide ((k : Int) ∈ anc T (par T p)) = false := by
            cases h : decide ((k : Int) ∈ anc T (par T p))
            · rfl
            · rw [h] at hcb; simp at hcb
          have hanc : (k : Int) ∉ anc T p := by unfold cycB at hc; simpa using hc
          have hfe := hide (good_fits (good_put hg (by omega : p < T.length) (by omega : k < T.length) hk1 m hanc))
          have hlX : (putT T p k m).length = n := by rw [putT_len]; exact hl
          have hput := hide (fun W hW => rput15_ok (some ⟨b, off, none⟩) n c T p k m W hW hg hp' hk hk1 hanc (.inr hmem))
          obtain ⟨XT, hXT⟩ : ∃ XT, putT T p k m = XT := ⟨_, rfl⟩
          rw [hXT] at hput hlX hfe ⊢
          clear hE hX h0 hg hir hjr hXT hcb hc hanc hpe hpp hp hmem c2 ho hkm
          go_enter Tryz.func23, Tryz.ntmps23
          go_wp2_with fail
          refine (rmask_ok _ _ _ T _ _ _ (hT.out.below hB0)).mono ?_
          rintro e w1 ⟨rfl, hb1⟩
          have hbox1 := cell_later hb1 hbox0
          have hB1 := Below.on hB0 hb1
          have hr1 := (hb1.block (w.heap.size + 1) (blk_lt hr0)).trans hr0
          have q1 : w1.cell? ⟨w.heap.size + 1, 0, none⟩ = some (.slice none 0 0) := by rw [blk_cell hr1]; rfl
          have q2 : w1.frozen? ⟨w.heap.size + 1, 0, none⟩ = false := blk_frozen hr1 0
          have g1 := (old hB1 _ _ hbl).trans c2'.out
          go_wp2_with fail
          have hru := runder_ok _ _ c T p k _ (hT.out.below hB1) hp' hg'.out
          rw [hun] at hru
          refine hru.mono ?_
          clear hru
          rintro e w2 ⟨rfl, hb2⟩
          have hbox2 := cell_later hb2 hbox1
          have hB2 := Below.on hB1 hb2
          have hr2 := (hb2.block (w.heap.size + 1) (blk_lt hr1)).trans hr1
          have q1 : w2.cell? ⟨w.heap.size + 1, 0, none⟩ = some (.slice none 0 0) := by rw [blk_cell hr2]; rfl
          have q2 : w2.frozen? ⟨w.heap.size + 1, 0, none⟩ = false := blk_frozen hr2 0
          go_wp2_with fail
          refine (hput.out _ (hT.out.below hB2)).mono ?_
          rintro e w3 ⟨A2, c2, rfl, hO2, -, hb3⟩
          have hB3 := Below.on hB2 hb3
          have hr3 := (hb3.block (w.heap.size + 1) (blk_lt hr2)).trans hr2
          have q1 : w3.cell? ⟨w.heap.size + 1, 0, none⟩ = some (.slice none 0 0) := by rw [blk_cell hr3]; rfl
          have q2 : w3.frozen? ⟨w.heap.size + 1, 0, none⟩ = false := blk_frozen hr3 0
          have hlw := blk_lt hr2
          have hO3 := hO2.set (p := ⟨w.heap.size + 1, 0, none⟩) (by show w.heap.size + 1 < w2.heap.size; omega) (.slice A2 n c2)
          have hres := (blk_cell (blk_set hr3 0 (.slice A2 n c2)) 0).trans (rfl : (#[Value.slice none 0 0].setIfInBounds 0 (.slice A2 n c2))[0]? = some (.slice A2 n c2))
          have hres' := hide hres
          have hE : MadeOwn2 w (XT) 0 (.returned (.tuple #[.agg #[.slice A2 n c2], .int .i64 0])) (w3.setCell ⟨w.heap.size + 1, 0, none⟩ (.slice A2 n c2)) := by
            obtain ⟨A3, c3, hv, _, _, hT3⟩ := isTree_of_own hO3 hlX (by omega) hfe.out
            injection hv with e1 e2 e3
            subst e1
            exact ⟨A2, c2, by rw [hlX], by rw [hlX]; exact hO3.base (by show w.heap.size ≤ w2.heap.size; omega), by rw [hlX]; exact hT3, hB3.setCell (p := ⟨w.heap.size + 1, 0, none⟩) (by show w.heap.size ≤ w.heap.size + 1; omega) _⟩
          have hE' := hide hE
          clear hE hres hO3 hO2 hb3 hB3
          go_wp2
          exact bodyPost_ret (v := .tuple #[.agg #[.slice A2 n c2], .int .i64 0]) (by simp [results, Tryz.results23, go_sem, hres'.out]) rfl hE'.out
        · obtain ⟨hE, hX⟩ := befT_cyc h0 hkm hpe hc
          rw [hE, hX]
          rw [hc] at hcb
          by_cases hpq : p = k
          · have hpk : ((p : Int) == (k : Int)) = true := by simp [hpq]
            clear hE hX h0 hg hir hjr hcb hc hpq hpe hpp hp hmem c2 ho hkm
            go_enter Tryz.func23, Tryz.ntmps23
            go_wp2_with fail
            refine (rmask_ok _ _ _ T _ _ _ (hT.out.below hB0)).mono ?_
            rintro e w1 ⟨rfl, hb1⟩
            have hbox1 := cell_later hb1 hbox0
            have hB1 := Below.on hB0 hb1
            have hr1 := (hb1.block (w.heap.size + 1) (blk_lt hr0)).trans hr0
            have q1 : w1.cell? ⟨w.heap.size + 1, 0, none⟩ = some (.slice none 0 0) := by rw [blk_cell hr1]; rfl
            have q2 : w1.frozen? ⟨w.heap.size + 1, 0, none⟩ = false := blk_frozen hr1 0
            have g1 := (old hB1 _ _ hbl).trans c2'.out
            go_wp2
            have hres := (blk_cell (blk_set hr1 0 (.slice none 0 0)) 0).trans (rfl : (#[Value.slice none 0 0].setIfInBounds 0 (.slice none 0 0))[0]? = some (.slice none 0 0))
            refine bodyPost_ret (v := .tuple #[.agg #[.slice none 0 0], .int .i64 40]) (by simp [results, Tryz.results23, go_sem, hres]) rfl (made2_nil rfl (hB1.setCell (p := ⟨w.heap.size + 1, 0, none⟩) (by show w.heap.size ≤ w.heap.size + 1; omega) _))
          · have hpk : ((p : Int) == (k : Int)) = false := by simp; omega
            have hun : decide ((k : Int) ∈ anc T (par T p)) = true := by
              rw [show decide (p = k) = false by simpa using hpq, Bool.or_false] at hcb
              exact hcb.symm
            clear hE hX h0 hg hir hjr hcb hc hpq hpe hpp hp hmem c2 ho hkm
            go_enter Tryz.func23, Tryz.ntmps23
            go_wp2_with fail
            refine (rmask_ok _ _ _ T _ _ _ (hT.out.below hB0)).mono ?_
            rintro e w1 ⟨rfl, hb1⟩
            have hbox1 := cell_later hb1 hbox0
            have hB1 := Below.on hB0 hb1
            have hr1 := (hb1.block (w.heap.size + 1) (blk_lt hr0)).trans hr0
            have q1 : w1.cell? ⟨w.heap.size + 1, 0, none⟩ = some (.slice none 0 0) := by rw [blk_cell hr1]; rfl
            have q2 : w1.frozen? ⟨w.heap.size + 1, 0, none⟩ = false := blk_frozen hr1 0
            have g1 := (old hB1 _ _ hbl).trans c2'.out
            go_wp2_with fail
            have hru := runder_ok _ _ c T p k _ (hT.out.below hB1) hp' hg'.out
            rw [hun] at hru
            refine hru.mono ?_
            clear hru
            rintro e w2 ⟨rfl, hb2⟩
            have hB2 := Below.on hB1 hb2
            have hr2 := (hb2.block (w.heap.size + 1) (blk_lt hr1)).trans hr1
            have q1 : w2.cell? ⟨w.heap.size + 1, 0, none⟩ = some (.slice none 0 0) := by rw [blk_cell hr2]; rfl
            have q2 : w2.frozen? ⟨w.heap.size + 1, 0, none⟩ = false := blk_frozen hr2 0
            go_wp2
            have hres := (blk_cell (blk_set hr2 0 (.slice none 0 0)) 0).trans (rfl : (#[Value.slice none 0 0].setIfInBounds 0 (.slice none 0 0))[0]? = some (.slice none 0 0))
            refine bodyPost_ret (v := .tuple #[.agg #[.slice none 0 0], .int .i64 40]) (by simp [results, Tryz.results23, go_sem, hres]) rfl (made2_nil rfl (hB2.setCell (p := ⟨w.heap.size + 1, 0, none⟩) (by show w.heap.size ≤ w.heap.size + 1; omega) _))
  · have hE : befE T k m = moveI T k m := by unfold befE; rw [if_neg h0]
    have hX : befT T k m = [] := by unfold befT; rw [if_neg h0]
    have hq0 : (moveI T k m != 0) = true := by simp [h0]
    rw [hE, hX]
    clear hE hX h0 ho
    go_enter Tryz.func23, Tryz.ntmps23
    go_wp2_with fail
    refine (rmask_ok _ _ _ T _ _ _ (hT.out.below hB0)).mono ?_
    rintro e w1 ⟨rfl, hb1⟩
    have hbox1 := cell_later hb1 hbox0
    have hB1 := Below.on hB0 hb1
    have hr1 := (hb1.block (w.heap.size + 1) (blk_lt hr0)).trans hr0
    have q1 : w1.cell? ⟨w.heap.size + 1, 0, none⟩ = some (.slice none 0 0) := by rw [blk_cell hr1]; rfl
    have q2 : w1.frozen? ⟨w.heap.size + 1, 0, none⟩ = false := blk_frozen hr1 0
    go_wp2_with fail
    refine (rmask_ok _ _ _ T _ _ _ (hT.out.below hB1)).mono ?_
    rintro e w2 ⟨rfl, hb2⟩
    have hbox2 := cell_later hb2 hbox1
    have hB2 := Below.on hB1 hb2
    have hr2 := (hb2.block (w.heap.size + 1) (blk_lt hr1)).trans hr1
    have q1 : w2.cell? ⟨w.heap.size + 1, 0, none⟩ = some (.slice none 0 0) := by rw [blk_cell hr2]; rfl
    have q2 : w2.frozen? ⟨w.heap.size + 1, 0, none⟩ = false := blk_frozen hr2 0
    go_wp2
    have hres := (blk_cell (blk_set hr2 0 (.slice none 0 0)) 0).trans (rfl : (#[Value.slice none 0 0].setIfInBounds 0 (.slice none 0 0))[0]? = some (.slice none 0 0))
    refine bodyPost_ret (v := .tuple #[.agg #[.slice none 0 0], .int .i64 (moveI T k m)]) (by simp [results, Tryz.results23, go_sem, hres]) rfl (made2_nil rfl (hB2.setCell (p := ⟨w.heap.size + 1, 0, none⟩) (by show w.heap.size ≤ w.heap.size + 1; omega) _))

set_option maxRecDepth 100000 in
set_option maxHeartbeats 4000000 in
theorem rtake_ok (A : Option Addr) (n c : Nat) (T : List ANode) (i : Int) (w : World) (h : IsTree w A n T) :
    Calls Tryz.prog 25 #[.agg #[.slice A n c], .int .i64 i] w (MadeOwn2 w (takeT T i) (takeE T i)) := by
  have hT := hide h
  have hl := h.1
  have ho := hide h.2.2.2
  clear h
  have hB0 : Below w.heap.size w ((w.alloc (.cells #[.slice A n c] 26)).alloc (.cells #[.slice none 0 0] 26)) := below_alloc (below_alloc (Below.refl _ _) _) _
  have hbox0 : ((w.alloc (.cells #[.slice A n c] 26)).alloc (.cells #[.slice none 0 0] 26)).cell? ⟨w.heap.size, 0, none⟩ = some (.slice A n c) := by go_simp
  have hr0 : ((w.alloc (.cells #[.slice A n c] 26)).alloc (.cells #[.slice none 0 0] 26)).heap[w.heap.size + 1]? = some (.cells #[.slice none 0 0] 26 (0, 0)) := blk_at _ _ _ _ (by simp)
  by_cases h0 : moveI T i i = 0
  · obtain ⟨hg, hir, -⟩ := moveI_zero h0
    obtain ⟨k, rfl⟩ := Int.eq_ofNat_of_zero_le (by omega : 0 ≤ i)
    have hk1 : 1 ≤ k := by omega
    have hk : k < n := by omega
    have hq0 : (moveI T k k != 0) = false := by simp [h0]
    have hn64 : n ≤ 64 := by have := ((goodB_iff T).1 hg).2.1; omega
    obtain ⟨b, off, aA, cA, aC, cC, rfl, hbl, -, -, c2, -, -, -⟩ := ho.out (by omega)
    have c2' := hide (c2 k hk)
    have hE : takeE T k = if par T k < 0 then 6 else 0 := by unfold takeE; rw [if_pos h0, Int.toNat_natCast]
    by_cases hp : par T k < 0
    · rw [if_pos hp] at hE
      have hX : takeT T k = [] := by unfold takeT; rw [hE]; rfl
      rw [hE, hX]
      clear hE hX h0 hg hir c2 ho
      go_enter Tryz.func25, Tryz.ntmps25
      go_wp2_with fail
      refine (rmask_ok _ _ _ T _ _ _ (hT.out.below hB0)).mono ?_
      rintro e w1 ⟨rfl, hb1⟩
      have hbox1 := cell_later hb1 hbox0
      have hB1 := Below.on hB0 hb1
      have hr1 := (hb1.block (w.heap.size + 1) (blk_lt hr0)).trans hr0
      have q1 : w1.cell? ⟨w.heap.size + 1, 0, none⟩ = some (.slice none 0 0) := by rw [blk_cell hr1]; rfl
      have q2 : w1.frozen? ⟨w.heap.size + 1, 0, none⟩ = false := blk_frozen hr1 0
      have g1 := (old hB1 _ _ hbl).trans c2'.out
      go_wp2
      have hres := (blk_cell (blk_set hr1 0 (.slice none 0 0)) 0).trans (rfl : (#[Value.slice none 0 0].setIfInBounds 0 (.slice none 0 0))[0]? = some (.slice none 0 0))
      refine bodyPost_ret (v := .tuple #[.agg #[.slice none 0 0], .int .i64 6]) (by simp [results, Tryz.results25, go_sem, hres]) rfl (made2_nil rfl (hB1.setCell (p := ⟨w.heap.size + 1, 0, none⟩) (by show w.heap.size ≤ w.heap.size + 1; omega) _))
    · rw [if_neg hp] at hE
      have hX : takeT T k = takenT T k := by unfold takeT; rw [if_pos hE, Int.toNat_natCast]
      rw [hE, hX]
      have hfe := hide (good_fits (good_taken hg (by omega : k < T.length)))
      have hlX : (takenT T k).length = n := by rw [takenT_len]; exact hl
      have hput := hide (fun W hW => rtaken_ok (some ⟨b, off, none⟩) n c T k W hW hg hk)
      obtain ⟨XT, hXT⟩ : ∃ XT, takenT T k = XT := ⟨_, rfl⟩
      rw [hXT] at hput hlX hfe ⊢
      clear hE hX h0 hg hir hXT c2 ho
      go_enter Tryz.func25, Tryz.ntmps25
      go_wp2_with fail
      refine (rmask_ok _ _ _ T _ _ _ (hT.out.below hB0)).mono ?_
      rintro e w1 ⟨rfl, hb1⟩
      have hbox1 := cell_later hb1 hbox0
      have hB1 := Below.on hB0 hb1
      have hr1 := (hb1.block (w.heap.size + 1) (blk_lt hr0)).trans hr0
      have q1 : w1.cell? ⟨w.heap.size + 1, 0, none⟩ = some (.slice none 0 0) := by rw [blk_cell hr1]; rfl
      have q2 : w1.frozen? ⟨w.heap.size + 1, 0, none⟩ = false := blk_frozen hr1 0
      have g1 := (old hB1 _ _ hbl).trans c2'.out
      go_wp2_with fail
      refine (hput.out _ (hT.out.below hB1)).mono ?_
      rintro e w2 ⟨A2, c2, rfl, hO2, -, hb2⟩
      have hB2 := Below.on hB1 hb2
      have hr2 := (hb2.block (w.heap.size + 1) (blk_lt hr1)).trans hr1
      have q1 : w2.cell? ⟨w.heap.size + 1, 0, none⟩ = some (.slice none 0 0) := by rw [blk_cell hr2]; rfl
      have q2 : w2.frozen? ⟨w.heap.size + 1, 0, none⟩ = false := blk_frozen hr2 0
      have hlw := blk_lt hr1
      have hO3 := hO2.set (p := ⟨w.heap.size + 1, 0, none⟩) (by show w.heap.size + 1 < w1.heap.size; omega) (.slice A2 n c2)
      have hres := (blk_cell (blk_set hr2 0 (.slice A2 n c2)) 0).trans (rfl : (#[Value.slice none 0 0].setIfInBounds 0 (.slice A2 n c2))[0]? = some (.slice A2 n c2))
      have hres' := hide hres
      have hE : MadeOwn2 w (XT) 0 (.returned (.tuple #[.agg #[.slice A2 n c2], .int .i64 0])) (w2.setCell ⟨w.heap.size + 1, 0, none⟩ (.slice A2 n c2)) := by
        obtain ⟨A3, c3, hv, _, _, hT3⟩ := isTree_of_own hO3 hlX (by omega) hfe.out
        injection hv with e1 e2 e3
        subst e1
        exact ⟨A2, c2, by rw [hlX], by rw [hlX]; exact hO3.base (by show w.heap.size ≤ w1.heap.size; omega), by rw [hlX]; exact hT3, hB2.setCell (p := ⟨w.heap.size + 1, 0, none⟩) (by show w.heap.size ≤ w.heap.size + 1; omega) _⟩
      have hE' := hide hE
      clear hE hres hO3 hO2 hb2 hB2
      go_wp2
      exact bodyPost_ret (v := .tuple #[.agg #[.slice A2 n c2], .int .i64 0]) (by simp [results, Tryz.results25, go_sem, hres'.out]) rfl hE'.out
  · have hE : takeE T i = moveI T i i := by unfold takeE; rw [if_neg h0]
    have hX : takeT T i = [] := by unfold takeT; rw [hE, if_neg h0]
    have hq0 : (moveI T i i != 0) = true := by simp [h0]
    rw [hE, hX]
    clear hE hX h0 ho
    go_enter Tryz.func25, Tryz.ntmps25
    go_wp2_with fail
    refine (rmask_ok _ _ _ T _ _ _ (hT.out.below hB0)).mono ?_
    rintro e w1 ⟨rfl, hb1⟩
    have hbox1 := cell_later hb1 hbox0
    have hB1 := Below.on hB0 hb1
    have hr1 := (hb1.block (w.heap.size + 1) (blk_lt hr0)).trans hr0
    have q1 : w1.cell? ⟨w.heap.size + 1, 0, none⟩ = some (.slice none 0 0) := by rw [blk_cell hr1]; rfl
    have q2 : w1.frozen? ⟨w.heap.size + 1, 0, none⟩ = false := blk_frozen hr1 0
    go_wp2_with fail
    refine (rmask_ok _ _ _ T _ _ _ (hT.out.below hB1)).mono ?_
    rintro e w2 ⟨rfl, hb2⟩
    have hbox2 := cell_later hb2 hbox1
    have hB2 := Below.on hB1 hb2
    have hr2 := (hb2.block (w.heap.size + 1) (blk_lt hr1)).trans hr1
    have q1 : w2.cell? ⟨w.heap.size + 1, 0, none⟩ = some (.slice none 0 0) := by rw [blk_cell hr2]; rfl
    have q2 : w2.frozen? ⟨w.heap.size + 1, 0, none⟩ = false := blk_frozen hr2 0
    go_wp2
    have hres := (blk_cell (blk_set hr2 0 (.slice none 0 0)) 0).trans (rfl : (#[Value.slice none 0 0].setIfInBounds 0 (.slice none 0 0))[0]? = some (.slice none 0 0))
    refine bodyPost_ret (v := .tuple #[.agg #[.slice none 0 0], .int .i64 (moveI T i i)]) (by simp [results, Tryz.results25, go_sem, hres]) rfl (made2_nil rfl (hB2.setCell (p := ⟨w.heap.size + 1, 0, none⟩) (by show w.heap.size ≤ w.heap.size + 1; omega) _))
end Go.Proofs.YtmdccplhmniiiaaGreat
