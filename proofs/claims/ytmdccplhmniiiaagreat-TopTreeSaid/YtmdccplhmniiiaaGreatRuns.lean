/- Walks: an attribute is taken away, by the reference. No condition but those of the inner functions. -/
import Derived.Test.YtmdccplhmniiiaaGreatRset
import Derived.Deep.RegionLaw
namespace Go.Proofs.YtmdccplhmniiiaaGreat
open Go.RowKit

/-- append(l[:i], l[i+1:]...) in a row of the call's own. -/
theorem cut_app {base g n c i : Nat} {xs : List Value} (W : World) (hown : W.ownsRow base 72 2 (.slice (some ⟨g, 0, none⟩) n c) n xs) (hi : i < n) (h1x : ∀ v ∈ xs, v.oneCell' = true) :
    ∃ W1 : World, (∀ ty (AA : Addr) sc, (AA = ⟨g, (i + 1) * 2, none⟩ ∨ n - (i + 1) = 0) → (Builtin.append_ #[56, 56] ty #[.slice (some ⟨g, 0, none⟩) i c, .slice (some AA) (n - (i + 1)) sc]).run Tryz.prog W = .ok (.slice (some ⟨g, 0, none⟩) (n - 1) c) W1) ∧
      W1.ownsRow base 72 2 (.slice (some ⟨g, 0, none⟩) (n - 1) c) (n - 1) (xs.take (i * 2) ++ xs.drop ((i + 1) * 2)) ∧ W.grownBy W1 (some g) := by
  obtain ⟨i0, hI, hz0, hz1, hz2⟩ := info_parts info_attr
  have hown0 := hown
  rcases hown.2 with ⟨h0, -⟩ | ⟨g', cap', cur, h0, hgb, hgc, hnc, hcm, hcs, hct⟩
  · cases h0
  cases h0
  have hxl : xs.length = n * 2 := hown0.1
  refine ⟨W.setRow g (cur.toList.take (i * 2) ++ xs.drop ((i + 1) * 2) ++ cur.toList.drop (i * 2 + (xs.drop ((i + 1) * 2)).length)).toArray, fun ty AA sc hA => ?_, own_row (setRow_heap _ _ _ _ _ _ hgc) hgb (by omega) hcm ?_ ?_, grownBy_setRow _ _ _⟩
  · have h := Go.run_append_room (P := Tryz.prog) (w := W) 56 ty 72 i0 Tryz.underlying56 hI g i c cur hgc AA (n - (i + 1)) sc (xs.drop ((i + 1) * 2)) (by rw [hz1, List.length_drop, hxl]; omega) (fun j u hj => by
      rcases hA with rfl | h0
      · exact src_row (w := W) hgc j u (by rw [← hct] at hj; exact hj)
      · rw [List.drop_of_length_le (by omega)] at hj; simp at hj) (fun v hv => h1x v (List.mem_of_mem_drop hv)) (by omega) (by rw [hz1, List.length_drop, hxl, hcs]; omega)
    rw [hz1, show i + (n - (i + 1)) = n - 1 by omega] at h
    exact h
  · simp only [List.size_toArray, List.length_append, List.length_take, List.length_drop, Array.length_toList, hcs, hxl]; omega
  · have h1 : cur.toList.take (i * 2) = xs.take (i * 2) := by rw [← hct, List.take_take, Nat.min_eq_left (by omega)]
    show List.take ((n - 1) * 2) _ = _
    rw [h1]
    exact List.take_left' (by simp only [List.length_append, List.length_take, List.length_drop, hxl]; omega)

set_option maxRecDepth 100000 in
set_option maxHeartbeats 4000000 in
theorem runs_yes (A : Option Addr) (n c : Nat) (T : List ANode) (k : Nat) (s : ByteArray) (w : World) (h : IsTree w A n T) (hk : k < n) (hg : goodB T = true) (hh : hasA (atl T k) s = true) :
    Calls Tryz.prog 29 #[.agg #[.slice A n c], .int .i64 k, .string s] w (MadeOwn2 w (unsT T k s) 0) := by
  have hT := hide h
  have hl := h.1
  clear h
  have hB0 : Below w.heap.size w ((w.alloc (.cells #[.slice A n c] 26)).alloc (.cells #[.slice none 0 0] 26)) := below_alloc (below_alloc (Below.refl _ _) _) _
  have hbox0 : ((w.alloc (.cells #[.slice A n c] 26)).alloc (.cells #[.slice none 0 0] 26)).cell? ⟨w.heap.size, 0, none⟩ = some (.slice A n c) := by go_simp
  have hr0 : ((w.alloc (.cells #[.slice A n c] 26)).alloc (.cells #[.slice none 0 0] 26)).heap[w.heap.size + 1]? = some (.cells #[.slice none 0 0] 26 (0, 0)) := blk_at _ _ _ _ (by simp)
  have h0 : askI T [(k : Int)] = 0 := askI_ok hg (by simp; omega)
  have hq0 : (askI T [(k : Int)] != 0) = false := by simp [h0]
  have hE : getE T k s = 0 := by unfold getE; rw [if_pos h0, Int.toNat_natCast, hh]; rfl
  have hTd : unsT T k s = setA T k ((atl T k).take (lowA (atl T k) s) ++ (atl T k).drop (lowA (atl T k) s + 1)) := by unfold unsT; rw [if_pos hE, Int.toNat_natCast]
  obtain ⟨hsd, h16⟩ := good_attrs hg (by omega : k < T.length)
  have hlo : lowA (atl T k) s < (atl T k).length := by unfold hasA at hh; simp at hh; exact hh.1
  have hatl : (nd T k).attrs = atl T k := rfl
  have hatl' := hide hatl
  have hrat := hide fun w' (h : IsTree w' A n T) => rattr_ok A n c T k s w' h hk hg
  have hav : atV (atl T k) s = (lowA (atl T k) s : Int) := by unfold atV; rw [hh]; rfl
  rw [hav] at hrat
  generalize hla : atl T k = l at *
  generalize hlow : lowA l s = at' at *
  have hfit := hide (good_fits hg)
  have hn64 : n ≤ 64 := by have := ((goodB_iff T).1 hg).2.1; omega
  obtain ⟨TT, hTT0⟩ : ∃ TT, TT = setA T k (l.take at' ++ l.drop (at' + 1)) := ⟨_, rfl⟩
  rw [hTd, ← hTT0]
  have hTT1 := hide hTT0
  clear hTd hE hh h0 hsd hlow hla hatl hg hTT0 hav
  go_enter Tryz.func29, Tryz.ntmps29
  go_wp2_with fail
  refine (rasked_ok _ _ _ T _ _ (hT.out.below hB0)).mono ?_
  rintro e w1 ⟨rfl, hb1⟩
  have hbox1 := cell_later hb1 hbox0
  have hB1 := Below.on hB0 hb1
  have hr1 := (hb1.block (w.heap.size + 1) (blk_lt hr0)).trans hr0
  go_wp2_with fail
  refine (hrat.out _ (hT.out.below hB1)).mono ?_
  rintro e w2 ⟨rfl, hb2⟩
  have hbox2 := cell_later hb2 hbox1
  have hB2 := Below.on hB1 hb2
  have hr2 := (hb2.block (w.heap.size + 1) (blk_lt hr1)).trans hr1
  go_wp2_with fail
  refine (twin_ok _ _ _ T _ (hT.out.below hB2) (by omega) hfit.out).mono ?_
  rintro e w4 ⟨A4, c4, rfl, hO4, -, hb4⟩
  have hB4 := Below.on hB2 hb4
  have hbox4 := cell_later (below_alloc hb4 (.cells #[.slice A4 n c4] 26)) hbox2
  have hr4 := (hb4.block (w.heap.size + 1) (blk_lt hr2)).trans hr2
  have hO4a := hO4.below (below_alloc (Below.refl _ _) (.cells #[.slice A4 n c4] 26))
  obtain ⟨g, cap, A', ac', C', cc', N⟩ := hO4a.node hk hl
  have hval := N.val
  injection hval with e1 e2 e3
  subst e1 e3
  have hr4a := blk_alloc hr4 (.cells #[.slice (some ⟨g, 0, none⟩) n c4] 26)
  have hk4a := blk_new w4 #[.slice (some ⟨g, 0, none⟩) n c4] 26
  have hB4a := below_alloc hB4 (.cells #[.slice (some ⟨g, 0, none⟩) n c4] 26)
  have hcl := N.c1
  rw [hatl'.out] at hcl
  have hN := hide N
  clear N hO4 hO4a e2
  go_wp2_with fail
  refine (hrat.out _ (hT.out.below hB4a)).mono ?_
  rintro e w5 ⟨rfl, hb5⟩
  obtain ⟨g5, cap5, cur, hv5, hnc5, hcm5, hbg5, hg5⟩ := own_block hN.out.rowA (by rw [hatl'.out]; omega)
  injection hv5 with e4 e5 e6
  subst e4 e6
  have hN5 : ∀ q, q < (w4.alloc (.cells #[.slice (some ⟨g, 0, none⟩) n c4] 26)).heap.size → w5.heap[q]? = (w4.alloc (.cells #[.slice (some ⟨g, 0, none⟩) n c4] 26)).heap[q]? := fun q hq => hb5.block q hq
  have hr5 := (hN5 _ (blk_lt hr4a)).trans hr4a
  have hk5 := (hN5 _ (blk_lt hk4a)).trans hk4a
  obtain ⟨csN, hgN⟩ := hN.out.typ
  have hgN5 := (hN5 _ (blk_lt hgN)).trans hgN
  have hg55 := (hN5 _ (blk_lt hg5)).trans hg5
  have hrow5 := own_below hN.out.rowA hb5
  rw [hatl'.out] at hrow5
  have ng1 : ¬ (g5 = g) := blk_ne hg55 hgN5 (by decide)
  have ng2 : ¬ (w4.heap.size = g) := blk_ne hk5 hgN5 (by decide)
  have ng3 : ¬ (w4.heap.size = g5) := blk_ne hk5 hg55 (by decide)
  have hw3 := blk_lt hr2
  have hlow := hN.out.low
  have hz4 := hb4.size
  have ng4 : ¬ (w.heap.size + 1 = g) := by omega
  have ng5 : ¬ (w.heap.size + 1 = g5) := by omega
  have ng6 : ¬ (w.heap.size + 1 = w4.heap.size) := by omega
  have f0 : w5.cell? ⟨w4.heap.size, 0, none⟩ = some (.slice (some ⟨g, 0, none⟩) n c4) := by rw [blk_cell hk5]; rfl
  have f1 : w5.cell? ⟨g, k * 4 + 1, none⟩ = some (.slice (some ⟨g5, 0, none⟩) l.length ac') := (World.cell?_of_block (hN5 g (blk_lt hgN))).trans hcl
  have hfz : w5.frozen? ⟨g, k * 4 + 1, none⟩ = false := blk_frozen hgN5 _
  -- the append onto the part ahead
  obtain ⟨w6, hap, hown6, hgr6⟩ := cut_app w5.drew hrow5 hlo (atts_one _)
  have hap' := hide hap
  clear hap
  have hlen1 := del_len l hlo
  have hz5 := hb5.size
  have hB5 := Below.on hB4a hb5
  have hq6 : ∀ q, q < w5.heap.size → q ≠ g5 → w6.heap[q]? = w5.heap[q]? := fun q hq hne => hgr6.block q hq (by simpa using hne)
  have hO7 := hN.out.onA w6 (some ⟨g5, 0, none⟩) ac' (l.take at' ++ l.drop (at' + 1)) (fun q hq hne => (hq6 q (Nat.lt_of_lt_of_le hq hz5) (fun e => hne (by simp [e]))).trans (hN5 q hq)) (by rw [hlen1, ← atts_del]; exact hown6) (fun q hq => .inl hq)
  rw [hlen1] at hO7
  have hr6 := (hq6 _ (blk_lt hr5) ng5).trans hr5
  have hk6 := (hq6 _ (blk_lt hk5) ng3).trans hk5
  have hg6 := hq6 g (blk_lt hgN5) (Ne.symm ng1)
  have hr7 := blk_far (p := ⟨g, k * 4 + 1, none⟩) hr6 ng4 (.slice (some ⟨g5, 0, none⟩) (l.length - 1) ac')
  have hB6 : Below w.heap.size w w6 := hB5.drew.grown hgr6 hB5.size (fun q hq => by injection hq with hq; omega)
  have hB7 := hB6.setCell (p := ⟨g, k * 4 + 1, none⟩) (by show w.heap.size ≤ g; omega) (.slice (some ⟨g5, 0, none⟩) (l.length - 1) ac')
  have hO8 := (hO7.set_typed (i := 0) hr7 (.slice (some ⟨g, 0, none⟩) n c4)).base (base := w.heap.size) (by omega)
  have hfit8 : Fits (setA T k (l.take at' ++ l.drop (at' + 1))) := fits_setA hfit.out (by omega) (by rw [hlen1]; omega) (fun y hy => by
    have hfk := (hfit.out _ (nd_mem (T := T) (i := k) (by omega))).2.2.2
    rw [hatl'.out] at hfk
    rcases List.mem_append.1 hy with hy | hy
    · exact hfk y (List.mem_of_mem_take hy)
    · exact hfk y (List.mem_of_mem_drop hy))
  obtain ⟨A9, c9, hv9, -, -, hT9⟩ := isTree_of_own hO8 (by rw [setA_len]; exact hl) (by omega) hfit8
  injection hv9 with h1 hx9 hx10
  subst h1
  have hB8 := hB7.setCell (p := ⟨w.heap.size + 1, 0, none⟩) (by show w.heap.size ≤ w.heap.size + 1; omega) (.slice (some ⟨g, 0, none⟩) n c4)
  have hE : MadeOwn2 w (setA T k (l.take at' ++ l.drop (at' + 1))) 0 (.returned (.tuple #[.agg #[.slice (some ⟨g, 0, none⟩) n c4], .int .i64 0])) _ := ⟨_, _, by rw [setA_len, hl], by rw [setA_len, hl]; exact hO8, by rw [setA_len, hl]; exact hT9, hB8⟩
  have hres : World.cell? _ ⟨w.heap.size + 1, 0, none⟩ = some (.slice (some ⟨g, 0, none⟩) n c4) := (blk_cell (blk_set hr7 0 (.slice (some ⟨g, 0, none⟩) n c4)) 0).trans rfl
  have k5c : w6.cell? ⟨w4.heap.size, 0, none⟩ = some (.slice (some ⟨g, 0, none⟩) n c4) := by rw [blk_cell hk6]; rfl
  have q1 : w6.cell? ⟨w.heap.size + 1, 0, none⟩ = some (.slice none 0 0) := by rw [blk_cell hr6]; rfl
  have q2 : w6.frozen? ⟨w.heap.size + 1, 0, none⟩ = false := blk_frozen hr6 0
  have r1 : w6.cell? ⟨g, k * 4 + 1, none⟩ = some (.slice (some ⟨g5, 0, none⟩) l.length ac') := (World.cell?_of_block hg6).trans f1
  have r2 : w6.frozen? ⟨g, k * 4 + 1, none⟩ = false := (World.frozen?_of_block hg6).trans hfz
  rw [← hTT1.out] at hE
  have hE' := hide hE
  have hres' := hide hres
  have h63 : ac' ≤ 9223372036854775807 := by unfold maxLen at hcm5; exact hcm5
  clear hx9 hx10 hE hres hB8 hT9 hfit8 hO8 hB7 hB6 hr7 hg6 hk6 hr6 hO7 hq6 hlen1 hown6 hgr6 hB5 hz5 hrow5 hg55 hgN5 hgN hk5 hr5 hN5 hg5 hcl hk4a hr4a hr4 hB4a hB4 hb4 hbox4 hr2 hb2 hbox2 hB2 hr1 hb1 hbox1 hB1 hr0 hbox0 hB0 hb5 hbg5 hw3 hz4 hlow hcm5 e5
  have hnl : l.length ≤ ac' := by rw [← hatl'.out]; exact hnc5
  have j0 : (0 : Int) ≤ (k : Int) := by omega
  have j1 : (k : Int) < (n : Int) := by omega
  have hb3 : (at' : Int) + 1 ≤ (l.length : Int) := by omega
  have hb4 : (at' : Int) ≤ (l.length : Int) := by omega
  have hb5 : (at' : Int) < (l.length : Int) := by omega
  have hb6 : (at' : Int) ≤ (ac' : Int) := by omega
  have hb7 : (0 : Int) ≤ (at' : Int) := by omega
  have hb1 : (0 : Int) ≤ (at' : Int) + 1 := by omega
  have htn : ((at' : Int) + 1).toNat = at' + 1 := by omega
  go_wp2
  have hw1 : IntKind.i64.wrap ((at' : Int) + 1) = (at' : Int) + 1 := by rw [IntKind.wrap_i64]; omega
  obtain ⟨AA, hif, hAA⟩ : ∃ AA : Addr, (if ac' = at' + 1 then (some ⟨g5, 0, none⟩ : Option Addr) else some ⟨g5, (at' + 1) * 2, none⟩) = some AA ∧ Hid (AA = ⟨g5, (at' + 1) * 2, none⟩ ∨ l.length - (at' + 1) = 0) := by
    by_cases hcc : ac' = at' + 1
    · exact ⟨_, if_pos hcc, .inr (by omega)⟩
    · exact ⟨_, if_neg hcc, .inl rfl⟩
  have hz' := hide (hap'.out 56 AA (ac' - (at' + 1)) hAA.out)
  clear hap' hN hrat hT hfit hn64 hatl' hlo h16 hAA
  go_region_law (refine step_append_eq rfl _ _ 56 56 rfl (.slice (some ⟨g5, 0, none⟩) at' ac') (.slice (some AA) (l.length - (at' + 1)) (ac' - (at' + 1))) (by simp [Act.eval, Act.put]) (by simp [Act.eval, Act.put]) hz'.out ?_)
  all_goals
    go_wp2
    exact bodyPost_ret (v := .tuple #[.agg #[.slice (some ⟨g, 0, none⟩) n c4], .int .i64 0]) (by simp [results, Tryz.results29, go_sem, hres'.out]) rfl hE'.out

set_option maxRecDepth 100000 in
set_option maxHeartbeats 4000000 in
theorem runs_ok (A : Option Addr) (n c : Nat) (T : List ANode) (i : Int) (s : ByteArray) (w : World) (h : IsTree w A n T) :
    Calls Tryz.prog 29 #[.agg #[.slice A n c], .int .i64 i, .string s] w (MadeOwn2 w (unsT T i s) (getE T i s)) := by
  have hl := h.1
  have hB0 : Below w.heap.size w ((w.alloc (.cells #[.slice A n c] 26)).alloc (.cells #[.slice none 0 0] 26)) := below_alloc (below_alloc (Below.refl _ _) _) _
  have hbox0 : ((w.alloc (.cells #[.slice A n c] 26)).alloc (.cells #[.slice none 0 0] 26)).cell? ⟨w.heap.size, 0, none⟩ = some (.slice A n c) := by go_simp
  have hr0 : ((w.alloc (.cells #[.slice A n c] 26)).alloc (.cells #[.slice none 0 0] 26)).heap[w.heap.size + 1]? = some (.cells #[.slice none 0 0] 26 (0, 0)) := blk_at _ _ _ _ (by simp)
  by_cases h1 : askI T [i] = 0
  · obtain ⟨hg, hir⟩ := askI_zero.1 h1
    have hir := hir i (by simp)
    obtain ⟨k, rfl⟩ := Int.eq_ofNat_of_zero_le hir.1
    cases hh : hasA (atl T k) s
    · have hE : getE T k s = 6 := by unfold getE; rw [if_pos h1, Int.toNat_natCast, hh]; rfl
      have ht : unsT T k s = [] := by unfold unsT; rw [hE]; rfl
      rw [hE, ht]
      have hav : Hid (atV (atl T k) s = -1) := by show _ = _; unfold atV; rw [hh]; rfl
      have hq0 : (askI T [(k : Int)] != 0) = false := by simp [h1]
      have hT := hide h
      have hg' := hide hg
      have hk : k < n := by omega
      clear hE ht hh h1 h hg hir
      go_enter Tryz.func29, Tryz.ntmps29
      go_wp2_with fail
      refine (rasked_ok _ _ _ T _ _ (hT.out.below hB0)).mono ?_
      rintro e w1 ⟨rfl, hb1⟩
      have hbox1 := cell_later hb1 hbox0
      have hB1 := Below.on hB0 hb1
      have hr1 := (hb1.block (w.heap.size + 1) (blk_lt hr0)).trans hr0
      go_wp2_with fail
      have hra := rattr_ok _ _ c T k s _ (hT.out.below hB1) hk hg'.out
      rw [hav.out] at hra
      refine hra.mono ?_
      clear hra
      rintro e w2 ⟨rfl, hb2⟩
      have hB2 := Below.on hB1 hb2
      have hr2 := (hb2.block (w.heap.size + 1) (blk_lt hr1)).trans hr1
      have q1 : w2.cell? ⟨w.heap.size + 1, 0, none⟩ = some (.slice none 0 0) := by rw [blk_cell hr2]; rfl
      have q2 : w2.frozen? ⟨w.heap.size + 1, 0, none⟩ = false := blk_frozen hr2 0
      go_wp2
      have hres := (blk_cell (blk_set hr2 0 (.slice none 0 0)) 0).trans (rfl : (#[Value.slice none 0 0].setIfInBounds 0 (.slice none 0 0))[0]? = some (.slice none 0 0))
      refine bodyPost_ret (v := .tuple #[.agg #[.slice none 0 0], .int .i64 6]) (by simp [results, Tryz.results29, go_sem, hres]) rfl (made2_nil rfl (hB2.setCell (p := ⟨w.heap.size + 1, 0, none⟩) (by show w.heap.size ≤ w.heap.size + 1; omega) _))
    · have hE : getE T k s = 0 := by unfold getE; rw [if_pos h1, Int.toNat_natCast, hh]; rfl
      rw [hE]
      exact runs_yes A n c T k s w h (by omega) hg hh
  · have hE : getE T i s = askI T [i] := by unfold getE; rw [if_neg h1]
    have ht : unsT T i s = [] := by unfold unsT; rw [hE, if_neg h1]
    rw [hE, ht]
    have hq0 : (askI T [i] != 0) = true := by simp [h1]
    have hT := hide h
    clear hE ht h1 h
    go_enter Tryz.func29, Tryz.ntmps29
    go_wp2_with fail
    refine (rasked_ok _ _ _ T _ _ (hT.out.below hB0)).mono ?_
    rintro e w1 ⟨rfl, hb1⟩
    have hbox1 := cell_later hb1 hbox0
    have hB1 := Below.on hB0 hb1
    go_wp2_with fail
    refine (rasked_ok _ _ _ T _ _ (hT.out.below hB1)).mono ?_
    rintro e w2 ⟨rfl, hb2⟩
    have hbox2 := cell_later hb2 hbox1
    have hB2 := Below.on hB1 hb2
    have hr1 := (hb1.block (w.heap.size + 1) (blk_lt hr0)).trans hr0
    have hr2 := (hb2.block (w.heap.size + 1) (blk_lt hr1)).trans hr1
    have q1 : w2.cell? ⟨w.heap.size + 1, 0, none⟩ = some (.slice none 0 0) := by rw [blk_cell hr2]; rfl
    have q2 : w2.frozen? ⟨w.heap.size + 1, 0, none⟩ = false := blk_frozen hr2 0
    go_wp2
    have hres := (blk_cell (blk_set hr2 0 (.slice none 0 0)) 0).trans (rfl : (#[Value.slice none 0 0].setIfInBounds 0 (.slice none 0 0))[0]? = some (.slice none 0 0))
    refine bodyPost_ret (v := .tuple #[.agg #[.slice none 0 0], .int .i64 (askI T [i])]) (by simp [results, Tryz.results29, go_sem, hres]) rfl (made2_nil rfl (hB2.setCell (p := ⟨w.heap.size + 1, 0, none⟩) (by show w.heap.size ≤ w.heap.size + 1; omega) _))
end Go.Proofs.YtmdccplhmniiiaaGreat
