/- Walks: an attribute is taken away, by the program. No condition but those of the inner functions. -/
import Derived.Test.YtfiiikbbiimdiaaAset
import Derived.Test.YtfiiikbbiimdiaaDel
import Derived.Deep.RegionHeld3
namespace Go.Proofs.Ytfiiikbbiimdiaa
open Go.RowKit

def unsT (T : List ANode) (i : Int) (s : ByteArray) : List ANode := if getE T i s = 0 then setA T i.toNat ((atl T i.toNat).take (lowA (atl T i.toNat) s) ++ (atl T i.toNat).drop (lowA (atl T i.toNat) s + 1)) else []

theorem atts_del (l : List (ByteArray × ByteArray)) (p : Nat) : (atts l).take (p * 2) ++ (atts l).drop ((p + 1) * 2) = atts (l.take p ++ l.drop (p + 1)) := by
  rw [atts_take, atts_drop, ← atts_app]
theorem del_len (l : List (ByteArray × ByteArray)) {p : Nat} (hp : p < l.length) : (l.take p ++ l.drop (p + 1)).length = l.length - 1 := by
  simp only [List.length_append, List.length_take, List.length_drop]; omega

set_option maxRecDepth 100000 in
set_option maxHeartbeats 4000000 in
theorem auns_yes (A : Option Addr) (n c : Nat) (T : List ANode) (k : Nat) (s : ByteArray) (w : World) (h : IsTree w A n T) (hk : k < n) (hg : goodB T = true) (hh : hasA (atl T k) s = true) :
    Calls Try.prog 44 #[.agg #[.slice A n c], .int .i64 k, .string s] w (MadeOwn2 w (unsT T k s) 0) := by
  have hT := hide h
  have hl := h.1
  clear h
  have hB0 : Below w.heap.size w ((w.alloc (.cells #[.slice A n c] 24)).alloc (.cells #[.slice none 0 0] 24)) := below_alloc (below_alloc (Below.refl _ _) _) _
  have hbox0 : ((w.alloc (.cells #[.slice A n c] 24)).alloc (.cells #[.slice none 0 0] 24)).cell? ⟨w.heap.size, 0, none⟩ = some (.slice A n c) := by go_simp
  have hr0 : ((w.alloc (.cells #[.slice A n c] 24)).alloc (.cells #[.slice none 0 0] 24)).heap[w.heap.size + 1]? = some (.cells #[.slice none 0 0] 24 (0, 0)) := blk_at _ _ _ _ (by simp)
  have h0 : askI T [(k : Int)] = 0 := askI_ok hg (by simp; omega)
  have hE : getE T k s = 0 := by unfold getE; rw [if_pos h0, Int.toNat_natCast, hh]; rfl
  have hTd : unsT T k s = setA T k ((atl T k).take (lowA (atl T k) s) ++ (atl T k).drop (lowA (atl T k) s + 1)) := by unfold unsT; rw [if_pos hE, Int.toNat_natCast]
  obtain ⟨hsd, h16⟩ := good_attrs hg (by omega : k < T.length)
  have hlo : lowA (atl T k) s < (atl T k).length := by unfold hasA at hh; simp at hh; exact hh.1
  have hatl : (nd T k).attrs = atl T k := rfl
  have hatl' := hide hatl
  generalize hla : atl T k = l at *
  generalize hlow : lowA l s = at' at *
  have hlow' := hide hlow
  have hs' := hide hsd
  have hfit := hide (good_fits hg)
  have hn64 : n ≤ 64 := by have := ((goodB_iff T).1 hg).2.1; omega
  have hh' := hide hh
  have hEq := hide hE
  obtain ⟨TT, hTT0⟩ : ∃ TT, TT = setA T k (l.take at' ++ l.drop (at' + 1)) := ⟨_, rfl⟩
  rw [hTd, ← hTT0]
  have hTT1 := hide hTT0
  clear hTd hE hh h0 hsd hlow hla hatl hg hTT0
  go_enter Try.func44, Try.ntmps44
  go_wp2_with fail
  have hge := get_ok _ _ c T k s _ (hT.out.below hB0)
  rw [hEq.out] at hge
  refine hge.mono ?_
  rintro e w1 ⟨rfl, hb1⟩
  clear hge
  have hbox1 := cell_later hb1 hbox0
  have hB1 := Below.on hB0 hb1
  have hr1 := (hb1.block (w.heap.size + 1) (blk_lt hr0)).trans hr0
  go_wp2_with fail
  refine (atwin_ok _ _ _ T _ (hT.out.below hB1) (by omega) hfit.out).mono ?_
  rintro e w4 ⟨A4, c4, rfl, hO4, hT4, hb4⟩
  have hB4 := Below.on hB1 hb4
  have hr4 := (hb4.block (w.heap.size + 1) (blk_lt hr1)).trans hr1
  have hO4a := hO4.below (below_alloc (Below.refl _ _) (.cells #[.slice A4 n c4] 24))
  have hT4a := hT4.below (below_alloc (Below.refl _ _) (.cells #[.slice A4 n c4] 24))
  obtain ⟨g, cap, A', ac', C', cc', N⟩ := hO4a.node hk hl
  have hval := N.val
  injection hval with e1 e2 e3
  subst e1 e3
  have hr4a := blk_alloc hr4 (.cells #[.slice (some ⟨g, 0, none⟩) n c4] 24)
  have hk4a := blk_new w4 #[.slice (some ⟨g, 0, none⟩) n c4] 24
  have hcl := N.c1
  rw [hatl'.out] at hcl
  obtain ⟨A9, c9, hv9, hn9, hc9, hI9⟩ := isAttrs_of_own N.rowA (by rw [hatl'.out]; omega) (hfit.out _ (nd_mem (T := T) (i := k) (by omega))).2.2.2
  injection hv9 with e4 e5 e6
  subst e4 e6
  rw [hatl'.out] at hI9 hn9
  have hI9' := hide hI9
  have hN := hide N
  clear hI9 N hO4 hT4 hO4a hT4a e2 e5
  go_wp2_with fail
  have hf := find_ok A' l.length ac' l s (w4.alloc (.cells #[.slice (some ⟨g, 0, none⟩) n c4] 24)) hI9'.out hs'.out (by omega)
  rw [hlow'.out, hh'.out] at hf
  refine hf.mono ?_
  rintro e w5 ⟨rfl, hb5⟩
  clear hf
  obtain ⟨g5, cap5, cs5, hv5, hnc5, hcm5, hbg5, hg5⟩ := own_block hN.out.rowA (by rw [hatl'.out]; omega)
  injection hv5 with e4 e5 e6
  subst e4 e6
  have hN5 : ∀ q, q < (w4.alloc (.cells #[.slice (some ⟨g, 0, none⟩) n c4] 24)).heap.size → w5.heap[q]? = (w4.alloc (.cells #[.slice (some ⟨g, 0, none⟩) n c4] 24)).heap[q]? := fun q hq => hb5.block q hq
  have hr5 := (hN5 _ (blk_lt hr4a)).trans hr4a
  have hk5 := (hN5 _ (blk_lt hk4a)).trans hk4a
  obtain ⟨csN, hgN⟩ := hN.out.typ
  have hgN5 := (hN5 _ (blk_lt hgN)).trans hgN
  have hg55 := (hN5 _ (blk_lt hg5)).trans hg5
  have hrow5 := own_below hN.out.rowA hb5
  rw [hatl'.out] at hrow5
  have hrow5' := hide hrow5
  have ng1 : ¬ (g5 = g) := blk_ne hg55 hgN5 (by decide)
  have ng2 : ¬ (w4.heap.size = g) := blk_ne hk5 hgN5 (by decide)
  have ng3 : ¬ (w4.heap.size = g5) := blk_ne hk5 hg55 (by decide)
  have hw3 := blk_lt hr1
  have hlow := hN.out.low
  have hz4 := hb4.size
  have ng4 : ¬ (w.heap.size + 1 = g) := by omega
  have ng5 : ¬ (w.heap.size + 1 = g5) := by omega
  have ng6 : ¬ (w.heap.size + 1 = w4.heap.size) := by omega
  have f0 : w5.cell? ⟨w4.heap.size, 0, none⟩ = some (.slice (some ⟨g, 0, none⟩) n c4) := by rw [blk_cell hk5]; rfl
  have f1 : w5.cell? ⟨g, k * 4 + 1, none⟩ = some (.slice (some ⟨g5, 0, none⟩) l.length ac') := (World.cell?_of_block (hN5 g (blk_lt hgN))).trans hcl
  have j0 : (0 : Int) ≤ (k : Int) := by omega
  have j1 : (k : Int) < (n : Int) := by omega
  have j2 : (at' : Int) < (l.length : Int) := by omega
  have j3 : (0 : Int) ≤ (at' : Int) := by omega
  have jl : l.length ≤ 9223372036854775807 := by omega
  have hB5 := hide (Below.on (below_alloc hB4 (.cells #[.slice (some ⟨g, 0, none⟩) n c4] 24)) hb5)
  have hN5' := hide hN5
  have hr5' := hide hr5
  have hk5' := hide hk5
  have hgN5' := hide hgN5
  have hz1 := hb1.size
  have hz5 := hb5.size
  have hgb : w.heap.size ≤ g ∧ w.heap.size ≤ g5 := by constructor <;> omega
  obtain ⟨hgb1, hgb2⟩ := hgb
  have hz0 : w.heap.size ≤ w1.heap.size := by omega
  have hfz : w5.frozen? ⟨g, k * 4 + 1, none⟩ = false := blk_frozen hgN5 _
  clear hrow5 hN5 hr5 hk5 hg55 hgN5 hgN hg5 hcl hr4a hk4a hr4 hB4 hb4 hr1 hr0 hbox0 hB0 hbox1 hB1 hb1 hcm5 hnc5 hbg5 hlow hw3 hb5 e5
  go_wp2
  have hdel := hide (delA_ok g5 l.length ac' at' w1.heap.size (atts l) w5.drew hrow5'.out hlo (by omega) (atts_one _))
  have hw1 : IntKind.i64.wrap ((at' : Int) + 1) = (at' : Int) + 1 := by rw [IntKind.wrap_i64]; omega
  go_region_with (first | (go_at_call 75; (with_reducible refine hdel.out.mono ?_); rintro e w6 ⟨rfl, hown6, hgr6⟩; have r0 : w6.cell? ⟨w4.heap.size, 0, none⟩ = some (.slice (some ⟨g, 0, none⟩) n c4) := (World.cell?_of_block (hgr6.block w4.heap.size (blk_lt hk5'.out) (by simpa using ng3))).trans f0; have r1 : w6.cell? ⟨g, k * 4 + 1, none⟩ = some (.slice (some ⟨g5, 0, none⟩) l.length ac') := (World.cell?_of_block (hgr6.block g (blk_lt hgN5'.out) (by simpa using (Ne.symm ng1)))).trans f1; have r2 : w6.frozen? ⟨g, k * 4 + 1, none⟩ = false := (World.frozen?_of_block (hgr6.block g (blk_lt hgN5'.out) (by simpa using (Ne.symm ng1)))).trans hfz))
  all_goals
    have hlen1 := del_len l hlo
    have hq6 : ∀ q, q < w5.heap.size → q ≠ g5 → w6.heap[q]? = w5.heap[q]? := fun q hq hne => hgr6.block q hq (by simpa using hne)
    have hO7 := hN.out.onA w6 (some ⟨g5, 0, none⟩) ac' (l.take at' ++ l.drop (at' + 1)) (fun q hq hne => (hq6 q (Nat.lt_of_lt_of_le hq hz5) (fun e => hne (by simp [e]))).trans (hN5'.out q hq)) (by rw [hlen1, ← atts_del]; exact hown6) (fun q hq => .inl hq)
    rw [hlen1] at hO7
    have hr6 := (hq6 _ (blk_lt hr5'.out) ng5).trans hr5'.out
    have hk6 := (hq6 _ (blk_lt hk5'.out) ng3).trans hk5'.out
    have hr7 := blk_far (p := ⟨g, k * 4 + 1, none⟩) hr6 ng4 (.slice (some ⟨g5, 0, none⟩) (l.length - 1) ac')
    have hk7 := blk_far (p := ⟨g, k * 4 + 1, none⟩) hk6 ng2 (.slice (some ⟨g5, 0, none⟩) (l.length - 1) ac')
    have hB6 : Below w.heap.size w w6 := (hB5.out.drew).grown hgr6 hB5.out.size (fun q hq => by injection hq with hq; omega)
    have hB7 := hB6.setCell (p := ⟨g, k * 4 + 1, none⟩) (by show w.heap.size ≤ g; omega) (.slice (some ⟨g5, 0, none⟩) (l.length - 1) ac')
    have hO8 := (hO7.set_typed (i := 0) hr7 (.slice (some ⟨g, 0, none⟩) n c4)).base (base := w.heap.size) (by omega)
    have hfit8 : Fits (setA T k (l.take at' ++ l.drop (at' + 1))) := fits_setA hfit.out (by omega) (by rw [hlen1]; omega) (fun y hy => by
      have hfk := (hfit.out _ (nd_mem (T := T) (i := k) (by omega))).2.2.2
      rw [hatl'.out] at hfk
      rcases List.mem_append.1 hy with hy | hy
      · exact hfk y (List.mem_of_mem_take hy)
      · exact hfk y (List.mem_of_mem_drop hy))
    obtain ⟨A9, c9, hv9, -, -, hT9⟩ := isTree_of_own hO8 (by rw [setA_len]; exact hl) (by omega) hfit8
    injection hv9 with h1 hx9 hx10
    subst h1
    have hB8 := hB7.setCell (p := ⟨w.heap.size + 1, 0, none⟩) (by show w.heap.size ≤ w.heap.size + 1; omega) (.slice (some ⟨g, 0, none⟩) n c4)
    have hE : MadeOwn2 w (setA T k (l.take at' ++ l.drop (at' + 1))) 0 (.returned (.tuple #[.agg #[.slice (some ⟨g, 0, none⟩) n c4], .int .i64 0])) _ := ⟨_, _, by rw [setA_len, hl], by rw [setA_len, hl]; exact hO8, by rw [setA_len, hl]; exact hT9, hB8⟩
    have hres : World.cell? _ ⟨w.heap.size + 1, 0, none⟩ = some (.slice (some ⟨g, 0, none⟩) n c4) := (blk_cell (blk_set hr7 0 (.slice (some ⟨g, 0, none⟩) n c4)) 0).trans rfl
    have k5c : w6.cell? ⟨w4.heap.size, 0, none⟩ = some (.slice (some ⟨g, 0, none⟩) n c4) := by rw [blk_cell hk6]; rfl
    have q1 : w6.cell? ⟨w.heap.size + 1, 0, none⟩ = some (.slice none 0 0) := by rw [blk_cell hr6]; rfl
    have q2 : w6.frozen? ⟨w.heap.size + 1, 0, none⟩ = false := blk_frozen hr6 0
    rw [← hTT1.out] at hE
    have hE' := hide hE
    have hres' := hide hres
    clear hx9 hx10 hE hres hB8 hT9 hfit8 hO8 hB7 hB6 hk7 hr7 hk6 hr6 hO7 hq6 hlen1 hown6 hgr6 r0 r1 r2 hdel hw1
    go_wp2
    exact bodyPost_ret (v := .tuple #[.agg #[.slice (some ⟨g, 0, none⟩) n c4], .int .i64 0]) (by simp [results, Try.results44, go_sem, hres'.out]) rfl hE'.out

theorem getE_zero {T : List ANode} {i : Int} {s : ByteArray} : getE T i s = 0 ↔ askI T [i] = 0 ∧ hasA (atl T i.toNat) s = true := by
  unfold getE
  by_cases h : askI T [i] = 0
  · rw [if_pos h]; by_cases h2 : hasA (atl T i.toNat) s = true <;> simp [h, h2]
  · rw [if_neg h]; simp [h]
set_option maxRecDepth 100000 in
set_option maxHeartbeats 4000000 in
theorem auns_ok (A : Option Addr) (n c : Nat) (T : List ANode) (i : Int) (s : ByteArray) (w : World) (h : IsTree w A n T) :
    Calls Try.prog 44 #[.agg #[.slice A n c], .int .i64 i, .string s] w (MadeOwn2 w (unsT T i s) (getE T i s)) := by
  by_cases h0 : getE T i s = 0
  · obtain ⟨h1, h2⟩ := getE_zero.1 h0
    obtain ⟨hg, hir⟩ := askI_zero.1 h1
    have hir := hir i (by simp)
    obtain ⟨k, rfl⟩ := Int.eq_ofNat_of_zero_le hir.1
    have hl := h.1
    rw [h0]
    exact auns_yes A n c T k s w h (by omega) hg h2
  · have ht : unsT T i s = [] := if_neg h0
    rw [ht]
    have hq : (getE T i s != 0) = true := by simp [h0]
    have hT := hide h
    clear ht h0 h
    have hB0 : Below w.heap.size w ((w.alloc (.cells #[.slice A n c] 24)).alloc (.cells #[.slice none 0 0] 24)) := below_alloc (below_alloc (Below.refl _ _) _) _
    have hbox0 : ((w.alloc (.cells #[.slice A n c] 24)).alloc (.cells #[.slice none 0 0] 24)).cell? ⟨w.heap.size, 0, none⟩ = some (.slice A n c) := by go_simp
    have hr0 : ((w.alloc (.cells #[.slice A n c] 24)).alloc (.cells #[.slice none 0 0] 24)).heap[w.heap.size + 1]? = some (.cells #[.slice none 0 0] 24 (0, 0)) := blk_at _ _ _ _ (by simp)
    go_enter Try.func44, Try.ntmps44
    go_wp2_with fail
    refine (get_ok _ _ _ T i s _ (hT.out.below hB0)).mono ?_
    rintro e w1 ⟨rfl, hb1⟩
    have hbox1 := cell_later hb1 hbox0
    have hB1 := Below.on hB0 hb1
    have hr1 := (hb1.block (w.heap.size + 1) (blk_lt hr0)).trans hr0
    have q1 : w1.cell? ⟨w.heap.size + 1, 0, none⟩ = some (.slice none 0 0) := by rw [blk_cell hr1]; rfl
    have q2 : w1.frozen? ⟨w.heap.size + 1, 0, none⟩ = false := blk_frozen hr1 0
    go_wp2
    have hres := (blk_cell (blk_set hr1 0 (.slice none 0 0)) 0).trans (rfl : (#[Value.slice none 0 0].setIfInBounds 0 (.slice none 0 0))[0]? = some (.slice none 0 0))
    refine bodyPost_ret (v := .tuple #[.agg #[.slice none 0 0], .int .i64 (getE T i s)]) (by simp [results, Try.results44, go_sem, hres]) rfl (made2_nil rfl (hB1.setCell (p := ⟨w.heap.size + 1, 0, none⟩) (by show w.heap.size ≤ w.heap.size + 1; omega) _))
end Go.Proofs.Ytfiiikbbiimdiaa
