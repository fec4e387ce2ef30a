/- Walks: setting an attribute and taking it away, by the reference, with their errors. No condition but those of the inner functions. -/
import Derived.Test.YtfiiikbbiimdiaaRput
namespace Go.Proofs.Ytfiiikbbiimdiaa
open Go.RowKit

set_option maxRecDepth 100000 in
set_option maxHeartbeats 4000000 in
theorem rset_ok (A : Option Addr) (n c : Nat) (T : List ANode) (i : Int) (s v : ByteArray) (w : World) (h : IsTree w A n T) (hs : s.size ≤ 9223372036854775807) (hv : v.size ≤ 9223372036854775807) :
    Calls Try.prog 43 #[.agg #[.slice A n c], .int .i64 i, .string s, .string v] w (MadeOwn2 w (setT T i s v) (setE T i s v)) := by
  have hT := hide h
  have hl := h.1
  have ho := hide h.2.2.2
  clear h
  have hB0 : Below w.heap.size w ((w.alloc (.cells #[.slice A n c] 24)).alloc (.cells #[.slice none 0 0] 24)) := below_alloc (below_alloc (Below.refl _ _) _) _
  have hbox0 : ((w.alloc (.cells #[.slice A n c] 24)).alloc (.cells #[.slice none 0 0] 24)).cell? ⟨w.heap.size, 0, none⟩ = some (.slice A n c) := by go_simp
  have hr0 : ((w.alloc (.cells #[.slice A n c] 24)).alloc (.cells #[.slice none 0 0] 24)).heap[w.heap.size + 1]? = some (.cells #[.slice none 0 0] 24 (0, 0)) := blk_at _ _ _ _ (by simp)
  by_cases h0 : askI T [i] = 0
  · obtain ⟨hg, hir⟩ := askI_zero.1 h0
    have hir := hir i (by simp)
    obtain ⟨k, rfl⟩ := Int.eq_ofNat_of_zero_le hir.1
    have hk : k < n := by omega
    have hq0 : (askI T [(k : Int)] != 0) = false := by simp [h0]
    have hE : setE T k s v = if namedB s = true then (if 400 < v.size then 28 else if hasA (atl T k) s = false ∧ (atl T k).length = 16 then 18 else 0) else 2 := by unfold setE; rw [if_pos h0, Int.toNat_natCast]
    have hg' := hide hg
    cases hnm : namedB s
    · have he : setE T k s v = 2 := by rw [hE, hnm]; rfl
      have ht : setT T k s v = [] := by unfold setT; rw [he]; rfl
      rw [he, ht]
      clear he ht hE hir hg h0
      go_enter Try.func43, Try.ntmps43
      go_wp2_with fail
      refine (rasked_ok _ _ _ T _ _ (hT.out.below hB0)).mono ?_
      rintro e w1 ⟨rfl, hb1⟩
      have hbox1 := cell_later hb1 hbox0
      have hB1 := Below.on hB0 hb1
      have hr1 := (hb1.block (w.heap.size + 1) (blk_lt hr0)).trans hr0
      have q1 : w1.cell? ⟨w.heap.size + 1, 0, none⟩ = some (.slice none 0 0) := by rw [blk_cell hr1]; rfl
      have q2 : w1.frozen? ⟨w.heap.size + 1, 0, none⟩ = false := blk_frozen hr1 0
      go_wp2_with (go_at_call 49; refine (rnamed_ok _ _ hs).mono ?_; rintro e w2 ⟨rfl, rfl⟩)
      have hres := (blk_cell (blk_set hr1 0 (.slice none 0 0)) 0).trans (rfl : (#[Value.slice none 0 0].setIfInBounds 0 (.slice none 0 0))[0]? = some (.slice none 0 0))
      refine bodyPost_ret (v := .tuple #[.agg #[.slice none 0 0], .int .i64 2]) (by simp [results, Try.results43, go_sem, hres]) rfl (made2_nil rfl (hB1.setCell (p := ⟨w.heap.size + 1, 0, none⟩) (by show w.heap.size ≤ w.heap.size + 1; omega) _))
    · rw [hnm, if_pos rfl] at hE
      by_cases h4 : 400 < v.size
      · have he : setE T k s v = 28 := by rw [hE, if_pos h4]
        have ht : setT T k s v = [] := by unfold setT; rw [he]; rfl
        rw [he, ht]
        clear he ht hE hir hg h0
        go_enter Try.func43, Try.ntmps43
        go_wp2_with fail
        refine (rasked_ok _ _ _ T _ _ (hT.out.below hB0)).mono ?_
        rintro e w1 ⟨rfl, hb1⟩
        have hbox1 := cell_later hb1 hbox0
        have hB1 := Below.on hB0 hb1
        have hr1 := (hb1.block (w.heap.size + 1) (blk_lt hr0)).trans hr0
        have q1 : w1.cell? ⟨w.heap.size + 1, 0, none⟩ = some (.slice none 0 0) := by rw [blk_cell hr1]; rfl
        have q2 : w1.frozen? ⟨w.heap.size + 1, 0, none⟩ = false := blk_frozen hr1 0
        go_wp2_with (go_at_call 49; refine (rnamed_ok _ _ hs).mono ?_; rintro e w2 ⟨rfl, rfl⟩)
        have hres := (blk_cell (blk_set hr1 0 (.slice none 0 0)) 0).trans (rfl : (#[Value.slice none 0 0].setIfInBounds 0 (.slice none 0 0))[0]? = some (.slice none 0 0))
        refine bodyPost_ret (v := .tuple #[.agg #[.slice none 0 0], .int .i64 28]) (by simp [results, Try.results43, go_sem, hres]) rfl (made2_nil rfl (hB1.setCell (p := ⟨w.heap.size + 1, 0, none⟩) (by show w.heap.size ≤ w.heap.size + 1; omega) _))
      · rw [if_neg h4] at hE
        obtain ⟨hsd, h16⟩ := good_attrs hg (by omega : k < T.length)
        obtain ⟨b, off, aA, cA, aC, cC, rfl, hbl, -, c1, -, -, -, -⟩ := ho.out (by omega)
        have c1' := hide (c1 k hk)
        change Hid (w.cell? ⟨b, off + k * 4 + 1, none⟩ = some (Value.slice (aA k) (atl T k).length (aC k))) at c1'
        generalize aA k = AA at c1'
        generalize aC k = ac at c1'
        have hTd : setE T k s v = 0 → setT T k s v = setA T k (putL (atl T k) s v) := fun h => by unfold setT; rw [if_pos h, Int.toNat_natCast]
        have hput := hide (rput_ok (some ⟨b, off, none⟩) n c T k s v)
        obtain ⟨l, hla⟩ : ∃ l, atl T k = l := ⟨_, rfl⟩
        rw [hla] at hE hTd c1' h16 hput
        have hla' := hide hla
        have hn64 : n ≤ 64 := by have := ((goodB_iff T).1 hg).2.1; omega
        have hfitP : Hid (Fits (setA T k (putL l s v))) := fits_setA (good_fits hg) (by omega) (by have := putL_len l s v; omega) (fun y hy => by
          have hfk := (good_fits hg _ (nd_mem (T := T) (i := k) (by omega))).2.2.2
          have hla2 : (nd T k).attrs = l := hla
          rw [hla2] at hfk
          rcases putL_mem hy with h | rfl
          · exact hfk y h
          · exact ⟨hs, hv⟩)
        cases hh : hasA l s
        · have hav : Hid (atV l s = -1) := by show _ = _; unfold atV; rw [hh]; rfl
          by_cases hf : l.length = 16
          · have he : setE T k s v = 18 := by rw [hE, hh]; simp [hf]
            have ht : setT T k s v = [] := by unfold setT; rw [he]; rfl
            rw [he, ht]
            have hf' : (16 : Int) ≤ (l.length : Int) := by omega
            clear he ht hE hir hg h0 hh hTd hla hf c1 ho hsd hput
            go_enter Try.func43, Try.ntmps43
            go_wp2_with fail
            refine (rasked_ok _ _ _ T _ _ (hT.out.below hB0)).mono ?_
            rintro e w1 ⟨rfl, hb1⟩
            have hbox1 := cell_later hb1 hbox0
            have hB1 := Below.on hB0 hb1
            have hr1 := (hb1.block (w.heap.size + 1) (blk_lt hr0)).trans hr0
            have q1 : w1.cell? ⟨w.heap.size + 1, 0, none⟩ = some (.slice none 0 0) := by rw [blk_cell hr1]; rfl
            have q2 : w1.frozen? ⟨w.heap.size + 1, 0, none⟩ = false := blk_frozen hr1 0
            go_wp2_with (go_at_call 49; refine (rnamed_ok _ _ hs).mono ?_; rintro e w2 ⟨rfl, rfl⟩)
            have hrat := rattr_ok _ _ c T k s _ (hT.out.below hB1) hk hg'.out
            rw [hla'.out, hav.out] at hrat
            refine hrat.mono ?_
            clear hrat
            rintro e w2 ⟨rfl, hb2⟩
            have hbox2 := cell_later hb2 hbox1
            have hB2 := Below.on hB1 hb2
            have g1 := (old hB2 _ _ hbl).trans c1'.out
            have hr2 := (hb2.block (w.heap.size + 1) (blk_lt hr1)).trans hr1
            have q1 : w2.cell? ⟨w.heap.size + 1, 0, none⟩ = some (.slice none 0 0) := by rw [blk_cell hr2]; rfl
            have q2 : w2.frozen? ⟨w.heap.size + 1, 0, none⟩ = false := blk_frozen hr2 0
            go_wp2
            have hres := (blk_cell (blk_set hr2 0 (.slice none 0 0)) 0).trans (rfl : (#[Value.slice none 0 0].setIfInBounds 0 (.slice none 0 0))[0]? = some (.slice none 0 0))
            refine bodyPost_ret (v := .tuple #[.agg #[.slice none 0 0], .int .i64 18]) (by simp [results, Try.results43, go_sem, hres]) rfl (made2_nil rfl (hB2.setCell (p := ⟨w.heap.size + 1, 0, none⟩) (by show w.heap.size ≤ w.heap.size + 1; omega) _))
          · have he : setE T k s v = 0 := by rw [hE, hh]; simp [hf]
            have ht : setT T k s v = setA T k (putL l s v) := hTd he
            rw [he, ht]
            have hf' : (l.length : Int) < 16 := by omega
            clear he ht hE hir hg h0 hh hTd hla hf c1 ho hsd
            go_enter Try.func43, Try.ntmps43
            go_wp2_with fail
            refine (rasked_ok _ _ _ T _ _ (hT.out.below hB0)).mono ?_
            rintro e w1 ⟨rfl, hb1⟩
            have hbox1 := cell_later hb1 hbox0
            have hB1 := Below.on hB0 hb1
            have hr1 := (hb1.block (w.heap.size + 1) (blk_lt hr0)).trans hr0
            have q1 : w1.cell? ⟨w.heap.size + 1, 0, none⟩ = some (.slice none 0 0) := by rw [blk_cell hr1]; rfl
            have q2 : w1.frozen? ⟨w.heap.size + 1, 0, none⟩ = false := blk_frozen hr1 0
            go_wp2_with (go_at_call 49; refine (rnamed_ok _ _ hs).mono ?_; rintro e w2 ⟨rfl, rfl⟩)
            have hrat := rattr_ok _ _ c T k s _ (hT.out.below hB1) hk hg'.out
            rw [hla'.out, hav.out] at hrat
            refine hrat.mono ?_
            clear hrat
            rintro e w2 ⟨rfl, hb2⟩
            have hbox2 := cell_later hb2 hbox1
            have hB2 := Below.on hB1 hb2
            have g1 := (old hB2 _ _ hbl).trans c1'.out
            have hr2 := (hb2.block (w.heap.size + 1) (blk_lt hr1)).trans hr1
            have q1 : w2.cell? ⟨w.heap.size + 1, 0, none⟩ = some (.slice none 0 0) := by rw [blk_cell hr2]; rfl
            have q2 : w2.frozen? ⟨w.heap.size + 1, 0, none⟩ = false := blk_frozen hr2 0
            go_wp2_with fail
            refine (hput.out _ (hT.out.below hB2) hk hg'.out hs hv).mono ?_
            rintro e w3 ⟨A3, c3, rfl, hO3, hT3, hb3⟩
            have hB3 := Below.on hB2 hb3
            have hr3 := (hb3.block (w.heap.size + 1) (blk_lt hr2)).trans hr2
            have q1 : w3.cell? ⟨w.heap.size + 1, 0, none⟩ = some (.slice none 0 0) := by rw [blk_cell hr3]; rfl
            have q2 : w3.frozen? ⟨w.heap.size + 1, 0, none⟩ = false := blk_frozen hr3 0
            have hO4 := (hO3.set_typed (i := 0) hr3 (.slice A3 n c3)).base (base := w.heap.size) (by have := hB2.size; omega)
            have hres := (blk_cell (blk_set hr3 0 (.slice A3 n c3)) 0).trans (rfl : (#[Value.slice none 0 0].setIfInBounds 0 (.slice A3 n c3))[0]? = some (.slice A3 n c3))
            have hB4 := hB3.setCell (p := ⟨w.heap.size + 1, 0, none⟩) (by show w.heap.size ≤ w.heap.size + 1; omega) (.slice A3 n c3)
            obtain ⟨A9, c9, hv9, -, -, hT9⟩ := isTree_of_own hO4 (by rw [setA_len]; exact hl) (by omega) hfitP.out
            injection hv9 with h1 hx9 hx10
            subst h1
            have hT4 := hide hT9
            have hO4' := hide hO4
            have hres' := hide hres
            clear hO3 hT3 hO4 hres hT9 hx9 hx10
            go_wp2
            refine bodyPost_ret (v := .tuple #[.agg #[.slice A3 n c3], .int .i64 0]) (by simp [results, Try.results43, go_sem, hres'.out]) rfl ⟨A3, c3, ?_, ?_, ?_, hB4⟩
            · rw [setA_len, hl]
            · rw [setA_len, hl]; exact hO4'.out
            · rw [setA_len, hl]; exact hT4.out
        · have hav : Hid (atV l s = (lowA l s : Int)) := by show _ = _; unfold atV; rw [hh]; rfl
          have he : setE T k s v = 0 := by rw [hE, hh]; simp
          have ht : setT T k s v = setA T k (putL l s v) := hTd he
          rw [he, ht]
          have hnn : (0 : Int) ≤ (lowA l s : Int) := by omega
          clear he ht hE hir hg h0 hh hTd hla c1 ho hsd
          go_enter Try.func43, Try.ntmps43
          go_wp2_with fail
          refine (rasked_ok _ _ _ T _ _ (hT.out.below hB0)).mono ?_
          rintro e w1 ⟨rfl, hb1⟩
          have hbox1 := cell_later hb1 hbox0
          have hB1 := Below.on hB0 hb1
          have hr1 := (hb1.block (w.heap.size + 1) (blk_lt hr0)).trans hr0
          have q1 : w1.cell? ⟨w.heap.size + 1, 0, none⟩ = some (.slice none 0 0) := by rw [blk_cell hr1]; rfl
          have q2 : w1.frozen? ⟨w.heap.size + 1, 0, none⟩ = false := blk_frozen hr1 0
          go_wp2_with (go_at_call 49; refine (rnamed_ok _ _ hs).mono ?_; rintro e w2 ⟨rfl, rfl⟩)
          have hrat := rattr_ok _ _ c T k s _ (hT.out.below hB1) hk hg'.out
          rw [hla'.out, hav.out] at hrat
          refine hrat.mono ?_
          clear hrat
          rintro e w2 ⟨rfl, hb2⟩
          have hbox2 := cell_later hb2 hbox1
          have hB2 := Below.on hB1 hb2
          have g1 := (old hB2 _ _ hbl).trans c1'.out
          have hr2 := (hb2.block (w.heap.size + 1) (blk_lt hr1)).trans hr1
          have q1 : w2.cell? ⟨w.heap.size + 1, 0, none⟩ = some (.slice none 0 0) := by rw [blk_cell hr2]; rfl
          have q2 : w2.frozen? ⟨w.heap.size + 1, 0, none⟩ = false := blk_frozen hr2 0
          go_wp2_with fail
          refine (hput.out _ (hT.out.below hB2) hk hg'.out hs hv).mono ?_
          rintro e w3 ⟨A3, c3, rfl, hO3, hT3, hb3⟩
          have hB3 := Below.on hB2 hb3
          have hr3 := (hb3.block (w.heap.size + 1) (blk_lt hr2)).trans hr2
          have q1 : w3.cell? ⟨w.heap.size + 1, 0, none⟩ = some (.slice none 0 0) := by rw [blk_cell hr3]; rfl
          have q2 : w3.frozen? ⟨w.heap.size + 1, 0, none⟩ = false := blk_frozen hr3 0
          have hO4 := (hO3.set_typed (i := 0) hr3 (.slice A3 n c3)).base (base := w.heap.size) (by have := hB2.size; omega)
          have hres := (blk_cell (blk_set hr3 0 (.slice A3 n c3)) 0).trans (rfl : (#[Value.slice none 0 0].setIfInBounds 0 (.slice A3 n c3))[0]? = some (.slice A3 n c3))
          have hB4 := hB3.setCell (p := ⟨w.heap.size + 1, 0, none⟩) (by show w.heap.size ≤ w.heap.size + 1; omega) (.slice A3 n c3)
          obtain ⟨A9, c9, hv9, -, -, hT9⟩ := isTree_of_own hO4 (by rw [setA_len]; exact hl) (by omega) hfitP.out
          injection hv9 with h1 hx9 hx10
          subst h1
          have hT4 := hide hT9
          have hO4' := hide hO4
          have hres' := hide hres
          clear hO3 hT3 hO4 hres hT9 hx9 hx10
          go_wp2
          refine bodyPost_ret (v := .tuple #[.agg #[.slice A3 n c3], .int .i64 0]) (by simp [results, Try.results43, go_sem, hres'.out]) rfl ⟨A3, c3, ?_, ?_, ?_, hB4⟩
          · rw [setA_len, hl]
          · rw [setA_len, hl]; exact hO4'.out
          · rw [setA_len, hl]; exact hT4.out
  · have he : setE T i s v = askI T [i] := if_neg h0
    have ht : setT T i s v = [] := by unfold setT; rw [he, if_neg h0]
    rw [he, ht]
    have hq : (askI T [i] != 0) = true := by simp [h0]
    clear he ht h0
    go_enter Try.func43, Try.ntmps43
    go_wp2_with fail
    refine (rasked_ok _ _ _ T _ _ (hT.out.below hB0)).mono ?_
    rintro e w1 ⟨rfl, hb1⟩
    have hbox1 := cell_later hb1 hbox0
    have hB1 := Below.on hB0 hb1
    have hr1 := (hb1.block (w.heap.size + 1) (blk_lt hr0)).trans hr0
    have q1 : w1.cell? ⟨w.heap.size + 1, 0, none⟩ = some (.slice none 0 0) := by rw [blk_cell hr1]; rfl
    have q2 : w1.frozen? ⟨w.heap.size + 1, 0, none⟩ = false := blk_frozen hr1 0
    go_wp2_with fail
    refine (rasked_ok _ _ _ T _ _ (hT.out.below hB1)).mono ?_
    rintro e w2 ⟨rfl, hb2⟩
    have hbox2 := cell_later hb2 hbox1
    have hB2 := Below.on hB1 hb2
    have hr2 := (hb2.block (w.heap.size + 1) (blk_lt hr1)).trans hr1
    have q1 : w2.cell? ⟨w.heap.size + 1, 0, none⟩ = some (.slice none 0 0) := by rw [blk_cell hr2]; rfl
    have q2 : w2.frozen? ⟨w.heap.size + 1, 0, none⟩ = false := blk_frozen hr2 0
    go_wp2
    have hres := (blk_cell (blk_set hr2 0 (.slice none 0 0)) 0).trans (rfl : (#[Value.slice none 0 0].setIfInBounds 0 (.slice none 0 0))[0]? = some (.slice none 0 0))
    refine bodyPost_ret (v := .tuple #[.agg #[.slice none 0 0], .int .i64 (askI T [i])]) (by simp [results, Try.results43, go_sem, hres]) rfl (made2_nil rfl (hB2.setCell (p := ⟨w.heap.size + 1, 0, none⟩) (by show w.heap.size ≤ w.heap.size + 1; omega) _))
end Go.Proofs.Ytfiiikbbiimdiaa
