/- Walks: the error of a compound by the reference; tags of elements, by the program and by the reference. No condition. -/
import Derived.Test.YtbedomopojiehaaVa
import Derived.Test.YtbedomopojiehaaSz18
namespace Go.Proofs.Ytbedomopojiehaa
open Go.RowKit

set_option maxRecDepth 100000 in
set_option maxHeartbeats 4000000 in
theorem rcompCheck_ok (tag : ByteArray) (SA : Option Addr) (n c : Nat) (S : List Sim) (w : World) (h : IsSims w SA n S) :
    Calls Try.prog 42 #[.agg #[.string tag, .slice SA n c]] w fun r w' => r = .returned (.int .i64 (ckC tag S)) ∧ Below w.heap.size w w' := by
  have hS := hide h
  have hl := h.1
  clear h
  have hB0 := below_alloc (Below.refl w.heap.size w) (.cells #[.string tag, .slice SA n c] 65)
  have hbox0 : (w.alloc (.cells #[.string tag, .slice SA n c] 65)).cell? ⟨w.heap.size, 1, none⟩ = some (.slice SA n c) := by go_simp
  by_cases h1 : tag.size ≤ 64
  · have ht : Hid (decide (tag.size ≤ 64) = true) := decide_eq_true h1
    by_cases h2 : n ≤ 64
    · have g2 : decide (64 < (n : Int)) = false := by rw [decide_eq_false_iff_not]; omega
      by_cases h3 : tag.size = 0 ∧ n = 0
      · obtain ⟨h3, rfl⟩ := h3
        have hr : Hid (ckC tag S = 12) := ckC_no fun h => h.2.2.1 ⟨h3, hl⟩
        have h5 := (toList_nil tag).2 h3
        have h6 : tag.toList.isEmpty = true := by rw [h5]; rfl
        clear h1 h3
        go_enter Try.func42, Try.ntmps42
        go_wp2_with fail
        refine (rtagOK_at tag true ht.out _).mono ?_
        rintro e w1 ⟨rfl, rfl⟩
        go_wp2
        go_ret
        exact ⟨ret_int hr.out.symm, hB0⟩
      · have hcn : Hid (¬ (tag.size = 0 ∧ S.length = 0)) := by show ¬ _; rw [hl]; exact h3
        have h1' := hide h1
        have hgo : (¬ tag.toList = [] ∧ tag.toList.isEmpty = false) ∨ (tag.toList = [] ∧ tag.toList.isEmpty = true ∧ decide ((n : Int) < 1) = false) := by
          by_cases h4 : tag.size = 0
          · exact .inr ⟨(toList_nil tag).2 h4, by rw [(toList_nil tag).2 h4]; rfl, by rw [decide_eq_false_iff_not]; omega⟩
          · exact .inl ⟨mt (toList_nil tag).1 h4, by rw [List.isEmpty_eq_false_iff]; exact mt (toList_nil tag).1 h4⟩
        clear h1 h3
        go_enter Try.func42, Try.ntmps42
        go_wp2_with fail
        refine (rtagOK_at tag true ht.out _).mono ?_
        rintro e w1 ⟨rfl, rfl⟩
        rcases hgo with ⟨d1, d2⟩ | ⟨d1, d2, d3⟩
        all_goals
          go_wp2
          go_loopw [3] (fun s wr => ∃ q : Nat, q ≤ n ∧ s = .int .i64 q ∧ Below (w.alloc (.cells #[.string tag, .slice SA n c] 65)).heap.size (w.alloc (.cells #[.string tag, .slice SA n c] 65)) wr ∧ Hid (∀ j, j < q → lisS (sm S j) = true ∨ chkS (sm S j) = 0)) (fun s _ => n - (intOf s).toNat)
          case atStart => exact ⟨0, Nat.zero_le _, rfl, Below.refl _ _, fun j hj => absurd hj (by omega)⟩
          case round =>
            obtain ⟨q, hq, rfl, hb, hok⟩ := hrel
            have hBr := Below.on hB0 hb
            have hboxr := cell_later hb hbox0
            by_cases hlt : q < n
            · obtain ⟨bb, off, rfl, hbl, hc⟩ := hS.out.2.2 (by omega)
              have hin := (hc q hlt).later hBr
              have hin' := hide hin
              have q1 : (0 : Int) ≤ (q : Int) := by omega
              have q2 : (q : Int) < (n : Int) := by omega
              have hbl2 := Nat.lt_of_lt_of_le hbl hBr.size
              clear hc
              cases hs : sm S q with
              | mk k nm op vl fo a b f LA ln lc =>
                rw [hs] at hin hin'
                obtain ⟨s0, s1, s2, s3, s4, s5, s6, s7, s8⟩ := hin
                have hs' := hide hs
                obtain ⟨v, hv⟩ : ∃ v, lisS ⟨k, nm, op, vl, fo, a, b, f, LA, ln, lc⟩ = v := ⟨_, rfl⟩
                have hv' := hide hv
                clear hs hv
                cases v
                · rcases chkS_cases ⟨k, nm, op, vl, fo, a, b, f, LA, ln, lc⟩ with hck0 | hck0
                  · have hck := hide hck0
                    clear hck0
                    go_wp2_with fail
                    refine (rlisted_at k nm op vl fo a b f LA ln lc false hv'.out _).mono ?_
                    rintro e u1 ⟨rfl, hu1⟩
                    have hz1 := Below.on hb hu1
                    have hbox1 := cell_later hu1 hboxr
                    clear s0 s1 s2 s3 s4 s5 s6 s7 s8
                    obtain ⟨s0, s1, s2, s3, s4, s5, s6, s7, s8⟩ := hin'.out.later hu1
                    clear hu1 hboxr
                    go_wp2_with fail
                    refine (rscheck_ok_at k nm op vl fo a b f LA ln lc _ 0 hck.out).mono ?_
                    rintro e u2 ⟨rfl, hu2⟩
                    have hz2 := Below.on hz1 hu2
                    clear s0 s1 s2 s3 s4 s5 s6 s7 s8
                    go_wp2
                    go_roundw
                    case rel => exact ⟨q + 1, by omega, by go_num, hz2, fun j hj => by
                      by_cases h : j = q
                      · subst h; right; rw [hs'.out]; exact hck.out
                      · exact hok.out j (by omega)⟩
                    case measure => simp [intOf]; omega
                  · have hck := hide hck0
                    have hr : Hid (ckC tag S = 12) := ckC_no fun h => by
                      have h9 := h.2.2.2 q (by omega)
                      rw [hs'.out] at h9
                      rcases h9 with h9 | h9
                      · rw [hv'.out] at h9; cases h9
                      · rw [hck0] at h9; omega
                    clear hck0
                    go_wp2_with fail
                    refine (rlisted_at k nm op vl fo a b f LA ln lc false hv'.out _).mono ?_
                    rintro e u1 ⟨rfl, hu1⟩
                    have hz1 := Below.on hBr hu1
                    have hbox1 := cell_later hu1 hboxr
                    clear s0 s1 s2 s3 s4 s5 s6 s7 s8
                    obtain ⟨s0, s1, s2, s3, s4, s5, s6, s7, s8⟩ := hin'.out.later hu1
                    clear hu1 hboxr
                    go_wp2_with fail
                    refine (rscheck_ok_at k nm op vl fo a b f LA ln lc _ 12 hck.out).mono ?_
                    rintro e u2 ⟨rfl, hu2⟩
                    have hz2 := Below.on hz1 hu2
                    clear s0 s1 s2 s3 s4 s5 s6 s7 s8
                    go_wp2
                    go_ret
                    exact ⟨ret_int hr.out.symm, hz2⟩
                · go_wp2_with fail
                  refine (rlisted_at k nm op vl fo a b f LA ln lc true hv'.out _).mono ?_
                  rintro e u1 ⟨rfl, hu1⟩
                  have hz1 := Below.on hb hu1
                  clear s0 s1 s2 s3 s4 s5 s6 s7 s8 hu1
                  go_wp2
                  go_roundw
                  case rel => exact ⟨q + 1, by omega, by go_num, hz1, fun j hj => by
                    by_cases h : j = q
                    · subst h; left; rw [hs'.out]; exact hv'.out
                    · exact hok.out j (by omega)⟩
                  case measure => simp [intOf]; omega
            · have hr : Hid (ckC tag S = 0) := ckC_yes ⟨h1'.out, by omega, hcn.out, fun j hj => hok.out j (by omega)⟩
              go_wp2
              go_ret
              exact ⟨ret_int hr.out.symm, hBr⟩
    · have g2 : decide (64 < (n : Int)) = true := by rw [decide_eq_true_eq]; omega
      have hr : Hid (ckC tag S = 12) := ckC_no fun h => by have := h.2.1; omega
      clear h1 h2
      go_enter Try.func42, Try.ntmps42
      go_wp2_with fail
      refine (rtagOK_at tag true ht.out _).mono ?_
      rintro e w1 ⟨rfl, rfl⟩
      go_wp2
      go_ret
      exact ⟨ret_int hr.out.symm, hB0⟩
  · have ht : Hid (decide (tag.size ≤ 64) = false) := decide_eq_false h1
    have hr : Hid (ckC tag S = 12) := ckC_no fun h => h1 h.1
    clear h1
    go_enter Try.func42, Try.ntmps42
    go_wp2_with fail
    refine (rtagOK_at tag false ht.out _).mono ?_
    rintro e w1 ⟨rfl, rfl⟩
    go_wp2
    go_ret
    exact ⟨ret_int hr.out.symm, hB0⟩

def tagErr (T : List ANode) (i : Int) (tag : ByteArray) : Int := if askI T [i] = 0 then tgE tag else askI T [i]
def tagVal (T : List ANode) (i : Int) (tag : ByteArray) : Bool := if tagErr T i tag = 0 then tagF T i.toNat tag else false
theorem tgE_cases (t : ByteArray) : (tgE t = 0 ∧ t.size ≤ 64) ∨ (tgE t = 12 ∧ ¬ t.size ≤ 64) := by
  unfold tgE
  split
  · rename_i h; exact .inl ⟨rfl, h⟩
  · rename_i h; exact .inr ⟨rfl, h⟩
theorem depth_at (T : List ANode) (i v c0 : Int) (h0 : askI T [i] = c0) (h1 : depE T i = v) (A : Option Addr) (n c : Nat) (w : World) (h : IsTree w A n T) :
    Calls Try.prog 56 #[.agg #[.slice A n c], .int .i64 i] w fun e w' => e = .returned (.tuple #[.int .i64 v, .int .i64 c0]) ∧ Below w.heap.size w w' := by
  have := depth_ok A n c T i w h
  rw [h0, h1] at this
  exact this
/-- The three ways in which a tag is told. -/
theorem tag_ways (tag : ByteArray) : (tag.size = 0) ∨ (tag = ⟨#[42]⟩) ∨ (¬ tag.size = 0 ∧ ¬ tag = ⟨#[42]⟩) := by
  by_cases h : tag.size = 0
  · exact .inl h
  · by_cases h2 : tag = ⟨#[42]⟩
    · exact .inr (.inl h2)
    · exact .inr (.inr ⟨h, h2⟩)
set_option maxRecDepth 100000 in
set_option maxHeartbeats 2000000 in
theorem compTag_ok (A : Option Addr) (n c : Nat) (T : List ANode) (i : Int) (tag : ByteArray) (w : World) (h : IsTree w A n T) :
    Calls Try.prog 39 #[.agg #[.slice A n c], .int .i64 i, .string tag] w fun r w' => r = .returned (.tuple #[.bool (tagVal T i tag), .int .i64 (tagErr T i tag)]) ∧ Below w.heap.size w w' := by
  have ho := hide h.2.2.2
  have hT := hide h
  have hl := h.1
  clear h
  have hB0 := below_alloc (Below.refl w.heap.size w) (.cells #[.slice A n c] 43)
  have hbox0 : (w.alloc (.cells #[.slice A n c] 43)).cell? ⟨w.heap.size, 0, none⟩ = some (.slice A n c) := by go_simp
  obtain ⟨dv, hdv0⟩ : ∃ x, depE T i = x := ⟨_, rfl⟩
  have hdv := hide hdv0
  clear hdv0
  by_cases h0 : askI T [i] = 0
  · have hia := hide h0
    rcases tgE_cases tag with ⟨h1, h1s⟩ | ⟨h1, h1s⟩
    · have htg := hide h1
      have hir := (askI_zero.1 h0).2 i (by simp)
      obtain ⟨j, rfl⟩ := Int.eq_ofNat_of_zero_le hir.1
      have hj : j < n := by omega
      have hE : Hid (tagErr T j tag = 0) := by show _ = _; unfold tagErr; rw [if_pos h0, h1]
      obtain ⟨bb, off, aA, cA, aC, cC, rfl, hbl, c0, -, -, -, -, -⟩ := ho.out (by omega)
      have c0' := hide (c0 j hj)
      have q1 : (0 : Int) ≤ (j : Int) := by omega
      have q2 : (j : Int) < (n : Int) := by omega
      obtain ⟨nt, hnt⟩ : ∃ x, (nd T j).tag = x := ⟨_, rfl⟩
      rw [hnt] at c0'
      have hV0 : tagVal T j tag = (decide (tag.size = 0) || (decide (tag = ⟨#[42]⟩) || decide (tag = nt))) := by
        unfold tagVal
        rw [if_pos hE.out, Int.toNat_natCast]
        unfold tagF
        rw [hnt]
      rcases tag_ways tag with hw | hw | ⟨hw1, hw2⟩
      · have hV : Hid (tagVal T j tag = true) := by show _ = _; rw [hV0, decide_eq_true hw]; rfl
        have d1 := (toList_nil tag).2 hw
        have d2 : tag.toList.isEmpty = true := by rw [d1]; rfl
        clear h0 h1 h1s hir c0 hnt hV0 hw
        go_enter Try.func39, Try.ntmps39
        go_wp2_with fail
        refine (depth_at T j dv 0 hia.out hdv.out _ _ c _ (hT.out.below hB0)).mono ?_
        rintro e w1 ⟨rfl, hb1⟩
        have hB1 := Below.on hB0 hb1
        have hbox1 := cell_later hb1 hbox0
        clear hb1 hbox0
        have g0 := (old hB1 _ _ hbl).trans c0'.out
        go_wp2_with fail
        refine (tagged_at tag 0 htg.out _).mono ?_
        rintro e w2 ⟨rfl, rfl⟩
        go_wp2
        go_ret2
        exact ⟨ret_bi hV.out.symm hE.out.symm, hB1⟩
      · subst hw
        have hV : Hid (tagVal T j ⟨#[42]⟩ = true) := by show _ = _; rw [hV0, decide_eq_true (p := (⟨#[42]⟩ : ByteArray) = ⟨#[42]⟩) rfl]; simp
        clear h0 h1 h1s hir c0 hnt hV0
        go_enter Try.func39, Try.ntmps39
        go_wp2_with fail
        refine (depth_at T j dv 0 hia.out hdv.out _ _ c _ (hT.out.below hB0)).mono ?_
        rintro e w1 ⟨rfl, hb1⟩
        have hB1 := Below.on hB0 hb1
        have hbox1 := cell_later hb1 hbox0
        clear hb1 hbox0
        have g0 := (old hB1 _ _ hbl).trans c0'.out
        go_wp2_with fail
        refine (tagged_at ⟨#[42]⟩ 0 htg.out _).mono ?_
        rintro e w2 ⟨rfl, rfl⟩
        go_wp2
        go_ret2
        exact ⟨ret_bi hV.out.symm hE.out.symm, hB1⟩
      · have hV : Hid (tagVal T j tag = (tag.toList == nt.toList)) := by
          show _ = _
          rw [hV0, decide_eq_false hw1, decide_eq_false hw2, Bool.false_or, Bool.false_or]
          by_cases h : tag = nt
          · rw [decide_eq_true h, str_eq h]
          · rw [decide_eq_false h, str_ne h]
        have d1 := mt (toList_nil tag).1 hw1
        have d2 : tag.toList.isEmpty = false := by rw [List.isEmpty_eq_false_iff]; exact d1
        have d3 : (tag.toList == (⟨#[42]⟩ : ByteArray).toList) = false := str_ne hw2
        have d4 : (⟨#[42]⟩ : ByteArray).toList = [42] := by rw [ByteArray.toList_eq]
        rw [d4] at d3
        clear h0 h1 h1s hir c0 hnt hV0 hw1 hw2 d4
        go_enter Try.func39, Try.ntmps39
        go_wp2_with fail
        refine (depth_at T j dv 0 hia.out hdv.out _ _ c _ (hT.out.below hB0)).mono ?_
        rintro e w1 ⟨rfl, hb1⟩
        have hB1 := Below.on hB0 hb1
        have hbox1 := cell_later hb1 hbox0
        clear hb1 hbox0
        have g0 := (old hB1 _ _ hbl).trans c0'.out
        go_wp2_with fail
        refine (tagged_at tag 0 htg.out _).mono ?_
        rintro e w2 ⟨rfl, rfl⟩
        go_wp2
        go_ret2
        exact ⟨ret_bi hV.out.symm hE.out.symm, hB1⟩
    · have htg := hide h1
      have hE : Hid (tagErr T i tag = 12) := by show _ = _; unfold tagErr; rw [if_pos h0, h1]
      have hV : Hid (tagVal T i tag = false) := by show _ = _; unfold tagVal; rw [if_neg (by rw [hE.out]; omega)]
      clear h0 h1 h1s
      go_enter Try.func39, Try.ntmps39
      go_wp2_with fail
      refine (depth_at T i dv 0 hia.out hdv.out _ _ c _ (hT.out.below hB0)).mono ?_
      rintro e w1 ⟨rfl, hb1⟩
      have hB1 := Below.on hB0 hb1
      have hbox1 := cell_later hb1 hbox0
      clear hb1 hbox0
      go_wp2_with fail
      refine (tagged_at tag 12 htg.out _).mono ?_
      rintro e w2 ⟨rfl, rfl⟩
      go_wp2
      go_ret2
      exact ⟨ret_bi hV.out.symm hE.out.symm, hB1⟩
  · obtain ⟨c1, hc1⟩ : ∃ x, askI T [i] = x := ⟨_, rfl⟩
    have hcz : ¬ c1 = 0 := by rw [← hc1]; exact h0
    have hE : Hid (tagErr T i tag = c1) := by show _ = _; unfold tagErr; rw [if_neg h0, hc1]
    have hV : Hid (tagVal T i tag = false) := by show _ = _; unfold tagVal; rw [if_neg (by rw [hE.out]; exact hcz)]
    have hia := hide hc1
    have hcb : (c1 != 0) = true := by rw [bne_iff_ne]; exact hcz
    clear h0 hc1 hcz
    go_enter Try.func39, Try.ntmps39
    go_wp2_with fail
    refine (depth_at T i dv c1 hia.out hdv.out _ _ c _ (hT.out.below hB0)).mono ?_
    rintro e w1 ⟨rfl, hb1⟩
    have hB1 := Below.on hB0 hb1
    have hbox1 := cell_later hb1 hbox0
    clear hb1 hbox0
    go_wp2
    go_ret2
    exact ⟨ret_bi hV.out.symm hE.out.symm, hB1⟩
end Go.Proofs.Ytbedomopojiehaa
