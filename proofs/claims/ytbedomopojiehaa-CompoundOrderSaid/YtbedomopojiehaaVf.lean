/- Walks: tags, errors, matches, Match and Great of a compound, by the reference. From a reading to words on memory: a compound. Conditions: as each states. -/
import Derived.Test.YtbedomopojiehaaVa
import Derived.Test.YtbedomopojiehaaSx
import Derived.Test.YtbedomopojiehaaSs
import Derived.Deep.RegionHeld3
namespace Go.Proofs.Ytbedomopojiehaa
open Go.RowKit

set_option maxRecDepth 100000 in
theorem rtagged_ok (A : Option Addr) (n c : Nat) (T : List ANode) (j : Nat) (tag : ByteArray) (w : World) (h : IsTree w A n T) (hj : j < n) :
    Calls Try.prog 70 #[.agg #[.slice A n c], .int .i64 j, .string tag] w fun r w' => r = .returned (.bool (tagF T j tag)) ∧ Below w.heap.size w w' := by
  have ho := hide h.2.2.2
  have hT := hide h
  have hl := h.1
  clear h
  have hB0 := below_alloc (Below.refl w.heap.size w) (.cells #[.slice A n c] 43)
  have hbox0 : (w.alloc (.cells #[.slice A n c] 43)).cell? ⟨w.heap.size, 0, none⟩ = some (.slice A n c) := by go_simp
  obtain ⟨bb, off, aA, cA, aC, cC, rfl, hbl, c0, -, -, -, -, -⟩ := ho.out (by omega)
  have c0' := c0 j hj
  have q1 : (0 : Int) ≤ (j : Int) := by omega
  have q2 : (j : Int) < (n : Int) := by omega
  obtain ⟨nt, hnt⟩ : ∃ x, (nd T j).tag = x := ⟨_, rfl⟩
  rw [hnt] at c0'
  have g0 := (old hB0 _ _ hbl).trans c0'
  have hV0 : tagF T j tag = (decide (tag.size = 0) || (decide (tag = ⟨#[42]⟩) || decide (tag = nt))) := by unfold tagF; rw [hnt]
  rcases tag_ways tag with hw | hw | ⟨hw1, hw2⟩
  · have hV : Hid (tagF T j tag = true) := by show _ = _; rw [hV0, decide_eq_true hw]; rfl
    have d1 := (toList_nil tag).2 hw
    have d2 : tag.toList.isEmpty = true := by rw [d1]; rfl
    clear c0 hnt hV0 hw c0'
    go_enter Try.func70, Try.ntmps70
    go_wp2
    go_ret
    exact ⟨ret_bool hV.out.symm, hB0⟩
  · subst hw
    have hV : Hid (tagF T j ⟨#[42]⟩ = true) := by show _ = _; rw [hV0, decide_eq_true (p := (⟨#[42]⟩ : ByteArray) = ⟨#[42]⟩) rfl]; simp
    clear c0 hnt hV0 c0'
    go_enter Try.func70, Try.ntmps70
    go_wp2
    go_ret
    exact ⟨ret_bool hV.out.symm, hB0⟩
  · have hV : Hid (tagF T j tag = (nt.toList == tag.toList)) := by
      show _ = _
      rw [hV0, decide_eq_false hw1, decide_eq_false hw2, Bool.false_or, Bool.false_or]
      by_cases h : tag = nt
      · rw [decide_eq_true h, str_eq h.symm]
      · rw [decide_eq_false h, str_ne fun h' => h h'.symm]
    have d1 := mt (toList_nil tag).1 hw1
    have d2 : tag.toList.isEmpty = false := by rw [List.isEmpty_eq_false_iff]; exact d1
    have d3 : (tag.toList == (⟨#[42]⟩ : ByteArray).toList) = false := str_ne hw2
    have d4 : (⟨#[42]⟩ : ByteArray).toList = [42] := by rw [ByteArray.toList_eq]
    rw [d4] at d3
    clear c0 hnt hV0 hw1 hw2 d4 c0'
    go_enter Try.func70, Try.ntmps70
    go_wp2
    go_ret
    exact ⟨ret_bool hV.out.symm, hB0⟩
set_option maxRecDepth 100000 in
theorem rcTag_ok (A : Option Addr) (n c : Nat) (T : List ANode) (i : Int) (tag : ByteArray) (w : World) (h : IsTree w A n T) :
    Calls Try.prog 40 #[.agg #[.slice A n c], .int .i64 i, .string tag] w fun r w' => r = .returned (.tuple #[.bool (tagVal T i tag), .int .i64 (tagErr T i tag)]) ∧ Below w.heap.size w w' := by
  have hT := hide h
  have hl := h.1
  clear h
  have hB0 := below_alloc (Below.refl w.heap.size w) (.cells #[.slice A n c] 43)
  have hbox0 : (w.alloc (.cells #[.slice A n c] 43)).cell? ⟨w.heap.size, 0, none⟩ = some (.slice A n c) := by go_simp
  by_cases h0 : askI T [i] = 0
  · have hia := hide h0
    rcases tgE_cases tag with ⟨h1, h1s⟩ | ⟨h1, h1s⟩
    · have htg : Hid (decide (tag.size ≤ 64) = true) := decide_eq_true h1s
      have hir := (askI_zero.1 h0).2 i (by simp)
      obtain ⟨j, rfl⟩ := Int.eq_ofNat_of_zero_le hir.1
      have hj : j < n := by omega
      have hE : Hid (tagErr T j tag = 0) := by show _ = _; unfold tagErr; rw [if_pos h0, h1]
      have hV : Hid (tagVal T j tag = tagF T j tag) := by show _ = _; unfold tagVal; rw [if_pos hE.out, Int.toNat_natCast]
      clear h0 h1 h1s hir
      go_enter Try.func40, Try.ntmps40
      go_wp2_with fail
      refine (rasked_at T j 0 hia.out _ _ c _ (hT.out.below hB0)).mono ?_
      rintro e w1 ⟨rfl, hb1⟩
      have hB1 := Below.on hB0 hb1
      have hbox1 := cell_later hb1 hbox0
      clear hb1 hbox0
      go_wp2_with fail
      refine (rtagOK_at tag true htg.out _).mono ?_
      rintro e w2 ⟨rfl, rfl⟩
      go_wp2_with fail
      refine (rtagged_ok _ _ c T j tag _ (hT.out.below hB1) hj).mono ?_
      rintro e w3 ⟨rfl, hb3⟩
      have hB3 := Below.on hB1 hb3
      go_wp2
      go_ret2
      exact ⟨ret_bi hV.out.symm hE.out.symm, hB3⟩
    · have htg : Hid (decide (tag.size ≤ 64) = false) := decide_eq_false h1s
      have hE : Hid (tagErr T i tag = 12) := by show _ = _; unfold tagErr; rw [if_pos h0, h1]
      have hV : Hid (tagVal T i tag = false) := by show _ = _; unfold tagVal; rw [if_neg (by rw [hE.out]; omega)]
      clear h0 h1 h1s
      go_enter Try.func40, Try.ntmps40
      go_wp2_with fail
      refine (rasked_at T i 0 hia.out _ _ c _ (hT.out.below hB0)).mono ?_
      rintro e w1 ⟨rfl, hb1⟩
      have hB1 := Below.on hB0 hb1
      have hbox1 := cell_later hb1 hbox0
      clear hb1 hbox0
      go_wp2_with fail
      refine (rtagOK_at tag false htg.out _).mono ?_
      rintro e w2 ⟨rfl, rfl⟩
      go_wp2
      go_ret2
      exact ⟨ret_bi hV.out.symm hE.out.symm, hB1⟩
  · obtain ⟨c1, hc1⟩ : ∃ x, askI T [i] = x := ⟨_, rfl⟩
    have hcz : ¬ c1 = 0 := by rw [← hc1]; exact h0
    have hE : Hid (tagErr T i tag = c1) := by show _ = _; unfold tagErr; rw [if_neg h0, hc1]
    have hV : Hid (tagVal T i tag = false) := by show _ = _; unfold tagVal; rw [if_neg (by rw [hE.out]; exact hcz)]
    have hia := hide hc1
    have hcb : (c1 != 0) = true := by rw [bne_iff_ne]; exact hcz
    clear h0 hc1 hcz
    go_enter Try.func40, Try.ntmps40
    go_wp2_with fail
    refine (rasked_at T i c1 hia.out _ _ c _ (hT.out.below hB0)).mono ?_
    rintro e w1 ⟨rfl, hb1⟩
    have hB1 := Below.on hB0 hb1
    have hbox1 := cell_later hb1 hbox0
    clear hb1 hbox0
    go_wp2_with fail
    refine (rasked_at T i c1 hia.out _ _ c _ (hT.out.below hB1)).mono ?_
    rintro e w2 ⟨rfl, hb2⟩
    have hB2 := Below.on hB1 hb2
    have hbox2 := cell_later hb2 hbox1
    clear hb2 hbox1
    go_wp2
    go_ret2
    exact ⟨ret_bi hV.out.symm hE.out.symm, hB2⟩
set_option maxRecDepth 100000 in
theorem rc19asked_ok (A : Option Addr) (n c : Nat) (T : List ANode) (tag : ByteArray) (SA : Option Addr) (sn sc : Nat) (S : List Sim) (m : Int) (w : World) (h : IsTree w A n T) (hS0 : IsSims w SA sn S) :
    Calls Try.prog 49 #[.agg #[.slice A n c], .agg #[.string tag, .slice SA sn sc], .int .i64 m] w fun r w' => r = .returned (.int .i64 (ccE T tag S m)) ∧ Below w.heap.size w w' := by
  have hT := hide h
  have hl := h.1
  have hS := hide hS0
  have hsl := hS0.1
  have hB0 := below_alloc (below_alloc (Below.refl w.heap.size w) (.cells #[.slice A n c] 43)) (.cells #[.string tag, .slice SA sn sc] 65)
  have hbox0 : ((w.alloc (.cells #[.slice A n c] 43)).alloc (.cells #[.string tag, .slice SA sn sc] 65)).cell? ⟨w.heap.size, 0, none⟩ = some (.slice A n c) := by go_simp
  have ht0 : ((w.alloc (.cells #[.slice A n c] 43)).alloc (.cells #[.string tag, .slice SA sn sc] 65)).cell? ⟨w.heap.size + 1, 0, none⟩ = some (.string tag) := by go_simp
  have htb0 : ((w.alloc (.cells #[.slice A n c] 43)).alloc (.cells #[.string tag, .slice SA sn sc] 65)).cell? ⟨w.heap.size + 1, 1, none⟩ = some (.slice SA sn sc) := by go_simp
  clear h hS0
  by_cases hg : goodB T = true
  · have hc0 : chk T = 0 := chk_ok hg
    have hg' := hide hg
    cases hmd0 : modeB T m
    · have hmd := hide hmd0
      have hr : Hid (ccE T tag S m = 2) := by show _ = _; unfold ccE; rw [if_pos hg, if_neg (by rw [hmd0]; simp)]
      clear hg hmd0
      go_enter Try.func49, Try.ntmps49
      go_wp2_with fail
      refine (rcheck_ok _ _ c T _ (hT.out.below hB0)).mono ?_
      rintro e w1 ⟨rfl, hb1⟩
      have hB1 := Below.on hB0 hb1
      have hbox1 := cell_later hb1 hbox0
      have ht1 := cell_later hb1 ht0
      have htb1 := cell_later hb1 htb0
      clear hb1 hbox0 ht0 htb0
      go_wp2_with fail
      refine (rmode_at T m false hmd.out _ _ c _ (hT.out.below hB1) hg'.out).mono ?_
      rintro e w2 ⟨rfl, hb2⟩
      have hB2 := Below.on hB1 hb2
      have hbox2 := cell_later hb2 hbox1
      have ht2 := cell_later hb2 ht1
      have htb2 := cell_later hb2 htb1
      clear hb2 hbox1 ht1 htb1
      go_wp2
      go_ret
      exact ⟨ret_int hr.out.symm, hB2⟩
    · have hmd := hide hmd0
      have hr : Hid (ccE T tag S m = ckC tag S) := by show _ = _; unfold ccE; rw [if_pos hg, if_pos hmd0]
      clear hg hmd0
      go_enter Try.func49, Try.ntmps49
      go_wp2_with fail
      refine (rcheck_ok _ _ c T _ (hT.out.below hB0)).mono ?_
      rintro e w1 ⟨rfl, hb1⟩
      have hB1 := Below.on hB0 hb1
      have hbox1 := cell_later hb1 hbox0
      have ht1 := cell_later hb1 ht0
      have htb1 := cell_later hb1 htb0
      clear hb1 hbox0 ht0 htb0
      go_wp2_with fail
      refine (rmode_at T m true hmd.out _ _ c _ (hT.out.below hB1) hg'.out).mono ?_
      rintro e w2 ⟨rfl, hb2⟩
      have hB2 := Below.on hB1 hb2
      have hbox2 := cell_later hb2 hbox1
      have ht2 := cell_later hb2 ht1
      have htb2 := cell_later hb2 htb1
      clear hb2 hbox1 ht1 htb1
      go_wp2_with fail
      refine (rcompCheck_ok tag SA sn sc S _ (hS.out.below hB2)).mono ?_
      rintro e w3 ⟨rfl, hb3⟩
      have hB3 := Below.on hB2 hb3
      go_wp2
      go_ret
      exact ⟨ret_int hr.out.symm, hB3⟩
  · have hc0 : chk T = 8 := chk_bad hg
    have hr : Hid (ccE T tag S m = 8) := if_neg hg
    clear hg
    go_enter Try.func49, Try.ntmps49
    go_wp2_with fail
    refine (rcheck_ok _ _ c T _ (hT.out.below hB0)).mono ?_
    rintro e w1 ⟨rfl, hb1⟩
    have hB1 := Below.on hB0 hb1
    have hbox1 := cell_later hb1 hbox0
    have ht1 := cell_later hb1 ht0
    have htb1 := cell_later hb1 htb0
    clear hb1 hbox0 ht0 htb0
    go_wp2_with fail
    refine (rcheck_ok _ _ c T _ (hT.out.below hB1)).mono ?_
    rintro e w2 ⟨rfl, hb2⟩
    have hB2 := Below.on hB1 hb2
    have hbox2 := cell_later hb2 hbox1
    have ht2 := cell_later hb2 ht1
    have htb2 := cell_later hb2 htb1
    clear hb2 hbox1 ht1 htb1
    go_wp2
    go_ret
    exact ⟨ret_int hr.out.symm, hB2⟩
theorem rc19asked_at (T : List ANode) (tag : ByteArray) (S : List Sim) (m c0 : Int) (h0 : ccE T tag S m = c0) (A : Option Addr) (n c : Nat) (SA : Option Addr) (sn sc : Nat) (w : World) (h : IsTree w A n T) (hS0 : IsSims w SA sn S) :
    Calls Try.prog 49 #[.agg #[.slice A n c], .agg #[.string tag, .slice SA sn sc], .int .i64 m] w fun r w' => r = .returned (.int .i64 c0) ∧ Below w.heap.size w w' := by
  have := rc19asked_ok A n c T tag SA sn sc S m w h hS0
  rw [h0] at this
  exact this
set_option maxRecDepth 100000 in
set_option maxHeartbeats 4000000 in
theorem rmatC_ok (A : Option Addr) (n c : Nat) (T : List ANode) (i : Nat) (tag : ByteArray) (SA : Option Addr) (sn sc : Nat) (S : List Sim) (m : Int) (TA : Option Addr) (tc : Nat) (B : List Bool) (w : World) (h : IsTree w A n T) (hS0 : IsSims w SA sn S) (hTB0 : IsBools w TA sn B) (hi : i < n) (hg : goodB T = true) (hck : okC tag S) :
    Calls Try.prog 67 #[.agg #[.slice A n c], .int .i64 i, .agg #[.string tag, .slice SA sn sc], .int .i64 m, .slice TA sn tc] w fun r w' => r = .returned (.bool (matC T i tag S m (bx B) sn)) ∧ Below w.heap.size w w' := by
  have hTB := hide hTB0
  have hg' := hide hg
  have hs64 : sn ≤ 64 := by have := hck.2.1; have := hS0.1; omega
  have hsm := hide (show ∀ j, j < sn → lisS (sm S j) = false → (sm S j).val.size ≤ 1000 from fun j hj hlj => by
    have h1 : chkS (sm S j) = 0 := by
      rcases hck.2.2.2 j (by have := hS0.1; omega) with h2 | h2
      · rw [hlj] at h2; cases h2
      · exact h2
    have := (chkS_val h1).1
    omega)
  have hT := hide h
  have hl := h.1
  have hS := hide hS0
  have hsl := hS0.1
  have hB0 := below_alloc (below_alloc (Below.refl w.heap.size w) (.cells #[.slice A n c] 43)) (.cells #[.string tag, .slice SA sn sc] 65)
  have hbox0 : ((w.alloc (.cells #[.slice A n c] 43)).alloc (.cells #[.string tag, .slice SA sn sc] 65)).cell? ⟨w.heap.size, 0, none⟩ = some (.slice A n c) := by go_simp
  have ht0 : ((w.alloc (.cells #[.slice A n c] 43)).alloc (.cells #[.string tag, .slice SA sn sc] 65)).cell? ⟨w.heap.size + 1, 0, none⟩ = some (.string tag) := by go_simp
  have htb0 : ((w.alloc (.cells #[.slice A n c] 43)).alloc (.cells #[.string tag, .slice SA sn sc] 65)).cell? ⟨w.heap.size + 1, 1, none⟩ = some (.slice SA sn sc) := by go_simp
  clear h hS0
  obtain ⟨M, hM⟩ : ∃ M : Nat → Bool, ∀ q, matC T i tag S m (bx B) q = M q := ⟨fun q => matC T i tag S m (bx B) q, fun _ => rfl⟩
  have hMs := hide (show ∀ q, M (q + 1) = (M q && oneC T i S m (bx B) q) from fun q => by rw [← hM, ← hM]; exact matC_succ T i tag S m (bx B) q)
  have hM0 : Hid (tagF T i tag = M 0) := by show _ = _; rw [← hM]; unfold matC; simp
  rw [hM]
  clear hM hg hck hTB0
  go_enter Try.func67, Try.ntmps67
  go_wp2_with fail
  have hx := rtagged_ok _ _ c T i tag _ (hT.out.below hB0) hi
  rw [hM0.out] at hx
  refine hx.mono ?_
  clear hx
  rintro e w1 ⟨rfl, hb1⟩
  have hB1 := Below.on hB0 hb1
  have hbox1 := cell_later hb1 hbox0
  have ht1 := cell_later hb1 ht0
  have htb1 := cell_later hb1 htb0
  clear hb1 hbox0 ht0 htb0
  go_wp2
  go_loopw [11, 12] (fun v s wr => ∃ q : Nat, q ≤ sn ∧ s = .int .i64 q ∧ v = .bool (M q) ∧ Below w1.heap.size w1 wr) (fun _ s _ => sn - (intOf s).toNat)
  case atStart => exact ⟨0, Nat.zero_le _, rfl, rfl, Below.refl _ _⟩
  case round =>
    obtain ⟨q, hq, rfl, rfl, hb⟩ := hrel
    have hBr := Below.on hB1 hb
    have hboxr := cell_later hb hbox1
    have htbr := cell_later hb htb1
    by_cases hlt : q < sn
    · obtain ⟨bb, off, rfl, hbl, hc⟩ := hS.out.2.2 (by omega)
      obtain ⟨bt, ot, rfl, hbt, hct⟩ := hTB.out.2.2 (by omega)
      have hin := (hc q hlt).later hBr
      have gt := (old hBr _ _ hbt).trans (hct q hlt)
      have q1 : (0 : Int) ≤ (q : Int) := by omega
      have q2 : (q : Int) < (sn : Int) := by omega
      have hms := hMs.out q
      have hsq := hsm.out q hlt
      unfold oneC at hms
      clear hc hct
      cases hs : sm S q with
      | mk k nm op vl fo a b f LA ln lc =>
        rw [hs] at hin hms hsq
        have hin' := hide hin
        obtain ⟨s0, s1, s2, s3, s4, s5, s6, s7, s8⟩ := hin
        obtain ⟨vq, hvq⟩ : ∃ x, M q = x := ⟨_, rfl⟩
        rw [hvq] at hms ⊢
        clear hs hvq
        cases hlj : lisS ⟨k, nm, op, vl, fo, a, b, f, LA, ln, lc⟩
        · rw [hlj] at hms
          simp only [Bool.false_eq_true, if_false] at hms
          have hvl : vl.size ≤ 1000 := hsq hlj
          have hlj' := hide hlj
          have hms' := hide hms
          clear hsq hms hlj
          go_wp2_with fail
          refine (rlisted_at k nm op vl fo a b f LA ln lc false hlj'.out _).mono ?_
          rintro e u1 ⟨rfl, hu1⟩
          have hz1 := Below.on hb hu1
          have hB1' := Below.on hBr hu1
          have pb := cell_later hu1 hboxr
          have pt := cell_later hu1 htbr
          clear s0 s1 s2 s3 s4 s5 s6 s7 s8
          obtain ⟨t0, t1, t2, t3, t4, t5, t6, t7, t8⟩ := hin'.out.later hu1
          clear hu1 hboxr htbr gt
          cases vq
          · rw [Bool.false_and] at hms'
            clear pb pt t0 t1 t2 t3 t4 t5 t6 t7 t8
            go_wp2
            go_quiet (fail)
            go_wp2
            go_roundw
            case rel => exact ⟨q + 1, by omega, by go_num, by rw [hms'.out], below_drewN hz1 _⟩
            case measure => simp [intOf]; omega
          · rw [Bool.true_and] at hms'
            obtain ⟨rv, hrv⟩ : ∃ x, matS T i ⟨k, nm, op, vl, fo, a, b, f, LA, ln, lc⟩ m = x := ⟨_, rfl⟩
            rw [hrv] at hms'
            have hk8 := hide (rsmatch_ok A n c T i k nm op vl fo a b f LA ln lc m u1.drew (hT.out.below hB1'.drew) hi hg'.out hvl)
            rw [hrv] at hk8
            clear hrv
            go_wp2
            go_region_held3 (fun X => X.cell? ⟨w.heap.size, 0, none⟩ = some (.slice A n c) ∧ X.cell? ⟨w.heap.size + 1, 1, none⟩ = some (.slice (some ⟨bb, off, none⟩) sn sc) ∧ X.cell? ⟨bb, off + q * 9, none⟩ = some (.int .u8 k) ∧ X.cell? ⟨bb, off + q * 9 + 1, none⟩ = some (.string nm) ∧ X.cell? ⟨bb, off + q * 9 + 2, none⟩ = some (.int .u8 op) ∧ X.cell? ⟨bb, off + q * 9 + 3, none⟩ = some (.string vl) ∧ X.cell? ⟨bb, off + q * 9 + 4, none⟩ = some (.bool fo) ∧ X.cell? ⟨bb, off + q * 9 + 5, none⟩ = some (.int .i64 a) ∧ X.cell? ⟨bb, off + q * 9 + 6, none⟩ = some (.int .i64 b) ∧ X.cell? ⟨bb, off + q * 9 + 7, none⟩ = some (.bool f) ∧ X.cell? ⟨bb, off + q * 9 + 8, none⟩ = some (.slice LA ln lc)) (first | exact ⟨pb, pt, t0, t1, t2, t3, t4, t5, t6, t7, t8⟩ | exact ⟨rb, rt, r0, r1, r2, r3, r4, r5, r6, r7, r8⟩) (first | (go_at_call 60; (with_reducible refine hk8.out.mono ?_); rintro e u2 ⟨rfl, hu2⟩; have rb := cell_later hu2 pb; have rt := cell_later hu2 pt; have r0 := cell_later hu2 t0; have r1 := cell_later hu2 t1; have r2 := cell_later hu2 t2; have r3 := cell_later hu2 t3; have r4 := cell_later hu2 t4; have r5 := cell_later hu2 t5; have r6 := cell_later hu2 t6; have r7 := cell_later hu2 t7; have r8 := cell_later hu2 t8))
            have hz2 := Below.on hz1 (Below.on (w1 := u1.drew) (Below.refl _ _).drew hu2)
            clear hu2
            go_wp2
            go_roundw
            case rel => exact ⟨q + 1, by omega, by go_num, by rw [hms'.out], hz2⟩
            case measure => simp [intOf]; omega
        · rw [hlj] at hms
          simp only [if_true] at hms
          have hlj' := hide hlj
          have hms' := hide hms
          clear hsq hms hlj
          generalize bx B q = bq at gt hms'
          go_wp2_with fail
          refine (rlisted_at k nm op vl fo a b f LA ln lc true hlj'.out _).mono ?_
          rintro e u1 ⟨rfl, hu1⟩
          have hz1 := Below.on hb hu1
          have gt1 := cell_later hu1 gt
          clear s0 s1 s2 s3 s4 s5 s6 s7 s8 hu1 hboxr htbr gt
          cases vq
          · rw [Bool.false_and] at hms'
            go_wp2
            go_roundw
            case rel => exact ⟨q + 1, by omega, by go_num, by rw [hms'.out], hz1⟩
            case measure => simp [intOf]; omega
          · rw [Bool.true_and] at hms'
            go_wp2
            go_roundw
            case rel => exact ⟨q + 1, by omega, by go_num, by rw [hms'.out], hz1⟩
            case measure => simp [intOf]; omega
    · obtain rfl : q = sn := by omega
      go_wp2
      go_ret
      exact ⟨rfl, hBr⟩
set_option maxRecDepth 100000 in
set_option maxHeartbeats 2000000 in
theorem rcMatch_ok (A : Option Addr) (n c : Nat) (T : List ANode) (i : Int) (tag : ByteArray) (SA : Option Addr) (sn sc : Nat) (S : List Sim) (m : Int) (TA : Option Addr) (tn tc : Nat) (B : List Bool) (w : World) (h : IsTree w A n T) (hS0 : IsSims w SA sn S) (hB' : IsBools w TA tn B) :
    Calls Try.prog 38 #[.agg #[.slice A n c], .int .i64 i, .agg #[.string tag, .slice SA sn sc], .int .i64 m, .slice TA tn tc] w
      fun r w' => r = .returned (.tuple #[.bool (cmV T i tag S m B tn), .int .i64 (cmE T i tag S m tn)]) ∧ Below w.heap.size w w' := by
  have hT := hide h
  have hl := h.1
  have hS := hide hS0
  have hsl := hS0.1
  have hTB := hide hB'
  have hB0 := below_alloc (below_alloc (Below.refl w.heap.size w) (.cells #[.slice A n c] 43)) (.cells #[.string tag, .slice SA sn sc] 65)
  have hbox0 : ((w.alloc (.cells #[.slice A n c] 43)).alloc (.cells #[.string tag, .slice SA sn sc] 65)).cell? ⟨w.heap.size, 0, none⟩ = some (.slice A n c) := by go_simp
  have ht0 : ((w.alloc (.cells #[.slice A n c] 43)).alloc (.cells #[.string tag, .slice SA sn sc] 65)).cell? ⟨w.heap.size + 1, 0, none⟩ = some (.string tag) := by go_simp
  have htb0 : ((w.alloc (.cells #[.slice A n c] 43)).alloc (.cells #[.string tag, .slice SA sn sc] 65)).cell? ⟨w.heap.size + 1, 1, none⟩ = some (.slice SA sn sc) := by go_simp
  clear h hS0 hB'
  by_cases h0 : askI T [i] = 0
  · have hia := hide h0
    obtain ⟨cc, hcc0⟩ : ∃ x, ccE T tag S m = x := ⟨_, rfl⟩
    have hcc := hide hcc0
    by_cases h1 : cc = 0
    · subst h1
      obtain ⟨hg, hmd, hck⟩ := ccE_zero.1 hcc0
      have hir := (askI_zero.1 h0).2 i (by simp)
      obtain ⟨j, rfl⟩ := Int.eq_ofNat_of_zero_le hir.1
      have hj : j < n := by omega
      by_cases h2 : tn = sn
      · subst h2
        have hE : Hid (cmE T j tag S m tn = 0) := by show _ = _; unfold cmE; rw [if_pos h0, if_pos hcc0, if_pos hsl.symm]
        have hV : Hid (cmV T j tag S m B tn = matC T j tag S m (bx B) tn) := by show _ = _; unfold cmV; rw [if_pos hE.out, Int.toNat_natCast, hsl]
        have hg' := hide hg
        have hck' := hide hck
        clear h0 hcc0 hir hg hmd hck
        go_enter Try.func38, Try.ntmps38
        go_wp2_with fail
        refine (rasked_at T j 0 hia.out _ _ c _ (hT.out.below hB0)).mono ?_
        rintro e w1 ⟨rfl, hb1⟩
        have hB1 := Below.on hB0 hb1
        have hbox1 := cell_later hb1 hbox0
        have ht1 := cell_later hb1 ht0
        have htb1 := cell_later hb1 htb0
        clear hb1 hbox0 ht0 htb0
        go_wp2_with fail
        refine (rc19asked_at T tag S m 0 hcc.out _ _ c _ _ sc _ (hT.out.below hB1) (hS.out.below hB1)).mono ?_
        rintro e w2 ⟨rfl, hb2⟩
        have hB2 := Below.on hB1 hb2
        have hbox2 := cell_later hb2 hbox1
        have ht2 := cell_later hb2 ht1
        have htb2 := cell_later hb2 htb1
        clear hb2 hbox1 ht1 htb1
        go_wp2_with fail
        refine (rmatC_ok _ _ c T j tag _ _ sc S m _ tc B _ (hT.out.below hB2) (hS.out.below hB2) (hTB.out.below hB2) hj hg'.out hck'.out).mono ?_
        rintro e w3 ⟨rfl, hb3⟩
        have hB3 := Below.on hB2 hb3
        go_wp2
        go_ret2
        exact ⟨ret_bi hV.out.symm hE.out.symm, hB3⟩
      · have hE : Hid (cmE T j tag S m tn = 2) := by show _ = _; unfold cmE; rw [if_pos h0, if_pos hcc0, if_neg (by omega)]
        have hV : Hid (cmV T j tag S m B tn = false) := by show _ = _; unfold cmV; rw [if_neg (by rw [hE.out]; omega)]
        have g1 : ((tn : Int) != (sn : Int)) = true := by rw [bne_iff_ne]; omega
        clear h0 hcc0 hir hg hmd hck h2
        go_enter Try.func38, Try.ntmps38
        go_wp2_with fail
        refine (rasked_at T j 0 hia.out _ _ c _ (hT.out.below hB0)).mono ?_
        rintro e w1 ⟨rfl, hb1⟩
        have hB1 := Below.on hB0 hb1
        have hbox1 := cell_later hb1 hbox0
        have ht1 := cell_later hb1 ht0
        have htb1 := cell_later hb1 htb0
        clear hb1 hbox0 ht0 htb0
        go_wp2_with fail
        refine (rc19asked_at T tag S m 0 hcc.out _ _ c _ _ sc _ (hT.out.below hB1) (hS.out.below hB1)).mono ?_
        rintro e w2 ⟨rfl, hb2⟩
        have hB2 := Below.on hB1 hb2
        have hbox2 := cell_later hb2 hbox1
        have ht2 := cell_later hb2 ht1
        have htb2 := cell_later hb2 htb1
        clear hb2 hbox1 ht1 htb1
        go_wp2
        go_ret2
        exact ⟨ret_bi hV.out.symm hE.out.symm, hB2⟩
    · have hE : Hid (cmE T i tag S m tn = cc) := by show _ = _; unfold cmE; rw [if_pos h0, if_neg (by rw [hcc0]; exact h1), hcc0]
      have hV : Hid (cmV T i tag S m B tn = false) := by show _ = _; unfold cmV; rw [if_neg (by rw [hE.out]; exact h1)]
      have hcb : (cc != 0) = true := by rw [bne_iff_ne]; exact h1
      clear h0 hcc0 h1
      go_enter Try.func38, Try.ntmps38
      go_wp2_with fail
      refine (rasked_at T i 0 hia.out _ _ c _ (hT.out.below hB0)).mono ?_
      rintro e w1 ⟨rfl, hb1⟩
      have hB1 := Below.on hB0 hb1
      have hbox1 := cell_later hb1 hbox0
      have ht1 := cell_later hb1 ht0
      have htb1 := cell_later hb1 htb0
      clear hb1 hbox0 ht0 htb0
      go_wp2_with fail
      refine (rc19asked_at T tag S m cc hcc.out _ _ c _ _ sc _ (hT.out.below hB1) (hS.out.below hB1)).mono ?_
      rintro e w2 ⟨rfl, hb2⟩
      have hB2 := Below.on hB1 hb2
      have hbox2 := cell_later hb2 hbox1
      have ht2 := cell_later hb2 ht1
      have htb2 := cell_later hb2 htb1
      clear hb2 hbox1 ht1 htb1
      go_wp2_with fail
      refine (rc19asked_at T tag S m cc hcc.out _ _ c _ _ sc _ (hT.out.below hB2) (hS.out.below hB2)).mono ?_
      rintro e w3 ⟨rfl, hb3⟩
      have hB3 := Below.on hB2 hb3
      have hbox3 := cell_later hb3 hbox2
      have ht3 := cell_later hb3 ht2
      have htb3 := cell_later hb3 htb2
      clear hb3 hbox2 ht2 htb2
      go_wp2
      go_ret2
      exact ⟨ret_bi hV.out.symm hE.out.symm, hB3⟩
  · obtain ⟨c1, hc1⟩ : ∃ x, askI T [i] = x := ⟨_, rfl⟩
    have hcz : ¬ c1 = 0 := by rw [← hc1]; exact h0
    have hE : Hid (cmE T i tag S m tn = c1) := by show _ = _; unfold cmE; rw [if_neg h0, hc1]
    have hV : Hid (cmV T i tag S m B tn = false) := by show _ = _; unfold cmV; rw [if_neg (by rw [hE.out]; exact hcz)]
    have hia := hide hc1
    have hcb : (c1 != 0) = true := by rw [bne_iff_ne]; exact hcz
    clear h0 hc1 hcz
    go_enter Try.func38, Try.ntmps38
    go_wp2_with fail
    refine (rasked_at T i c1 hia.out _ _ c _ (hT.out.below hB0)).mono ?_
    rintro e w1 ⟨rfl, hb1⟩
    have hB1 := Below.on hB0 hb1
    have hbox1 := cell_later hb1 hbox0
    have ht1 := cell_later hb1 ht0
    have htb1 := cell_later hb1 htb0
    clear hb1 hbox0 ht0 htb0
    go_wp2_with fail
    refine (rasked_at T i c1 hia.out _ _ c _ (hT.out.below hB1)).mono ?_
    rintro e w2 ⟨rfl, hb2⟩
    have hB2 := Below.on hB1 hb2
    have hbox2 := cell_later hb2 hbox1
    have ht2 := cell_later hb2 ht1
    have htb2 := cell_later hb2 htb1
    clear hb2 hbox1 ht1 htb1
    go_wp2
    go_ret2
    exact ⟨ret_bi hV.out.symm hE.out.symm, hB2⟩
section
open Go.ChangeShapes Go.WideShapes Go.ChangeAt Go.RowKit Go.Deep
section
variable {H : Type} {enc : TypeId × Value → H} {w : World} {base : Nat} {spare : Nat → Bool} {held : Bool}
theorem simple_cells : Try.prog.cellsOf 26 = 9 := by kernel_rfl
theorem sims_open {fuel : Nat} {v : Value} {x : DataW H × List MemPlace} (h : DataW.trod enc Try.prog w base spare held fuel 58 [v] = some x) :
    ∃ (A : Option Addr) (len cap : Nat) (S : List Sim), v = .slice A len cap ∧ IsSims w A len S := by
  rcases open_slice Try.underlying58 h with ⟨h0, _⟩ | ⟨a, len, cap, m, n, D, Pl, hcs, hb, hl, hm, hmm, hx, hi⟩
  · simp at h0
    exact ⟨none, 0, 0, [], h0, rfl, by omega, fun hn => absurd hn (by omega)⟩
  · simp at hcs
    have hc : ∀ i, i < len → ∃ s : Sim, ∀ q, q < 9 → w.cell? (a.add (i * 9 + q)) = (simC s).toList[q]? := fun i hil => by
      have him : i < m := by rw [hmm]; split <;> omega
      obtain ⟨cs', hc, ht'⟩ := hi i him
      rw [simple_cells] at hc
      obtain ⟨_, hcl, hat⟩ := World.cells?_some hc
      obtain ⟨s, _, _, he, -⟩ := sim_cells hcl ht'
      exact ⟨s, fun q hq => by rw [← Go.Deep.add_add, hat q hq, he]⟩
    obtain ⟨f, hf⟩ := choose_lt hc
    refine ⟨some a, len, cap, (List.range len).map f, hcs, by simp, by unfold maxLen at hm; omega, fun h0 => ?_⟩
    obtain ⟨b, off, hae, hbl⟩ := add_zero' (by omega) (hf 0 h0 0 (by omega))
    have hA : some a = some (⟨b, off, none⟩ : Addr) := by rw [hae]
    refine ⟨b, off, hA, hbl, fun j hj => ?_⟩
    have hs : sm ((List.range len).map f) j = f j := by simp [sm, hj]
    rw [hs]
    have g := fun q (hq : q < 9) (u : Value) (hu : (simC (f j)).toList[q]? = some u) => add_at hA rfl ((hf j hj q hq).trans hu)
    refine ⟨g 0 (by omega) _ rfl, ?_, ?_, ?_, ?_, ?_, ?_, ?_, ?_⟩
    all_goals rw [Nat.add_assoc]
    · exact g 1 (by omega) _ rfl
    · exact g 2 (by omega) _ rfl
    · exact g 3 (by omega) _ rfl
    · exact g 4 (by omega) _ rfl
    · exact g 5 (by omega) _ rfl
    · exact g 6 (by omega) _ rfl
    · exact g 7 (by omega) _ rfl
    · exact g 8 (by omega) _ rfl
set_option maxRecDepth 100000 in
/-- A parameter that is a compound. -/
theorem comp_open {r : Reach} {b0 : Nat} {v : Value} {d : DataW H} {p : List MemPlace} (hv : Value.okWide Try.prog w r b0 65 v) (h : DataW.Trod enc Try.prog w base spare held 65 v d p) :
    ∃ (tag : ByteArray) (A : Option Addr) (len cap : Nat) (S : List Sim), v = .agg #[.string tag, .slice A len cap] ∧ tag.size ≤ 9223372036854775807 ∧ IsSims w A len S := by
  obtain ⟨cs, rfl, hsz⟩ := okWide_struct Try.underlying65 hv
  have hC : Try.prog.cellsOf 65 = 2 := by kernel_rfl
  obtain ⟨l⟩ := cs
  match l, hsz.trans hC with
  | [c0, c1], _ =>
    obtain ⟨fuel, hf⟩ := h
    obtain ⟨xs, n, _, hx, _, hlen, hg⟩ := DataW.trod_struct Try.underlying65 hf
    have h0 := hg 0 _ rfl
    have h1 := hg 1 _ rfl
    have hk : Try.prog.cellsOf 9 = 1 := by kernel_rfl
    have hk1 : Try.prog.cellsOf 58 = 1 := by kernel_rfl
    rw [show xs[0]? = some (xs[0]'(by rw [hlen]; decide)) from List.getElem?_eq_getElem _] at h0
    rw [show xs[1]? = some (xs[1]'(by rw [hlen]; decide)) from List.getElem?_eq_getElem _] at h1
    have h0' : DataW.trod enc Try.prog w base spare held n 9 [c0] = some (xs[0]'(by rw [hlen]; decide)) := by
      have e : ((Value.agg #[c0, c1]).cells.toList.drop 0).take (Try.prog.cellsOf 9) = [c0] := by rw [hk]; rfl
      rw [← e]; exact h0
    have h1' : DataW.trod enc Try.prog w base spare held n 58 [c1] = some (xs[1]'(by rw [hlen]; decide)) := by
      have e : ((Value.agg #[c0, c1]).cells.toList.drop 1).take (Try.prog.cellsOf 58) = [c1] := by rw [hk1]; rfl
      rw [← e]; exact h1
    obtain ⟨tg, e0, _, w0⟩ := DataW.trod_string Try.underlying9 h0'
    obtain ⟨A, len, cap, S, rfl, hS⟩ := sims_open h1'
    simp at e0
    subst e0
    unfold maxLen at w0
    exact ⟨tg, A, len, cap, S, rfl, by omega, hS⟩
end
set_option maxRecDepth 100000 in
theorem rgreat19_ok (tag : ByteArray) (SA : Option Addr) (sn sc : Nat) (S : List Sim) (w : World) (hS0 : IsSims w SA sn S) :
    Calls Try.prog 36 #[.agg #[.string tag, .slice SA sn sc]] w fun r w' => (∃ v, r = .returned (.bool v)) ∧ Below w.heap.size w w' := by
  have hS := hide hS0
  have hs2 := hS0.2.1
  have hB0 := below_alloc (Below.refl w.heap.size w) (.cells #[.string tag, .slice SA sn sc] 65)
  have ht0 : (w.alloc (.cells #[.string tag, .slice SA sn sc] 65)).cell? ⟨w.heap.size, 0, none⟩ = some (.string tag) := by go_simp
  have htb0 : (w.alloc (.cells #[.string tag, .slice SA sn sc] 65)).cell? ⟨w.heap.size, 1, none⟩ = some (.slice SA sn sc) := by go_simp
  obtain ⟨w0, hw0⟩ : ∃ x, w.alloc (.cells #[.string tag, .slice SA sn sc] 65) = x := ⟨_, rfl⟩
  rw [hw0] at hB0 ht0 htb0
  clear hS0
  go_enter Try.func36, Try.ntmps36
  go_wp2
  go_loopw [3] (fun s wr => ∃ q : Nat, q ≤ sn ∧ s = .int .i64 q ∧ Below w0.heap.size w0 wr) (fun s _ => sn - (intOf s).toNat)
  case atStart => exact ⟨0, Nat.zero_le _, rfl, Below.refl _ _⟩
  case round =>
    obtain ⟨q, hq, rfl, hb⟩ := hrel
    have hBr := Below.on hB0 hb
    have htr := cell_later hb ht0
    have htbr := cell_later hb htb0
    by_cases hlt : q < sn
    · by_cases h70 : q ≤ 70
      · obtain ⟨bb, off, rfl, hbl, hc⟩ := hS.out.2.2 (by omega)
        have hin := (hc q hlt).later hBr
        have q1 : (0 : Int) ≤ (q : Int) := by omega
        have q2 : (q : Int) < (sn : Int) := by omega
        have q3 : (q : Int) ≤ 70 := by omega
        clear hc
        cases hs : sm S q with
        | mk k nm op vl fo a b f LA ln lc =>
          rw [hs] at hin
          obtain ⟨s0, s1, s2, s3, s4, s5, s6, s7, s8⟩ := hin
          clear hs
          go_wp2_with fail
          refine (long_ok k nm op vl fo a b f LA ln lc _).mono ?_
          rintro e u1 ⟨rfl, hu1⟩
          have hz1 := Below.on hb hu1
          have hB1 := Below.on hBr hu1
          generalize decide (500 < nm.size ∨ 500 < vl.size ∨ 100 < ln) = v
          clear s0 s1 s2 s3 s4 s5 s6 s7 s8 hu1 htbr htr
          cases v
          · go_wp2
            go_roundw
            case rel => exact ⟨q + 1, by omega, by go_num, hz1⟩
            case measure => simp [intOf]; omega
          · go_wp2
            go_ret
            exact ⟨⟨_, rfl⟩, hB1⟩
      · have q1 : (q : Int) < (sn : Int) := by omega
        have q3 : decide ((q : Int) ≤ 70) = false := by rw [decide_eq_false_iff_not]; omega
        have q4 : decide (70 < (sn : Int)) = true := by rw [decide_eq_true_eq]; omega
        clear h70
        go_wp2
        go_ret
        exact ⟨⟨_, rfl⟩, hBr⟩
    · obtain rfl : q = sn := by omega
      by_cases h70 : q ≤ 70
      · have q4 : decide (70 < (q : Int)) = false := by rw [decide_eq_false_iff_not]; omega
        clear h70
        go_wp2
        go_ret
        exact ⟨⟨_, rfl⟩, hBr⟩
      · have q4 : decide (70 < (q : Int)) = true := by rw [decide_eq_true_eq]; omega
        clear h70
        go_wp2
        refine bodyPost_ret (v := .bool true) ?_ rfl ⟨⟨_, rfl⟩, hBr⟩
        simp [results, Try.results36, go_sem]
end
end Go.Proofs.Ytbedomopojiehaa
