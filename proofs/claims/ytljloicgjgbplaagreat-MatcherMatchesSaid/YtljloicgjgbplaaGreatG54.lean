/- Walks: All, Match and Which, by chapter 23's reference. Condition: the list has at most 1000000 selectors in all. -/
import Derived.Test.YtljloicgjgbplaaGreatG50
import Derived.Test.YtljloicgjgbplaaGreatG53
import Derived.Test.YtljloicgjgbplaaGreatG41
import Derived.Test.YtljloicgjgbplaaGreatG46
namespace Go.Proofs.YtljloicgjgbplaaGreat
open Go.RowKit

theorem refV_ok {T : List ANode} (m : Int) (hg : goodB T = true) : ∀ N, RCpxT (IsV N) (wholeV N) T m (csV N) (rwV T m N) ∧ RAhdT (IsV N) (wholeV N) T m (csV N) (rwV T m N)
  | 0 => ⟨fun _ _ _ _ _ _ _ _ _ _ _ x _ _ _ _ _ => x.elim, fun _ _ _ _ _ _ _ _ _ _ _ _ _ x _ _ _ _ _ _ => x.elim⟩
  | N + 1 => by
    obtain ⟨h1, h2⟩ := refV_ok m hg N
    have hK := knowsV T m N
    have hI := rinT_ok (isV_stays N) h1
    have hS := rsimM_ok hK hI h2 hg
    have hC := rcompM_ok (isV_stays N) hS
    exact ⟨rcpxT_ok (isV_stays N) hC hg, raheadT_ok (isV_stays N) hC hg⟩
theorem rin23_ok {T : List ANode} (m : Int) (hg : goodB T = true) (N : Nat) : RInT (IsV N) (wholeV N) T m (csV N) (rwV T m N) := rinT_ok (isV_stays N) (refV_ok m hg N).1
set_option maxRecDepth 100000 in
set_option maxHeartbeats 1000000 in
theorem rMatch23_ok (A : Option Addr) (n c : Nat) (T : List ANode) (i : Int) (N : Nat) (LA : Option Addr) (ln lc : Nat) (l : List (SelL N)) (m : Int) (w : World) (h : IsTree w A n T) (hrow : IsRow (IsV N) w LA ln l) (hnum : numV N l ≤ 1000000) :
    Calls Tryz.prog 21 #[.agg #[.slice A n c], .int .i64 i, .slice LA ln lc, .int .i64 m] w fun e w' => e = .returned (.tuple #[.bool (mmatV T i m N l), .int .i64 (mmatE T i m N l)]) ∧ Below w.heap.size w w' := by
  have hl := h.1
  obtain ⟨c0, hc0⟩ : ∃ c0, askI T [i] = c0 := ⟨_, rfl⟩
  obtain ⟨c1, hc1⟩ : ∃ c1, aksE T m N l = c1 := ⟨_, rfl⟩
  have has := hide (fun W (hW : Below w.heap.size w W) => (show Calls Tryz.prog 29 #[.agg #[.slice A n c], .int .i64 i] W fun e w' => e = .returned (.int .i64 c0) ∧ Below W.heap.size W w' from by rw [← hc0]; exact rasked_ok A n c T i W (h.below hW)))
  have hak := hide (fun W (hW : Below w.heap.size w W) => (show Calls Tryz.prog 11 #[.agg #[.slice A n c], .slice LA ln lc, .int .i64 m] W fun e w' => e = .returned (.int .i64 c1) ∧ Below W.heap.size W w' from by rw [← hc1]; exact rasked23_ok A n c T N LA ln lc l m W (h.below hW) (hrow.below (isV_stays N) hW) hnum))
  have hB0 := below_alloc (Below.refl w.heap.size w) (.cells #[.slice A n c] 24)
  have hbox0 : (w.alloc (.cells #[.slice A n c] 24)).cell? ⟨w.heap.size, 0, none⟩ = some (.slice A n c) := by go_simp
  by_cases h0 : c0 = 0
  · subst h0
    have hE : Hid (mmatE T i m N l = c1) := by show _ = _; unfold mmatE; rw [if_pos hc0, hc1]
    by_cases h1 : c1 = 0
    · subst h1
      obtain ⟨hg, hir⟩ := askI_zero.1 hc0
      have hir := hir i (by simp)
      obtain ⟨k, rfl⟩ := Int.eq_ofNat_of_zero_le hir.1
      have hk : k < n := by omega
      have hV : Hid (mmatV T k m N l = inV T m N l k) := by show _ = _; unfold mmatV; rw [if_pos hE.out]; rfl
      rw [hV.out, hE.out]
      have hin := hide (fun W (hW : Below w.heap.size w W) => rin23_ok m hg N A n c k LA ln lc l W (h.below hW) (hrow.below (isV_stays N) hW) ⟨0, false, false, fineV_all (chkV_zero.1 (aksE_zero.1 hc1).2.2).1⟩ hk)
      have hin' : Hid (∀ W, Below w.heap.size w W → Calls Tryz.prog 45 #[.agg #[.slice A n c], .int .i64 k, .slice LA ln lc, .int .i64 m] W fun e w' => e = .returned (.bool (inV T m N l k)) ∧ Below W.heap.size W w') := hin.out
      generalize inV T m N l k = rb at *
      clear h hrow hnum hc0 hc1 hE hV hg hir hin
      go_enter Tryz.func21, Tryz.ntmps21
      go_wp2_with fail
      (with_reducible refine (has.out _ hB0).mono ?_)
      rintro e w1 ⟨rfl, hb1⟩
      have hB1 := Below.on hB0 hb1
      have hbox1 := cell_later hb1 hbox0
      go_wp2_with fail
      (with_reducible refine (hak.out _ hB1).mono ?_)
      rintro e w2 ⟨rfl, hb2⟩
      have hB2 := Below.on hB1 hb2
      have hbox2 := cell_later hb2 hbox1
      go_wp2_with fail
      (with_reducible refine (hin'.out _ hB2).mono ?_)
      rintro e w3 ⟨rfl, hb3⟩
      have hB3 := Below.on hB2 hb3
      go_wp2
      go_ret2
      exact ⟨rfl, hB3⟩
    · have hV : Hid (mmatV T i m N l = false) := by show _ = _; unfold mmatV; rw [if_neg (by rw [hE.out]; exact h1)]
      have hcb : (c1 != 0) = true := by rw [bne_iff_ne]; exact h1
      rw [hV.out, hE.out]
      clear h hrow hnum hc0 hc1 hE hV h1
      go_enter Tryz.func21, Tryz.ntmps21
      go_wp2_with fail
      (with_reducible refine (has.out _ hB0).mono ?_)
      rintro e w1 ⟨rfl, hb1⟩
      have hB1 := Below.on hB0 hb1
      have hbox1 := cell_later hb1 hbox0
      go_wp2_with fail
      (with_reducible refine (hak.out _ hB1).mono ?_)
      rintro e w2 ⟨rfl, hb2⟩
      have hB2 := Below.on hB1 hb2
      have hbox2 := cell_later hb2 hbox1
      go_wp2_with fail
      (with_reducible refine (hak.out _ hB2).mono ?_)
      rintro e w3 ⟨rfl, hb3⟩
      have hB3 := Below.on hB2 hb3
      go_wp2
      go_ret2
      exact ⟨rfl, hB3⟩
  · have hE : Hid (mmatE T i m N l = c0) := by show _ = _; unfold mmatE; rw [if_neg (by rw [hc0]; exact h0), hc0]
    have hV : Hid (mmatV T i m N l = false) := by show _ = _; unfold mmatV; rw [if_neg (by rw [hE.out]; exact h0)]
    have hcb : (c0 != 0) = true := by rw [bne_iff_ne]; exact h0
    rw [hV.out, hE.out]
    clear h hrow hnum hc0 hc1 hE hV h0 hak
    go_enter Tryz.func21, Tryz.ntmps21
    go_wp2_with fail
    (with_reducible refine (has.out _ hB0).mono ?_)
    rintro e w1 ⟨rfl, hb1⟩
    have hB1 := Below.on hB0 hb1
    have hbox1 := cell_later hb1 hbox0
    go_wp2_with fail
    (with_reducible refine (has.out _ hB1).mono ?_)
    rintro e w2 ⟨rfl, hb2⟩
    have hB2 := Below.on hB1 hb2
    go_wp2
    go_ret2
    exact ⟨rfl, hB2⟩
set_option maxRecDepth 100000 in
set_option maxHeartbeats 1000000 in
theorem rAll23_ok (A : Option Addr) (n c : Nat) (T : List ANode) (N : Nat) (LA : Option Addr) (ln lc : Nat) (l : List (SelL N)) (m : Int) (w : World) (h : IsTree w A n T) (hrow : IsRow (IsV N) w LA ln l) (hnum : numV N l ≤ 1000000) :
    Calls Tryz.prog 22 #[.agg #[.slice A n c], .slice LA ln lc, .int .i64 m] w (MadeBoolsN w (mallV T m N l) (aksE T m N l)) := by
  have hl := h.1
  obtain ⟨c1, hc1⟩ : ∃ c1, aksE T m N l = c1 := ⟨_, rfl⟩
  have hak := hide (fun W (hW : Below w.heap.size w W) => (show Calls Tryz.prog 11 #[.agg #[.slice A n c], .slice LA ln lc, .int .i64 m] W fun e w' => e = .returned (.int .i64 c1) ∧ Below W.heap.size W w' from by rw [← hc1]; exact rasked23_ok A n c T N LA ln lc l m W (h.below hW) (hrow.below (isV_stays N) hW) hnum))
  have hB0 := below_alloc (Below.refl w.heap.size w) (.cells #[.slice A n c] 24)
  have hbox0 : (w.alloc (.cells #[.slice A n c] 24)).cell? ⟨w.heap.size, 0, none⟩ = some (.slice A n c) := by go_simp
  by_cases h1 : c1 = 0
  · subst h1
    have hg := (aksE_zero.1 hc1).1
    have hn64 : n ≤ 64 := by have := ((goodB_iff T).1 hg).2.1; omega
    have hV : Hid (mallV T m N l = (List.range n).map (inV T m N l)) := by show _ = _; unfold mallV rowOf; rw [if_pos hc1, hl]
    rw [hV.out, hc1]
    have hin : Hid (∀ W (k : Nat), k < n → Below w.heap.size w W → Calls Tryz.prog 45 #[.agg #[.slice A n c], .int .i64 k, .slice LA ln lc, .int .i64 m] W fun e w' => e = .returned (.bool (inV T m N l k)) ∧ Below W.heap.size W w') := fun W k hk hW => rin23_ok m hg N A n c k LA ln lc l W (h.below hW) (hrow.below (isV_stays N) hW) ⟨0, false, false, fineV_all (chkV_zero.1 (aksE_zero.1 hc1).2.2).1⟩ hk
    generalize inV T m N l = F at *
    clear h hrow hnum hc1 hV hg
    go_enter Tryz.func22, Tryz.ntmps22
    go_wp2_with fail
    (with_reducible refine (hak.out _ hB0).mono ?_)
    rintro e w1 ⟨rfl, hb1⟩
    have hB1 := Below.on hB0 hb1
    have hbox1 := cell_later hb1 hbox0
    clear hb1 hB0 hbox0 hak
    go_wp2
    go_loopw [8, 9] (fun v s wr => ∃ k : Nat, k ≤ n ∧ s = .int .i64 k ∧ OwnB wr w1.heap.size v ((List.range k).map F) ∧ Below w1.heap.size w1 wr) (fun _ s _ => n - (intOf s).toNat)
    case atStart => exact ⟨0, Nat.zero_le _, rfl, OwnB.nil _ _, Below.refl _ _⟩
    case round =>
      obtain ⟨k, hk, rfl, hown, hb⟩ := hrel
      have hBr := Below.on hB1 hb
      have hbox := cell_later hb hbox1
      by_cases hlt : k < n
      · have hx := hide (hin.out wr k hlt hBr)
        have hms := hide (mapr_succ (f := F) k)
        have hml : ((List.range k).map F).length = k := by simp
        go_wp2_with fail
        (with_reducible refine hx.out.mono ?_)
        rintro e w4 ⟨rfl, hb4⟩
        have hown4 := hown.below hb4
        have hB4 := hide (Below.on hb hb4)
        have hsz4 : w1.heap.size ≤ w4.heap.size := hB4.out.size
        clear hown hb4 hx
        go_wp2_with (at_builtin; refine wpList_pushB rfl _ _ rfl hown4 (F k) _ rfl rfl (by simp; omega) hsz4 ?_)
        intro A5 c5 w5 hown5 hgr
        have hB5 := hide (hgr.below (Nat.le_refl _) hB4.out)
        have hown5' := hide hown5
        clear hgr hown4 hown5 hml
        go_wp2
        go_roundw
        case rel => exact ⟨k + 1, by omega, by go_num, by have := hown5'.out; rw [hms.out]; exact this, hB5.out⟩
        case measure => simp [intOf]; omega
      · obtain rfl : n = k := by omega
        obtain ⟨A', c', rfl, -, -, hI'⟩ := hown.isBools (by simp; omega)
        have hI2 := hide hI'
        clear hI' hown
        go_wp2
        go_ret2
        exact ⟨A', c', rfl, hI2.out, hBr⟩
  · have hV : Hid (mallV T m N l = []) := by show _ = _; unfold mallV; rw [if_neg (by rw [hc1]; exact h1)]
    have hcb : (c1 != 0) = true := by rw [bne_iff_ne]; exact h1
    rw [hV.out, hc1]
    clear h hrow hnum hc1 hV h1
    go_enter Tryz.func22, Tryz.ntmps22
    go_wp2_with fail
    (with_reducible refine (hak.out _ hB0).mono ?_)
    rintro e w1 ⟨rfl, hb1⟩
    have hB1 := Below.on hB0 hb1
    have hbox1 := cell_later hb1 hbox0
    go_wp2_with fail
    (with_reducible refine (hak.out _ hB1).mono ?_)
    rintro e w2 ⟨rfl, hb2⟩
    have hB2 := Below.on hB1 hb2
    go_wp2
    go_ret2
    exact madeBoolsN_nil hB2
set_option maxRecDepth 100000 in
set_option maxHeartbeats 1000000 in
theorem rWhich23_ok (A : Option Addr) (n c : Nat) (T : List ANode) (i : Int) (N : Nat) (LA : Option Addr) (ln lc : Nat) (l : List (SelL N)) (m : Int) (w : World) (h : IsTree w A n T) (hrow0 : IsRow (IsV N) w LA ln l) (hnum : numV N l ≤ 1000000) :
    Calls Tryz.prog 24 #[.agg #[.slice A n c], .int .i64 i, .slice LA ln lc, .int .i64 m] w (MadeIE w (whiV T i m N l) (mmatE T i m N l)) := by
  have hll := hrow0.1
  obtain ⟨E, hE⟩ : ∃ E, mmatE T i m N l = E := ⟨_, rfl⟩
  obtain ⟨M, hM⟩ : ∃ M, mmatV T i m N l = M := ⟨_, rfl⟩
  have hma := hide (fun W (hW : Below w.heap.size w W) => (show Calls Tryz.prog 21 #[.agg #[.slice A n c], .int .i64 i, .slice LA ln lc, .int .i64 m] W fun e w' => e = .returned (.tuple #[.bool M, .int .i64 E]) ∧ Below W.heap.size W w' from by rw [← hE, ← hM]; exact rMatch23_ok A n c T i N LA ln lc l m W (h.below hW) (hrow0.below (isV_stays N) hW) hnum))
  have hB0 := below_alloc (Below.refl w.heap.size w) (.cells #[.slice A n c] 24)
  have hbox0 : (w.alloc (.cells #[.slice A n c] 24)).cell? ⟨w.heap.size, 0, none⟩ = some (.slice A n c) := by go_simp
  have hl := h.1
  rw [hE]
  by_cases h0 : E = 0
  · subst h0
    obtain ⟨ha, hk⟩ := mmatE_zero.1 hE
    obtain ⟨hg, hm, hck⟩ := aksE_zero.1 hk
    have hir := (askI_zero.1 ha).2 i (by simp)
    obtain ⟨k, rfl⟩ := Int.eq_ofNat_of_zero_le hir.1
    have hkn : k < n := by omega
    have hln64 : ln ≤ 64 := by
      have h1 := (chkV_zero.1 hck).2
      have h2 : l.length ≤ numV N l := len_numV N l
      omega
    have hV : Hid (whiV T k m N l = whiL T m N l k ln) := by show _ = _; unfold whiV; rw [if_pos hE, hll]; rfl
    rw [hV.out]
    have hrow := hide hrow0
    have hone := hide (fun W (ld : Int) (PA : Option Addr) (pn pc : Nat) (KA : Option Addr) (kn kc : Nat) (x : SelL N) (hx : x ∈ l) (hv : IsV N w ld PA pn pc KA kn kc x) (hW : Below w.heap.size w W) => (refV_ok m hg N).1 A n c k ld PA pn pc KA kn kc x W (h.below hW) (isV_stays N _ _ _ _ _ _ _ _ _ _ hW hv) ⟨0, false, false, List.all_eq_true.1 (fineV_all (chkV_zero.1 hck).1) x hx⟩ hkn)
    clear h hrow0 hnum hE hM ha hk hg hm hck hir hV
    go_enter Tryz.func24, Tryz.ntmps24
    go_wp2_with fail
    (with_reducible refine (hma.out _ hB0).mono ?_)
    rintro e w1 ⟨rfl, hb1⟩
    have hB1 := Below.on hB0 hb1
    have hbox1 := cell_later hb1 hbox0
    clear hb1 hB0 hbox0 hma
    go_wp2
    go_loopw [12, 13] (fun v s wr => ∃ q : Nat, q ≤ ln ∧ s = .int .i64 q ∧ OwnI wr w1.heap.size v (whiL T m N l k q) ∧ Below w1.heap.size w1 wr) (fun _ s _ => ln - (intOf s).toNat)
    case atStart => exact ⟨0, Nat.zero_le _, rfl, OwnI.nil _ _, Below.refl _ _⟩
    case round =>
      obtain ⟨q, hq, rfl, hown, hb⟩ := hrel
      have hBr := Below.on hB1 hb
      have hbox := cell_later hb hbox1
      by_cases hlt : q < ln
      · obtain ⟨b, off, ld, PA, pn, pc, KA, kn, kc, rfl, hbl, c0, c1, c2, hv⟩ := hrow.out.at hlt hll
        have g0 := cell_later hBr c0
        have g1 := cell_later hBr c1
        have g2 := cell_later hBr c2
        have hxm : l[q]'(by omega) ∈ l := List.getElem_mem _
        have hx := hone.out wr.drew _ _ _ _ _ _ _ _ hxm hv hBr.drew
        have hhit : hitV T m N l k q = isI T (csV N) (rwV T m N) (l[q]'(by omega)) k := by unfold hitV; rw [List.getElem?_eq_getElem (by omega)]; rfl
        have hss := whiL_succ T m N l k q
        have hwl := whiL_len T m N l k q
        rw [← hhit] at hx
        clear hhit
        generalize hitV T m N l k q = rb at *
        generalize whiL T m N l k q = XI at *
        have hx' := hide hx
        have x0 : (0 : Int) ≤ (q : Int) := by omega
        have x1 : (q : Int) < (ln : Int) := by omega
        have hss' := hide hss
        clear hx hss hxm hv c0 c1 c2
        cases rb
        · go_wp2
          go_region_held3 (fun X => X.cell? ⟨w.heap.size, 0, none⟩ = some (.slice A n c) ∧ X.cell? ⟨b, off + q * 3, none⟩ = some (.int .u8 ld) ∧ X.cell? ⟨b, off + q * 3 + 1, none⟩ = some (.slice PA pn pc) ∧ X.cell? ⟨b, off + q * 3 + 2, none⟩ = some (.slice KA kn kc)) (first | exact ⟨hbox, g0, g1, g2⟩ | exact ⟨r0, r1, r2, r3⟩) (first | (go_at_call 46; (with_reducible refine hx'.out.mono ?_); rintro e7 w7 ⟨rfl, hb7⟩; have r0 := cell_later hb7 hbox; have r1 := cell_later hb7 g0; have r2 := cell_later hb7 g1; have r3 := cell_later hb7 g2))
          have hown3 := hide ((show OwnI wr.drew _ _ _ from hown).below hb7)
          have hB3 := hide (Below.on (w1 := wr.drew) hb.drew hb7)
          have hss2 : Hid (whiL T m N l k (q + 1) = XI) := by show _ = _; rw [hss'.out]; simp
          clear hown hb7 r0 r1 r2 r3
          go_wp2
          go_roundw
          case rel => exact ⟨q + 1, by omega, by go_num, by rw [hss2.out]; exact hown3.out, hB3.out⟩
          case measure => simp [intOf]; omega
        · go_wp2
          go_region_held3 (fun X => X.cell? ⟨w.heap.size, 0, none⟩ = some (.slice A n c) ∧ X.cell? ⟨b, off + q * 3, none⟩ = some (.int .u8 ld) ∧ X.cell? ⟨b, off + q * 3 + 1, none⟩ = some (.slice PA pn pc) ∧ X.cell? ⟨b, off + q * 3 + 2, none⟩ = some (.slice KA kn kc)) (first | exact ⟨hbox, g0, g1, g2⟩ | exact ⟨r0, r1, r2, r3⟩) (first | (go_at_call 46; (with_reducible refine hx'.out.mono ?_); rintro e7 w7 ⟨rfl, hb7⟩; have r0 := cell_later hb7 hbox; have r1 := cell_later hb7 g0; have r2 := cell_later hb7 g1; have r3 := cell_later hb7 g2))
          have hown3 := (show OwnI wr.drew _ _ _ from hown).below hb7
          have hB3 := hide (Below.on (w1 := wr.drew) hb.drew hb7)
          have hsz3 : w1.heap.size ≤ w7.heap.size := hB3.out.size
          have hss2 : Hid (whiL T m N l k (q + 1) = XI ++ [(q : Int)]) := by show _ = _; rw [hss'.out]; simp
          clear hown hb7 r0 r1 r2 r3
          go_wp2_with (at_builtin; refine wpList_pushI rfl _ _ rfl hown3 (q : Int) _ rfl rfl (by omega) hsz3 ?_)
          intro A5 c5 w5 hown5 hgr
          have hB5 := hide (hgr.below (Nat.le_refl _) hB3.out)
          have hown5' := hide hown5
          clear hgr hown5 hown3
          go_wp2
          go_roundw
          case rel => exact ⟨q + 1, by omega, by go_num, by rw [hss2.out]; exact hown5'.out, hB5.out⟩
          case measure => simp [intOf]; omega
      · obtain rfl : ln = q := by omega
        obtain ⟨A9, c9, rfl, -, -, hI9⟩ := hown.isInts (by have := whiL_len T m N l k ln; omega)
        have hI9' := hide hI9
        generalize whiL T m N l k ln = XI at *
        clear hI9 hown
        go_wp2
        go_ret2
        exact ⟨A9, c9, rfl, hI9'.out, hBr⟩
  · have hV : Hid (whiV T i m N l = []) := by show _ = _; unfold whiV; rw [if_neg (by rw [hE]; exact h0)]
    have hcb : (E != 0) = true := by rw [bne_iff_ne]; exact h0
    rw [hV.out]
    clear hE hM h hrow0 hnum h0
    go_enter Tryz.func24, Tryz.ntmps24
    go_wp2_with fail
    (with_reducible refine (hma.out _ hB0).mono ?_)
    rintro e w1 ⟨rfl, hb1⟩
    have hB1 := Below.on hB0 hb1
    go_wp2
    go_ret2
    exact madeIE_nil hB1
end Go.Proofs.YtljloicgjgbplaaGreat
