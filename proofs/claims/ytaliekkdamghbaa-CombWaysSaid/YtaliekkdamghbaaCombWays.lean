/- For every tree, number and what is told: an element matches exactly if some way leads to it: the nearest way is one, and one that does not match has no partner to which there is a way; unless the data are greater than the statement considers. No condition. -/
import Derived.Test.YtaliekkdamghbaaDf
import Derived.Test.YtaliekkdamghbaaDg
import Derived.Test.YtaliekkdamghbaaDb
import Derived.Test.YtaliekkdamghbaaDa
import Derived.Test.YtaliekkdamghbaaCt
import Derived.Test.YtaliekkdamghbaaCu
import Derived.Test.YtaliekkdamghbaaOpen
import Derived.Deep.RegionHeld3
namespace Go.Proofs.Ytaliekkdamghbaa.combWays
open Go.ChangeShapes Go.WideShapes Go.ChangeAt Go.RowKit

set_option maxRecDepth 100000 in
set_option maxHeartbeats 4000000 in
theorem walk (A : Option Addr) (n c : Nat) (T : List ANode) (i : Int) (B : Option Addr) (m d : Nat) (cs : List Int) (C : Option Addr) (K e : Nat) (H : List (List Bool)) (w : World) (h : IsTree w A n T) (hd : m ≤ d ∧ d ≤ 9223372036854775807) (hcs : IsU8 w B m cs) (he : K ≤ e ∧ e ≤ 9223372036854775807) (hH : IsBB w C K H) :
    Calls Try.prog 8 #[.agg #[.slice A n c], .int .i64 i, .slice B m d, .slice C K e] w fun e w' => e = .returned (.bool true) ∧ Below w.heap.size w w' := by
  have hml := hcs.1
  have hkl := hH.1
  have hk63 := hH.2.1
  obtain ⟨hd1, hd2⟩ := hd
  obtain ⟨he1, he2⟩ := he
  have hcs' := hide hcs
  have hH' := hide hH
  clear hcs hH
  have hT := hide h
  have hl := h.1
  clear h
  have hB0 := below_alloc (Below.refl w.heap.size w) (.cells #[.slice A n c] 24)
  have hbox0 : (w.alloc (.cells #[.slice A n c] 24)).cell? ⟨w.heap.size, 0, none⟩ = some (.slice A n c) := by go_simp
  cases hs : small21 T cs H
  · have hs' := hide hs
    clear hs
    go_enter Try.func8, Try.ntmps8
    go_wp2_with fail
    refine (alive21_ok _).mono ?_
    rintro e w1 ⟨rfl, hb1⟩
    have hbox1 := cell_later hb1 hbox0
    have hB1 := Below.on hB0 hb1
    go_wp2_with fail
    have hx := great21_ok _ _ _ _ c _ d _ e T cs H _ (hT.out.below hB1) (hcs'.out.below hB1) (hH'.out.below hB1)
    rw [hs'.out] at hx
    refine hx.mono ?_
    clear hx
    rintro e1 w2 ⟨rfl, hb2⟩
    have hB2 := Below.on hB1 hb2
    have hbox2 := cell_later hb2 hbox1
    clear hb2 hbox1
    go_wp2
    go_ret
    exact ⟨rfl, hB2⟩
  · have hs' := hide hs
    clear hs
    by_cases h0 : cask T i cs H = 0
    · obtain ⟨hg, hir, ht⟩ := cask_zero.1 h0
      obtain ⟨ht1, ht2⟩ := told_len ht
      obtain ⟨j, rfl⟩ := Int.eq_ofNat_of_zero_le hir.1
      have hjl : j < T.length := by omega
      have hjn : j < n := by omega
      obtain rfl : K = m + 1 := by omega
      have hn64 : n ≤ 64 := by have := ((goodB_iff T).1 hg).2.1; omega
      have hg' := hide hg
      have h0' := hide h0
      have hr5 := hide ((toldB_iff _ _ _).1 ht).2.2.2.2
      have hc4 := hide ((toldB_iff _ _ _).1 ht).2.2.2.1
      obtain ⟨bh, oh, hA, hC, rfl, hbh, hhc, hhr⟩ := hH'.out.2.2 (by omega)
      have hhc' := hide hhc
      have hhr' := hide hhr
      cases hr : rchF T cs H m j
      · have hmv : Hid (matE T j cs H = false) := by show _ = _; unfold matE; rw [if_pos h0, hml, Int.toNat_natCast, hr]
        have hwe : Hid (wayE T j cs H = 6) := by show _ = _; unfold wayE; rw [if_pos h0, hml, Int.toNat_natCast, if_neg (by rw [hr]; decide)]
        obtain ⟨WL, hWL⟩ : ∃ X : List Int, X = [] := ⟨_, rfl⟩
        have hwl : Hid (wayL T j cs H = WL) := by show _ = _; unfold wayL; rw [if_neg (by rw [hwe.out]; decide), hWL]
        have hwn : Hid (WL.length = 0) := by show _ = _; rw [hWL]; rfl
        cases hbj : bx (rowB H m) j
        · clear hg ht h0 hr hWL hhc hhr hir
          have hbj' := hide hbj
          clear hbj
          go_enter Try.func8, Try.ntmps8
          go_wp2_with fail
          refine (alive21_ok _).mono ?_
          rintro e w1 ⟨rfl, hb1⟩
          have hbox1 := cell_later hb1 hbox0
          have hB1 := Below.on hB0 hb1
          go_wp2_with fail
          have hx := great21_ok _ _ _ _ c _ d _ e T cs H _ (hT.out.below hB1) (hcs'.out.below hB1) (hH'.out.below hB1)
          rw [hs'.out] at hx
          refine hx.mono ?_
          clear hx
          rintro e1 w2 ⟨rfl, hb2⟩
          have hB2 := Below.on hB1 hb2
          have hbox2 := cell_later hb2 hbox1
          clear hb2 hbox1
          go_wp2_with fail
          have hx := rcask_ok _ _ _ _ c _ d _ e T j cs H _ (hT.out.below hB2) (hcs'.out.below hB2) (hH'.out.below hB2)
          rw [h0'.out] at hx
          refine hx.mono ?_
          clear hx
          rintro e1 w3 ⟨rfl, hb3⟩
          have hB3 := Below.on hB2 hb3
          have hbox3 := cell_later hb3 hbox2
          clear hb3 hbox2
          go_wp2_with fail
          refine (cmatch_at T j cs H _ 0 h0'.out hmv.out _ _ _ _ c _ d _ e _ (hT.out.below hB3) (hcs'.out.below hB3) (hH'.out.below hB3)).mono ?_
          rintro e1 w4 ⟨rfl, hb4⟩
          have hB4 := Below.on hB3 hb4
          have hbox4 := cell_later hb4 hbox3
          clear hb4 hbox3
          go_wp2_with fail
          refine (cways_at T j cs H WL _ hwe.out hwl.out _ _ _ _ c _ d _ e _ (hT.out.below hB4) (hcs'.out.below hB4) (hH'.out.below hB4)).mono ?_
          rintro e1 w5 ⟨A5, c5, rfl, hI5, h51, h52, hb5⟩
          rw [hwn.out] at hI5 ⊢
          have hB5 := Below.on hB4 hb5
          have hbox5 := cell_later hb5 hbox4
          have hI5' := hide hI5
          clear hb5 hbox4 hI5
          have gh := (old hB5 _ _ hbh).trans (hhc'.out m (by omega))
          have hIr := (hhr'.out m (by omega)).1.below hB5
          have hlr := hr5.out m (by omega)
          generalize hA m = RA at gh hIr
          generalize hC m = RC at gh
          rw [hlr, hl] at gh hIr
          obtain ⟨-, -, hro⟩ := hIr
          obtain ⟨br, orr, rfl, hbr, hcr⟩ := hro (by omega)
          have gr := hcr j hjn
          clear hro hcr hlr
          rw [hbj'.out] at gr
          go_wp2
          go_ret
          exact ⟨rfl, hB5⟩
        · cases m with
          | zero => rw [show rchF T cs H 0 j = bx (rowB H 0) j from rfl, hbj] at hr; cases hr
          | succ m1 =>
            have hnw : Hid (∀ p : Nat, (p : Int) ∈ prtF T j (ix cs m1) → rchF T cs H m1 p = false) := fun p hp => no_way hr hbj hp
            obtain ⟨XB, hXB⟩ : ∃ X, rchL T cs H m1 = X := ⟨_, rfl⟩
            have h0B : cchk T (cs.take m1) (H.take (m1 + 1)) = 0 := cchk_zero.2 ⟨hg, told_take ht (by omega)⟩
            have hlB : Hid (allE T (cs.take m1) (H.take (m1 + 1)) = XB) := by show _ = _; unfold allE; rw [if_pos h0B, take_all _ _ _ (by omega), hXB]
            have hnB : Hid (XB.length = n) := by show _ = _; rw [← hXB, rchL_len, hl]
            have hbB : Hid (∀ p, p < n → bx XB p = rchF T cs H m1 p) := fun p hp => by rw [← hXB]; exact rchL_bx _ _ _ _ (by omega)
            have hc0B := hide h0B
            have hbj' := hide hbj
            clear hg ht h0 hr hWL hhc hhr hir hbj hXB h0B
            go_enter Try.func8, Try.ntmps8
            go_wp2_with fail
            refine (alive21_ok _).mono ?_
            rintro e w1 ⟨rfl, hb1⟩
            have hbox1 := cell_later hb1 hbox0
            have hB1 := Below.on hB0 hb1
            go_wp2_with fail
            have hx := great21_ok _ _ _ _ c _ d _ e T cs H _ (hT.out.below hB1) (hcs'.out.below hB1) (hH'.out.below hB1)
            rw [hs'.out] at hx
            refine hx.mono ?_
            clear hx
            rintro e1 w2 ⟨rfl, hb2⟩
            have hB2 := Below.on hB1 hb2
            have hbox2 := cell_later hb2 hbox1
            clear hb2 hbox1
            go_wp2_with fail
            have hx := rcask_ok _ _ _ _ c _ d _ e T j cs H _ (hT.out.below hB2) (hcs'.out.below hB2) (hH'.out.below hB2)
            rw [h0'.out] at hx
            refine hx.mono ?_
            clear hx
            rintro e1 w3 ⟨rfl, hb3⟩
            have hB3 := Below.on hB2 hb3
            have hbox3 := cell_later hb3 hbox2
            clear hb3 hbox2
            go_wp2_with fail
            refine (cmatch_at T j cs H _ 0 h0'.out hmv.out _ _ _ _ c _ d _ e _ (hT.out.below hB3) (hcs'.out.below hB3) (hH'.out.below hB3)).mono ?_
            rintro e1 w4 ⟨rfl, hb4⟩
            have hB4 := Below.on hB3 hb4
            have hbox4 := cell_later hb4 hbox3
            clear hb4 hbox3
            go_wp2_with fail
            refine (cways_at T j cs H WL _ hwe.out hwl.out _ _ _ _ c _ d _ e _ (hT.out.below hB4) (hcs'.out.below hB4) (hH'.out.below hB4)).mono ?_
            rintro e1 w5 ⟨A5, c5, rfl, hI5, h51, h52, hb5⟩
            rw [hwn.out] at hI5 ⊢
            have hB5 := Below.on hB4 hb5
            have hbox5 := cell_later hb5 hbox4
            have hI5' := hide hI5
            clear hb5 hbox4 hI5
            have gh := (old hB5 _ _ hbh).trans (hhc'.out (m1 + 1) (by omega))
            have hIr := (hhr'.out (m1 + 1) (by omega)).1.below hB5
            have hlr := hr5.out (m1 + 1) (by omega)
            generalize hA (m1 + 1) = RA at gh hIr
            generalize hC (m1 + 1) = RC at gh
            rw [hlr, hl] at gh hIr
            obtain ⟨-, -, hro⟩ := hIr
            obtain ⟨br, orr, rfl, hbr, hcr⟩ := hro (by omega)
            have gr := hcr j hjn
            clear hro hcr hlr
            rw [hbj'.out] at gr
            have hk6 := hide (call_at T (cs.take m1) (H.take (m1 + 1)) XB 0 hc0B.out hlB.out A B (some ⟨bh, oh, none⟩) n c m1 d (m1 + 1) e w5.drew (hT.out.below (show Below w.heap.size w w5.drew from hB5.drew)) ((hcs'.out.take (by omega)).below (show Below w.heap.size w w5.drew from hB5.drew)) ((hH'.out.take (by omega)).below (show Below w.heap.size w w5.drew from hB5.drew)))
            have q1 : IntKind.i64.wrap ((m1 : Int) + 1 + 1 - 2) = (m1 : Int) := by rw [show (m1 : Int) + 1 + 1 - 2 = m1 by omega]; exact IntWalk.i64_in _ (by omega)
            have q2 : IntKind.i64.wrap ((m1 : Int) + 1) = (m1 : Int) + 1 := IntWalk.i64_in _ (by omega)
            have q3 : (0 : Int) ≤ (m1 : Int) := by omega
            have q4 : (m1 : Int) ≤ (d : Int) := by omega
            have q5 : (0 : Int) ≤ (m1 : Int) + 1 := by omega
            have q6 : (m1 : Int) + 1 ≤ (e : Int) := by omega
            have q7 : ((m1 : Int) + 1).toNat = m1 + 1 := by omega
            have q8 : (((m1 : Int) + 1 + 1) == 1) = false := by simp; omega
            go_wp2
            go_region_held3 (fun X => X.cell? ⟨w.heap.size, 0, none⟩ = some (.slice A n c)) (first | exact hbox5 | exact r0) (first | (go_at_call 19; (with_reducible refine hk6.out.mono ?_); rintro e6 w6 ⟨A6, c6, rfl, hI6, h61, h62, hb6⟩; have r0 := cell_later hb6 hbox5))
            rw [hnB.out] at hI6 ⊢
            have hB6 := Below.on (w1 := w5.drew) hB5.drew hb6
            have hI6' := hide hI6
            have hbox6 := r0
            clear hI6 hb6 r0 hk6 gr gh hbox5
            go_wp2
            go_loopw [18] (fun s wr => ∃ x : Nat, x ≤ n ∧ s = .int .i64 x ∧ Below w6.heap.size w6 wr) (fun s _ => n - (intOf s).toNat)
            case atStart => exact ⟨0, Nat.zero_le _, rfl, Below.refl _ _⟩
            case round =>
              obtain ⟨x, hx, rfl, hb⟩ := hrel
              have hBw := Below.on hB6 hb
              have hbox := cell_later hb hbox6
              by_cases hlx : x < n
              · obtain ⟨b6, o6, rfl, hb6l, hc6⟩ := hI6'.out.2.2 (by omega)
                have gx := (old hb _ _ hb6l).trans (hc6 x hlx)
                rw [hbB.out x hlx] at gx
                have x0 : (0 : Int) ≤ (x : Int) := by omega
                have x1 : (x : Int) < (n : Int) := by omega
                clear hc6
                cases hrx : rchF T cs H m1 x
                · rw [hrx] at gx
                  clear hrx
                  go_wp2
                  go_quiet (fail)
                  go_wp2
                  go_roundw
                  case rel => exact ⟨x + 1, by omega, by go_num, below_drewN hb _⟩
                  case measure => simp [intOf]; omega
                · have hnp : ¬ (x : Int) ∈ prtF T j (ix cs m1) := fun hm => by rw [hnw.out x hm] at hrx; cases hrx
                  rw [hrx] at gx
                  obtain ⟨bc, oc, rfl, hbc, hcc⟩ := hcs'.out.2.2.2 (by omega)
                  have gc := (old hBw _ _ hbc).trans (hcc m1 (by omega))
                  have hcy := hc4.out m1 (by omega)
                  have hpk := hide (partner_ok A n c T x j (ix cs m1) wr.drew (hT.out.below (show Below w.heap.size w wr.drew from hBw.drew)) hg'.out hlx hjn hcy.1 hcy.2)
                  rw [decide_eq_false hnp] at hpk
                  generalize ix cs m1 = cy at gc hpk
                  have y1 : (m1 : Int) < (m1 : Int) + 1 := by omega
                  clear hrx hnp hcc hcy
                  go_wp2
                  go_region_held3 (fun X => X.cell? ⟨w.heap.size, 0, none⟩ = some (.slice A n c) ∧ X.cell? ⟨b6, o6 + x, none⟩ = some (.bool true) ∧ X.cell? ⟨bc, oc + m1, none⟩ = some (.int .u8 cy)) (first | exact ⟨hbox, gx, gc⟩ | exact ⟨r0, r1, r2⟩) (first | (go_at_call 31; (with_reducible refine hpk.out.mono ?_); rintro e9 w9 ⟨rfl, hb9⟩; have r0 := cell_later hb9 hbox; have r1 := cell_later hb9 gx; have r2 := cell_later hb9 gc))
                  have hB9 := hide (Below.on (w1 := wr.drew) hb.drew hb9)
                  clear r0 r1 r2 hb9
                  go_wp2
                  go_roundw
                  case rel => exact ⟨x + 1, by omega, by go_num, hB9.out⟩
                  case measure => simp [intOf]; omega
              · go_wp2
                go_ret
                exact ⟨rfl, hBw⟩
      · have hmv : Hid (matE T j cs H = true) := by show _ = _; unfold matE; rw [if_pos h0, hml, Int.toNat_natCast, hr]
        have hwe : Hid (wayE T j cs H = 0) := by show _ = _; unfold wayE; rw [if_pos h0, hml, Int.toNat_natCast, if_pos hr]
        obtain ⟨WL, hWL⟩ : ∃ X, wayF T cs H m j = X := ⟨_, rfl⟩
        have hwl : Hid (wayL T j cs H = WL) := by show _ = _; unfold wayL; rw [if_pos hwe.out, hml, Int.toNat_natCast, hWL]
        have hwn : Hid (WL.length = m + 1) := by show _ = _; rw [← hWL, wayF_len]
        have hsp : Hid (∀ k, k ≤ m → ∃ p : Nat, ix WL k = p ∧ p < T.length ∧ bx (rowB H k) p = true ∧ (0 < k → ∃ p' : Nat, ix WL (k - 1) = p' ∧ p' < T.length ∧ (p' : Int) ∈ prtF T p (ix cs (k - 1)))) := by
          show ∀ k, _
          rw [← hWL]
          exact way_spec hg m j hjl hr
        have hla : Hid (ix WL m = j) := by show _ = _; rw [← hWL]; exact way_last T cs H m j
        clear hg ht h0 hr hWL hhc hhr hir
        go_enter Try.func8, Try.ntmps8
        go_wp2_with fail
        refine (alive21_ok _).mono ?_
        rintro e w1 ⟨rfl, hb1⟩
        have hbox1 := cell_later hb1 hbox0
        have hB1 := Below.on hB0 hb1
        go_wp2_with fail
        have hx := great21_ok _ _ _ _ c _ d _ e T cs H _ (hT.out.below hB1) (hcs'.out.below hB1) (hH'.out.below hB1)
        rw [hs'.out] at hx
        refine hx.mono ?_
        clear hx
        rintro e1 w2 ⟨rfl, hb2⟩
        have hB2 := Below.on hB1 hb2
        have hbox2 := cell_later hb2 hbox1
        clear hb2 hbox1
        go_wp2_with fail
        have hx := rcask_ok _ _ _ _ c _ d _ e T j cs H _ (hT.out.below hB2) (hcs'.out.below hB2) (hH'.out.below hB2)
        rw [h0'.out] at hx
        refine hx.mono ?_
        clear hx
        rintro e1 w3 ⟨rfl, hb3⟩
        have hB3 := Below.on hB2 hb3
        have hbox3 := cell_later hb3 hbox2
        clear hb3 hbox2
        go_wp2_with fail
        refine (cmatch_at T j cs H _ 0 h0'.out hmv.out _ _ _ _ c _ d _ e _ (hT.out.below hB3) (hcs'.out.below hB3) (hH'.out.below hB3)).mono ?_
        rintro e1 w4 ⟨rfl, hb4⟩
        have hB4 := Below.on hB3 hb4
        have hbox4 := cell_later hb4 hbox3
        clear hb4 hbox3
        go_wp2_with fail
        refine (cways_at T j cs H WL _ hwe.out hwl.out _ _ _ _ c _ d _ e _ (hT.out.below hB4) (hcs'.out.below hB4) (hH'.out.below hB4)).mono ?_
        rintro e1 w5 ⟨A5, c5, rfl, hI5, h51, h52, hb5⟩
        rw [hwn.out] at hI5 ⊢
        have hB5 := Below.on hB4 hb5
        have hbox5 := cell_later hb5 hbox4
        have hI5' := hide hI5
        clear hb5 hbox4 hI5
        obtain ⟨bw, ow, rfl, hbw, hcw⟩ := hI5'.out.2.2 (by omega)
        have gl := hcw m (by omega)
        rw [hla.out] at gl
        have hcw' := hide hcw
        clear hcw
        go_wp2
        clear gl
        go_loopw [14] (fun s wr => ∃ x : Nat, x ≤ m + 1 ∧ s = .int .i64 x ∧ Below w5.heap.size w5 wr) (fun s _ => m + 1 - (intOf s).toNat)
        case atStart => exact ⟨0, Nat.zero_le _, rfl, Below.refl _ _⟩
        case round =>
          obtain ⟨x, hx, rfl, hb⟩ := hrel
          have hBw := Below.on hB5 hb
          have hbox := cell_later hb hbox5
          by_cases hlx : x < m + 1
          · obtain ⟨p, hp1, hp2, hp3, hp4⟩ := hsp.out x (by omega)
            have gw := (old hb _ _ hbw).trans (hcw'.out x (by omega))
            have gh := (old hBw _ _ hbh).trans (hhc'.out x hlx)
            have hIr := (hhr'.out x hlx).1.below hBw
            have hlr := hr5.out x (by omega)
            generalize hA x = RA at gh hIr
            generalize hC x = RC at gh
            rw [hlr, hl] at gh hIr
            obtain ⟨-, -, hro⟩ := hIr
            obtain ⟨br, orr, rfl, hbr, hcr⟩ := hro (by omega)
            have gr := hcr p (by omega)
            rw [hp3] at gr
            rw [hp1] at gw
            have hpn : p < n := by omega
            have z0 : decide ((p : Int) < 0) = false := decide_eq_false (by omega)
            have z1 : decide ((n : Int) ≤ (p : Int)) = false := decide_eq_false (by omega)
            have z2 : decide (n ≤ p) = false := decide_eq_false (by omega)
            have x0 : (0 : Int) ≤ (x : Int) := by omega
            have x1 : (x : Int) < (m : Int) + 1 := by omega
            have p0 : (0 : Int) ≤ (p : Int) := by omega
            have p1 : (p : Int) < (n : Int) := by omega
            clear hcr hro hlr hp3 hp1
            rcases Nat.eq_zero_or_pos x with rfl | hx0
            · simp only [Nat.add_zero] at gw gh
              rw [show ((0 : Nat) : Int) = 0 from rfl]
              clear hp4
              go_wp2
              go_quiet (fail)
              go_wp2
              go_roundw
              case rel => exact ⟨0 + 1, by omega, by go_num, below_drewN hb _⟩
              case measure => simp [intOf]
            · obtain ⟨y, rfl⟩ : ∃ y, x = y + 1 := ⟨x - 1, by omega⟩
              obtain ⟨p', hq1, hq2, hq3⟩ := hp4 hx0
              rw [Nat.add_sub_cancel] at hq1 hq3
              have gw2 := (old hb _ _ hbw).trans (hcw'.out y (by omega))
              rw [hq1] at gw2
              obtain ⟨bc, oc, rfl, hbc, hcc⟩ := hcs'.out.2.2.2 (by omega)
              have gc := (old hBw _ _ hbc).trans (hcc y (by omega))
              have hcy := hc4.out y (by omega)
              have hpk := hide (partner_ok A n c T p' p (ix cs y) wr.drew (hT.out.below (show Below w.heap.size w wr.drew from hBw.drew)) hg'.out (by omega) hpn hcy.1 hcy.2)
              rw [decide_eq_true hq3] at hpk
              generalize ix cs y = cy at gc hpk
              have w1 : IntKind.i64.wrap (y : Int) = (y : Int) := IntWalk.i64_in _ (by omega)
              have y0 : (0 : Int) ≤ (y : Int) := by omega
              have y1 : (y : Int) < (m : Int) := by omega
              have y2 : (y : Int) < (m : Int) + 1 := by omega
              have y4 : (0 : Int) ≤ (y : Int) + 1 := by omega
              have y5 : (y : Int) + 1 < (m : Int) + 1 := by omega
              have y6 : ((y : Int) + 1).toNat = y + 1 := by omega
              have y3 : decide ((0 : Int) < (y : Int) + 1) = true := decide_eq_true (by omega)
              clear hcc hp4 hq1 hq3 hx0 hcy
              go_wp2
              go_region_held3 (fun X => X.cell? ⟨w.heap.size, 0, none⟩ = some (.slice A n c) ∧ X.cell? ⟨bw, ow + (y + 1), none⟩ = some (.int .i64 p) ∧ X.cell? ⟨bw, ow + y, none⟩ = some (.int .i64 p') ∧ X.cell? ⟨bh, oh + (y + 1), none⟩ = some (.slice (some ⟨br, orr, none⟩) n RC) ∧ X.cell? ⟨br, orr + p, none⟩ = some (.bool true) ∧ X.cell? ⟨bc, oc + y, none⟩ = some (.int .u8 cy)) (first | exact ⟨hbox, gw, gw2, gh, gr, gc⟩ | exact ⟨r0, r1, r2, r3, r4, r5⟩) (first | (go_at_call 31; (with_reducible refine hpk.out.mono ?_); rintro e9 w9 ⟨rfl, hb9⟩; have r0 := cell_later hb9 hbox; have r1 := cell_later hb9 gw; have r2 := cell_later hb9 gw2; have r3 := cell_later hb9 gh; have r4 := cell_later hb9 gr; have r5 := cell_later hb9 gc))
              have hB9 := hide (Below.on (w1 := wr.drew) hb.drew hb9)
              clear r0 r1 r2 r3 r4 r5 hb9
              go_wp2
              go_roundw
              case rel => exact ⟨y + 1 + 1, by omega, by go_num, hB9.out⟩
              case measure => simp [intOf]; omega
          · go_wp2
            go_ret
            exact ⟨rfl, hBw⟩
    · have h0' : (cask T i cs H != 0) = true := by simp [h0]
      clear h0
      go_enter Try.func8, Try.ntmps8
      go_wp2_with fail
      refine (alive21_ok _).mono ?_
      rintro e w1 ⟨rfl, hb1⟩
      have hbox1 := cell_later hb1 hbox0
      have hB1 := Below.on hB0 hb1
      go_wp2_with fail
      have hx := great21_ok _ _ _ _ c _ d _ e T cs H _ (hT.out.below hB1) (hcs'.out.below hB1) (hH'.out.below hB1)
      rw [hs'.out] at hx
      refine hx.mono ?_
      clear hx
      rintro e1 w2 ⟨rfl, hb2⟩
      have hB2 := Below.on hB1 hb2
      have hbox2 := cell_later hb2 hbox1
      clear hb2 hbox1
      go_wp2_with fail
      refine (rcask_ok _ _ _ _ _ _ _ _ _ T _ cs H _ (hT.out.below hB2) (hcs'.out.below hB2) (hH'.out.below hB2)).mono ?_
      rintro e w3 ⟨rfl, hb3⟩
      have hbox3 := cell_later hb3 hbox2
      have hB3 := Below.on hB2 hb3
      go_wp2
      go_ret
      exact ⟨rfl, hB3⟩

set_option maxRecDepth 100000 in
theorem lifted (os : Os) (started : os.Started) (H : Type) (enc : TypeId × Value → H) :
    ReturnsInHanded {} Try.checked os 8 .any (Rows.combWaysSpec.pre6 enc Try.prog Try.f8 Rows.combWaysRow.domain false) (Rows.combWaysSpec.post enc Try.prog Try.f8 false true false false) := by
  refine returnsInHanded_of_change (C := Try.checked) own started (by kernel_rfl) Try.func8
    (ChangeSpec.witness6 (enc := enc) (C := Try.checked) false ⟨#[], #[.agg #[.slice none 0 0], .int .i64 0, .slice none 0 0, .slice none 0 0], []⟩ 8 (by kernel_rfl) (by kernel_rfl) (by kernel_rfl) (by kernel_rfl)) ?_
  intro W base args ds gs before hval0 hW hcnd _
  have hval : ∀ (j : Nat) t v, Try.f8.params[j]? = some t → args[j]? = some v → Value.okWide Try.prog W .any base t v := hval0
  have hW' := hW
  obtain ⟨p, q, hA0, hV, rfl, hfz, hnd⟩ := hW
  have hA : DataW.TrodAll enc Try.prog W 0 (fun _ => true) true Try.f8.params.toList args.toList ds p := hA0
  rw [Try.params8] at hA hval
  obtain ⟨v0, vs0, d0, ds0, p0, q0, hargs, rfl, rfl, h0, r0⟩ := trodAll_cons hA
  obtain ⟨v1, vs1, d1, ds1, p1, q1, rfl, rfl, rfl, h1, r1⟩ := trodAll_cons r0
  obtain ⟨v2, vs2, d2, ds2, p2, q2, rfl, rfl, rfl, h2, r2⟩ := trodAll_cons r1
  obtain ⟨v3, vs3, d3, ds3, p3, q3, rfl, rfl, rfl, h3, r3⟩ := trodAll_cons r2
  obtain ⟨rfl, rfl, rfl⟩ := trodAll_nil r3
  obtain rfl : args = #[v0, v1, v2, v3] := by cases args; simp_all
  obtain ⟨rfl, rfl⟩ := trodVars_none hV
  have lt0 : ∀ x ∈ p0, x.block < W.heap.size := by obtain ⟨m, hm⟩ := h0; exact DataW.trod_lt m _ _ _ hm
  have k0 := h0
  have lt1 : ∀ x ∈ p1, x.block < W.heap.size := by obtain ⟨m, hm⟩ := h1; exact DataW.trod_lt m _ _ _ hm
  have k1 := h1
  have lt2 : ∀ x ∈ p2, x.block < W.heap.size := by obtain ⟨m, hm⟩ := h2; exact DataW.trod_lt m _ _ _ hm
  have k2 := h2
  have lt3 : ∀ x ∈ p3, x.block < W.heap.size := by obtain ⟨m, hm⟩ := h3; exact DataW.trod_lt m _ _ _ hm
  have k3 := h3
  obtain ⟨A0, n0, c0, T0, rfl, hT0⟩ := tree_open (hval 0 _ v0 rfl rfl) h0
  obtain ⟨a1, rfl, rfl, rfl, w1⟩ := open_int Try.underlying3 (hval 1 _ v1 rfl rfl) h1
  obtain ⟨A2, n2, c2, xs2, rfl, hk2, hU2⟩ := u8s_param2 (hval 2 _ v2 rfl rfl) h2
  obtain ⟨A3, n3, c3, xs3, rfl, hk3, hM3⟩ := bbs_param2 (hval 3 _ v3 rfl rfl) h3
  clear hA0 hval0
  refine (walk A0 n0 c0 T0 a1 A2 n2 c2 xs2 A3 n3 c3 xs3 W hT0  hk2 hU2 hk3 hM3).mono fun e W' ⟨he, bel⟩ => ?_
  subst he
  exact ⟨_, rfl, _, _, _, [], _, [], hW', trodAll_mk1 (shut_bool Try.underlying4 _), (trodAll_cons_mk (Below.trod laidOut (by kernel_rfl) (of_decide_eq_true (by kernel_rfl)) k0 bel lt0) (trodAll_cons_mk (Below.trod laidOut (by kernel_rfl) (of_decide_eq_true (by kernel_rfl)) k1 bel lt1) (trodAll_cons_mk (Below.trod laidOut (by kernel_rfl) (of_decide_eq_true (by kernel_rfl)) k2 bel lt2) (trodAll_cons_mk (Below.trod laidOut (by kernel_rfl) (of_decide_eq_true (by kernel_rfl)) k3 bel lt3) trodAll_mk0)))), rfl, bel.frame _, fun h => by cases h⟩

theorem proved : Rows.CombWaysSaid :=
  OpenClaim.holds_of_wide 8 Try.f8 rfl rfl rfl rfl rfl rfl rfl ⟨rfl, rfl, rfl, rfl, rfl⟩ rfl rfl rfl rfl rfl (by kernel_rfl) Try.func8 (by kernel_rfl)
    (of_decide_eq_true (by kernel_rfl)) (by unfold Func.isWrapper; first | (rw [if_pos (by decide +kernel)]; kernel_rfl) | (rw [if_neg (by decide +kernel)]; exact ⟨rfl, rfl⟩))
    (fun os started H enc _ => lifted os started H enc)
#print axioms proved
end Go.Proofs.Ytaliekkdamghbaa.combWays
