/- For every tree and what is told: compounds can be matched in two parts, what the first ones match told as one compound; unless the data are greater than the statement considers. No condition. -/
import Derived.Test.YtaliekkdamghbaaDf
import Derived.Test.YtaliekkdamghbaaDb
import Derived.Test.YtaliekkdamghbaaDa
import Derived.Test.YtaliekkdamghbaaCt
import Derived.Test.YtaliekkdamghbaaOpen
import Derived.Deep.RegionHeld3
namespace Go.Proofs.Ytaliekkdamghbaa.combParts
open Go.ChangeShapes Go.WideShapes Go.ChangeAt Go.RowKit

theorem far_alloc' {w : World} {a : Addr} {u : Value} (h : w.cell? a = some u) (o : Obj) : (w.alloc o).cell? a = some u := cell_later (below_alloc (Below.refl _ _) _) h

set_option maxRecDepth 100000 in
set_option maxHeartbeats 4000000 in
theorem walk (A : Option Addr) (n c : Nat) (T : List ANode) (B : Option Addr) (m d : Nat) (cs : List Int) (C : Option Addr) (K e : Nat) (H : List (List Bool)) (k : Int) (w : World) (h : IsTree w A n T) (hd : m ≤ d ∧ d ≤ 9223372036854775807) (hcs : IsU8 w B m cs) (he : K ≤ e ∧ e ≤ 9223372036854775807) (hH : IsBB w C K H) :
    Calls Try.prog 4 #[.agg #[.slice A n c], .slice B m d, .slice C K e, .int .i64 k] w fun e w' => e = .returned (.bool true) ∧ Below w.heap.size w w' := by
  have hml := hcs.1
  have hkl := hH.1
  have hk63 := hH.2.1
  obtain ⟨hd1, hd2⟩ := hd
  obtain ⟨he1, he2⟩ := he
  have hcs' := hide hcs
  have hH' := hide hH
  clear hcs hH
  have hT := hide h
  have hl := h.1
  clear h
  have hB0 := below_alloc (Below.refl w.heap.size w) (.cells #[.slice A n c] 24)
  have hbox0 : (w.alloc (.cells #[.slice A n c] 24)).cell? ⟨w.heap.size, 0, none⟩ = some (.slice A n c) := by go_simp
  cases hs : small21 T cs H
  · have hs' := hide hs
    clear hs
    go_enter Try.func4, Try.ntmps4
    go_wp2_with fail
    refine (alive21_ok _).mono ?_
    rintro e w1 ⟨rfl, hb1⟩
    have hbox1 := cell_later hb1 hbox0
    have hB1 := Below.on hB0 hb1
    go_wp2_with fail
    have hx := great21_ok _ _ _ _ c _ d _ e T cs H _ (hT.out.below hB1) (hcs'.out.below hB1) (hH'.out.below hB1)
    rw [hs'.out] at hx
    refine hx.mono ?_
    clear hx
    rintro e1 w2 ⟨rfl, hb2⟩
    have hB2 := Below.on hB1 hb2
    have hbox2 := cell_later hb2 hbox1
    clear hb2 hbox1
    go_wp2
    go_ret
    exact ⟨rfl, hB2⟩
  · have hs' := hide hs
    clear hs
    by_cases h0 : cchk T cs H = 0
    · obtain ⟨hg, ht⟩ := cchk_zero.1 h0
      obtain ⟨ht1, ht2⟩ := told_len ht
      obtain rfl : K = m + 1 := by omega
      by_cases hk0 : 0 ≤ k ∧ k < (m : Int) + 1
      · obtain ⟨hk1, hk2⟩ := hk0
        obtain ⟨kk, rfl⟩ := Int.eq_ofNat_of_zero_le hk1
        have hkm : kk ≤ m := by omega
        have hkc : kk ≤ cs.length := by omega
        have hn64 : n ≤ 64 := by have := ((goodB_iff T).1 hg).2.1; omega
        obtain ⟨bh, oh, hA, hC, rfl, hbh, hhc, hhr⟩ := hH'.out.2.2 (by omega)
        have hhc' := hide hhc
        have hhr' := hide hhr
        have h0F : cchk T (cs.take kk) (H.take (kk + 1)) = 0 := cchk_zero.2 ⟨hg, told_take ht hkc⟩
        have h0R : cchk T (cs.drop kk) (restH T cs H kk) = 0 := cchk_zero.2 ⟨hg, told_rest ht hkc⟩
        have h0L : cchk T [] (H.drop m) = 0 := cchk_zero.2 ⟨hg, by rw [← hml]; exact told_last ht⟩
        obtain ⟨XA, hXA⟩ : ∃ X, rchL T cs H m = X := ⟨_, rfl⟩
        obtain ⟨XF, hXF⟩ : ∃ X, rchL T cs H kk = X := ⟨_, rfl⟩
        obtain ⟨XL, hXL⟩ : ∃ X, rowB H m = X := ⟨_, rfl⟩
        have hlA : Hid (allE T cs H = XA) := by show _ = _; unfold allE; rw [if_pos h0, hml, hXA]
        have hlF : Hid (allE T (cs.take kk) (H.take (kk + 1)) = XF) := by show _ = _; unfold allE; rw [if_pos h0F, take_all _ _ _ hkc, hXF]
        have hlR : Hid (allE T (cs.drop kk) (restH T cs H kk) = XA) := by show _ = _; unfold allE; rw [if_pos h0R, rest_all hg _ _ hkc, hml, hXA]
        have hlL : Hid (allE T [] (H.drop m) = XL) := by
          show _ = _
          unfold allE
          have := last_all ht
          rw [hml] at this
          rw [if_pos h0L, ← hXL]
          exact this
        have hnA : Hid (XA.length = n) := by show _ = _; rw [← hXA, rchL_len, hl]
        have hnF : Hid (XF.length = n) := by show _ = _; rw [← hXF, rchL_len, hl]
        have hnL : Hid (XL.length = n) := by show _ = _; rw [← hXL, ((toldB_iff _ _ _).1 ht).2.2.2.2 m (by omega), hl]
        have hAL : Hid (∀ x, x < n → bx XA x = true → bx XL x = true) := fun x hx hv => by rw [← hXL]; exact all_last (T := T) (cs := cs) (m := m) (by omega) (by rw [hXA]; exact hv)
        have hrow5 := hide ((toldB_iff _ _ _).1 ht).2.2.2.2
        have hc0A := hide h0
        have hc0F := hide h0F
        have hc0R := hide h0R
        have hc0L := hide h0L
        have hXL' := hide hXL
        have hrest : Hid (XF :: H.drop (kk + 1) = restH T cs H kk) := by show _ = _; rw [← hXF]; rfl
        clear h0 h0F h0R h0L hXA hXF hXL hg ht hhc hhr
        have q1 : IntKind.i64.wrap ((kk : Int) + 1) = (kk : Int) + 1 := IntWalk.i64_in _ (by omega)
        have q2 : (0 : Int) ≤ (kk : Int) + 1 := by omega
        have q3 : ((kk : Int) + 1).toNat = kk + 1 := by omega
        have q4 : (kk : Int) + 1 ≤ (e : Int) := by omega
        have q5 : (0 : Int) ≤ (kk : Int) := by omega
        have q6 : (kk : Int) ≤ (d : Int) := by omega
        go_enter Try.func4, Try.ntmps4
        go_wp2_with fail
        refine (alive21_ok _).mono ?_
        rintro e w1 ⟨rfl, hb1⟩
        have hbox1 := cell_later hb1 hbox0
        have hB1 := Below.on hB0 hb1
        go_wp2_with fail
        have hx := great21_ok _ _ _ _ c _ d _ e T cs H _ (hT.out.below hB1) (hcs'.out.below hB1) (hH'.out.below hB1)
        rw [hs'.out] at hx
        refine hx.mono ?_
        clear hx
        rintro e1 w2 ⟨rfl, hb2⟩
        have hB2 := Below.on hB1 hb2
        have hbox2 := cell_later hb2 hbox1
        clear hb2 hbox1
        go_wp2_with fail
        have hx := rccheck_ok _ _ _ _ c _ d _ e T cs H _ (hT.out.below hB2) (hcs'.out.below hB2) (hH'.out.below hB2)
        rw [hc0A.out] at hx
        refine hx.mono ?_
        clear hx
        rintro e1 w3 ⟨rfl, hb3⟩
        have hB3 := Below.on hB2 hb3
        have hbox3 := cell_later hb3 hbox2
        clear hb3 hbox2
        go_wp2_with fail
        refine (call_at T cs H XA 0 hc0A.out hlA.out _ _ _ _ c _ d _ e _ (hT.out.below hB3) (hcs'.out.below hB3) (hH'.out.below hB3)).mono ?_
        rintro e4 w4 ⟨A4, c4, rfl, hI4, h41, h42, hb4⟩
        rw [hnA.out] at hI4 ⊢
        have hB4 := Below.on hB3 hb4
        have hbox4 := cell_later hb4 hbox3
        have hIA4 := hide hI4
        clear hI4 hb4 hbox3
        have hk5 := hide (call_at T (cs.take kk) (H.take (kk + 1)) XF 0 hc0F.out hlF.out A B (some ⟨bh, oh, none⟩) n c kk d (kk + 1) e w4.drew (hT.out.below (show Below w.heap.size w w4.drew from hB4.drew)) ((hcs'.out.take hkm).below (show Below w.heap.size w w4.drew from hB4.drew)) ((hH'.out.take (by omega)).below (show Below w.heap.size w w4.drew from hB4.drew)))
        go_wp2
        go_region_held3 (fun X => X.cell? ⟨w.heap.size, 0, none⟩ = some (.slice A n c)) (first | exact hbox4 | exact r0) (first | (go_at_call 19; (with_reducible refine hk5.out.mono ?_); rintro e5 w5 ⟨A5, c5, rfl, hI5, h51, h52, hb5⟩; have r0 := cell_later hb5 hbox4))
        rw [hnF.out] at hI5 ⊢
        have hz5 : Below w4.heap.size w4 w5 := Below.on (w1 := w4.drew) (Below.refl _ _).drew hb5
        have hB5 := Below.on hB4 hz5
        have hIA5 := hide (hIA4.out.below hz5)
        have hI5' := hide hI5
        have hc52 : c5 ≤ 9223372036854775807 := by unfold maxLen at h52; omega
        have h51' : n ≤ c5 := by have := hnF.out; omega
        have hbox5 := r0
        clear hI5 hk5 hb5 hz5 r0 hIA4 hbox4 hB3
        rcases Nat.lt_or_ge kk m with hlt | hge
        · obtain ⟨bc, oc, rfl, hbc, -⟩ := hcs'.out.2.2.2 (by omega)
          have hde : ¬ d = kk := by omega
          have hee : ¬ e = kk + 1 := by omega
          have q7 : (kk : Int) ≤ (m : Int) := by omega
          have q8 : (kk : Int) + 1 ≤ (m : Int) + 1 := by omega
          have hB5d : Below w.heap.size w w5.drew := hB5.drew
          obtain ⟨A6, c6, w6, hrun6, hI6, hb6⟩ := front_run w5.drew 26 A5 n c5 XF (hI5'.out.below (Below.refl w5.heap.size w5).drew) h51' hc52 ⟨bh, oh + (kk + 1), none⟩ (m - kk) (e - (kk + 1)) (H.drop (kk + 1)) (by omega) (by rw [List.length_drop]; omega) (fun j => hA (kk + 1 + j)) (fun j => hC (kk + 1 + j))
            (fun j hj => by
              rw [rowB_drop, show (⟨bh, oh + (kk + 1), none⟩ : Addr).add j = ⟨bh, oh + (kk + 1 + j), none⟩ by unfold Addr.add; split <;> simp_all <;> omega]
              exact (old hB5d _ _ hbh).trans (hhc'.out (kk + 1 + j) (by omega)))
            (fun j hj => by
              rw [rowB_drop]
              have := hhr'.out (kk + 1 + j) (by omega)
              exact ⟨this.1.below hB5d, this.2⟩)
          rw [hrest.out] at hI6
          have hrun6' : Hid ((Builtin.append_ #[26, 26] 26 #[.slice (some ⟨w5.heap.size, 0, none⟩) 1 1, .slice (some ⟨bh, oh + (kk + 1), none⟩) (m - kk) (e - (kk + 1))]).run Try.prog ((w5.alloc (.cells #[.slice A5 n c5] 31)).drew) = .ok (.slice A6 (1 + (m - kk)) c6) w6) := hrun6
          have hz6 : Below w5.heap.size w5 w6 := Below.on (w1 := w5.drew) (Below.refl _ _).drew hb6
          have hB6 := Below.on hB5 hz6
          have hbox6 := cell_later hz6 hbox5
          have hk7 := hide (call_at T (cs.drop kk) (restH T cs H kk) XA 0 hc0R.out hlR.out A (some ⟨bc, oc + kk, none⟩) A6 n c (m - kk) (d - kk) (1 + (m - kk)) c6 w6 (hT.out.below hB6) ((hcs'.out.drop hkm).below hB6) hI6)
          clear hI6 hrun6
          go_wp2
          go_region_held3 (fun X => X.cell? ⟨w.heap.size, 0, none⟩ = some (.slice A n c)) (first | exact hbox5 | exact hbox6 | exact r0 | exact far_alloc' hbox5 _) (first | (go_at_call 19; (with_reducible refine hk7.out.mono ?_); rintro e7 w7 ⟨A7, c7, rfl, hI7, h71, h72, hb7⟩; have r0 := cell_later hb7 hbox6) | (refine step_append_run rfl _ _ 26 26 rfl (.slice (some ⟨w5.heap.size, 0, none⟩) 1 1) (.slice (some ⟨bh, oh + (kk + 1), none⟩) (m - kk) (e - (kk + 1))) (by simp [Act.eval]) (by simp [Act.eval]) hrun6'.out ?_))
          rw [hnA.out] at hI7 ⊢
          have hB7 := Below.on hB6 hb7
          have hz7 := Below.on hz6 hb7
          have hbox7 := r0
          have hIA7 := hide (hIA5.out.below hz7)
          have hIR7 := hide hI7
          clear hI7 hk7 hb7 hz6 r0 hIA5 hbox5 hbox6 hB6 hrun6' hz7
          have hB7d : Below w.heap.size w w7.drew := hB7.drew
          have hHL : IsBB w (some ⟨bh, oh + m, none⟩) 1 (H.drop m) := by
            have := hH'.out.drop (k := m) (by omega)
            rwa [show m + 1 - m = 1 by omega] at this
          have hk8 := hide (call_at T [] (H.drop m) XL 0 hc0L.out hlL.out A none (some ⟨bh, oh + m, none⟩) n c 0 0 1 (e - m) w7.drew (hT.out.below hB7d) (isU8_nil _) (hHL.below hB7d))
          have p1 : IntKind.i64.wrap (m : Int) = (m : Int) := IntWalk.i64_in _ (by omega)
          have p2 : (0 : Int) ≤ (m : Int) := by omega
          have p3 : (m : Int) ≤ (m : Int) + 1 := by omega
          have hem : ¬ e = m := by omega
          clear hHL
          go_wp2
          go_region_held3 (fun X => X.cell? ⟨w.heap.size, 0, none⟩ = some (.slice A n c)) (first | exact hbox7 | exact r0) (first | (go_at_call 19; (with_reducible refine hk8.out.mono ?_); rintro e8 w8 ⟨A8, c8, rfl, hI8, h81, h82, hb8⟩; have r0 := cell_later hb8 hbox7))
          rw [hnL.out] at hI8 ⊢
          have hz8 : Below w7.heap.size w7 w8 := Below.on (w1 := w7.drew) (Below.refl _ _).drew hb8
          have hB8 := Below.on hB7 hz8
          have hIA8 := hide (hIA7.out.below hz8)
          have hIR8 := hide (hIR7.out.below hz8)
          have hIL8 := hide hI8
          have gm := (old hB8 _ _ hbh).trans (hhc'.out m (by omega))
          have hIm := (hhr'.out m (by omega)).1.below hB8
          generalize hA m = RAm at gm hIm
          generalize hC m = RCm at gm
          rw [hXL'.out, hnL.out] at gm hIm
          have hIm' := hide hIm
          have hbox8 := r0
          clear hI8 hk8 hb8 hz8 r0 hIA7 hIR7 hbox7 hB7 hB7d p1 hIm
          go_wp2_with fail
          refine (sameBools_yes _ _ _ _ _ _ XL _ hIL8.out hIm'.out).mono ?_
          rintro e9 w9 ⟨rfl, hb9⟩
          have hB9 := Below.on hB8 hb9
          have hIA9 := hide (hIA8.out.below hb9)
          have hIR9 := hide (hIR8.out.below hb9)
          have hIL9 := hide (hIL8.out.below hb9)
          clear hb9 hIA8 hIR8 hIL8 hB8 gm hIm' hbox8
          go_wp2
          go_loop [18] (fun s => ∃ x : Nat, x ≤ n ∧ s = .int .i64 x) (fun s => n - (intOf s).toNat)
          case atStart => exact ⟨0, Nat.zero_le _, rfl⟩
          case round =>
            obtain ⟨x, hx, rfl⟩ := hrel
            by_cases hlx : x < n
            · obtain ⟨ba, oa, rfl, hba, hca⟩ := hIA9.out.2.2 (by omega)
              obtain ⟨bb, ob, rfl, hbb, hcb⟩ := hIL9.out.2.2 (by omega)
              have ga := hca x hlx
              have gb := hcb x hlx
              have hab := hAL.out x hlx
              generalize bx XA x = va at ga hab
              generalize bx XL x = vb at gb hab
              clear hca hcb
              cases va
              · clear hab
                go_wp2
                go_round
                case rel => exact ⟨x + 1, by omega, by go_num⟩
                case measure => simp [intOf]; omega
              · have : vb = true := hab rfl
                subst this
                clear hab
                go_wp2
                go_round
                case rel => exact ⟨x + 1, by omega, by go_num⟩
                case measure => simp [intOf]; omega
            · go_wp2_with fail
              refine (sameBools_yes _ _ _ _ _ _ XA _ hIA9.out hIR9.out).mono ?_
              rintro e10 w10 ⟨rfl, hb10⟩
              go_wp2
              go_ret
              exact ⟨rfl, Below.on hB9 hb10⟩
        · obtain rfl : m = kk := by omega
          have q7 : (m : Int) + 1 ≤ (m : Int) + 1 := by omega
          have q8 : (m : Int) ≤ (m : Int) := by omega
          rcases (by omega : d = m ∨ ¬ d = m) with hde | hde
          all_goals
            by_cases hee : e = m + 1
            · subst hee
              have hB5d : Below w.heap.size w w5.drew := hB5.drew
              obtain ⟨A6, c6, w6, hrun6, hI6, hb6⟩ := front_run w5.drew 26 A5 n c5 XF (hI5'.out.below (Below.refl w5.heap.size w5).drew) h51' hc52 (⟨bh, oh, none⟩ : Addr) 0 0 (H.drop (m + 1)) (by omega) (by rw [List.length_drop]; omega) (fun j => none) (fun j => 0) (fun j hj => absurd hj (by omega)) (fun j hj => absurd hj (by omega))
              rw [hrest.out] at hI6
              have hrun6' : Hid ((Builtin.append_ #[26, 26] 26 #[.slice (some ⟨w5.heap.size, 0, none⟩) 1 1, .slice (some (⟨bh, oh, none⟩ : Addr)) 0 0]).run Try.prog ((w5.alloc (.cells #[.slice A5 n c5] 31)).drew) = .ok (.slice A6 1 c6) w6) := hrun6
              have hz6 : Below w5.heap.size w5 w6 := Below.on (w1 := w5.drew) (Below.refl _ _).drew hb6
              have hB6 := Below.on hB5 hz6
              have hbox6 := cell_later hz6 hbox5
              have hdr : cs.drop m = [] := List.drop_of_length_le (by omega)
              have hk7 := hide (fun (AB : Option Addr) (cB : Nat) => call_at T (cs.drop m) (restH T cs H m) XA 0 hc0R.out hlR.out A AB A6 n c 0 cB 1 c6 w6 (hT.out.below hB6) (by rw [hdr]; exact isU8_none _ _ rfl) hI6)
              clear hI6 hrun6 hdr
              go_wp2
              go_region_held3 (fun X => X.cell? ⟨w.heap.size, 0, none⟩ = some (.slice A n c)) (first | exact hbox5 | exact hbox6 | exact r0 | exact far_alloc' hbox5 _) (first | (go_at_call 19; (with_reducible refine (hk7.out _ _).mono ?_); rintro e7 w7 ⟨A7, c7, rfl, hI7, h71, h72, hb7⟩; have r0 := cell_later hb7 hbox6) | (refine step_append_run rfl _ _ 26 26 rfl (.slice (some ⟨w5.heap.size, 0, none⟩) 1 1) (.slice (some (⟨bh, oh, none⟩ : Addr)) 0 0) (by simp [Act.eval]) (by simp [Act.eval]) hrun6'.out ?_))
              rw [hnA.out] at hI7 ⊢
              have hB7 := Below.on hB6 hb7
              have hz7 := Below.on hz6 hb7
              have hbox7 := r0
              have hIA7 := hide (hIA5.out.below hz7)
              have hIR7 := hide hI7
              clear hI7 hk7 hb7 hz6 r0 hIA5 hbox5 hbox6 hB6 hrun6' hz7
              have hB7d : Below w.heap.size w w7.drew := hB7.drew
              have hHL : IsBB w (some ⟨bh, oh + m, none⟩) 1 (H.drop m) := by
                have := hH'.out.drop (k := m) (by omega)
                rwa [show m + 1 - m = 1 by omega] at this
              have hk8 := hide (call_at T [] (H.drop m) XL 0 hc0L.out hlL.out A none (some ⟨bh, oh + m, none⟩) n c 0 0 1 1 w7.drew (hT.out.below hB7d) (isU8_nil _) (hHL.below hB7d))
              have p1 : IntKind.i64.wrap (m : Int) = (m : Int) := IntWalk.i64_in _ (by omega)
              have p2 : (0 : Int) ≤ (m : Int) := by omega
              have p3 : (m : Int) ≤ (m : Int) + 1 := by omega
              have hem : ¬ (m + 1) = m := by omega
              clear hHL
              go_wp2
              go_region_held3 (fun X => X.cell? ⟨w.heap.size, 0, none⟩ = some (.slice A n c)) (first | exact hbox7 | exact r0) (first | (go_at_call 19; (with_reducible refine hk8.out.mono ?_); rintro e8 w8 ⟨A8, c8, rfl, hI8, h81, h82, hb8⟩; have r0 := cell_later hb8 hbox7))
              rw [hnL.out] at hI8 ⊢
              have hz8 : Below w7.heap.size w7 w8 := Below.on (w1 := w7.drew) (Below.refl _ _).drew hb8
              have hB8 := Below.on hB7 hz8
              have hIA8 := hide (hIA7.out.below hz8)
              have hIR8 := hide (hIR7.out.below hz8)
              have hIL8 := hide hI8
              have gm := (old hB8 _ _ hbh).trans (hhc'.out m (by omega))
              have hIm := (hhr'.out m (by omega)).1.below hB8
              generalize hA m = RAm at gm hIm
              generalize hC m = RCm at gm
              rw [hXL'.out, hnL.out] at gm hIm
              have hIm' := hide hIm
              have hbox8 := r0
              clear hI8 hk8 hb8 hz8 r0 hIA7 hIR7 hbox7 hB7 hB7d p1 hIm
              go_wp2_with fail
              refine (sameBools_yes _ _ _ _ _ _ XL _ hIL8.out hIm'.out).mono ?_
              rintro e9 w9 ⟨rfl, hb9⟩
              have hB9 := Below.on hB8 hb9
              have hIA9 := hide (hIA8.out.below hb9)
              have hIR9 := hide (hIR8.out.below hb9)
              have hIL9 := hide (hIL8.out.below hb9)
              clear hb9 hIA8 hIR8 hIL8 hB8 gm hIm' hbox8
              go_wp2
              go_loop [18] (fun s => ∃ x : Nat, x ≤ n ∧ s = .int .i64 x) (fun s => n - (intOf s).toNat)
              case atStart => exact ⟨0, Nat.zero_le _, rfl⟩
              case round =>
                obtain ⟨x, hx, rfl⟩ := hrel
                by_cases hlx : x < n
                · obtain ⟨ba, oa, rfl, hba, hca⟩ := hIA9.out.2.2 (by omega)
                  obtain ⟨bb, ob, rfl, hbb, hcb⟩ := hIL9.out.2.2 (by omega)
                  have ga := hca x hlx
                  have gb := hcb x hlx
                  have hab := hAL.out x hlx
                  generalize bx XA x = va at ga hab
                  generalize bx XL x = vb at gb hab
                  clear hca hcb
                  cases va
                  · clear hab
                    go_wp2
                    go_round
                    case rel => exact ⟨x + 1, by omega, by go_num⟩
                    case measure => simp [intOf]; omega
                  · have : vb = true := hab rfl
                    subst this
                    clear hab
                    go_wp2
                    go_round
                    case rel => exact ⟨x + 1, by omega, by go_num⟩
                    case measure => simp [intOf]; omega
                · go_wp2_with fail
                  refine (sameBools_yes _ _ _ _ _ _ XA _ hIA9.out hIR9.out).mono ?_
                  rintro e10 w10 ⟨rfl, hb10⟩
                  go_wp2
                  go_ret
                  exact ⟨rfl, Below.on hB9 hb10⟩
            · have hB5d : Below w.heap.size w w5.drew := hB5.drew
              obtain ⟨A6, c6, w6, hrun6, hI6, hb6⟩ := front_run w5.drew 26 A5 n c5 XF (hI5'.out.below (Below.refl w5.heap.size w5).drew) h51' hc52 (⟨bh, oh + (m + 1), none⟩ : Addr) 0 (e - (m + 1)) (H.drop (m + 1)) (by omega) (by rw [List.length_drop]; omega) (fun j => none) (fun j => 0) (fun j hj => absurd hj (by omega)) (fun j hj => absurd hj (by omega))
              rw [hrest.out] at hI6
              have hrun6' : Hid ((Builtin.append_ #[26, 26] 26 #[.slice (some ⟨w5.heap.size, 0, none⟩) 1 1, .slice (some (⟨bh, oh + (m + 1), none⟩ : Addr)) 0 (e - (m + 1))]).run Try.prog ((w5.alloc (.cells #[.slice A5 n c5] 31)).drew) = .ok (.slice A6 1 c6) w6) := hrun6
              have hz6 : Below w5.heap.size w5 w6 := Below.on (w1 := w5.drew) (Below.refl _ _).drew hb6
              have hB6 := Below.on hB5 hz6
              have hbox6 := cell_later hz6 hbox5
              have hdr : cs.drop m = [] := List.drop_of_length_le (by omega)
              have hk7 := hide (fun (AB : Option Addr) (cB : Nat) => call_at T (cs.drop m) (restH T cs H m) XA 0 hc0R.out hlR.out A AB A6 n c 0 cB 1 c6 w6 (hT.out.below hB6) (by rw [hdr]; exact isU8_none _ _ rfl) hI6)
              clear hI6 hrun6 hdr
              go_wp2
              go_region_held3 (fun X => X.cell? ⟨w.heap.size, 0, none⟩ = some (.slice A n c)) (first | exact hbox5 | exact hbox6 | exact r0 | exact far_alloc' hbox5 _) (first | (go_at_call 19; (with_reducible refine (hk7.out _ _).mono ?_); rintro e7 w7 ⟨A7, c7, rfl, hI7, h71, h72, hb7⟩; have r0 := cell_later hb7 hbox6) | (refine step_append_run rfl _ _ 26 26 rfl (.slice (some ⟨w5.heap.size, 0, none⟩) 1 1) (.slice (some (⟨bh, oh + (m + 1), none⟩ : Addr)) 0 (e - (m + 1))) (by simp [Act.eval]) (by simp [Act.eval]) hrun6'.out ?_))
              rw [hnA.out] at hI7 ⊢
              have hB7 := Below.on hB6 hb7
              have hz7 := Below.on hz6 hb7
              have hbox7 := r0
              have hIA7 := hide (hIA5.out.below hz7)
              have hIR7 := hide hI7
              clear hI7 hk7 hb7 hz6 r0 hIA5 hbox5 hbox6 hB6 hrun6' hz7
              have hB7d : Below w.heap.size w w7.drew := hB7.drew
              have hHL : IsBB w (some ⟨bh, oh + m, none⟩) 1 (H.drop m) := by
                have := hH'.out.drop (k := m) (by omega)
                rwa [show m + 1 - m = 1 by omega] at this
              have hk8 := hide (call_at T [] (H.drop m) XL 0 hc0L.out hlL.out A none (some ⟨bh, oh + m, none⟩) n c 0 0 1 (e - m) w7.drew (hT.out.below hB7d) (isU8_nil _) (hHL.below hB7d))
              have p1 : IntKind.i64.wrap (m : Int) = (m : Int) := IntWalk.i64_in _ (by omega)
              have p2 : (0 : Int) ≤ (m : Int) := by omega
              have p3 : (m : Int) ≤ (m : Int) + 1 := by omega
              have hem : ¬ e = m := by omega
              clear hHL
              go_wp2
              go_region_held3 (fun X => X.cell? ⟨w.heap.size, 0, none⟩ = some (.slice A n c)) (first | exact hbox7 | exact r0) (first | (go_at_call 19; (with_reducible refine hk8.out.mono ?_); rintro e8 w8 ⟨A8, c8, rfl, hI8, h81, h82, hb8⟩; have r0 := cell_later hb8 hbox7))
              rw [hnL.out] at hI8 ⊢
              have hz8 : Below w7.heap.size w7 w8 := Below.on (w1 := w7.drew) (Below.refl _ _).drew hb8
              have hB8 := Below.on hB7 hz8
              have hIA8 := hide (hIA7.out.below hz8)
              have hIR8 := hide (hIR7.out.below hz8)
              have hIL8 := hide hI8
              have gm := (old hB8 _ _ hbh).trans (hhc'.out m (by omega))
              have hIm := (hhr'.out m (by omega)).1.below hB8
              generalize hA m = RAm at gm hIm
              generalize hC m = RCm at gm
              rw [hXL'.out, hnL.out] at gm hIm
              have hIm' := hide hIm
              have hbox8 := r0
              clear hI8 hk8 hb8 hz8 r0 hIA7 hIR7 hbox7 hB7 hB7d p1 hIm
              go_wp2_with fail
              refine (sameBools_yes _ _ _ _ _ _ XL _ hIL8.out hIm'.out).mono ?_
              rintro e9 w9 ⟨rfl, hb9⟩
              have hB9 := Below.on hB8 hb9
              have hIA9 := hide (hIA8.out.below hb9)
              have hIR9 := hide (hIR8.out.below hb9)
              have hIL9 := hide (hIL8.out.below hb9)
              clear hb9 hIA8 hIR8 hIL8 hB8 gm hIm' hbox8
              go_wp2
              go_loop [18] (fun s => ∃ x : Nat, x ≤ n ∧ s = .int .i64 x) (fun s => n - (intOf s).toNat)
              case atStart => exact ⟨0, Nat.zero_le _, rfl⟩
              case round =>
                obtain ⟨x, hx, rfl⟩ := hrel
                by_cases hlx : x < n
                · obtain ⟨ba, oa, rfl, hba, hca⟩ := hIA9.out.2.2 (by omega)
                  obtain ⟨bb, ob, rfl, hbb, hcb⟩ := hIL9.out.2.2 (by omega)
                  have ga := hca x hlx
                  have gb := hcb x hlx
                  have hab := hAL.out x hlx
                  generalize bx XA x = va at ga hab
                  generalize bx XL x = vb at gb hab
                  clear hca hcb
                  cases va
                  · clear hab
                    go_wp2
                    go_round
                    case rel => exact ⟨x + 1, by omega, by go_num⟩
                    case measure => simp [intOf]; omega
                  · have : vb = true := hab rfl
                    subst this
                    clear hab
                    go_wp2
                    go_round
                    case rel => exact ⟨x + 1, by omega, by go_num⟩
                    case measure => simp [intOf]; omega
                · go_wp2_with fail
                  refine (sameBools_yes _ _ _ _ _ _ XA _ hIA9.out hIR9.out).mono ?_
                  rintro e10 w10 ⟨rfl, hb10⟩
                  go_wp2
                  go_ret
                  exact ⟨rfl, Below.on hB9 hb10⟩
      · have hc0A := hide h0
        clear h0 hg ht
        go_enter Try.func4, Try.ntmps4
        go_wp2_with fail
        refine (alive21_ok _).mono ?_
        rintro e w1 ⟨rfl, hb1⟩
        have hbox1 := cell_later hb1 hbox0
        have hB1 := Below.on hB0 hb1
        go_wp2_with fail
        have hx := great21_ok _ _ _ _ c _ d _ e T cs H _ (hT.out.below hB1) (hcs'.out.below hB1) (hH'.out.below hB1)
        rw [hs'.out] at hx
        refine hx.mono ?_
        clear hx
        rintro e1 w2 ⟨rfl, hb2⟩
        have hB2 := Below.on hB1 hb2
        have hbox2 := cell_later hb2 hbox1
        clear hb2 hbox1
        go_wp2_with fail
        have hx := rccheck_ok _ _ _ _ c _ d _ e T cs H _ (hT.out.below hB2) (hcs'.out.below hB2) (hH'.out.below hB2)
        rw [hc0A.out] at hx
        refine hx.mono ?_
        clear hx
        rintro e1 w3 ⟨rfl, hb3⟩
        have hB3 := Below.on hB2 hb3
        have hbox3 := cell_later hb3 hbox2
        clear hb3 hbox2
        rcases (by omega : k < 0 ∨ (0 ≤ k ∧ (m : Int) + 1 ≤ k)) with hk1 | ⟨hk1, hk2⟩
        all_goals
          clear hk0
          go_wp2
          go_ret
          exact ⟨rfl, hB3⟩
    · have h0' : (cchk T cs H != 0) = true := by simp [h0]
      clear h0
      go_enter Try.func4, Try.ntmps4
      go_wp2_with fail
      refine (alive21_ok _).mono ?_
      rintro e w1 ⟨rfl, hb1⟩
      have hbox1 := cell_later hb1 hbox0
      have hB1 := Below.on hB0 hb1
      go_wp2_with fail
      have hx := great21_ok _ _ _ _ c _ d _ e T cs H _ (hT.out.below hB1) (hcs'.out.below hB1) (hH'.out.below hB1)
      rw [hs'.out] at hx
      refine hx.mono ?_
      clear hx
      rintro e1 w2 ⟨rfl, hb2⟩
      have hB2 := Below.on hB1 hb2
      have hbox2 := cell_later hb2 hbox1
      clear hb2 hbox1
      go_wp2_with fail
      refine (rccheck_ok _ _ _ _ _ _ _ _ _ T cs H _ (hT.out.below hB2) (hcs'.out.below hB2) (hH'.out.below hB2)).mono ?_
      rintro e w3 ⟨rfl, hb3⟩
      have hbox3 := cell_later hb3 hbox2
      have hB3 := Below.on hB2 hb3
      go_wp2
      go_ret
      exact ⟨rfl, hB3⟩

set_option maxRecDepth 100000 in
theorem lifted (os : Os) (started : os.Started) (H : Type) (enc : TypeId × Value → H) :
    ReturnsInHanded {} Try.checked os 4 .any (Rows.combPartsSpec.pre6 enc Try.prog Try.f4 Rows.combPartsRow.domain false) (Rows.combPartsSpec.post enc Try.prog Try.f4 false true false false) := by
  refine returnsInHanded_of_change (C := Try.checked) own started (by kernel_rfl) Try.func4
    (ChangeSpec.witness6 (enc := enc) (C := Try.checked) false ⟨#[], #[.agg #[.slice none 0 0], .slice none 0 0, .slice none 0 0, .int .i64 0], []⟩ 8 (by kernel_rfl) (by kernel_rfl) (by kernel_rfl) (by kernel_rfl)) ?_
  intro W base args ds gs before hval0 hW hcnd _
  have hval : ∀ (j : Nat) t v, Try.f4.params[j]? = some t → args[j]? = some v → Value.okWide Try.prog W .any base t v := hval0
  have hW' := hW
  obtain ⟨p, q, hA0, hV, rfl, hfz, hnd⟩ := hW
  have hA : DataW.TrodAll enc Try.prog W 0 (fun _ => true) true Try.f4.params.toList args.toList ds p := hA0
  rw [Try.params4] at hA hval
  obtain ⟨v0, vs0, d0, ds0, p0, q0, hargs, rfl, rfl, h0, r0⟩ := trodAll_cons hA
  obtain ⟨v1, vs1, d1, ds1, p1, q1, rfl, rfl, rfl, h1, r1⟩ := trodAll_cons r0
  obtain ⟨v2, vs2, d2, ds2, p2, q2, rfl, rfl, rfl, h2, r2⟩ := trodAll_cons r1
  obtain ⟨v3, vs3, d3, ds3, p3, q3, rfl, rfl, rfl, h3, r3⟩ := trodAll_cons r2
  obtain ⟨rfl, rfl, rfl⟩ := trodAll_nil r3
  obtain rfl : args = #[v0, v1, v2, v3] := by cases args; simp_all
  obtain ⟨rfl, rfl⟩ := trodVars_none hV
  have lt0 : ∀ x ∈ p0, x.block < W.heap.size := by obtain ⟨m, hm⟩ := h0; exact DataW.trod_lt m _ _ _ hm
  have k0 := h0
  have lt1 : ∀ x ∈ p1, x.block < W.heap.size := by obtain ⟨m, hm⟩ := h1; exact DataW.trod_lt m _ _ _ hm
  have k1 := h1
  have lt2 : ∀ x ∈ p2, x.block < W.heap.size := by obtain ⟨m, hm⟩ := h2; exact DataW.trod_lt m _ _ _ hm
  have k2 := h2
  have lt3 : ∀ x ∈ p3, x.block < W.heap.size := by obtain ⟨m, hm⟩ := h3; exact DataW.trod_lt m _ _ _ hm
  have k3 := h3
  obtain ⟨A0, n0, c0, T0, rfl, hT0⟩ := tree_open (hval 0 _ v0 rfl rfl) h0
  obtain ⟨A1, n1, c1, xs1, rfl, hk1, hU1⟩ := u8s_param2 (hval 1 _ v1 rfl rfl) h1
  obtain ⟨A2, n2, c2, xs2, rfl, hk2, hM2⟩ := bbs_param2 (hval 2 _ v2 rfl rfl) h2
  obtain ⟨a3, rfl, rfl, rfl, w3⟩ := open_int Try.underlying3 (hval 3 _ v3 rfl rfl) h3
  clear hA0 hval0
  refine (walk A0 n0 c0 T0 A1 n1 c1 xs1 A2 n2 c2 xs2 a3 W hT0 hk1 hU1 hk2 hM2 ).mono fun e W' ⟨he, bel⟩ => ?_
  subst he
  exact ⟨_, rfl, _, _, _, [], _, [], hW', trodAll_mk1 (shut_bool Try.underlying4 _), (trodAll_cons_mk (Below.trod laidOut (by kernel_rfl) (of_decide_eq_true (by kernel_rfl)) k0 bel lt0) (trodAll_cons_mk (Below.trod laidOut (by kernel_rfl) (of_decide_eq_true (by kernel_rfl)) k1 bel lt1) (trodAll_cons_mk (Below.trod laidOut (by kernel_rfl) (of_decide_eq_true (by kernel_rfl)) k2 bel lt2) (trodAll_cons_mk (Below.trod laidOut (by kernel_rfl) (of_decide_eq_true (by kernel_rfl)) k3 bel lt3) trodAll_mk0)))), rfl, bel.frame _, fun h => by cases h⟩

theorem proved : Rows.CombPartsSaid :=
  OpenClaim.holds_of_wide 4 Try.f4 rfl rfl rfl rfl rfl rfl rfl ⟨rfl, rfl, rfl, rfl, rfl⟩ rfl rfl rfl rfl rfl (by kernel_rfl) Try.func4 (by kernel_rfl)
    (of_decide_eq_true (by kernel_rfl)) (by unfold Func.isWrapper; first | (rw [if_pos (by decide +kernel)]; kernel_rfl) | (rw [if_neg (by decide +kernel)]; exact ⟨rfl, rfl⟩))
    (fun os started H enc _ => lifted os started H enc)
#print axioms proved
end Go.Proofs.Ytaliekkdamghbaa.combParts
