/- All selectors but SimLink and SimVisited do not depend on the mode, and Match and All say the same; for every valid tree, number, plain simple selector and two modes. No condition. -/
import Derived.Test.YtbedomopojiehaaSt
import Derived.Test.YtbedomopojiehaaSal
import Derived.Test.YtbedomopojiehaaSz18
namespace Go.Proofs.Ytbedomopojiehaa.simpleModes
open Go.ChangeShapes Go.WideShapes Go.ChangeAt Go.RowKit

theorem mat_other (T : List ANode) (i : Nat) (s : Sim) (m o : Int) (h4 : ¬ s.kind = 4) (h5 : ¬ s.kind = 5) : matS T i s m = matS T i s o := by
  unfold matS
  rw [if_neg h5, if_neg h4, if_neg h5, if_neg h4]
theorem mat_link (T : List ANode) (i : Nat) (s : Sim) (m o : Int) (h : s.kind = 4 ∨ s.kind = 5) (h1 : ¬ (i : Int) = m) (h2 : ¬ (i : Int) = o) : matS T i s m = matS T i s o := by
  unfold matS
  rcases h with h | h
  · rw [h]; simp [h1, h2]
  · rw [h]; simp [h1, h2]
set_option maxRecDepth 100000 in
set_option maxHeartbeats 4000000 in
theorem walk (A : Option Addr) (n c : Nat) (T : List ANode) (i : Int) (k : Int) (nm : ByteArray) (op : Int) (vl : ByteArray) (fo : Bool) (a b : Int) (f : Bool) (LA : Option Addr) (ln lc : Nat) (m o : Int) (w : World) (h : IsTree w A n T) (_hk : 0 ≤ k ∧ k ≤ 255) (_ho : 0 ≤ op ∧ op ≤ 255) (hm0 : HasMax w) :
    Calls Try.prog 8 #[.agg #[.slice A n c], .int .i64 i, .agg #[.int .u8 k, .string nm, .int .u8 op, .string vl, .bool fo, .int .i64 a, .int .i64 b, .bool f, .slice LA ln lc], .int .i64 m, .int .i64 o] w fun r w' => r = .returned (.bool true) ∧ Below w.heap.size w w' := by
  have hT := hide h
  have hl := h.1
  have hm := hide hm0
  have hB0 := below_alloc (below_alloc (Below.refl w.heap.size w) (.cells #[.slice A n c] 43)) (.cells #[.int .u8 k, .string nm, .int .u8 op, .string vl, .bool fo, .int .i64 a, .int .i64 b, .bool f, .slice LA ln lc] 26)
  have hbox0 : ((w.alloc (.cells #[.slice A n c] 43)).alloc (.cells #[.int .u8 k, .string nm, .int .u8 op, .string vl, .bool fo, .int .i64 a, .int .i64 b, .bool f, .slice LA ln lc] 26)).cell? ⟨w.heap.size, 0, none⟩ = some (.slice A n c) := by go_simp
  have hS0 := hide (simAt_at (w.alloc (.cells #[.slice A n c] 43)) (w.heap.size + 1) (by simp) k nm op vl fo a b f LA ln lc)
  clear h hm0
  by_cases h0 : askI T [i] = 0
  · obtain ⟨hg, hir⟩ := askI_zero.1 h0
    have hir' := hir i (by simp)
    obtain ⟨j, rfl⟩ := Int.eq_ofNat_of_zero_le hir'.1
    have hj : j < n := by omega
    have hia := hide h0
    have hg' := hide hg
    rcases chkS_cases ⟨k, nm, op, vl, fo, a, b, f, LA, ln, lc⟩ with h1 | h1
    · have hck := hide h1
      cases hmd0 : modeB T m
      · have hmd := hide hmd0
        clear h0 h1 hg hir hir' hmd0
        go_enter Try.func8, Try.ntmps8
        obtain ⟨s0, s1, s2, s3, s4, s5, s6, s7, s8⟩ := hS0.out
        go_wp2_with fail
        refine (alive18_ok _ (hm.out.below hB0)).mono ?_
        rintro e w1 ⟨rfl, hb1⟩
        have hB1 := Below.on hB0 hb1
        have hbox1 := cell_later hb1 hbox0
        have hS1 := hide (hS0.out.later hb1)
        clear hb1 hbox0 s0 s1 s2 s3 s4 s5 s6 s7 s8
        obtain ⟨s0, s1, s2, s3, s4, s5, s6, s7, s8⟩ := hS1.out
        go_wp2_with fail
        refine (rasked_at T j 0 hia.out _ _ c _ (hT.out.below hB1)).mono ?_
        rintro e w2 ⟨rfl, hb2⟩
        have hB2 := Below.on hB1 hb2
        have hbox2 := cell_later hb2 hbox1
        have hS2 := hide (hS1.out.later hb2)
        clear hb2 hbox1 s0 s1 s2 s3 s4 s5 s6 s7 s8
        obtain ⟨s0, s1, s2, s3, s4, s5, s6, s7, s8⟩ := hS2.out
        go_wp2_with fail
        refine (rscheck_ok_at k nm op vl fo a b f LA ln lc _ 0 hck.out).mono ?_
        rintro e w3 ⟨rfl, hb3⟩
        have hB3 := Below.on hB2 hb3
        have hbox3 := cell_later hb3 hbox2
        have hS3 := hide (hS2.out.later hb3)
        clear hb3 hbox2 s0 s1 s2 s3 s4 s5 s6 s7 s8
        obtain ⟨s0, s1, s2, s3, s4, s5, s6, s7, s8⟩ := hS3.out
        go_wp2_with fail
        refine (rmode_at T m false hmd.out _ _ c _ (hT.out.below hB3) hg'.out).mono ?_
        rintro e w4 ⟨rfl, hb4⟩
        have hB4 := Below.on hB3 hb4
        have hbox4 := cell_later hb4 hbox3
        have hS4 := hide (hS3.out.later hb4)
        clear hb4 hbox3 s0 s1 s2 s3 s4 s5 s6 s7 s8
        obtain ⟨s0, s1, s2, s3, s4, s5, s6, s7, s8⟩ := hS4.out
        go_wp2
        go_ret
        exact ⟨rfl, hB4⟩
      · have hmd := hide hmd0
        cases hod0 : modeB T o
        · have hod := hide hod0
          clear h0 h1 hg hir hir' hmd0 hod0
          go_enter Try.func8, Try.ntmps8
          obtain ⟨s0, s1, s2, s3, s4, s5, s6, s7, s8⟩ := hS0.out
          go_wp2_with fail
          refine (alive18_ok _ (hm.out.below hB0)).mono ?_
          rintro e w1 ⟨rfl, hb1⟩
          have hB1 := Below.on hB0 hb1
          have hbox1 := cell_later hb1 hbox0
          have hS1 := hide (hS0.out.later hb1)
          clear hb1 hbox0 s0 s1 s2 s3 s4 s5 s6 s7 s8
          obtain ⟨s0, s1, s2, s3, s4, s5, s6, s7, s8⟩ := hS1.out
          go_wp2_with fail
          refine (rasked_at T j 0 hia.out _ _ c _ (hT.out.below hB1)).mono ?_
          rintro e w2 ⟨rfl, hb2⟩
          have hB2 := Below.on hB1 hb2
          have hbox2 := cell_later hb2 hbox1
          have hS2 := hide (hS1.out.later hb2)
          clear hb2 hbox1 s0 s1 s2 s3 s4 s5 s6 s7 s8
          obtain ⟨s0, s1, s2, s3, s4, s5, s6, s7, s8⟩ := hS2.out
          go_wp2_with fail
          refine (rscheck_ok_at k nm op vl fo a b f LA ln lc _ 0 hck.out).mono ?_
          rintro e w3 ⟨rfl, hb3⟩
          have hB3 := Below.on hB2 hb3
          have hbox3 := cell_later hb3 hbox2
          have hS3 := hide (hS2.out.later hb3)
          clear hb3 hbox2 s0 s1 s2 s3 s4 s5 s6 s7 s8
          obtain ⟨s0, s1, s2, s3, s4, s5, s6, s7, s8⟩ := hS3.out
          go_wp2_with fail
          refine (rmode_at T m true hmd.out _ _ c _ (hT.out.below hB3) hg'.out).mono ?_
          rintro e w4 ⟨rfl, hb4⟩
          have hB4 := Below.on hB3 hb4
          have hbox4 := cell_later hb4 hbox3
          have hS4 := hide (hS3.out.later hb4)
          clear hb4 hbox3 s0 s1 s2 s3 s4 s5 s6 s7 s8
          obtain ⟨s0, s1, s2, s3, s4, s5, s6, s7, s8⟩ := hS4.out
          go_wp2_with fail
          refine (rmode_at T o false hod.out _ _ c _ (hT.out.below hB4) hg'.out).mono ?_
          rintro e w5 ⟨rfl, hb5⟩
          have hB5 := Below.on hB4 hb5
          have hbox5 := cell_later hb5 hbox4
          have hS5 := hide (hS4.out.later hb5)
          clear hb5 hbox4 s0 s1 s2 s3 s4 s5 s6 s7 s8
          obtain ⟨s0, s1, s2, s3, s4, s5, s6, s7, s8⟩ := hS5.out
          go_wp2
          go_ret
          exact ⟨rfl, hB5⟩
        · have hod := hide hod0
          have e1 : smE T ⟨k, nm, op, vl, fo, a, b, f, LA, ln, lc⟩ m = 0 := smE_zero.2 ⟨hg, hmd0, h1⟩
          have e2 : smE T ⟨k, nm, op, vl, fo, a, b, f, LA, ln, lc⟩ o = 0 := smE_zero.2 ⟨hg, hod0, h1⟩
          have f1 : smatE T j ⟨k, nm, op, vl, fo, a, b, f, LA, ln, lc⟩ m = 0 := by unfold smatE; rw [if_pos h0, e1]
          have f2 : smatE T j ⟨k, nm, op, vl, fo, a, b, f, LA, ln, lc⟩ o = 0 := by unfold smatE; rw [if_pos h0, e2]
          obtain ⟨va, hva⟩ : ∃ x, matS T j ⟨k, nm, op, vl, fo, a, b, f, LA, ln, lc⟩ m = x := ⟨_, rfl⟩
          obtain ⟨vb, hvb⟩ : ∃ x, matS T j ⟨k, nm, op, vl, fo, a, b, f, LA, ln, lc⟩ o = x := ⟨_, rfl⟩
          have g1 : smatV T j ⟨k, nm, op, vl, fo, a, b, f, LA, ln, lc⟩ m = va := by unfold smatV; rw [if_pos f1, Int.toNat_natCast, hva]
          have g2 : smatV T j ⟨k, nm, op, vl, fo, a, b, f, LA, ln, lc⟩ o = vb := by unfold smatV; rw [if_pos f2, Int.toNat_natCast, hvb]
          obtain ⟨XL, hXL⟩ : ∃ X, sallL T ⟨k, nm, op, vl, fo, a, b, f, LA, ln, lc⟩ m = X := ⟨_, rfl⟩
          have g3 : sallV T ⟨k, nm, op, vl, fo, a, b, f, LA, ln, lc⟩ m = XL := by unfold sallV; rw [if_pos e1, hXL]
          have hXn : Hid (XL.length = n) := by show _ = _; rw [← hXL, sallL_len, hl]
          have hXv : Hid (bx XL j = va) := by show _ = _; rw [← hXL, ← hva]; simp [sallL, bx, show j < T.length by omega]
          have hoth := hide (show (¬ k = 4 → ¬ k = 5 → va = vb) ∧ ((k = 4 ∨ k = 5) → ¬ (j : Int) = m → ¬ (j : Int) = o → va = vb) from ⟨fun h4 h5 => by rw [← hva, ← hvb]; exact mat_other T j ⟨k, nm, op, vl, fo, a, b, f, LA, ln, lc⟩ m o h4 h5, fun hk a1 a2 => by rw [← hva, ← hvb]; exact mat_link T j ⟨k, nm, op, vl, fo, a, b, f, LA, ln, lc⟩ m o hk a1 a2⟩)
          have k1 := hide (fun (W : World) (hW : IsTree W A n T) (hx : HasMax W) => sMatch_ok A n c T j k nm op vl fo a b f LA ln lc m W hW hx)
          have k2 := hide (fun (W : World) (hW : IsTree W A n T) (hx : HasMax W) => sMatch_ok A n c T j k nm op vl fo a b f LA ln lc o W hW hx)
          have k3 := hide (fun (W : World) (hW : IsTree W A n T) (hx : HasMax W) => sAll_ok A n c T k nm op vl fo a b f LA ln lc m W hW hx)
          rw [g1, f1] at k1
          rw [g2, f2] at k2
          rw [g3, e1] at k3
          clear h0 h1 hg hir hir' hmd0 hod0 e1 e2 f1 f2 hva hvb g1 g2 g3 hXL
          have q1 : (0 : Int) ≤ (j : Int) := by omega
          have q2 : (j : Int) < (n : Int) := by omega
          go_enter Try.func8, Try.ntmps8
          obtain ⟨s0, s1, s2, s3, s4, s5, s6, s7, s8⟩ := hS0.out
          go_wp2_with fail
          refine (alive18_ok _ (hm.out.below hB0)).mono ?_
          rintro e w1 ⟨rfl, hb1⟩
          have hB1 := Below.on hB0 hb1
          have hbox1 := cell_later hb1 hbox0
          have hS1 := hide (hS0.out.later hb1)
          clear hb1 hbox0 s0 s1 s2 s3 s4 s5 s6 s7 s8
          obtain ⟨s0, s1, s2, s3, s4, s5, s6, s7, s8⟩ := hS1.out
          go_wp2_with fail
          refine (rasked_at T j 0 hia.out _ _ c _ (hT.out.below hB1)).mono ?_
          rintro e w2 ⟨rfl, hb2⟩
          have hB2 := Below.on hB1 hb2
          have hbox2 := cell_later hb2 hbox1
          have hS2 := hide (hS1.out.later hb2)
          clear hb2 hbox1 s0 s1 s2 s3 s4 s5 s6 s7 s8
          obtain ⟨s0, s1, s2, s3, s4, s5, s6, s7, s8⟩ := hS2.out
          go_wp2_with fail
          refine (rscheck_ok_at k nm op vl fo a b f LA ln lc _ 0 hck.out).mono ?_
          rintro e w3 ⟨rfl, hb3⟩
          have hB3 := Below.on hB2 hb3
          have hbox3 := cell_later hb3 hbox2
          have hS3 := hide (hS2.out.later hb3)
          clear hb3 hbox2 s0 s1 s2 s3 s4 s5 s6 s7 s8
          obtain ⟨s0, s1, s2, s3, s4, s5, s6, s7, s8⟩ := hS3.out
          go_wp2_with fail
          refine (rmode_at T m true hmd.out _ _ c _ (hT.out.below hB3) hg'.out).mono ?_
          rintro e w4 ⟨rfl, hb4⟩
          have hB4 := Below.on hB3 hb4
          have hbox4 := cell_later hb4 hbox3
          have hS4 := hide (hS3.out.later hb4)
          clear hb4 hbox3 s0 s1 s2 s3 s4 s5 s6 s7 s8
          obtain ⟨s0, s1, s2, s3, s4, s5, s6, s7, s8⟩ := hS4.out
          go_wp2_with fail
          refine (rmode_at T o true hod.out _ _ c _ (hT.out.below hB4) hg'.out).mono ?_
          rintro e w5 ⟨rfl, hb5⟩
          have hB5 := Below.on hB4 hb5
          have hbox5 := cell_later hb5 hbox4
          have hS5 := hide (hS4.out.later hb5)
          clear hb5 hbox4 s0 s1 s2 s3 s4 s5 s6 s7 s8
          obtain ⟨s0, s1, s2, s3, s4, s5, s6, s7, s8⟩ := hS5.out
          go_wp2_with fail
          refine (k1.out _ (hT.out.below hB5) (hm.out.below hB5)).mono ?_
          rintro e w6 ⟨rfl, hb6⟩
          have hB6 := Below.on hB5 hb6
          have hbox6 := cell_later hb6 hbox5
          have hS6 := hide (hS5.out.later hb6)
          clear hb6 hbox5 s0 s1 s2 s3 s4 s5 s6 s7 s8
          obtain ⟨s0, s1, s2, s3, s4, s5, s6, s7, s8⟩ := hS6.out
          go_wp2_with fail
          refine (k2.out _ (hT.out.below hB6) (hm.out.below hB6)).mono ?_
          rintro e w7 ⟨rfl, hb7⟩
          have hB7 := Below.on hB6 hb7
          have hbox7 := cell_later hb7 hbox6
          have hS7 := hide (hS6.out.later hb7)
          clear hb7 hbox6 s0 s1 s2 s3 s4 s5 s6 s7 s8
          obtain ⟨s0, s1, s2, s3, s4, s5, s6, s7, s8⟩ := hS7.out
          go_wp2_with fail
          refine (k3.out _ (hT.out.below hB7) (hm.out.below hB7)).mono ?_
          rintro e w8 ⟨A8, c8, rfl, hI8, -, -, hb8⟩
          rw [hXn.out] at hI8 ⊢
          obtain ⟨b8, o8, rfl, hb8', hc8⟩ := hI8.2.2 (by omega)
          have gx := hc8 j hj
          rw [hXv.out] at gx
          clear hI8 hc8 k1 k2 k3
          have hB8 := Below.on hB7 hb8
          have hbox8 := cell_later hb8 hbox7
          have hS8 := hide (hS7.out.later hb8)
          clear hb8 hbox7 s0 s1 s2 s3 s4 s5 s6 s7 s8
          obtain ⟨s0, s1, s2, s3, s4, s5, s6, s7, s8⟩ := hS8.out
          have ho := hoth.out
          clear hoth hXv hXn hia hck hmd hod
          by_cases hkk : k = 4 ∨ k = 5
          · by_cases a1 : (j : Int) = m
            · have b1 : ((j : Int) == m) = true := by simp [a1]
              clear a1
              rcases hkk with rfl | rfl
              all_goals
                clear ho
                cases va <;> cases vb
                all_goals
                  go_wp2
                  go_ret
                  exact ⟨rfl, hB8⟩
            · have b1 : ((j : Int) == m) = false := by simp [a1]
              by_cases a2 : (j : Int) = o
              · have b2 : ((j : Int) == o) = true := by simp [a2]
                clear a1 a2
                rcases hkk with rfl | rfl
                all_goals
                  clear ho
                  cases va <;> cases vb
                  all_goals
                    go_wp2
                    go_ret
                    exact ⟨rfl, hB8⟩
              · have b2 : ((j : Int) == o) = false := by simp [a2]
                have hvv := ho.2 hkk a1 a2
                subst hvv
                clear a1 a2 ho
                rcases hkk with rfl | rfl
                all_goals
                  cases va
                  all_goals
                    go_wp2
                    go_ret
                    exact ⟨rfl, hB8⟩
          · have d4 : (k == 4) = false := by simp; omega
            have d5 : (k == 5) = false := by simp; omega
            have hvv := ho.1 (by omega) (by omega)
            subst hvv
            clear ho hkk
            cases va
            all_goals
              go_wp2
              go_ret
              exact ⟨rfl, hB8⟩
    · have hck := hide h1
      clear h0 h1 hg hir hir'
      go_enter Try.func8, Try.ntmps8
      obtain ⟨s0, s1, s2, s3, s4, s5, s6, s7, s8⟩ := hS0.out
      go_wp2_with fail
      refine (alive18_ok _ (hm.out.below hB0)).mono ?_
      rintro e w1 ⟨rfl, hb1⟩
      have hB1 := Below.on hB0 hb1
      have hbox1 := cell_later hb1 hbox0
      have hS1 := hide (hS0.out.later hb1)
      clear hb1 hbox0 s0 s1 s2 s3 s4 s5 s6 s7 s8
      obtain ⟨s0, s1, s2, s3, s4, s5, s6, s7, s8⟩ := hS1.out
      go_wp2_with fail
      refine (rasked_at T j 0 hia.out _ _ c _ (hT.out.below hB1)).mono ?_
      rintro e w2 ⟨rfl, hb2⟩
      have hB2 := Below.on hB1 hb2
      have hbox2 := cell_later hb2 hbox1
      have hS2 := hide (hS1.out.later hb2)
      clear hb2 hbox1 s0 s1 s2 s3 s4 s5 s6 s7 s8
      obtain ⟨s0, s1, s2, s3, s4, s5, s6, s7, s8⟩ := hS2.out
      go_wp2_with fail
      refine (rscheck_ok_at k nm op vl fo a b f LA ln lc _ 12 hck.out).mono ?_
      rintro e w3 ⟨rfl, hb3⟩
      have hB3 := Below.on hB2 hb3
      have hbox3 := cell_later hb3 hbox2
      have hS3 := hide (hS2.out.later hb3)
      clear hb3 hbox2 s0 s1 s2 s3 s4 s5 s6 s7 s8
      obtain ⟨s0, s1, s2, s3, s4, s5, s6, s7, s8⟩ := hS3.out
      go_wp2
      go_ret
      exact ⟨rfl, hB3⟩
  · obtain ⟨c1, hc1⟩ : ∃ x, askI T [i] = x := ⟨_, rfl⟩
    have hia := hide hc1
    have hcb : (c1 != 0) = true := by rw [bne_iff_ne, ← hc1]; exact h0
    clear h0 hc1
    go_enter Try.func8, Try.ntmps8
    obtain ⟨s0, s1, s2, s3, s4, s5, s6, s7, s8⟩ := hS0.out
    go_wp2_with fail
    refine (alive18_ok _ (hm.out.below hB0)).mono ?_
    rintro e w1 ⟨rfl, hb1⟩
    have hB1 := Below.on hB0 hb1
    have hbox1 := cell_later hb1 hbox0
    have hS1 := hide (hS0.out.later hb1)
    clear hb1 hbox0 s0 s1 s2 s3 s4 s5 s6 s7 s8
    obtain ⟨s0, s1, s2, s3, s4, s5, s6, s7, s8⟩ := hS1.out
    go_wp2_with fail
    refine (rasked_at T i c1 hia.out _ _ c _ (hT.out.below hB1)).mono ?_
    rintro e w2 ⟨rfl, hb2⟩
    have hB2 := Below.on hB1 hb2
    have hbox2 := cell_later hb2 hbox1
    have hS2 := hide (hS1.out.later hb2)
    clear hb2 hbox1 s0 s1 s2 s3 s4 s5 s6 s7 s8
    obtain ⟨s0, s1, s2, s3, s4, s5, s6, s7, s8⟩ := hS2.out
    go_wp2
    go_ret
    exact ⟨rfl, hB2⟩

set_option maxRecDepth 100000 in
theorem lifted (os : Os) (started : os.Started) (H : Type) (enc : TypeId × Value → H) :
    ReturnsInHanded {} Try.checked os 8 .any (Rows.simpleModesSpec.pre6 enc Try.prog Try.f8 Rows.simpleModesRow.domain false) (Rows.simpleModesSpec.post enc Try.prog Try.f8 false true false false) := by
  refine returnsInHanded_of_change_shaped (C := Try.checked) own started (by kernel_rfl) Try.func8
    (ChangeSpec.witness6 (enc := enc) (C := Try.checked) false ⟨#[], #[.agg #[.slice none 0 0], .int .i64 0, .agg #[.int .u8 0, .string .empty, .int .u8 0, .string .empty, .bool false, .int .i64 0, .int .i64 0, .bool false, .slice none 0 0], .int .i64 0, .int .i64 0], []⟩ 8 (by kernel_rfl) (by kernel_rfl) (by kernel_rfl) (by kernel_rfl)) ?_
  intro W base args ds gs before hval0 hW hcnd hsz hsh _
  have hval : ∀ (j : Nat) t v, Try.f8.params[j]? = some t → args[j]? = some v → Value.okWide Try.prog W .any base t v := hval0
  have hW' := hW
  obtain ⟨p, q, hA0, hV, rfl, hfz, hnd⟩ := hW
  have hA : DataW.TrodAll enc Try.prog W 0 (fun _ => true) true Try.f8.params.toList args.toList ds p := hA0
  rw [Try.params8] at hA hval hsz
  obtain ⟨v0, vs0, d0, ds0, p0, q0, hargs, rfl, rfl, h0, r0⟩ := trodAll_cons hA
  obtain ⟨v1, vs1, d1, ds1, p1, q1, rfl, rfl, rfl, h1, r1⟩ := trodAll_cons r0
  obtain ⟨v2, vs2, d2, ds2, p2, q2, rfl, rfl, rfl, h2, r2⟩ := trodAll_cons r1
  obtain ⟨v3, vs3, d3, ds3, p3, q3, rfl, rfl, rfl, h3, r3⟩ := trodAll_cons r2
  obtain ⟨v4, vs4, d4, ds4, p4, q4, rfl, rfl, rfl, h4, r4⟩ := trodAll_cons r3
  obtain ⟨rfl, rfl, rfl⟩ := trodAll_nil r4
  obtain rfl : args = #[v0, v1, v2, v3, v4] := by cases args; simp_all
  obtain ⟨rfl, rfl⟩ := trodVars_none hV
  have lt0 : ∀ x ∈ p0, x.block < W.heap.size := by obtain ⟨m, hm⟩ := h0; exact DataW.trod_lt m _ _ _ hm
  have k0 := h0
  have lt1 : ∀ x ∈ p1, x.block < W.heap.size := by obtain ⟨m, hm⟩ := h1; exact DataW.trod_lt m _ _ _ hm
  have k1 := h1
  have lt2 : ∀ x ∈ p2, x.block < W.heap.size := by obtain ⟨m, hm⟩ := h2; exact DataW.trod_lt m _ _ _ hm
  have k2 := h2
  have lt3 : ∀ x ∈ p3, x.block < W.heap.size := by obtain ⟨m, hm⟩ := h3; exact DataW.trod_lt m _ _ _ hm
  have k3 := h3
  have lt4 : ∀ x ∈ p4, x.block < W.heap.size := by obtain ⟨m, hm⟩ := h4; exact DataW.trod_lt m _ _ _ hm
  have k4 := h4
  obtain ⟨A0, n0, c0, T0, rfl, hT0⟩ := tree_open (hval 0 _ v0 rfl rfl) h0
  obtain ⟨a1, rfl, rfl, rfl, w1⟩ := open_int Try.underlying3 (hval 1 _ v1 rfl rfl) h1
  obtain ⟨s2, hs2, hs2a, hs2b, hs2c, hs2d⟩ := sim_open (hval 2 _ v2 rfl rfl) h2
  obtain ⟨sk2, sn2, so2, sv2, sf2, sa2, sb2, sg2, sl2, sm2, sc2⟩ := s2
  obtain rfl : v2 = .agg #[.int .u8 sk2, .string sn2, .int .u8 so2, .string sv2, .bool sf2, .int .i64 sa2, .int .i64 sb2, .bool sg2, .slice sl2 sm2 sc2] := hs2
  obtain ⟨a3, rfl, rfl, rfl, w3⟩ := open_int Try.underlying3 (hval 3 _ v3 rfl rfl) h3
  obtain ⟨a4, rfl, rfl, rfl, w4⟩ := open_int Try.underlying3 (hval 4 _ v4 rfl rfl) h4
  clear hA0 hval0
  refine (walk A0 n0 c0 T0 a1 sk2 sn2 so2 sv2 sf2 sa2 sb2 sg2 sl2 sm2 sc2 a3 a4 W hT0  hs2a hs2b   (hasMax_of hsh)).mono fun e W' ⟨he, bel⟩ => ?_
  subst he
  exact ⟨_, rfl, _, _, _, [], _, [], hW', trodAll_mk1 (shut_bool Try.underlying4 _), (trodAll_cons_mk (Below.trod laidOut (by kernel_rfl) (of_decide_eq_true (by kernel_rfl)) k0 bel lt0) (trodAll_cons_mk (Below.trod laidOut (by kernel_rfl) (of_decide_eq_true (by kernel_rfl)) k1 bel lt1) (trodAll_cons_mk (Below.trod laidOut (by kernel_rfl) (of_decide_eq_true (by kernel_rfl)) k2 bel lt2) (trodAll_cons_mk (Below.trod laidOut (by kernel_rfl) (of_decide_eq_true (by kernel_rfl)) k3 bel lt3) (trodAll_cons_mk (Below.trod laidOut (by kernel_rfl) (of_decide_eq_true (by kernel_rfl)) k4 bel lt4) trodAll_mk0))))), rfl, bel.frame _, fun h => by cases h⟩

theorem proved : Rows.SimpleModesSaid :=
  OpenClaim.holds_of_wide 8 Try.f8 rfl rfl rfl rfl rfl rfl rfl ⟨rfl, rfl, rfl, rfl, rfl⟩ rfl rfl rfl rfl rfl (by kernel_rfl) Try.func8 (by kernel_rfl)
    (of_decide_eq_true (by kernel_rfl)) (by unfold Func.isWrapper; first | (rw [if_pos (by decide +kernel)]; kernel_rfl) | (rw [if_neg (by decide +kernel)]; exact ⟨rfl, rfl⟩))
    (fun os started H enc _ => lifted os started H enc)
#print axioms proved
end Go.Proofs.Ytbedomopojiehaa.simpleModes
