/- For every valid tree, two of its elements and a third one: no element gets below itself, and what is moved keeps what is below it. No condition. -/
import Derived.Test.YtkimjpcmcfnmkaaOpen
import Derived.Test.YtkimjpcmcfnmkaaEx15
import Derived.Test.YtkimjpcmcfnmkaaKep
import Derived.Deep.CutRange
import Derived.Deep.RegionHeld3
namespace Go.Proofs.Ytkimjpcmcfnmkaa.mutateBelow
open Go.ChangeShapes Go.WideShapes Go.ChangeAt Go.RowKit

theorem bel_keep {T X : List ANode} {k i : Nat} (hg : goodB T = true) (hK : Kept T X k) (hi : i < T.length) (hk : k < T.length) : askI X [(i : Int), (k : Int)] = 0 ∧ belE X i k = belE T i k := by
  have hi' : i < X.length := by rw [hK.len]; exact hi
  have hk' : k < X.length := by rw [hK.len]; exact hk
  refine ⟨askI_ok hK.good (by simp; omega), ?_⟩
  by_cases hik : i = k
  · subst hik; rw [bel_self hK.good hi', bel_self hg hi]
  · rw [bel_iff hK.good hi' hk', bel_iff hg hi hk, hK.par i hik]
    have := anc_keep hg hK.good hK.len hk (fun j _ hne => hK.par j hne) (x := par T i) (good_par hg hi).2
    simp only [this]
/-- What is known of a tree that Append made, or of its error. -/
structure App (T X : List ANode) (k m th : Nat) : Prop where
  kept : Kept T X k
  is' : belE X k m = true
  ask : askI X [(k : Int), (m : Int)] = 0
  ask3 : askI X [(th : Int), (k : Int)] = 0
  still : belE X th k = belE T th k
  par' : par X k = m
theorem app_cases {T : List ANode} {k m th : Nat} (h0 : moveI T k m = 0) (ht : th < T.length) : (appE T m k = 0 ∧ (belE T m k || decide (m = k)) = false ∧ App T (appT T m k) k m th) ∨ (appE T m k = 40 ∧ (belE T m k || decide (m = k)) = true) := by
  obtain ⟨hg, hir, hjr⟩ := moveI_zero h0
  have hm : m < T.length := by omega
  have hk : k < T.length := by omega
  have hcb := cyc_bel hg hm hk
  rcases app_code h0 with he | ⟨he, hc⟩
  · left
    obtain ⟨hn, hX, hgX⟩ := app_zero h0 he
    have hK := kept_put hm hk hgX
    have hm' : m < (putT T m k (-1)).length := by rw [putT_len]; exact hm
    have hk' : k < (putT T m k (-1)).length := by rw [putT_len]; exact hk
    have hp : par (putT T m k (-1)) k = m := by rw [par_put hm hk, if_pos rfl]
    refine ⟨he, by rw [← hcb]; unfold cycB; exact decide_eq_false hn, ?_⟩
    rw [hX]
    refine ⟨hK, ?_, askI_ok hgX (by simp; omega), (bel_keep hg hK ht hk).1, (bel_keep hg hK ht hk).2, hp⟩
    rw [bel_iff hgX hk' hm', hp]
    exact decide_eq_true (anc_self_mem hgX hm')
  · exact .inr ⟨he, by rw [← hcb]; unfold cycB; exact decide_eq_true hc⟩
structure Bef (T Y : List ANode) (k m th p : Nat) : Prop where
  kept : Kept T Y k
  ask3 : askI Y [(th : Int), (k : Int)] = 0
  still : belE Y th k = belE T th k
  par' : par Y k = p
  parT : par T m = p
theorem bef_cases {T : List ANode} {k m th : Nat} (h0 : moveI T k m = 0) (ht : th < T.length) : (befE T k m = 0 ∧ ∃ p, Bef T (befT T k m) k m th p) ∨ (befE T k m == 0) = false := by
  by_cases he : befE T k m = 0
  · left
    obtain ⟨hg, hir, hjr⟩ := moveI_zero h0
    obtain ⟨p, hp, hpl, hkm, hn, hX, hgX⟩ := bef_zero h0 he
    have hk : k < T.length := by omega
    have hK := kept_put hpl hk hgX
    refine ⟨he, p, ?_⟩
    rw [hX]
    exact ⟨hK, (bel_keep hg hK ht hk).1, (bel_keep hg hK ht hk).2, by rw [par_put hpl hk, if_pos rfl], hp⟩
  · exact .inr (by simpa using he)
structure Tak (T Z : List ANode) (k th : Nat) : Prop where
  kept : Kept T Z k
  ask3 : askI Z [(th : Int), (k : Int)] = 0
  still : belE Z th k = belE T th k
  par' : par Z k = -1
theorem tak_cases {T : List ANode} {k th : Nat} (h0 : moveI T k k = 0) (ht : th < T.length) : (takeE T k = 0 ∧ Tak T (takeT T k) k th) ∨ (takeE T k = 6 ∧ par T k = -1) := by
  obtain ⟨hg, hir, -⟩ := moveI_zero h0
  have hk : k < T.length := by omega
  by_cases hp : par T k < 0
  · exact .inr ⟨(tak_six h0 hp).1, by have := (good_par hg hk).1; omega⟩
  · left
    obtain ⟨he, hX, hgX⟩ := tak_zero h0 hp
    have hK := kept_taken hk hgX
    refine ⟨he, ?_⟩
    rw [hX]
    exact ⟨hK, (bel_keep hg hK ht hk).1, (bel_keep hg hK ht hk).2, by rw [par_taken hk, if_pos rfl]⟩

set_option maxRecDepth 100000 in
set_option maxHeartbeats 4000000 in
theorem walk (A : Option Addr) (n c : Nat) (T : List ANode) (i j t : Int) (w : World) (h : IsTree w A n T) :
    Calls Try.prog 6 #[.agg #[.slice A n c], .int .i64 i, .int .i64 j, .int .i64 t] w fun e w' => e = .returned (.bool true) ∧ Below w.heap.size w w' := by
  have ho := hide h.2.2.2
  have hT := hide h
  have hl := h.1
  clear h
  have hB0 := below_alloc (Below.refl w.heap.size w) (.cells #[.slice A n c] 24)
  have hbox0 : (w.alloc (.cells #[.slice A n c] 24)).cell? ⟨w.heap.size, 0, none⟩ = some (.slice A n c) := by go_simp
  by_cases h0 : moveI T i j = 0
  · obtain ⟨hg, hir, hjr⟩ := moveI_zero h0
    obtain ⟨k, rfl⟩ := Int.eq_ofNat_of_zero_le (by omega : 0 ≤ i)
    obtain ⟨m, rfl⟩ := Int.eq_ofNat_of_zero_le hjr.1
    have hk : k < n := by omega
    have hm : m < n := by omega
    have hq0 : (moveI T k m != 0) = false := by simp [h0]
    by_cases h1 : askI T [t] = 0
    · have hq1 : (askI T [t] != 0) = false := by simp [h1]
      have htr := (askI_zero.1 h1).2 t (by simp)
      obtain ⟨th, rfl⟩ := Int.eq_ofNat_of_zero_le htr.1
      have htT : th < T.length := by omega
      obtain ⟨b, off, aA, cA, aC, cC, rfl, hbl, -, -, c2, -, -, -⟩ := ho.out (by omega)
      have c2k := hide (c2 k hk)
      have c2m := hide (c2 m hm)
      have hn64 : n ≤ 64 := by have := ((goodB_iff T).1 hg).2.1; omega
      have hfT := hide (good_fits hg)
      have hAk := app_cases h0 htT
      have hBk := bef_cases h0 htT
      have hZk := tak_cases (move_self h0) htT
      have ha1 : askI T [(m : Int), (k : Int)] = 0 := askI_ok hg (by simp; omega)
      have ha2 : askI T [(th : Int), (k : Int)] = 0 := askI_ok hg (by simp; omega)
      have ha1' := hide ha1
      have ha2' := hide ha2
      obtain ⟨X, hX0⟩ : ∃ X, appT T m k = X := ⟨_, rfl⟩
      obtain ⟨Y, hY0⟩ : ∃ Y, befT T k m = Y := ⟨_, rfl⟩
      obtain ⟨Z, hZ0⟩ : ∃ Z, takeT T k = Z := ⟨_, rfl⟩
      obtain ⟨e1, he1⟩ : ∃ e, appE T m k = e := ⟨_, rfl⟩
      obtain ⟨e2, he2⟩ : ∃ e, befE T k m = e := ⟨_, rfl⟩
      obtain ⟨e3, he3⟩ : ∃ e, takeE T k = e := ⟨_, rfl⟩
      obtain ⟨p, hp⟩ : ∃ p, X.length = p := ⟨_, rfl⟩
      obtain ⟨q, hq⟩ : ∃ q, Y.length = q := ⟨_, rfl⟩
      obtain ⟨r, hr⟩ : ∃ r, Z.length = r := ⟨_, rfl⟩
      obtain ⟨bm, hbm⟩ : ∃ r, belE T m k = r := ⟨_, rfl⟩
      obtain ⟨bt, hbt⟩ : ∃ r, belE T th k = r := ⟨_, rfl⟩
      rw [hX0, he1, hbm] at hAk
      rw [hY0, he2] at hBk
      rw [hZ0, he3] at hZk
      have hX := hide hX0
      have hY := hide hY0
      have hZ := hide hZ0
      have hE1 := hide he1
      have hE2 := hide he2
      have hE3 := hide he3
      have hp' := hide hp
      have hq' := hide hq
      have hr' := hide hr
      have hbm' := hide hbm
      have hbt' := hide hbt
      clear c2 ho hX0 hY0 hZ0 he1 he2 he3 h0 h1 hg hir hjr hp hq hr hbm hbt ha1 ha2 htr
      go_enter Try.func6, Try.ntmps6
      go_wp2_with fail
      refine (alive15_ok _).mono ?_
      rintro e w1 ⟨rfl, hb1⟩
      have hbox1 := cell_later hb1 hbox0
      have hB1 := Below.on hB0 hb1
      go_wp2_with fail
      refine (rmask_ok _ _ _ T _ _ _ (hT.out.below hB1)).mono ?_
      rintro e w2 ⟨rfl, hb2⟩
      have hbox2 := cell_later hb2 hbox1
      have hB2 := Below.on hB1 hb2
      go_wp2_with fail
      refine (rasked_ok _ _ _ T _ _ (hT.out.below hB2)).mono ?_
      rintro e w3 ⟨rfl, hb3⟩
      have hbox3 := cell_later hb3 hbox2
      have hB3 := Below.on hB2 hb3
      go_wp2_with fail
      have hx := append_ok _ _ c T m k _ (hT.out.below hB3)
      rw [hX.out, hE1.out] at hx
      refine hx.mono ?_
      clear hx
      rintro e w4 ⟨A4, c4, rfl, -, hR, hb4⟩
      rw [hp'.out] at hR ⊢
      have hlt4 : w.heap.size < w4.heap.size := Nat.lt_of_lt_of_le (cell_in hbox3) hb4.size
      have hz4 := below_alloc hb4 (.cells #[.slice A4 p c4] 24)
      have hbox4 := cell_later hz4 hbox3
      have hB4 := Below.on hB3 hz4
      have b_x4 : (w4.alloc (.cells #[.slice A4 p c4] 24)).cell? ⟨w4.heap.size, 0, none⟩ = some (.slice A4 p c4) := by clear hbox4; go_simp
      have t_x4 := hide (hR.below (below_alloc (Below.refl _ _) (.cells #[.slice A4 p c4] 24)))
      clear hz4 hbox3 hB3 hR hb4
      go_wp2_with fail
      have hx := below_ok _ _ c T m k _ (hT.out.below hB4)
      rw [hbm'.out, ha1'.out] at hx
      refine hx.mono ?_
      clear hx
      rintro e w5 ⟨rfl, hz5⟩
      have hbox5 := cell_later hz5 hbox4
      have hB5 := Below.on hB4 hz5
      have b_x5 := cell_later hz5 b_x4
      have t_x5 := hide (t_x4.out.below hz5)
      clear hz5 hbox4 hB4 b_x4 t_x4
      go_wp2_with fail
      have hx := below_ok _ _ c T th k _ (hT.out.below hB5)
      rw [hbt'.out, ha2'.out] at hx
      refine hx.mono ?_
      clear hx
      rintro e w6 ⟨rfl, hz6⟩
      have hbox6 := cell_later hz6 hbox5
      have hB6 := Below.on hB5 hz6
      have b_x6 := cell_later hz6 b_x5
      have t_x6 := hide (t_x5.out.below hz6)
      clear hz6 hbox5 hB5 b_x5 t_x5
      have hbase := hide (Below.refl w6.heap.size w6)
      have hcond : (e1 = 0 ∧ bm = false ∧ ((m : Int) == (k : Int)) = false ∧ App T X k m th) ∨ (e1 = 40 ∧ bm = true) ∨ (e1 = 40 ∧ bm = false ∧ ((m : Int) == (k : Int)) = true) := by
        rcases hAk with ⟨h1, h2, h3⟩ | ⟨h1, h2⟩
        · rw [Bool.or_eq_false_iff] at h2
          exact .inl ⟨h1, h2.1, by have := of_decide_eq_false h2.2; simp; omega, h3⟩
        · rw [Bool.or_eq_true] at h2
          rcases h2 with h2 | h2
          · exact .inr (.inl ⟨h1, h2⟩)
          · cases bm
            · exact .inr (.inr ⟨h1, rfl, by have := of_decide_eq_true h2; simp [this]⟩)
            · exact .inr (.inl ⟨h1, rfl⟩)
      clear hAk
      go_upto_region 7 with fail
      go_cut [90] from 66 to 138 (fun v wx => v = .bool false ∧ wx = w6)
      case first =>
        rcases hcond with ⟨rfl, rfl, hmk, -⟩ | ⟨rfl, rfl⟩ | ⟨rfl, rfl, hmk⟩
        · go_wp2_with fail
          go_meet
          exact ⟨rfl, rfl⟩
        · go_wp2_with fail
          go_meet
          exact ⟨rfl, rfl⟩
        · go_wp2_with fail
          go_meet
          exact ⟨rfl, rfl⟩
      case rest =>
      obtain ⟨rfl, rfl⟩ := hcut
      clear hbase
      go_upto_if 92 with (fail)
      go_cut [] from 93 to 138 (fun wx => Below w.heap.size w wx ∧ wx.cell? ⟨w.heap.size, 0, none⟩ = some (.slice (some ⟨b, off, none⟩) n c))
      case first =>
        have hcond' : (e1 = 0 ∧ App T X k m th) ∨ (e1 == 0) = false := by
          rcases hcond with ⟨h1, -, -, h2⟩ | ⟨h1, -⟩ | ⟨h1, -⟩
          · exact .inl ⟨h1, h2⟩
          · exact .inr (by rw [h1]; rfl)
          · exact .inr (by rw [h1]; rfl)
        clear hcond
        rcases hcond' with ⟨rfl, G⟩ | hne
        · obtain rfl : n = p := by rw [← hp'.out, G.kept.len, hl]
          have g1 := hide G.is'
          have g2 := hide G.ask
          have g3 := hide (G.still.trans hbt'.out)
          have g4 := hide G.ask3
          have g5 := hide G.par'
          have gK := hide G.kept
          have hfX := hide (good_fits gK.out.good)
          clear G hBk hZk
          go_wp2_with fail
          have hx := below_ok _ _ c4 X k m _ t_x6.out
          rw [g1.out, g2.out] at hx
          refine hx.mono ?_
          clear hx
          rintro e w7 ⟨rfl, hz7⟩
          have hbox7 := cell_later hz7 hbox6
          have hB7 := Below.on hB6 hz7
          have b_x7 := cell_later hz7 b_x6
          have t_x7 := hide (t_x6.out.below hz7)
          clear hz7 hbox6 hB6 b_x6 t_x6
          go_wp2_with fail
          have hx := below_ok _ _ c4 X th k _ t_x7.out
          rw [g3.out, g4.out] at hx
          refine hx.mono ?_
          clear hx
          rintro e w8 ⟨rfl, hz8⟩
          have hbox8 := cell_later hz8 hbox7
          have hB8 := Below.on hB7 hz8
          have b_x8 := cell_later hz8 b_x7
          have t_x8 := hide (t_x7.out.below hz8)
          clear hz8 hbox7 hB7 b_x7 t_x7
          go_wp2_with fail
          refine (kept_ok _ _ n c c4 T X k _ (hT.out.below hB8) t_x8.out gK.out hn64 hfT.out hfX.out).mono ?_
          rintro e w9 ⟨rfl, hz9⟩
          have hbox9 := cell_later hz9 hbox8
          have hB9 := Below.on hB8 hz9
          have b_x9 := cell_later hz9 b_x8
          have t_x9 := hide (t_x8.out.below hz9)
          clear hz9 hbox8 hB8 b_x8 t_x8
          obtain ⟨-, -, -, hx⟩ := t_x9.out
          obtain ⟨bx, ox, xaA, xcA, xaC, xcC, rfl, hbx, -, -, x2, -, -, -⟩ := hx (by omega)
          have x2k := x2 k hk
          rw [g5.out] at x2k
          clear hx x2 t_x9
          have hB9' := hide hB9
          have hbox9' := hide hbox9
          clear hB9 hbox9
          go_wp2_with fail
          go_meet
          exact ⟨hB9'.out, hbox9'.out⟩
        · have hB9' := hide hB6
          have hbox9' := hide hbox6
          clear hB6 hbox6
          go_wp2_with fail
          go_meet
          exact ⟨hB9'.out, hbox9'.out⟩
      case rest =>
      obtain ⟨hB7, hbox7⟩ := hcut
      clear hcond hB6 hbox6 t_x6 b_x6 hX hE1 hp' hbm'
      generalize wc = w7 at *
      go_wp2_with fail
      have hx := before_ok _ _ c T k m _ (hT.out.below hB7)
      rw [hY.out, hE2.out] at hx
      refine hx.mono ?_
      clear hx
      rintro e w8 ⟨A8, c8, rfl, -, hR, hb8⟩
      rw [hq'.out] at hR ⊢
      have hlt8 : w.heap.size < w8.heap.size := Nat.lt_of_lt_of_le (cell_in hbox7) hb8.size
      have hz8 := below_alloc hb8 (.cells #[.slice A8 q c8] 24)
      have hbox8 := cell_later hz8 hbox7
      have hB8 := Below.on hB7 hz8
      have b_y8 : (w8.alloc (.cells #[.slice A8 q c8] 24)).cell? ⟨w8.heap.size, 0, none⟩ = some (.slice A8 q c8) := by clear hbox8; go_simp
      have t_y8 := hide (hR.below (below_alloc (Below.refl _ _) (.cells #[.slice A8 q c8] 24)))
      clear hz8 hbox7 hB7 hR hb8
      go_upto_if 147 with (fail)
      go_cut [] from 148 to 183 (fun wx => Below w.heap.size w wx ∧ wx.cell? ⟨w.heap.size, 0, none⟩ = some (.slice (some ⟨b, off, none⟩) n c))
      case first =>
        rcases hBk with ⟨rfl, p1, G⟩ | hne
        · obtain rfl : n = q := by rw [← hq'.out, G.kept.len, hl]
          have g3 := hide (G.still.trans hbt'.out)
          have g4 := hide G.ask3
          have g5 := hide G.par'
          have g6 := hide G.parT
          have gK := hide G.kept
          have hfY := hide (good_fits gK.out.good)
          clear G hZk
          go_wp2_with fail
          have hx := below_ok _ _ c8 Y th k _ t_y8.out
          rw [g3.out, g4.out] at hx
          refine hx.mono ?_
          clear hx
          rintro e w9 ⟨rfl, hz9⟩
          have hbox9 := cell_later hz9 hbox8
          have hB9 := Below.on hB8 hz9
          have b_y9 := cell_later hz9 b_y8
          have t_y9 := hide (t_y8.out.below hz9)
          clear hz9 hbox8 hB8 b_y8 t_y8
          obtain ⟨-, -, -, hx⟩ := t_y9.out
          obtain ⟨bx, ox, xaA, xcA, xaC, xcC, rfl, hbx, -, -, x2, -, -, -⟩ := hx (by omega)
          have x2k := x2 k hk
          rw [g5.out] at x2k
          have gm := (old hB9 _ _ hbl).trans c2m.out
          rw [g6.out] at gm
          have hkp := hide (kept_ok (some ⟨b, off, none⟩) _ n c c8 T Y k w9 (hT.out.below hB9) t_y9.out gK.out hn64 hfT.out hfY.out)
          have hkp2 := hide (kept_ok (some ⟨b, off, none⟩) _ n c c8 T Y k w9.drew ((hT.out.below hB9).below (Below.refl _ _).drew) (t_y9.out.below (Below.refl _ _).drew) gK.out hn64 hfT.out hfY.out)
          clear hx x2 t_y9
          have hB9' := hide hB9
          have hbox9' := hide hbox9
          go_wp2
          clear hfT hfY hT hZ hE3 hr' hbt' c2k c2m hkp hbl htT hbx hl
          have j0 : (0 : Int) ≤ (k : Int) := by omega
          have j1 : (k : Int) < (n : Int) := by omega
          have j2 : (0 : Int) ≤ (m : Int) := by omega
          have j3 : (m : Int) < (n : Int) := by omega
          go_region_held3 (fun V => V.cell? ⟨w.heap.size, 0, none⟩ = some (.slice (some ⟨b, off, none⟩) n c) ∧ V.cell? ⟨w8.heap.size, 0, none⟩ = some (.slice (some ⟨bx, ox, none⟩) n c8) ∧ V.cell? ⟨bx, ox + k * 4 + 2, none⟩ = some (.int .i64 p1) ∧ V.cell? ⟨b, off + m * 4 + 2, none⟩ = some (.int .i64 p1)) (first | exact ⟨hbox9, b_y9, x2k, gm⟩ | exact ⟨r1, r2, r3, r4⟩) (first | (go_at_call 25; (with_reducible refine hkp2.out.mono ?_); rintro e w10 ⟨rfl, hb10⟩; have r1 := cell_later hb10 hbox9; have r2 := cell_later hb10 b_y9; have r3 := cell_later hb10 x2k; have r4 := cell_later hb10 gm))
          all_goals
            have hBm := hide (Below.on hB9'.out.drew hb10)
            have hbm := hide r1
            clear hB9 hbox9 hb10 hkp2
            go_wp2_with fail
            go_meet
            exact ⟨hBm.out, hbm.out⟩
        · have hB9' := hide hB8
          have hbox9' := hide hbox8
          clear hB8 hbox8
          go_wp2_with fail
          go_meet
          exact ⟨hB9'.out, hbox9'.out⟩
      case rest =>
      obtain ⟨hB9, hbox9⟩ := hcut
      clear hBk hB8 hbox8 t_y8 b_y8 hY hE2 hq'
      generalize wc = w9 at *
      go_wp2_with fail
      have hx := take_ok _ _ c T k _ (hT.out.below hB9)
      rw [hZ.out, hE3.out] at hx
      refine hx.mono ?_
      clear hx
      rintro e w10 ⟨A10, c10, rfl, -, hR, hb10⟩
      rw [hr'.out] at hR ⊢
      have hlt10 : w.heap.size < w10.heap.size := Nat.lt_of_lt_of_le (cell_in hbox9) hb10.size
      have hz10 := below_alloc hb10 (.cells #[.slice A10 r c10] 24)
      have hbox10 := cell_later hz10 hbox9
      have hB10 := Below.on hB9 hz10
      have b_z10 : (w10.alloc (.cells #[.slice A10 r c10] 24)).cell? ⟨w10.heap.size, 0, none⟩ = some (.slice A10 r c10) := by clear hbox10; go_simp
      have t_z10 := hide (hR.below (below_alloc (Below.refl _ _) (.cells #[.slice A10 r c10] 24)))
      clear hz10 hbox9 hB9 hR hb10
      rcases hZk with ⟨rfl, G⟩ | ⟨rfl, hp1⟩
      · obtain rfl : n = r := by rw [← hr'.out, G.kept.len, hl]
        have g3 := hide (G.still.trans hbt'.out)
        have g4 := hide G.ask3
        have g5 := hide G.par'
        have gK := hide G.kept
        have hfZ := hide (good_fits gK.out.good)
        clear G
        go_wp2_with fail
        have hx := below_ok _ _ c10 Z th k _ t_z10.out
        rw [g3.out, g4.out] at hx
        refine hx.mono ?_
        clear hx
        rintro e w11 ⟨rfl, hz11⟩
        have hbox11 := cell_later hz11 hbox10
        have hB11 := Below.on hB10 hz11
        have b_z11 := cell_later hz11 b_z10
        have t_z11 := hide (t_z10.out.below hz11)
        clear hz11 hbox10 hB10 b_z10 t_z10
        go_wp2_with fail
        refine (kept_ok _ _ n c c10 T Z k _ (hT.out.below hB11) t_z11.out gK.out hn64 hfT.out hfZ.out).mono ?_
        rintro e w12 ⟨rfl, hz12⟩
        have hbox12 := cell_later hz12 hbox11
        have hB12 := Below.on hB11 hz12
        have b_z12 := cell_later hz12 b_z11
        have t_z12 := hide (t_z11.out.below hz12)
        clear hz12 hbox11 hB11 b_z11 t_z11
        obtain ⟨-, -, -, hx⟩ := t_z12.out
        obtain ⟨bx, ox, xaA, xcA, xaC, xcC, rfl, hbx, -, -, x2, -, -, -⟩ := hx (by omega)
        have x2k := x2 k hk
        rw [g5.out] at x2k
        clear hx x2 t_z12
        go_wp2
        go_ret
        exact ⟨rfl, hB12⟩
      · have gk := (old hB10 _ _ hbl).trans c2k.out
        rw [hp1] at gk
        clear hp1
        go_wp2
        go_ret
        exact ⟨rfl, hB10⟩
    · have hq1 : (askI T [t] != 0) = true := by simp [h1]
      clear h0 h1 hg hir hjr
      go_enter Try.func6, Try.ntmps6
      go_wp2_with fail
      refine (alive15_ok _).mono ?_
      rintro e w1 ⟨rfl, hb1⟩
      have hbox1 := cell_later hb1 hbox0
      have hB1 := Below.on hB0 hb1
      go_wp2_with fail
      refine (rmask_ok _ _ _ T _ _ _ (hT.out.below hB1)).mono ?_
      rintro e w2 ⟨rfl, hb2⟩
      have hbox2 := cell_later hb2 hbox1
      have hB2 := Below.on hB1 hb2
      go_wp2_with fail
      refine (rasked_ok _ _ _ T _ _ (hT.out.below hB2)).mono ?_
      rintro e w3 ⟨rfl, hb3⟩
      have hbox3 := cell_later hb3 hbox2
      have hB3 := Below.on hB2 hb3
      go_wp2
      go_ret
      exact ⟨rfl, hB3⟩
  · have hq0 : (moveI T i j != 0) = true := by simp [h0]
    clear h0
    go_enter Try.func6, Try.ntmps6
    go_wp2_with fail
    refine (alive15_ok _).mono ?_
    rintro e w1 ⟨rfl, hb1⟩
    have hbox1 := cell_later hb1 hbox0
    have hB1 := Below.on hB0 hb1
    go_wp2_with fail
    refine (rmask_ok _ _ _ T _ _ _ (hT.out.below hB1)).mono ?_
    rintro e w2 ⟨rfl, hb2⟩
    have hbox2 := cell_later hb2 hbox1
    have hB2 := Below.on hB1 hb2
    go_wp2
    go_ret
    exact ⟨rfl, hB2⟩

set_option maxRecDepth 100000 in
theorem lifted (os : Os) (started : os.Started) (H : Type) (enc : TypeId × Value → H) :
    ReturnsInHanded {} Try.checked os 6 .any (Rows.mutateBelowSpec.pre6 enc Try.prog Try.f6 Rows.mutateBelowRow.domain false) (Rows.mutateBelowSpec.post enc Try.prog Try.f6 false true false false) := by
  refine returnsInHanded_of_change (C := Try.checked) own started (by kernel_rfl) Try.func6
    (ChangeSpec.witness6 (enc := enc) (C := Try.checked) false ⟨#[], #[.agg #[.slice none 0 0], .int .i64 0, .int .i64 0, .int .i64 0], []⟩ 8 (by kernel_rfl) (by kernel_rfl) (by kernel_rfl) (by kernel_rfl)) ?_
  intro W base args ds gs before hval0 hW hcnd _
  have hval : ∀ (j : Nat) t v, Try.f6.params[j]? = some t → args[j]? = some v → Value.okWide Try.prog W .any base t v := hval0
  have hW' := hW
  obtain ⟨p, q, hA0, hV, rfl, hfz, hnd⟩ := hW
  have hA : DataW.TrodAll enc Try.prog W 0 (fun _ => true) true Try.f6.params.toList args.toList ds p := hA0
  rw [Try.params6] at hA hval
  obtain ⟨v0, vs0, d0, ds0, p0, q0, hargs, rfl, rfl, h0, r0⟩ := trodAll_cons hA
  obtain ⟨v1, vs1, d1, ds1, p1, q1, rfl, rfl, rfl, h1, r1⟩ := trodAll_cons r0
  obtain ⟨v2, vs2, d2, ds2, p2, q2, rfl, rfl, rfl, h2, r2⟩ := trodAll_cons r1
  obtain ⟨v3, vs3, d3, ds3, p3, q3, rfl, rfl, rfl, h3, r3⟩ := trodAll_cons r2
  obtain ⟨rfl, rfl, rfl⟩ := trodAll_nil r3
  obtain rfl : args = #[v0, v1, v2, v3] := by cases args; simp_all
  obtain ⟨rfl, rfl⟩ := trodVars_none hV
  have lt0 : ∀ x ∈ p0, x.block < W.heap.size := by obtain ⟨m, hm⟩ := h0; exact DataW.trod_lt m _ _ _ hm
  have k0 := h0
  have lt1 : ∀ x ∈ p1, x.block < W.heap.size := by obtain ⟨m, hm⟩ := h1; exact DataW.trod_lt m _ _ _ hm
  have k1 := h1
  have lt2 : ∀ x ∈ p2, x.block < W.heap.size := by obtain ⟨m, hm⟩ := h2; exact DataW.trod_lt m _ _ _ hm
  have k2 := h2
  have lt3 : ∀ x ∈ p3, x.block < W.heap.size := by obtain ⟨m, hm⟩ := h3; exact DataW.trod_lt m _ _ _ hm
  have k3 := h3
  obtain ⟨A0, n0, c0, T0, rfl, hT0⟩ := tree_open (hval 0 _ v0 rfl rfl) h0
  obtain ⟨a1, rfl, rfl, rfl, w1⟩ := open_int Try.underlying3 (hval 1 _ v1 rfl rfl) h1
  obtain ⟨a2, rfl, rfl, rfl, w2⟩ := open_int Try.underlying3 (hval 2 _ v2 rfl rfl) h2
  obtain ⟨a3, rfl, rfl, rfl, w3⟩ := open_int Try.underlying3 (hval 3 _ v3 rfl rfl) h3
  clear hA0 hval0
  refine (walk A0 n0 c0 T0 a1 a2 a3 W hT0   ).mono fun e W' ⟨he, bel⟩ => ?_
  subst he
  exact ⟨_, rfl, _, _, _, [], _, [], hW', trodAll_mk1 (shut_bool Try.underlying4 _), (trodAll_cons_mk (Below.trod laidOut (by kernel_rfl) (of_decide_eq_true (by kernel_rfl)) k0 bel lt0) (trodAll_cons_mk (Below.trod laidOut (by kernel_rfl) (of_decide_eq_true (by kernel_rfl)) k1 bel lt1) (trodAll_cons_mk (Below.trod laidOut (by kernel_rfl) (of_decide_eq_true (by kernel_rfl)) k2 bel lt2) (trodAll_cons_mk (Below.trod laidOut (by kernel_rfl) (of_decide_eq_true (by kernel_rfl)) k3 bel lt3) trodAll_mk0)))), rfl, bel.frame _, fun h => by cases h⟩

theorem proved : Rows.MutateBelowSaid :=
  OpenClaim.holds_of_wide 6 Try.f6 rfl rfl rfl rfl rfl rfl rfl ⟨rfl, rfl, rfl, rfl, rfl⟩ rfl rfl rfl rfl rfl (by kernel_rfl) Try.func6 (by kernel_rfl)
    (of_decide_eq_true (by kernel_rfl)) (by unfold Func.isWrapper; first | (rw [if_pos (by decide +kernel)]; kernel_rfl) | (rw [if_neg (by decide +kernel)]; exact ⟨rfl, rfl⟩))
    (fun os started H enc _ => lifted os started H enc)
#print axioms proved
end Go.Proofs.Ytkimjpcmcfnmkaa.mutateBelow
