/- For every valid tree and two of its elements: taking out what was put gives the tree as if it had been taken out at first, and what was taken out and is put ahead of the child that it stood ahead of is where it was. No condition. -/
import Derived.Test.YtkimjpcmcfnmkaaOpen
import Derived.Test.YtkimjpcmcfnmkaaEx15
import Derived.Test.YtkimjpcmcfnmkaaPlr
import Derived.Test.YtkimjpcmcfnmkaaWl
import Derived.Deep.CutRange
namespace Go.Proofs.Ytkimjpcmcfnmkaa.mutateBack
open Go.ChangeShapes Go.WideShapes Go.ChangeAt Go.RowKit

theorem app_taken {T : List ANode} {k m : Nat} (h0 : moveI T k m = 0) : (appE T m k = 0 ∧ (appT T m k).length = T.length ∧ takeE (appT T m k) k = 0 ∧ takeT (appT T m k) k = takenT T k) ∨ (appE T m k == 0) = false := by
  by_cases he : appE T m k = 0
  · left
    obtain ⟨hg, hir, hjr⟩ := moveI_zero h0
    obtain ⟨hn, hX, hgX⟩ := app_zero h0 he
    have hm : m < T.length := by omega
    have hk : k < T.length := by omega
    have hkk : moveI (putT T m k (-1)) k k = 0 := moveI_ok hgX (by rw [putT_len]; omega) (by rw [putT_len]; omega)
    have ht := tak_zero hkk (by rw [par_put hm hk, if_pos rfl]; omega)
    exact ⟨he, by rw [hX, putT_len], by rw [hX]; exact ht.1, by rw [hX, ht.2.1, taken_put hm hk]⟩
  · exact .inr (by simpa using he)

set_option maxRecDepth 100000 in
set_option maxHeartbeats 4000000 in
theorem walk (A : Option Addr) (n c : Nat) (T : List ANode) (i j : Int) (w : World) (h : IsTree w A n T) :
    Calls Try.prog 7 #[.agg #[.slice A n c], .int .i64 i, .int .i64 j] w fun e w' => e = .returned (.bool true) ∧ Below w.heap.size w w' := by
  have ho := hide h.2.2.2
  have hT := hide h
  have hl := h.1
  clear h
  have hB0 := below_alloc (Below.refl w.heap.size w) (.cells #[.slice A n c] 24)
  have hbox0 : (w.alloc (.cells #[.slice A n c] 24)).cell? ⟨w.heap.size, 0, none⟩ = some (.slice A n c) := by go_simp
  by_cases h0 : moveI T i j = 0
  · obtain ⟨hg, hir, hjr⟩ := moveI_zero h0
    obtain ⟨k, rfl⟩ := Int.eq_ofNat_of_zero_le (by omega : 0 ≤ i)
    obtain ⟨m, rfl⟩ := Int.eq_ofNat_of_zero_le hjr.1
    have hkT : k < T.length := by omega
    have hk : k < n := by omega
    have hk1 : 1 ≤ k := by omega
    have hq0 : (moveI T k m != 0) = false := by simp [h0]
    obtain ⟨b, off, aA, cA, aC, cC, rfl, hbl, -, -, c2, c3, -, hC⟩ := ho.out (by omega)
    have c2' := hide (c2 k hk)
    have hn64 : n ≤ 64 := by have := ((goodB_iff T).1 hg).2.1; omega
    have hkk := move_self h0
    have hg' := hide hg
    have hAk := app_taken h0
    obtain ⟨O, hO⟩ : ∃ O, takenT T k = O := ⟨_, rfl⟩
    have hOl : Hid (O.length = n) := by show _ = _; rw [← hO, takenT_len]; exact hl
    have hZk : (takeE T k = 0 ∧ takeT T k = O ∧ ∃ (p a : Nat) (CA : Option Addr) (cc : Nat), par T k = p ∧ p < n ∧ a < (kids T p).length ∧ ix (kids T p) a = k ∧ (∀ j, j < a → ix (kids T p) j ≠ k) ∧ w.cell? ⟨b, off + p * 4 + 3, none⟩ = some (.slice CA (kids T p).length cc) ∧ IsInts w CA (kids T p).length (kids T p) ∧ (kids T p).length ≤ cc ∧ cc ≤ 9223372036854775807 ∧
        (appE O p k = 0 ∧ appT O p k = putT O p k (-1)) ∧ (a + 1 = (kids T p).length → putT O p k (-1) = T) ∧ (a + 1 < (kids T p).length → ∃ z : Nat, ix (kids T p) (a + 1) = z ∧ befE O k z = 0 ∧ befT O k z = T)) ∨ (takeE T k = 6 ∧ O = T) := by
      by_cases hp : par T k < 0
      · exact .inr ⟨(tak_six hkk hp).1, by rw [← hO]; exact (taken_top hg hkT hp).2⟩
      · left
        obtain ⟨t1, t2, t3⟩ := tak_zero hkk hp
        refine ⟨t1, by rw [t2, hO], ?_⟩
        have hpr := good_par hg hkT
        obtain ⟨p, hpe⟩ := Int.eq_ofNat_of_zero_le (by omega : 0 ≤ par T k)
        obtain ⟨a, ha1, ha2, ha3⟩ := kid_index hg hkT hpe
        have hpn : p < n := by omega
        obtain ⟨bk1, bk2⟩ := back_known hg hkT hk1 hpe
        rw [hO] at bk1
        refine ⟨p, a, cA p, cC p, hpe, hpn, ha1, ha2, ha3, c3 p hpn, (hC p hpn).1, (hC p hpn).2.1, (hC p hpn).2.2, bk1, fun h => ?_, fun h => ?_⟩
        · rw [← hO]; exact put_back hg hkT hpe ha1 ha2 (.inr ⟨h, rfl⟩)
        · have hmem := ix_mem h
          obtain ⟨z, hz, -, -⟩ := good_kid hg (by omega) hmem
          have hzk : z ≠ k := fun e => by
            have h1 : ix (kids T p) (a + 1) = ix (kids T p) a := by rw [hz, e, ha2]
            rw [ix_get h, ix_get ha1] at h1
            have := (List.nodup_iff_pairwise_ne.1 (kids_nodup hg (i := p) (by omega)))
            exact List.pairwise_iff_getElem.1 this a (a + 1) ha1 h (by omega) h1.symm
          rw [hz] at hmem
          have hb := bk2 z hmem hzk
          rw [hO] at hb
          refine ⟨z, hz, hb.1, ?_⟩
          rw [hb.2, ← hO]
          exact put_back hg hkT hpe ha1 ha2 (.inl ⟨h, hz.symm⟩)
    obtain ⟨X, hX0⟩ : ∃ X, appT T m k = X := ⟨_, rfl⟩
    obtain ⟨Z, hZ0⟩ : ∃ Z, takeT T k = Z := ⟨_, rfl⟩
    obtain ⟨e1, he1⟩ : ∃ e, appE T m k = e := ⟨_, rfl⟩
    obtain ⟨e3, he3⟩ : ∃ e, takeE T k = e := ⟨_, rfl⟩
    obtain ⟨p1, hp1⟩ : ∃ p, X.length = p := ⟨_, rfl⟩
    obtain ⟨r, hr⟩ : ∃ r, Z.length = r := ⟨_, rfl⟩
    rw [hX0, he1, hO, hl] at hAk
    rw [hZ0, he3] at hZk
    have hX := hide hX0
    have hZ := hide hZ0
    have hE1 := hide he1
    have hE3 := hide he3
    have hp1' := hide hp1
    have hr' := hide hr
    clear c2 c3 hC ho hX0 hZ0 he1 he3 h0 hg hir hjr hO hkk hr
    go_enter Try.func7, Try.ntmps7
    go_wp2_with fail
    refine (alive15_ok _).mono ?_
    rintro e w1 ⟨rfl, hb1⟩
    have hbox1 := cell_later hb1 hbox0
    have hB1 := Below.on hB0 hb1
    go_wp2_with fail
    refine (rmask_ok _ _ _ T _ _ _ (hT.out.below hB1)).mono ?_
    rintro e w2 ⟨rfl, hb2⟩
    have hbox2 := cell_later hb2 hbox1
    have hB2 := Below.on hB1 hb2
    go_wp2_with fail
    have hx := take_ok _ _ c T k _ (hT.out.below hB2)
    rw [hZ.out, hE3.out] at hx
    refine hx.mono ?_
    clear hx
    rintro e w3 ⟨A3, c3, rfl, -, hR, hb3⟩
    rw [hr'.out] at hR ⊢
    have hlt3 : w.heap.size < w3.heap.size := Nat.lt_of_lt_of_le (cell_in hbox2) hb3.size
    have hBw3 := hide (Below.on hB2 hb3)
    have hbw3 := hide (cell_later hb3 hbox2)
    have hR3 := hide hR
    clear hb3 hB2 hbox2 hR
    have hbox3 : (w3.alloc (.cells #[.slice A3 r c3] 24)).cell? ⟨w.heap.size, 0, none⟩ = some (.slice (some ⟨b, off, none⟩) n c) := cell_later (below_alloc (Below.refl _ _) _) hbw3.out
    go_upto_if 37 with (fail)
    go_cut [] from 38 to 38 (fun wx => Below w.heap.size w wx ∧ wx.cell? ⟨w.heap.size, 0, none⟩ = some (.slice (some ⟨b, off, none⟩) n c) ∧ ∃ A' c', wx.cell? ⟨w3.heap.size, 0, none⟩ = some (.slice A' n c') ∧ IsTree wx A' n O)
    case first =>
      rcases hZk with ⟨rfl, rfl, -⟩ | ⟨rfl, rfl⟩
      · obtain rfl : n = r := by rw [← hr'.out, hOl.out]
        go_wp2_with fail
        go_meet
        exact ⟨below_alloc hBw3.out _, cell_later (below_alloc (Below.refl _ _) _) hbw3.out, A3, c3, (blk_cell (blk_new w3 _ _) 0).trans rfl, hR3.out.below (below_alloc (Below.refl _ _) _)⟩
      · go_wp2_with fail
        go_meet
        exact ⟨below_alloc hBw3.out _, cell_later (below_alloc (Below.refl _ _) _) hbw3.out, _, _, (blk_cell (blk_new w3 _ _) 0).trans rfl, hT.out.below (below_alloc hBw3.out _)⟩
    case rest =>
    obtain ⟨hB4, hbox4, A', c', b_out4, t⟩ := hcut
    have t_out4 := hide t
    clear t hBw3 hbw3 hR3 hr' hbox3
    generalize wc = w4 at *
    go_wp2_with fail
    have hx := append_ok _ _ c T m k _ (hT.out.below hB4)
    rw [hX.out, hE1.out] at hx
    refine hx.mono ?_
    clear hx
    rintro e w5 ⟨A5, c5, rfl, -, hR, hb5⟩
    rw [hp1'.out] at hR ⊢
    have hlt5 : w.heap.size < w5.heap.size := Nat.lt_of_lt_of_le (cell_in hbox4) hb5.size
    have hz5 := below_alloc hb5 (.cells #[.slice A5 p1 c5] 24)
    have hbox5 := cell_later hz5 hbox4
    have hB5 := Below.on hB4 hz5
    have b_out5 := cell_later hz5 b_out4
    have t_out5 := hide (t_out4.out.below hz5)
    have b_x5 : (w5.alloc (.cells #[.slice A5 p1 c5] 24)).cell? ⟨w5.heap.size, 0, none⟩ = some (.slice A5 p1 c5) := by clear hbox5 b_out5; go_simp
    have t_x5 := hide (hR.below (below_alloc (Below.refl _ _) (.cells #[.slice A5 p1 c5] 24)))
    clear hz5 hbox4 hB4 b_out4 t_out4 hR hb5
    go_upto_if 47 with (fail)
    go_cut [] from 48 to 61 (fun wx => Below w.heap.size w wx ∧ wx.cell? ⟨w.heap.size, 0, none⟩ = some (.slice (some ⟨b, off, none⟩) n c) ∧ wx.cell? ⟨w3.heap.size, 0, none⟩ = some (.slice A' n c') ∧ IsTree wx A' n O)
    case first =>
      rcases hAk with ⟨rfl, hx1, hx2, hx3⟩ | hne
      · have hE9 := hide hx2
        have hX9 := hide hx3
        clear hx1 hx2 hx3 hZk
        go_wp2_with fail
        have hx := take_ok _ _ c5 X k _ t_x5.out
        rw [hX9.out, hE9.out] at hx
        refine hx.mono ?_
        clear hx
        rintro e w6 ⟨A6, c6, rfl, -, hR, hb6⟩
        rw [hOl.out] at hR ⊢
        have hlt6 : w.heap.size < w6.heap.size := Nat.lt_of_lt_of_le (cell_in hbox5) hb6.size
        have hz6 := below_alloc hb6 (.cells #[.slice A6 n c6] 24)
        have hbox6 := cell_later hz6 hbox5
        have hB6 := Below.on hB5 hz6
        have b_out6 := cell_later hz6 b_out5
        have t_out6 := hide (t_out5.out.below hz6)
        have b_x6 := cell_later hz6 b_x5
        have t_x6 := hide (t_x5.out.below hz6)
        have b_y6 : (w6.alloc (.cells #[.slice A6 n c6] 24)).cell? ⟨w6.heap.size, 0, none⟩ = some (.slice A6 n c6) := by clear hbox6 b_out6 b_x6; go_simp
        have t_y6 := hide (hR.below (below_alloc (Below.refl _ _) (.cells #[.slice A6 n c6] 24)))
        clear hz6 hbox5 hB5 b_out5 t_out5 b_x5 t_x5 hR hb6
        go_wp2_with fail
        refine (same_ok _ _ n _ _ O _ t_y6.out t_out6.out).mono ?_
        rintro e w7 ⟨rfl, hz7⟩
        have hbox7 := cell_later hz7 hbox6
        have hB7 := Below.on hB6 hz7
        have b_out7 := cell_later hz7 b_out6
        have t_out7 := hide (t_out6.out.below hz7)
        have b_x7 := cell_later hz7 b_x6
        have t_x7 := hide (t_x6.out.below hz7)
        have b_y7 := cell_later hz7 b_y6
        have t_y7 := hide (t_y6.out.below hz7)
        clear hz7 hbox6 hB6 b_out6 t_out6 b_x6 t_x6 b_y6 t_y6
        have hB7' := hide hB7
        have hbox7' := hide hbox7
        have b7' := hide b_out7
        clear hB7 hbox7
        go_wp2_with fail
        go_meet
        exact ⟨hB7'.out, hbox7'.out, b7'.out, t_out7.out⟩
      · have hB7' := hide hB5
        have hbox7' := hide hbox5
        have b7' := hide b_out5
        clear hB5 hbox5
        go_wp2_with fail
        go_meet
        exact ⟨hB7'.out, hbox7'.out, b7'.out, t_out5.out⟩
    case rest =>
    obtain ⟨hB6, hbox6, b_out6, t⟩ := hcut
    have t_out6 := hide t
    clear t hB5 hbox5 b_x5 t_x5 b_out5 t_out5 hX hE1 hp1' hAk
    generalize wc = w6 at *
    rcases hZk with ⟨rfl, hZO, p, a, CA, cc, hpe, hpn, ha1, ha2, ha3, g3, hI, hc1, hc2, ⟨hba1, hba2⟩, hend, hmid⟩ | ⟨rfl, -⟩
    · rw [hpe] at c2'
      have hI' := hide hI
      have g3' := hide g3
      have ha3' := hide ha3
      have hend' := hide hend
      have hmid' := hide hmid
      have hE4 := hide hba1
      have hX4 := hide hba2
      obtain ⟨l, hla⟩ : ∃ l, kids T p = l := ⟨_, rfl⟩
      rw [hla] at hI' g3' ha3' hend' hmid' ha1 ha2 hc1
      have hl63 := hI'.out.2.1
      obtain ⟨b4, o4, rfl, hb4, hck⟩ := hI'.out.2.2 (by omega)
      have hck' := hide hck
      have g2 := (old hB6 _ _ hbl).trans c2'.out
      have g3 := (old hB6 _ _ hbl).trans g3'.out
      have hbr : b < w6.heap.size := Nat.lt_of_lt_of_le hbl hB6.size
      have hbr4 : b4 < w6.heap.size := Nat.lt_of_lt_of_le hb4 hB6.size
      have ha2' := hide ha2
      clear hZO hpe hI ha3 hba1 hba2 hend hmid hck ha2 hla
      go_wp2
      go_loop [16] (fun s => ∃ q : Nat, q ≤ a ∧ s = .int .i64 q) (fun s => a - (intOf s).toNat)
      case atStart => exact ⟨0, by omega, rfl⟩
      case round =>
        obtain ⟨q, hq, rfl⟩ := hrel
        have gq := (old hB6 _ _ hb4).trans (hck'.out q (by omega))
        by_cases hlt : q < a
        · have hy : (ix l q != (k : Int)) = true := by simp [ha3'.out q hlt]
          generalize ix l q = y at gq hy
          go_wp2
          go_round
          case rel => exact ⟨q + 1, by omega, by go_num⟩
          case measure => simp [intOf]; omega
        · obtain rfl : q = a := by omega
          rw [ha2'.out] at gq
          have hTl := hide hl
          have hQl : Hid ((putT O p k (-1)).length = n) := by show _ = _; rw [putT_len, hOl.out]
          obtain ⟨Q, hQ⟩ : ∃ Q, putT O p k (-1) = Q := ⟨_, rfl⟩
          rw [hQ] at hQl hX4 hend'
          have hfT := hide (good_fits hg'.out)
          clear hQ
          by_cases hlast : q + 1 < l.length
          · obtain ⟨z, hz, hbe, hbt⟩ := hmid'.out hlast
            have hbe' := hide hbe
            have hbt' := hide hbt
            have gz0 := hide (hck'.out (q + 1) hlast)
            rw [hz] at gz0
            clear hz hbe hbt hend' hmid' ha3' hck'
            go_wp2_with fail
            have hx := append_ok _ _ c' O p k _ t_out6.out
            rw [hX4.out, hE4.out] at hx
            refine hx.mono ?_
            clear hx
            rintro e w7 ⟨A7, c7, rfl, -, hR, hb7⟩
            rw [hQl.out] at hR ⊢
            have hlt7 : w.heap.size < w7.heap.size := Nat.lt_of_lt_of_le (cell_in hbox6) hb7.size
            have hz7 := below_alloc hb7 (.cells #[.slice A7 n c7] 24)
            have hbox7 := cell_later hz7 hbox6
            have hB7 := Below.on hB6 hz7
            have b_out7 := cell_later hz7 b_out6
            have t_out7 := hide (t_out6.out.below hz7)
            have b_y7 : (w7.alloc (.cells #[.slice A7 n c7] 24)).cell? ⟨w7.heap.size, 0, none⟩ = some (.slice A7 n c7) := by clear hbox7 b_out7; go_simp
            have t_y7 := hide (hR.below (below_alloc (Below.refl _ _) (.cells #[.slice A7 n c7] 24)))
            clear hz7 hbox6 hB6 b_out6 t_out6 hR hb7
            have gz := (old hB7 _ _ hb4).trans gz0.out
            have hx := before_ok _ n c' O k z (w7.alloc (.cells #[.slice A7 n c7] 24)).drew (t_out7.out.below (Below.refl _ _).drew)
            rw [hbt'.out, hbe'.out] at hx
            have hx' := hide hx
            clear hx
            have j0 : (0 : Int) ≤ (q : Int) + 1 := by omega
            have j1 : (q : Int) + 1 < (l.length : Int) := by omega
            have j2 : IntKind.i64.wrap ((q : Int) + 1) = (q : Int) + 1 := by rw [IntKind.wrap_i64]; omega
            have j3 : ((q : Int) + 1).toNat = q + 1 := by omega
            have hy7 := cell_in b_y7
            have fy : (w7.alloc (.cells #[.slice A7 n c7] 24)).frozen? ⟨w7.heap.size, 0, none⟩ = false := blk_frozen (blk_new w7 _ _) 0
            go_wp2
            go_region_with (first | (go_at_call 11; (with_reducible refine hx'.out.mono ?_); rintro e w8 ⟨A8, c8, rfl, hO8, -, hb8⟩; have r1 := cell_later hb8 hbox7; have r2 := cell_later hb8 b_y7; have r3 : w8.frozen? ⟨w7.heap.size, 0, none⟩ = false := (oldf hb8 _ _ (by simp)).trans fy))
            all_goals
              have hO9 := hO8
              rw [hTl.out] at hO9
              have hz7 : w7.heap.size < w8.heap.size := Nat.lt_of_lt_of_le (by simp) hb8.size
              have hT9 : Hid (IsTree (w8.setCell ⟨w7.heap.size, 0, none⟩ (.slice A8 n c8)) A8 n T) := by
                obtain ⟨A3, c3, hv, _, _, hT3⟩ := isTree_of_own (hO9.set (p := ⟨w7.heap.size, 0, none⟩) (by simp) (.slice A8 n c8)) hTl.out (by omega) hfT.out
                injection hv with e1 e2 e3
                subst e1
                exact hT3
              have hB8 := Below.on hB7.drew hb8
              have hB9 := hide (hB8.setCell (p := ⟨w7.heap.size, 0, none⟩) (by show w.heap.size ≤ w7.heap.size; omega) (.slice A8 n c8))
              have c9 : (w8.setCell ⟨w7.heap.size, 0, none⟩ (.slice A8 n c8)).cell? ⟨w7.heap.size, 0, none⟩ = some (.slice A8 n c8) := World.cell?_setCell_same _ _ _ r2
              have bx9 : (w8.setCell ⟨w7.heap.size, 0, none⟩ (.slice A8 n c8)).cell? ⟨w.heap.size, 0, none⟩ = some (.slice (some ⟨b, off, none⟩) n c) := (World.cell?_setCell_far _ ⟨w7.heap.size, 0, none⟩ ⟨w.heap.size, 0, none⟩ _ (by show w7.heap.size ≠ w.heap.size; omega)).trans r1
              clear hO8 hO9 hb8 hx' t_out7 t_y7 hB8
              go_wp2_with fail
              refine (same_ok _ _ n _ _ T _ hT9.out (hT.out.below hB9.out)).mono ?_
              rintro e w10 ⟨rfl, hb10⟩
              go_wp2
              go_ret
              exact ⟨rfl, Below.on hB9.out hb10⟩
          · have hqe : q + 1 = l.length := by omega
            have hQT := hend'.out hqe
            subst hQT
            clear hend' hmid' hqe
            go_wp2_with fail
            have hx := append_ok _ _ c' O p k _ t_out6.out
            rw [hX4.out, hE4.out] at hx
            refine hx.mono ?_
            clear hx
            rintro e w7 ⟨A7, c7, rfl, -, hR, hb7⟩
            rw [hQl.out] at hR ⊢
            have hlt7 : w.heap.size < w7.heap.size := Nat.lt_of_lt_of_le (cell_in hbox6) hb7.size
            have hz7 := below_alloc hb7 (.cells #[.slice A7 n c7] 24)
            have hbox7 := cell_later hz7 hbox6
            have hB7 := Below.on hB6 hz7
            have b_out7 := cell_later hz7 b_out6
            have t_out7 := hide (t_out6.out.below hz7)
            have b_y7 : (w7.alloc (.cells #[.slice A7 n c7] 24)).cell? ⟨w7.heap.size, 0, none⟩ = some (.slice A7 n c7) := by clear hbox7 b_out7; go_simp
            have t_y7 := hide (hR.below (below_alloc (Below.refl _ _) (.cells #[.slice A7 n c7] 24)))
            clear hz7 hbox6 hB6 b_out6 t_out6 hR hb7
            go_wp2_with fail
            refine (same_ok _ _ n _ _ Q _ t_y7.out (hT.out.below hB7)).mono ?_
            rintro e w8 ⟨rfl, hz8⟩
            have hbox8 := cell_later hz8 hbox7
            have hB8 := Below.on hB7 hz8
            have b_out8 := cell_later hz8 b_out7
            have t_out8 := hide (t_out7.out.below hz8)
            have b_y8 := cell_later hz8 b_y7
            have t_y8 := hide (t_y7.out.below hz8)
            clear hz8 hbox7 hB7 b_out7 t_out7 b_y7 t_y7
            go_wp2
            go_ret
            exact ⟨rfl, hB8⟩
    · go_wp2
      go_ret
      exact ⟨rfl, hB6⟩
  · have hq0 : (moveI T i j != 0) = true := by simp [h0]
    clear h0
    go_enter Try.func7, Try.ntmps7
    go_wp2_with fail
    refine (alive15_ok _).mono ?_
    rintro e w1 ⟨rfl, hb1⟩
    have hbox1 := cell_later hb1 hbox0
    have hB1 := Below.on hB0 hb1
    go_wp2_with fail
    refine (rmask_ok _ _ _ T _ _ _ (hT.out.below hB1)).mono ?_
    rintro e w2 ⟨rfl, hb2⟩
    have hbox2 := cell_later hb2 hbox1
    have hB2 := Below.on hB1 hb2
    go_wp2
    go_ret
    exact ⟨rfl, hB2⟩

set_option maxRecDepth 100000 in
theorem lifted (os : Os) (started : os.Started) (H : Type) (enc : TypeId × Value → H) :
    ReturnsInHanded {} Try.checked os 7 .any (Rows.mutateBackSpec.pre6 enc Try.prog Try.f7 Rows.mutateBackRow.domain false) (Rows.mutateBackSpec.post enc Try.prog Try.f7 false true false false) := by
  refine returnsInHanded_of_change (C := Try.checked) own started (by kernel_rfl) Try.func7
    (ChangeSpec.witness6 (enc := enc) (C := Try.checked) false ⟨#[], #[.agg #[.slice none 0 0], .int .i64 0, .int .i64 0], []⟩ 8 (by kernel_rfl) (by kernel_rfl) (by kernel_rfl) (by kernel_rfl)) ?_
  intro W base args ds gs before hval0 hW hcnd _
  have hval : ∀ (j : Nat) t v, Try.f7.params[j]? = some t → args[j]? = some v → Value.okWide Try.prog W .any base t v := hval0
  have hW' := hW
  obtain ⟨p, q, hA0, hV, rfl, hfz, hnd⟩ := hW
  have hA : DataW.TrodAll enc Try.prog W 0 (fun _ => true) true Try.f7.params.toList args.toList ds p := hA0
  rw [Try.params7] at hA hval
  obtain ⟨v0, vs0, d0, ds0, p0, q0, hargs, rfl, rfl, h0, r0⟩ := trodAll_cons hA
  obtain ⟨v1, vs1, d1, ds1, p1, q1, rfl, rfl, rfl, h1, r1⟩ := trodAll_cons r0
  obtain ⟨v2, vs2, d2, ds2, p2, q2, rfl, rfl, rfl, h2, r2⟩ := trodAll_cons r1
  obtain ⟨rfl, rfl, rfl⟩ := trodAll_nil r2
  obtain rfl : args = #[v0, v1, v2] := by cases args; simp_all
  obtain ⟨rfl, rfl⟩ := trodVars_none hV
  have lt0 : ∀ x ∈ p0, x.block < W.heap.size := by obtain ⟨m, hm⟩ := h0; exact DataW.trod_lt m _ _ _ hm
  have k0 := h0
  have lt1 : ∀ x ∈ p1, x.block < W.heap.size := by obtain ⟨m, hm⟩ := h1; exact DataW.trod_lt m _ _ _ hm
  have k1 := h1
  have lt2 : ∀ x ∈ p2, x.block < W.heap.size := by obtain ⟨m, hm⟩ := h2; exact DataW.trod_lt m _ _ _ hm
  have k2 := h2
  obtain ⟨A0, n0, c0, T0, rfl, hT0⟩ := tree_open (hval 0 _ v0 rfl rfl) h0
  obtain ⟨a1, rfl, rfl, rfl, w1⟩ := open_int Try.underlying3 (hval 1 _ v1 rfl rfl) h1
  obtain ⟨a2, rfl, rfl, rfl, w2⟩ := open_int Try.underlying3 (hval 2 _ v2 rfl rfl) h2
  clear hA0 hval0
  refine (walk A0 n0 c0 T0 a1 a2 W hT0  ).mono fun e W' ⟨he, bel⟩ => ?_
  subst he
  exact ⟨_, rfl, _, _, _, [], _, [], hW', trodAll_mk1 (shut_bool Try.underlying4 _), (trodAll_cons_mk (Below.trod laidOut (by kernel_rfl) (of_decide_eq_true (by kernel_rfl)) k0 bel lt0) (trodAll_cons_mk (Below.trod laidOut (by kernel_rfl) (of_decide_eq_true (by kernel_rfl)) k1 bel lt1) (trodAll_cons_mk (Below.trod laidOut (by kernel_rfl) (of_decide_eq_true (by kernel_rfl)) k2 bel lt2) trodAll_mk0))), rfl, bel.frame _, fun h => by cases h⟩

theorem proved : Rows.MutateBackSaid :=
  OpenClaim.holds_of_wide 7 Try.f7 rfl rfl rfl rfl rfl rfl rfl ⟨rfl, rfl, rfl, rfl, rfl⟩ rfl rfl rfl rfl rfl (by kernel_rfl) Try.func7 (by kernel_rfl)
    (of_decide_eq_true (by kernel_rfl)) (by unfold Func.isWrapper; first | (rw [if_pos (by decide +kernel)]; kernel_rfl) | (rw [if_neg (by decide +kernel)]; exact ⟨rfl, rfl⟩))
    (fun os started H enc _ => lifted os started H enc)
#print axioms proved
end Go.Proofs.Ytkimjpcmcfnmkaa.mutateBack
