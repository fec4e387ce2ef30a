/- An element without children and siblings behind it has nothing, All and Match say the same, and nothing is had of compounds of which one matches no element; unless the data are greater than the statement considers. No condition. -/
import Derived.Test.YtaliekkdamghbaaHx
import Derived.Test.YtaliekkdamghbaaHe
import Derived.Test.YtaliekkdamghbaaPhr
import Derived.Test.YtaliekkdamghbaaDa
import Derived.Test.YtaliekkdamghbaaDf
import Derived.Test.YtaliekkdamghbaaOb
import Derived.Test.YtaliekkdamghbaaSb
import Derived.Test.YtaliekkdamghbaaOpen
namespace Go.Proofs.Ytaliekkdamghbaa.hasNothing
open Go.ChangeShapes Go.WideShapes Go.ChangeAt Go.RowKit

theorem next_at (T : List ANode) (i : Int) (v c0 : Int) (h0 : askI T [i] = c0) (hl : besE T i 1 = v) (A : Option Addr) (n c : Nat) (w : World) (h : IsTree w A n T) :
    Calls Try.prog 41 #[.agg #[.slice A n c], .int .i64 i] w fun e w' => e = .returned (.tuple #[.int .i64 v, .int .i64 c0]) ∧ Below w.heap.size w w' := by
  have := next_ok A n c T i w h
  rw [h0, hl] at this
  exact this
set_option maxRecDepth 100000 in
set_option maxHeartbeats 4000000 in
theorem walk (A : Option Addr) (n c : Nat) (T : List ANode) (i ld : Int) (B : Option Addr) (m d : Nat) (cs : List Int) (C : Option Addr) (K e : Nat) (H : List (List Bool)) (k : Int) (w : World) (h : IsTree w A n T) (hcs : IsU8 w B m cs) (he : K ≤ e ∧ e ≤ 9223372036854775807) (hH : IsBB w C K H) :
    Calls Try.prog 12 #[.agg #[.slice A n c], .int .i64 i, .int .u8 ld, .slice B m d, .slice C K e, .int .i64 k] w fun e w' => e = .returned (.bool true) ∧ Below w.heap.size w w' := by
  have ho := hide h.2.2.2
  have hml := hcs.1
  have hkl := hH.1
  obtain ⟨he1, he2⟩ := he
  have hcs' := hide hcs
  have hH' := hide hH
  clear hcs hH
  have hT := hide h
  have hl := h.1
  clear h
  have hB0 := below_alloc (Below.refl w.heap.size w) (.cells #[.slice A n c] 24)
  have hbox0 : (w.alloc (.cells #[.slice A n c] 24)).cell? ⟨w.heap.size, 0, none⟩ = some (.slice A n c) := by go_simp
  cases hs : small21 T cs H
  · have hs' := hide hs
    clear hs
    go_enter Try.func12, Try.ntmps12
    go_wp2_with fail
    refine (alive22_ok _).mono ?_
    rintro e w1 ⟨rfl, hb1⟩
    have hbox1 := cell_later hb1 hbox0
    have hB1 := Below.on hB0 hb1
    go_wp2_with fail
    have hx := great21_ok _ _ _ _ c _ d _ e T cs H _ (hT.out.below hB1) (hcs'.out.below hB1) (hH'.out.below hB1)
    rw [hs'.out] at hx
    refine hx.mono ?_
    clear hx
    rintro e1 w2 ⟨rfl, hb2⟩
    have hB2 := Below.on hB1 hb2
    have hbox2 := cell_later hb2 hbox1
    clear hb2 hbox1
    go_wp2
    go_ret
    exact ⟨rfl, hB2⟩
  · have hs' := hide hs
    clear hs
    by_cases hk0 : cask T i cs H = 0
    · obtain ⟨hg, hir, ht⟩ := cask_zero.1 hk0
      obtain ⟨ii, rfl⟩ := Int.eq_ofNat_of_zero_le hir.1
      have hii : ii < n := by omega
      have hk0' := hide hk0
      have hg' := hide hg
      have ht' := hide ht
      clear hk0 hir
      by_cases hld : 1 ≤ ld ∧ ld ≤ 4
      · have hldv : Hid ((decide (1 ≤ ld) && decide (ld ≤ 4)) = true) := by show _ = _; rw [decide_eq_true hld.1, decide_eq_true hld.2]; rfl
        by_cases hkb : 0 ≤ k ∧ k < (K : Int)
        · obtain ⟨hk1, hk2⟩ := hkb
          obtain ⟨kk, rfl⟩ := Int.eq_ofNat_of_zero_le hk1
          have hkk : kk < K := by omega
          have hn64 : n ≤ 64 := by have := ((goodB_iff T).1 hg).2.1; omega
          have ht1 := ((toldB_iff _ _ _).1 ht)
          have hK64 : K ≤ 64 := by omega
          have hkc : kk ≤ cs.length := by omega
          obtain ⟨v, hv⟩ : ∃ v, hasF T ii ld cs H = v := ⟨_, rfl⟩
          obtain ⟨XL, hXL⟩ : ∃ X, hasL T ld cs H = X := ⟨_, rfl⟩
          have e0 : hmE T ii ld cs H = 0 := by unfold hmE; rw [if_pos (rchC_zero.2 ⟨hg, ⟨by omega, by omega⟩, hld.1, hld.2⟩)]; exact cchk_zero.2 ⟨hg, ht⟩
          have e1 : haE T ld cs H = 0 := by unfold haE; rw [if_pos (ldE_zero.2 ⟨hg, hld.1, hld.2⟩)]; exact cchk_zero.2 ⟨hg, ht⟩
          have htS : toldB T.length cs (H.set kk (List.replicate n false)) = true := by
            refine (toldB_iff _ _ _).2 ⟨by rw [List.length_set]; exact ht1.1, by rw [List.length_set]; exact ht1.2.1, by rw [List.length_set]; exact ht1.2.2.1, ht1.2.2.2.1, fun j hj => ?_⟩
            rw [List.length_set] at hj
            rw [rowB_set]
            split
            · rw [List.length_replicate]; omega
            · exact ht1.2.2.2.2 j hj
          have e2 : haE T ld cs (H.set kk (List.replicate n false)) = 0 := by unfold haE; rw [if_pos (ldE_zero.2 ⟨hg, hld.1, hld.2⟩)]; exact cchk_zero.2 ⟨hg, htS⟩
          have l0 : hmV T ii ld cs H = v := by unfold hmV; rw [if_pos e0, Int.toNat_natCast, hv]
          have l1 : haV T ld cs H = XL := by unfold haV; rw [if_pos e1, hXL]
          have l2 : haV T ld cs (H.set kk (List.replicate n false)) = List.replicate n false := by
            unfold haV hasL
            rw [if_pos e2]
            refine bools_ext (by simp; omega) fun x hx => ?_
            rw [List.length_map, List.length_range] at hx
            have e9 : hasF T x ld cs (H.set kk (List.replicate n false)) = false := has_empty hg hkc fun z hz => by
              rw [rowB_set, if_pos ⟨rfl, by omega⟩]
              simp only [bx, List.getD_eq_getElem?_getD, List.getElem?_replicate]
              split <;> rfl
            have e10 : x < n := by omega
            simp [bx, hx, e9, e10]
          have hXn : Hid (XL.length = n) := by show _ = _; rw [← hXL, ← hl]; simp [hasL]
          have hXv : bx XL ii = v := by rw [← hXL, ← hv]; unfold hasL; simp [bx, show ii < T.length by omega]
          have hroom : v = true → 0 < (kids T ii).length ∨ 0 ≤ besE T ii 1 := fun h => has_room hg (by omega) ht (hv.trans h)
          have hask0 : askI T [(ii : Int)] = 0 := askI_ok hg (by simp; omega)
          obtain ⟨b, off, aA, cA, aC, cC, rfl, hbl, -, -, -, c3, -, -⟩ := ho.out (by omega)
          have c3' := c3 ii hii
          obtain ⟨kl, hkl2⟩ : ∃ kl, (kids T ii).length = kl := ⟨_, rfl⟩
          obtain ⟨nx, hnx⟩ : ∃ nx, besE T ii 1 = nx := ⟨_, rfl⟩
          rw [hkl2] at c3' hroom
          rw [hnx] at hroom
          generalize aC ii = aCi at c3'
          generalize cC ii = cCi at c3'
          have e0' := hide e0
          have e1' := hide e1
          have e2' := hide e2
          have l0' := hide l0
          have l1' := hide l1
          have l2' := hide l2
          have hXv' := hide hXv
          have hroom' := hide hroom
          have hnx' := hide hnx
          have hask := hide hask0
          have ht5 := hide ht1.2.2.2.2
          have hmk := mk_bools n (by omega)
          have ho' := trivial
          clear hg ht hld ht1 hv hXL e0 e1 e2 l0 l1 l2 hXv hroom hask0 htS c3 hkl2 hnx ho hkc
          have q1 : (0 : Int) ≤ (ii : Int) := by omega
          have q2 : (ii : Int) < (n : Int) := by omega
          go_enter Try.func12, Try.ntmps12
          go_wp2_with fail
          refine (alive22_ok _).mono ?_
          rintro e w1 ⟨rfl, hb1⟩
          have hbox1 := cell_later hb1 hbox0
          have hB1 := Below.on hB0 hb1
          go_wp2_with fail
          have hx := great21_ok _ _ _ _ c _ d _ e T cs H _ (hT.out.below hB1) (hcs'.out.below hB1) (hH'.out.below hB1)
          rw [hs'.out] at hx
          refine hx.mono ?_
          clear hx
          rintro e1 w2 ⟨rfl, hb2⟩
          have hB2 := Below.on hB1 hb2
          have hbox2 := cell_later hb2 hbox1
          clear hb2 hbox1
          go_wp2_with fail
          have hx := rcask_ok _ _ _ _ c _ d _ e T ii cs H _ (hT.out.below hB2) (hcs'.out.below hB2) (hH'.out.below hB2)
          rw [hk0'.out] at hx
          refine hx.mono ?_
          clear hx
          rintro e1 w3 ⟨rfl, hb3⟩
          have hB3 := Below.on hB2 hb3
          have hbox3 := cell_later hb3 hbox2
          clear hb3 hbox2
          go_wp2_with fail
          have hx := rlead_ok ld w3
          rw [hldv.out] at hx
          refine hx.mono ?_
          clear hx
          rintro e1 w4 ⟨rfl, rfl⟩
          go_wp2_with fail
          refine (hMatch_at T ii ld cs H v 0 e0'.out l0'.out _ _ _ _ c _ d _ e _ (hT.out.below hB3) (hcs'.out.below hB3) (hH'.out.below hB3) he1 he2).mono ?_
          rintro e5 w5 ⟨rfl, hb5⟩
          have hB5 := Below.on hB3 hb5
          have hbox5 := cell_later hb5 hbox3
          clear hb5 hbox3
          go_wp2_with fail
          refine (hAll_at T ld cs H XL 0 e1'.out l1'.out _ _ _ _ c _ d _ e _ (hT.out.below hB5) (hcs'.out.below hB5) (hH'.out.below hB5) he1 he2).mono ?_
          rintro e6 w6 ⟨A6, c6, rfl, hI6, h61, h62, hb6⟩
          rw [hXn.out] at hI6 ⊢
          have hB6 := Below.on hB5 hb6
          have hbox6 := cell_later hb6 hbox5
          have hIL6 := hide hI6
          clear hI6 hb6 hbox5 h61 h62
          go_wp2_with fail
          refine (next_at T ii nx 0 hask.out hnx'.out _ _ c _ (hT.out.below hB6)).mono ?_
          rintro e7 w7 ⟨rfl, hb7⟩
          have hB7 := Below.on hB6 hb7
          have hbox7 := cell_later hb7 hbox6
          have hIL7 := hide (hIL6.out.below hb7)
          clear hb7 hbox6 hIL6
          go_wp2_with (at_builtin; refine wpList_dupBB rfl _ _ rfl (hH'.out.below hB7) (by omega) _ rfl rfl rfl ?_)
          intro v8 w8 hA hC hown8 hrow8 hb8
          obtain ⟨g, cap, cur, rfl, p1, p2, p3, p4⟩ := own_blk hown8 (by omega)
          have hB8 := Below.on hB7 hb8
          have hbox8 := cell_later hb8 hbox7
          have hgl : g < w8.heap.size := blk_lt p4
          have hgw : w.heap.size < g := Nat.lt_of_lt_of_le (cell_in hbox7) p3
          have hcell : (w8.alloc (.cells (madeCells #[.bool false] n) 4)).cell? ⟨g, kk, none⟩ = some (.slice (hA kk) (rowB H kk).length (hC kk)) := by
            refine far_alloc' ?_ _
            rw [World.ownsRow.cellAt hown8 kk (by omega), slicesR_get _ _ _ hkk]
          have hfz : (w8.alloc (.cells (madeCells #[.bool false] n) 4)).frozen? ⟨g, kk, none⟩ = false := blk_frozen (blk_alloc p4 _) _
          have hown9 := hide (World.ownsRow.alloc (own_upd (o := kk) hown8 (.slice (some ⟨w8.heap.size, 0, none⟩) n n)) (.cells (madeCells #[.bool false] n) 4))
          have hkcap : kk < cap := by omega
          have hbox10 : ((w8.setCell ⟨g, kk, none⟩ (.slice (some ⟨w8.heap.size, 0, none⟩) n n)).alloc (.cells (madeCells #[.bool false] n) 4)).cell? ⟨w.heap.size, 0, none⟩ = some (.slice (some ⟨b, off, none⟩) n c) :=
            far_alloc' ((World.cell?_setCell_far _ ⟨g, kk, none⟩ ⟨w.heap.size, 0, none⟩ _ (by show g ≠ w.heap.size; omega)).trans hbox8) _
          clear p4 hbox7 hown8
          go_wp2_with fail
          have hB9 : Below w.heap.size w ((w8.setCell ⟨g, kk, none⟩ (.slice (some ⟨w8.heap.size, 0, none⟩) n n)).alloc (.cells (madeCells #[.bool false] n) 4)) := below_alloc (hB8.setCell (p := ⟨g, kk, none⟩) (by show w.heap.size ≤ g; omega) _) _
          have hB78 : Below w7.heap.size w7 ((w8.setCell ⟨g, kk, none⟩ (.slice (some ⟨w8.heap.size, 0, none⟩) n n)).alloc (.cells (madeCells #[.bool false] n) 4)) := below_alloc (hb8.setCell (p := ⟨g, kk, none⟩) (by show w7.heap.size ≤ g; omega) _) _
          have hup := hown9.out
          rw [slicesR_set H hA hC K kk n n (some ⟨w8.heap.size, 0, none⟩) (List.replicate n false) (by simp) (by omega)] at hup
          obtain ⟨AT, cT, hvT, -, hcT, hTg⟩ := isBB_of_own hup (by rw [List.length_set]; exact hkl) (by omega) (fun j hj => by
            rw [rowB_set]
            by_cases hjk : j = kk
            · subst hjk
              have c1 : j = j ∧ j < H.length := ⟨rfl, by omega⟩
              rw [if_pos c1, if_pos (rfl : j = j), if_pos (rfl : j = j), List.length_replicate]
              exact ⟨mk_isBools _ _ n (by simp) (by omega), Nat.le_refl _, by omega⟩
            · have c1 : ¬ (j = kk ∧ kk < H.length) := fun h => hjk h.1
              rw [if_neg c1, if_neg hjk, if_neg hjk]
              exact ⟨(hrow8 j hj).1.below hB78, (hrow8 j hj).2⟩)
          injection hvT with t1 t2 t3
          subst t1 t3
          have hIL10 := hide (hIL7.out.below hB78)
          clear hup t2 hrow8 hown9 hIL7 hb8 hB8 hcell hfz hB7 hbox8
          refine (hAll_at T ld cs (H.set kk (List.replicate n false)) (List.replicate n false) 0 e2'.out l2'.out _ _ _ _ c _ d _ cap _ (hT.out.below hB9) (hcs'.out.below hB9) hTg p1 hcT).mono ?_
          rintro e11 w11 ⟨A11, c11, rfl, hI11, -, -, hb11⟩
          rw [List.length_replicate] at hI11 ⊢
          have hB11 := Below.on hB9 hb11
          have hbox11 := cell_later hb11 hbox10
          have hIL11 := hIL10.out.below hb11
          have hN11 := hide hI11
          have hw12 := below_alloc (Below.refl w11.heap.size w11) (.cells (madeCells #[.bool false] n) 4)
          obtain ⟨bl, ol, rfl, hbl2, hcl⟩ := hIL11.2.2 (by omega)
          have gl := hcl ii hii
          rw [hXv'.out] at gl
          have g3 := (old hB11 _ _ hbl).trans c3'
          clear hcl hIL11 hIL10 hb11 hbox10 hTg hB78 hB9 hI11 c3'
          go_wp2_with fail
          refine (sameBools_yes _ _ n n c11 n (List.replicate n false) _ (hN11.out.below hw12) (mk_isBools _ _ n rfl (by omega))).mono ?_
          rintro e12 w12 ⟨rfl, hb12⟩
          have hz := Below.on hw12 hb12
          have hB12 := Below.on hB11 hz
          have hbox12 := cell_later hz hbox11
          have gl12 := cell_later hz gl
          have g312 := cell_later hz g3
          clear hz hb12 hw12 hbox11 gl g3 hN11
          cases v
          · go_wp2
            go_ret
            exact ⟨rfl, hB12⟩
          · have hr := hroom'.out rfl
            by_cases hk9 : 0 < kl
            · have hk9' : (0 : Int) < (kl : Int) := by omega
              go_wp2
              go_ret
              exact ⟨rfl, hB12⟩
            · have hn9 : 0 ≤ nx := by omega
              obtain rfl : kl = 0 := by omega
              go_wp2
              go_ret
              exact ⟨rfl, hB12⟩
        · rcases (by omega : k < 0 ∨ (0 ≤ k ∧ (K : Int) ≤ k)) with hk1 | ⟨hk1, hk2⟩
          all_goals
            clear hkb hg ht hld
            go_enter Try.func12, Try.ntmps12
            go_wp2_with fail
            refine (alive22_ok _).mono ?_
            rintro e w1 ⟨rfl, hb1⟩
            have hbox1 := cell_later hb1 hbox0
            have hB1 := Below.on hB0 hb1
            go_wp2_with fail
            have hx := great21_ok _ _ _ _ c _ d _ e T cs H _ (hT.out.below hB1) (hcs'.out.below hB1) (hH'.out.below hB1)
            rw [hs'.out] at hx
            refine hx.mono ?_
            clear hx
            rintro e1 w2 ⟨rfl, hb2⟩
            have hB2 := Below.on hB1 hb2
            have hbox2 := cell_later hb2 hbox1
            clear hb2 hbox1
            go_wp2_with fail
            have hx := rcask_ok _ _ _ _ c _ d _ e T ii cs H _ (hT.out.below hB2) (hcs'.out.below hB2) (hH'.out.below hB2)
            rw [hk0'.out] at hx
            refine hx.mono ?_
            clear hx
            rintro e1 w3 ⟨rfl, hb3⟩
            have hB3 := Below.on hB2 hb3
            have hbox3 := cell_later hb3 hbox2
            clear hb3 hbox2
            go_wp2_with fail
            have hx := rlead_ok ld w3
            rw [hldv.out] at hx
            refine hx.mono ?_
            clear hx
            rintro e1 w4 ⟨rfl, rfl⟩
            go_wp2
            go_ret
            exact ⟨rfl, hB3⟩
      · have hldv : Hid ((decide (1 ≤ ld) && decide (ld ≤ 4)) = false) := by
          show _ = _
          rw [Bool.and_eq_false_iff, decide_eq_false_iff_not, decide_eq_false_iff_not]
          omega
        clear hld hg ht
        go_enter Try.func12, Try.ntmps12
        go_wp2_with fail
        refine (alive22_ok _).mono ?_
        rintro e w1 ⟨rfl, hb1⟩
        have hbox1 := cell_later hb1 hbox0
        have hB1 := Below.on hB0 hb1
        go_wp2_with fail
        have hx := great21_ok _ _ _ _ c _ d _ e T cs H _ (hT.out.below hB1) (hcs'.out.below hB1) (hH'.out.below hB1)
        rw [hs'.out] at hx
        refine hx.mono ?_
        clear hx
        rintro e1 w2 ⟨rfl, hb2⟩
        have hB2 := Below.on hB1 hb2
        have hbox2 := cell_later hb2 hbox1
        clear hb2 hbox1
        go_wp2_with fail
        have hx := rcask_ok _ _ _ _ c _ d _ e T ii cs H _ (hT.out.below hB2) (hcs'.out.below hB2) (hH'.out.below hB2)
        rw [hk0'.out] at hx
        refine hx.mono ?_
        clear hx
        rintro e1 w3 ⟨rfl, hb3⟩
        have hB3 := Below.on hB2 hb3
        have hbox3 := cell_later hb3 hbox2
        clear hb3 hbox2
        go_wp2_with fail
        have hx := rlead_ok ld w3
        rw [hldv.out] at hx
        refine hx.mono ?_
        clear hx
        rintro e1 w4 ⟨rfl, rfl⟩
        go_wp2
        go_ret
        exact ⟨rfl, hB3⟩
    · have hk0' : (cask T i cs H != 0) = true := by simp [hk0]
      clear hk0
      go_enter Try.func12, Try.ntmps12
      go_wp2_with fail
      refine (alive22_ok _).mono ?_
      rintro e w1 ⟨rfl, hb1⟩
      have hbox1 := cell_later hb1 hbox0
      have hB1 := Below.on hB0 hb1
      go_wp2_with fail
      have hx := great21_ok _ _ _ _ c _ d _ e T cs H _ (hT.out.below hB1) (hcs'.out.below hB1) (hH'.out.below hB1)
      rw [hs'.out] at hx
      refine hx.mono ?_
      clear hx
      rintro e1 w2 ⟨rfl, hb2⟩
      have hB2 := Below.on hB1 hb2
      have hbox2 := cell_later hb2 hbox1
      clear hb2 hbox1
      go_wp2_with fail
      refine (rcask_ok _ _ _ _ c _ d _ e T i cs H _ (hT.out.below hB2) (hcs'.out.below hB2) (hH'.out.below hB2)).mono ?_
      rintro e1 w3 ⟨rfl, hb3⟩
      have hB3 := Below.on hB2 hb3
      go_wp2
      go_ret
      exact ⟨rfl, hB3⟩

set_option maxRecDepth 100000 in
theorem lifted (os : Os) (started : os.Started) (H : Type) (enc : TypeId × Value → H) :
    ReturnsInHanded {} Try.checked os 12 .any (Rows.hasNothingSpec.pre6 enc Try.prog Try.f12 Rows.hasNothingRow.domain false) (Rows.hasNothingSpec.post enc Try.prog Try.f12 false true false false) := by
  refine returnsInHanded_of_change (C := Try.checked) own started (by kernel_rfl) Try.func12
    (ChangeSpec.witness6 (enc := enc) (C := Try.checked) false ⟨#[], #[.agg #[.slice none 0 0], .int .i64 0, .int .u8 0, .slice none 0 0, .slice none 0 0, .int .i64 0], []⟩ 8 (by kernel_rfl) (by kernel_rfl) (by kernel_rfl) (by kernel_rfl)) ?_
  intro W base args ds gs before hval0 hW hcnd _
  have hval : ∀ (j : Nat) t v, Try.f12.params[j]? = some t → args[j]? = some v → Value.okWide Try.prog W .any base t v := hval0
  have hW' := hW
  obtain ⟨p, q, hA0, hV, rfl, hfz, hnd⟩ := hW
  have hA : DataW.TrodAll enc Try.prog W 0 (fun _ => true) true Try.f12.params.toList args.toList ds p := hA0
  rw [Try.params12] at hA hval
  obtain ⟨v0, vs0, d0, ds0, p0, q0, hargs, rfl, rfl, h0, r0⟩ := trodAll_cons hA
  obtain ⟨v1, vs1, d1, ds1, p1, q1, rfl, rfl, rfl, h1, r1⟩ := trodAll_cons r0
  obtain ⟨v2, vs2, d2, ds2, p2, q2, rfl, rfl, rfl, h2, r2⟩ := trodAll_cons r1
  obtain ⟨v3, vs3, d3, ds3, p3, q3, rfl, rfl, rfl, h3, r3⟩ := trodAll_cons r2
  obtain ⟨v4, vs4, d4, ds4, p4, q4, rfl, rfl, rfl, h4, r4⟩ := trodAll_cons r3
  obtain ⟨v5, vs5, d5, ds5, p5, q5, rfl, rfl, rfl, h5, r5⟩ := trodAll_cons r4
  obtain ⟨rfl, rfl, rfl⟩ := trodAll_nil r5
  obtain rfl : args = #[v0, v1, v2, v3, v4, v5] := by cases args; simp_all
  obtain ⟨rfl, rfl⟩ := trodVars_none hV
  have lt0 : ∀ x ∈ p0, x.block < W.heap.size := by obtain ⟨m, hm⟩ := h0; exact DataW.trod_lt m _ _ _ hm
  have k0 := h0
  have lt1 : ∀ x ∈ p1, x.block < W.heap.size := by obtain ⟨m, hm⟩ := h1; exact DataW.trod_lt m _ _ _ hm
  have k1 := h1
  have lt2 : ∀ x ∈ p2, x.block < W.heap.size := by obtain ⟨m, hm⟩ := h2; exact DataW.trod_lt m _ _ _ hm
  have k2 := h2
  have lt3 : ∀ x ∈ p3, x.block < W.heap.size := by obtain ⟨m, hm⟩ := h3; exact DataW.trod_lt m _ _ _ hm
  have k3 := h3
  have lt4 : ∀ x ∈ p4, x.block < W.heap.size := by obtain ⟨m, hm⟩ := h4; exact DataW.trod_lt m _ _ _ hm
  have k4 := h4
  have lt5 : ∀ x ∈ p5, x.block < W.heap.size := by obtain ⟨m, hm⟩ := h5; exact DataW.trod_lt m _ _ _ hm
  have k5 := h5
  obtain ⟨A0, n0, c0, T0, rfl, hT0⟩ := tree_open (hval 0 _ v0 rfl rfl) h0
  obtain ⟨a1, rfl, rfl, rfl, w1⟩ := open_int Try.underlying3 (hval 1 _ v1 rfl rfl) h1
  obtain ⟨a2, rfl, rfl, rfl, w2⟩ := open_int Try.underlying5 (hval 2 _ v2 rfl rfl) h2
  obtain ⟨A3, n3, c3, xs3, rfl, hU3⟩ := u8s_param (hval 3 _ v3 rfl rfl) h3
  obtain ⟨A4, n4, c4, xs4, rfl, hk4, hM4⟩ := bbs_param2 (hval 4 _ v4 rfl rfl) h4
  obtain ⟨a5, rfl, rfl, rfl, w5⟩ := open_int Try.underlying3 (hval 5 _ v5 rfl rfl) h5
  clear hA0 hval0
  refine (walk A0 n0 c0 T0 a1 a2 A3 n3 c3 xs3 A4 n4 c4 xs4 a5 W hT0   hU3 hk4 hM4 ).mono fun e W' ⟨he, bel⟩ => ?_
  subst he
  exact ⟨_, rfl, _, _, _, [], _, [], hW', trodAll_mk1 (shut_bool Try.underlying4 _), (trodAll_cons_mk (Below.trod laidOut (by kernel_rfl) (of_decide_eq_true (by kernel_rfl)) k0 bel lt0) (trodAll_cons_mk (Below.trod laidOut (by kernel_rfl) (of_decide_eq_true (by kernel_rfl)) k1 bel lt1) (trodAll_cons_mk (Below.trod laidOut (by kernel_rfl) (of_decide_eq_true (by kernel_rfl)) k2 bel lt2) (trodAll_cons_mk (Below.trod laidOut (by kernel_rfl) (of_decide_eq_true (by kernel_rfl)) k3 bel lt3) (trodAll_cons_mk (Below.trod laidOut (by kernel_rfl) (of_decide_eq_true (by kernel_rfl)) k4 bel lt4) (trodAll_cons_mk (Below.trod laidOut (by kernel_rfl) (of_decide_eq_true (by kernel_rfl)) k5 bel lt5) trodAll_mk0)))))), rfl, bel.frame _, fun h => by cases h⟩

theorem proved : Rows.HasNothingSaid :=
  OpenClaim.holds_of_wide 12 Try.f12 rfl rfl rfl rfl rfl rfl rfl ⟨rfl, rfl, rfl, rfl, rfl⟩ rfl rfl rfl rfl rfl (by kernel_rfl) Try.func12 (by kernel_rfl)
    (of_decide_eq_true (by kernel_rfl)) (by unfold Func.isWrapper; first | (rw [if_pos (by decide +kernel)]; kernel_rfl) | (rw [if_neg (by decide +kernel)]; exact ⟨rfl, rfl⟩))
    (fun os started H enc _ => lifted os started H enc)
#print axioms proved
end Go.Proofs.Ytaliekkdamghbaa.hasNothing
