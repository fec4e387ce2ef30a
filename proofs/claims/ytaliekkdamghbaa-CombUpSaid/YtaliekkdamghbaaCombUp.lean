/- For every tree, number and what is told about one compound: with CombDescendant an element matches behind it just if its parent matches this or matches behind it; so with CombLater and the sibling just before; unless the data are greater than the statement considers. No condition. -/
import Derived.Test.YtaliekkdamghbaaPcu
import Derived.Test.YtaliekkdamghbaaDb
import Derived.Test.YtaliekkdamghbaaDa
import Derived.Test.YtaliekkdamghbaaSz
import Derived.Test.YtaliekkdamghbaaCt
import Derived.Test.YtaliekkdamghbaaCu
import Derived.Test.YtaliekkdamghbaaOb
namespace Go.Proofs.Ytaliekkdamghbaa.combUp
open Go.ChangeShapes Go.WideShapes Go.ChangeAt Go.RowKit

theorem fill_set (n q : Nat) (hq : q < n) : (List.replicate q true ++ List.replicate (n - q) false).set q true = List.replicate (q + 1) true ++ List.replicate (n - (q + 1)) false := by
  obtain ⟨d, rfl⟩ : ∃ d, n = q + 1 + d := ⟨n - (q + 1), by omega⟩
  rw [show q + 1 + d - q = d + 1 by omega, show q + 1 + d - (q + 1) = d by omega, List.set_append_right _ _ (by simp), List.length_replicate, Nat.sub_self, List.replicate_succ, List.set_cons_zero, List.replicate_succ']
  simp
theorem own_mk (W : World) (g base n : Nat) (hg : g = W.heap.size) (hb : base ≤ g) (hn : n ≤ 140737488351232) : (W.alloc (.cells (madeCells #[.bool false] n) 4)).ownsRow base 4 1 (.slice (some ⟨g, 0, none⟩) n n) n (bools (List.replicate 0 true ++ List.replicate (n - 0) false)) := by
  subst hg
  have h := World.ownsRow_lit W (e := 4) (base := base) (size := 1) (madeCells #[.bool false] n) n hb (by unfold maxLen; omega) (by rw [← Array.length_toList, toList_madeCells_one, List.length_replicate]; omega)
  rw [toList_madeCells_one] at h
  have e : bools (List.replicate 0 true ++ List.replicate (n - 0) false) = List.replicate n (.bool false) := by unfold bools; simp
  rw [e]; exact h
theorem own_bools {w : World} {base n : Nat} {v : Value} {xs : List Bool} (h : w.ownsRow base 4 1 v n (bools xs)) (hn : n ≤ 9223372036854775807) :
    ∃ A c, v = .slice A n c ∧ IsBools w A n xs := by
  obtain ⟨A, c, rfl, -, -⟩ := sl_of_own h
  have hx : xs.length = n := by have := h.1; simpa [bools] using this
  refine ⟨A, c, rfl, hx, hn, fun h0 => ?_⟩
  obtain ⟨g, cap, cs, hv, -, -, -, hb⟩ := own_blk h h0
  injection hv with e1 e2 e3
  refine ⟨g, 0, e1, blk_lt hb, fun j hj => ?_⟩
  subst e1
  rw [Nat.zero_add, World.ownsRow.cellAt h j (by omega), bools_get (by omega)]

set_option maxRecDepth 100000 in
set_option maxHeartbeats 2000000 in
theorem walk (A : Option Addr) (n c : Nat) (T : List ANode) (i : Int) (B : Option Addr) (m d : Nat) (xs : List Bool) (w : World) (h : IsTree w A n T) (hn : n ≤ 140737488351232) (hd : m ≤ d ∧ d ≤ 9223372036854775807) (hL : IsBools w B m xs) :
    Calls Try.prog 7 #[.agg #[.slice A n c], .int .i64 i, .slice B m d] w fun e w' => e = .returned (.bool true) ∧ Below w.heap.size w w' := by
  have ho := hide h.2.2.2
  have hxm := hL.1
  obtain ⟨hd1, hd2⟩ := hd
  have hL' := hide hL
  clear hL
  have hT := hide h
  have hl := h.1
  clear h
  have hB0 := below_alloc (Below.refl w.heap.size w) (.cells #[.slice A n c] 24)
  have hbox0 : (w.alloc (.cells #[.slice A n c] 24)).cell? ⟨w.heap.size, 0, none⟩ = some (.slice A n c) := by go_simp
  have hmk := mk_bools n hn
  have hfs := hide (fun q (hq : q < n) => fill_set n q hq)
  go_enter Try.func7, Try.ntmps7
  go_wp2_with fail
  refine (alive21_ok _).mono ?_
  rintro e w1 ⟨rfl, hb1⟩
  have hB1 := Below.on hB0 hb1
  have hbox1 := cell_later hb1 hbox0
  clear hb1
  go_wp2
  go_loopw [9] (fun s wr => ∃ q : Nat, q ≤ n ∧ s = .int .i64 q ∧ Below w1.heap.size w1 wr ∧ wr.ownsRow w1.heap.size 4 1 (.slice (some ⟨w1.heap.size, 0, none⟩) n n) n (bools (List.replicate q true ++ List.replicate (n - q) false))) (fun s _ => n - (intOf s).toNat)
  case atStart => exact ⟨0, Nat.zero_le _, rfl, below_alloc (Below.refl _ _) _, own_mk _ _ _ _ rfl (Nat.le_refl _) hn⟩
  case round =>
    obtain ⟨q, hq, rfl, hb, hown⟩ := hrel
    by_cases hlt : q < n
    · obtain ⟨g, cap, cs, hv, h1, h2, h3, h4⟩ := own_blk hown (by omega)
      injection hv with e1 e2 e3
      injection e1 with e1
      injection e1 with e1 e4 e5
      subst e1 e3
      have hcell : wr.cell? ⟨w1.heap.size, q, none⟩ = some (.bool (bx (List.replicate q true ++ List.replicate (n - q) false) q)) := by
        rw [World.ownsRow.cellAt hown q (by omega), bools_get (by simp; omega)]
      have hfz : wr.frozen? ⟨w1.heap.size, q, none⟩ = false := blk_frozen h4 _
      have hlr := blk_lt h4
      have hown' := hide hown
      have hs1 := hide (hfs.out q hlt)
      clear hown h4 e2 e4 e5
      go_wp2
      go_roundw
      case rel =>
        refine ⟨q + 1, by omega, by go_num, hb.setCell (p := ⟨w1.heap.size, q, none⟩) (Nat.le_refl _) _, ?_⟩
        have h9 := own_upd (o := q) hown'.out (.bool true)
        rw [bools_set, hs1.out] at h9
        exact h9
      case measure => simp [intOf]; omega
    · obtain rfl : q = n := by omega
      obtain ⟨AL, cL, hvL, hIL⟩ := own_bools hown (by omega)
      injection hvL with e1 e2 e3
      subst e1 e3
      rw [Nat.sub_self, List.replicate_zero, List.append_nil] at hIL
      generalize wr = u at *
      have hB2 := Below.on hB1 hb
      have hbox2 := cell_later hb hbox1
      have hlu : w.heap.size < u.heap.size := cell_in hbox2
      have hI0 : IsBB (u.alloc (.cells #[.slice B m d, .slice (some ⟨w1.heap.size, 0, none⟩) q q] 31)) (some ⟨u.heap.size, 0, none⟩) 2 (twoH xs q) := by
        refine isBB_lt u u.heap.size _ (twoH xs q) (fun j => if j = 0 then B else some ⟨w1.heap.size, 0, none⟩) (fun j => if j = 0 then d else q) _ (by show 2 ≤ 1000; omega) rfl (fun j hj => ?_) (fun j hj => ?_)
        · have hj2 : j = 0 ∨ j = 1 := by simp [twoH] at hj; omega
          rcases hj2 with rfl | rfl
          · show some _ = some (Value.slice B xs.length d)
            rw [hxm]; rfl
          · show some _ = some (Value.slice (some ⟨w1.heap.size, 0, none⟩) (List.replicate q true).length q)
            rw [List.length_replicate]; rfl
        · have hj2 : j = 0 ∨ j = 1 := by simp [twoH] at hj; omega
          rcases hj2 with rfl | rfl
          · show IsBools u B xs.length xs ∧ xs.length ≤ d ∧ d ≤ 9223372036854775807
            rw [hxm]
            exact ⟨hL'.out.below hB2, hd1, hd2⟩
          · show IsBools u _ (List.replicate q true).length (List.replicate q true) ∧ (List.replicate q true).length ≤ q ∧ q ≤ 9223372036854775807
            rw [List.length_replicate]
            exact ⟨hIL, Nat.le_refl _, by omega⟩
      have e0 : twoH xs q = twoH xs T.length := by rw [hl]
      rw [e0] at hI0
      have hI := hide hI0
      have hBI0 := Below.refl (u.alloc (.cells #[.slice B m d, .slice (some ⟨w1.heap.size, 0, none⟩) q q] 31)).heap.size (u.alloc (.cells #[.slice B m d, .slice (some ⟨w1.heap.size, 0, none⟩) q q] 31))
      have hB3 := below_alloc hB2 (.cells #[.slice B m d, .slice (some ⟨w1.heap.size, 0, none⟩) q q] 31)
      clear hIL hown hI0 e2 hfs hmk hn e0
      cases hs : small21 T [] (twoH xs T.length)
      · have hs' := hide hs
        clear hs
        go_wp2_with fail
        have hx := great21_ok _ none _ _ c 0 0 2 2 T [] (twoH xs T.length) _ (hT.out.below hB3) (isU8_nil _) hI.out
        rw [hs'.out] at hx
        refine hx.mono ?_
        clear hx
        rintro e1 w3 ⟨rfl, hb3⟩
        have hB4 := Below.on hB3 hb3
        go_wp2
        go_ret
        exact ⟨rfl, hB4⟩
      · have hs' := hide hs
        clear hs
        go_wp2_with fail
        have hx := great21_ok _ none _ _ c 0 0 2 2 T [] (twoH xs T.length) _ (hT.out.below hB3) (isU8_nil _) hI.out
        rw [hs'.out] at hx
        refine hx.mono ?_
        clear hx
        rintro e1 w3 ⟨rfl, hb3⟩
        have hB4 := Below.on hB3 hb3
        have hbox4 := cell_later hb3 (cell_later (below_alloc (Below.refl _ _) _) hbox2)
        have hBI4 := Below.on hBI0 hb3
        clear hb3
        have hlt3 : w.heap.size < w3.heap.size := cell_in hbox4
        have z4 := below_alloc (Below.refl w3.heap.size w3) (.cells #[.int .u8 1] 5)
        by_cases h0 : cask T i [1] (twoH xs T.length) = 0
        · obtain ⟨hg, hir, ht⟩ := cask_zero.1 h0
          obtain ⟨j, rfl⟩ := Int.eq_ofNat_of_zero_le hir.1
          have hjl : j < T.length := by omega
          have hxT0 : xs.length = T.length := by have := ((toldB_iff _ _ _).1 ht).2.2.2.2 0 (by show 0 < 2; omega); exact this
          have hxT := hide hxT0
          have hmle : q ≤ m := by omega
          have hg' := hide hg
          have h0' := hide h0
          obtain ⟨b, off, aA, cA, aC, cC, rfl, hbl, -, -, c2, -, -, -⟩ := ho.out (by omega)
          have c2' := hide (c2 j (by omega))
          obtain ⟨bb, ob, rfl, hbb, hcb⟩ := hL'.out.2.2 (by omega)
          have hcb' := hide hcb
          obtain ⟨vu, hvu0⟩ : ∃ v, (prtF T j 1).any (hitB xs) = v := ⟨_, rfl⟩
          obtain ⟨vb, hvb0⟩ : ∃ v, (prtF T j 4).any (hitB xs) = v := ⟨_, rfl⟩
          have hvu := hide hvu0
          have hvb := hide hvb0
          have hpr := good_par hg hjl
          have hprev0 := prevL_cons hg hjl
          have hask0 : askI T [(j : Int)] = 0 := askI_ok hg (by simp; omega)
          have hask := hide hask0
          obtain ⟨pv, hpv⟩ : ∃ pv, besE T j (-1) = pv := ⟨_, rfl⟩
          rw [hpv] at hprev0
          have hprev := hide hprev0
          have hpv' := hide hpv
          have hpvl : pv < (q : Int) := by
            rcases hprev0 with ⟨h1, -⟩ | ⟨q2, h1, h2, -⟩ <;> omega
          obtain ⟨pz, hpz0⟩ : ∃ pz, par T j = pz := ⟨_, rfl⟩
          rw [hpz0] at c2' hpr
          have hpz := hide hpz0
          clear hg hir ht h0 c2 hcb hvu0 hvb0 hprev0 hask0 hpv hpz0 hxT0
          go_wp2_with fail
          have hx := rcask_ok _ _ _ _ c 1 1 2 2 T j [1] (twoH xs T.length) _ (hT.out.below (Below.on hB4 z4)) (isU8_lt w3 w3.heap.size _ [1] (by decide) (by decide) rfl) (hI.out.below (Below.on hBI4 z4))
          rw [h0'.out] at hx
          refine hx.mono ?_
          clear hx
          rintro e w4 ⟨rfl, hb4⟩
          have hz := Below.on z4 hb4
          have hB5 := hB4
          clear hB4
          have hB4 := Below.on hB5 hz
          have hBI5 := hBI4
          clear hBI4
          have hBI4 := Below.on hBI5 hz
          have hbox5 := hbox4
          clear hbox4
          have hbox4 := cell_later hz hbox5
          clear hz hb4 z4 hB5 hBI5 hbox5
          have g2 := (old hB4 _ _ hbl).trans c2'.out
          have hbr : b < w4.heap.size := Nat.lt_of_lt_of_le hbl hB4.size
          have hlt4 : w.heap.size < w4.heap.size := cell_in hbox4
          go_wp2_with fail
          have z4 := below_alloc (Below.refl w4.heap.size w4) (.cells #[.int .u8 1] 5)
          refine (cmatch_at T j [1] (twoH xs T.length) _ 0 (two_ask hg'.out xs hxT.out (by decide) (by decide) hjl) ((two_mat hg'.out xs hxT.out (by decide) (by decide) hjl).trans hvu.out) _ _ _ _ c 1 _ 2 _ _ (hT.out.below (Below.on hB4 z4)) (isU8_lt _ _ _ [1] (by decide) (by decide) (by simp)) (hI.out.below (Below.on hBI4 z4))).mono ?_
          rintro e w5 ⟨rfl, hb5⟩
          have hz := Below.on z4 hb5
          have hB5 := Below.on hB4 hz
          have hBI5 := Below.on hBI4 hz
          have hbox5 := cell_later hz hbox4
          clear hz hb5 z4 hbox4
          go_wp2_with fail
          have hx := previous_ok _ _ c T j _ (hT.out.below hB5)
          rw [hask.out, hpv'.out] at hx
          refine hx.mono ?_
          clear hx
          rintro e w6 ⟨rfl, hb6⟩
          have hB6 := Below.on hB5 hb6
          have hBI6 := Below.on hBI5 hb6
          have hbox6 := cell_later hb6 hbox5
          clear hb6 hbox5
          have hlt6 : w.heap.size < w6.heap.size := cell_in hbox6
          go_wp2_with fail
          have z6 := below_alloc (Below.refl w6.heap.size w6) (.cells #[.int .u8 4] 5)
          refine (cmatch_at T j [4] (twoH xs T.length) _ 0 (two_ask hg'.out xs hxT.out (by decide) (by decide) hjl) ((two_mat hg'.out xs hxT.out (by decide) (by decide) hjl).trans hvb.out) _ _ _ _ c 1 _ 2 _ _ (hT.out.below (Below.on hB6 z6)) (isU8_lt _ _ _ [4] (by decide) (by decide) (by simp)) (hI.out.below (Below.on hBI6 z6))).mono ?_
          rintro e w7 ⟨rfl, hb7⟩
          have hz := Below.on z6 hb7
          have hB7 := Below.on hB6 hz
          have hBI7 := Below.on hBI6 hz
          have hbox7 := cell_later hz hbox6
          clear hz hb7 z6 hbox6
          clear g2 hbr
          by_cases hpneg : pz < 0
          · have hvu2 : vu = false := by rw [← hvu.out, up_none xs (by rw [hpz.out]; exact hpneg)]
            subst hvu2
            rcases hprev.out with ⟨hneg, hnil⟩ | ⟨q2, hq2, hql2, hcons⟩
            · have hvb2 : vb = false := by rw [← hvb.out, back_none xs hnil]
              subst hvb2
              clear hnil
              go_wp2
              go_ret
              exact ⟨rfl, hB7⟩
            · obtain ⟨vq, hvq0⟩ : ∃ v, (prtF T q2 4).any (hitB xs) = v := ⟨_, rfl⟩
              have hback : vb = (bx xs q2 || vq) := by rw [← hvb.out, back_any xs hcons, hvq0]
              have hvq := hide hvq0
              subst hq2
              clear hcons hvq0
              cases hxq : bx xs q2
              · rw [hxq, Bool.false_or] at hback
                subst hback
                have hxq' := hide hxq
                clear hxq
                have hlt7 : w.heap.size < w7.heap.size := cell_in hbox7
                go_wp2_with fail
                have z7 := below_alloc (Below.refl w7.heap.size w7) (.cells #[.int .u8 4] 5)
                refine (cmatch_at T q2 [4] (twoH xs T.length) _ 0 (two_ask hg'.out xs hxT.out (by decide) (by decide) hql2) ((two_mat hg'.out xs hxT.out (by decide) (by decide) hql2).trans hvq.out) _ _ _ _ c 1 _ 2 _ _ (hT.out.below (Below.on hB7 z7)) (isU8_lt _ _ _ [4] (by decide) (by decide) (by simp)) (hI.out.below (Below.on hBI7 z7))).mono ?_
                rintro e w8 ⟨rfl, hb8⟩
                have hz := Below.on z7 hb8
                have hB8 := Below.on hB7 hz
                have hBI8 := Below.on hBI7 hz
                have hbox8 := cell_later hz hbox7
                clear hz hb8 z7 hbox7
                have gq := (old hB8 _ _ hbb).trans (hcb'.out q2 (by omega))
                rw [hxq'.out] at gq
                have hbbr : bb < w8.heap.size := Nat.lt_of_lt_of_le hbb hB8.size
                go_wp2
                go_ret
                exact ⟨rfl, hB8⟩
              · rw [hxq, Bool.true_or] at hback
                subst hback
                have hxq' := hide hxq
                clear hxq
                have hlt7 : w.heap.size < w7.heap.size := cell_in hbox7
                go_wp2_with fail
                have z7 := below_alloc (Below.refl w7.heap.size w7) (.cells #[.int .u8 4] 5)
                refine (cmatch_at T q2 [4] (twoH xs T.length) _ 0 (two_ask hg'.out xs hxT.out (by decide) (by decide) hql2) ((two_mat hg'.out xs hxT.out (by decide) (by decide) hql2).trans hvq.out) _ _ _ _ c 1 _ 2 _ _ (hT.out.below (Below.on hB7 z7)) (isU8_lt _ _ _ [4] (by decide) (by decide) (by simp)) (hI.out.below (Below.on hBI7 z7))).mono ?_
                rintro e w8 ⟨rfl, hb8⟩
                have hz := Below.on z7 hb8
                have hB8 := Below.on hB7 hz
                have hBI8 := Below.on hBI7 hz
                have hbox8 := cell_later hz hbox7
                clear hz hb8 z7 hbox7
                have gq := (old hB8 _ _ hbb).trans (hcb'.out q2 (by omega))
                rw [hxq'.out] at gq
                have hbbr : bb < w8.heap.size := Nat.lt_of_lt_of_le hbb hB8.size
                go_wp2
                go_ret
                exact ⟨rfl, hB8⟩
          · obtain ⟨p, rfl⟩ := Int.eq_ofNat_of_zero_le (by omega : 0 ≤ pz)
            have hpl : p < T.length := by omega
            obtain ⟨vp, hvp0⟩ : ∃ v, (prtF T p 1).any (hitB xs) = v := ⟨_, rfl⟩
            have hup : vu = (bx xs p || vp) := by rw [← hvu.out, up_any hg'.out xs hpz.out hpl, hvp0]
            have hvp := hide hvp0
            clear hvp0 hpneg
            cases hxp : bx xs p
            · rw [hxp, Bool.false_or] at hup
              subst hup
              have hxp' := hide hxp
              clear hxp
              have hlt7 : w.heap.size < w7.heap.size := cell_in hbox7
              go_wp2_with fail
              have z7 := below_alloc (Below.refl w7.heap.size w7) (.cells #[.int .u8 1] 5)
              refine (cmatch_at T p [1] (twoH xs T.length) _ 0 (two_ask hg'.out xs hxT.out (by decide) (by decide) hpl) ((two_mat hg'.out xs hxT.out (by decide) (by decide) hpl).trans hvp.out) _ _ _ _ c 1 _ 2 _ _ (hT.out.below (Below.on hB7 z7)) (isU8_lt _ _ _ [1] (by decide) (by decide) (by simp)) (hI.out.below (Below.on hBI7 z7))).mono ?_
              rintro e w8 ⟨rfl, hb8⟩
              have hz := Below.on z7 hb8
              have hB8 := Below.on hB7 hz
              have hBI8 := Below.on hBI7 hz
              have hbox8 := cell_later hz hbox7
              clear hz hb8 z7 hbox7
              have gp := (old hB8 _ _ hbb).trans (hcb'.out p (by omega))
              rw [hxp'.out] at gp
              have hbbr8 : bb < w8.heap.size := Nat.lt_of_lt_of_le hbb hB8.size
              rcases hprev.out with ⟨hneg, hnil⟩ | ⟨q2, hq2, hql2, hcons⟩
              · have hvb2 : vb = false := by rw [← hvb.out, back_none xs hnil]
                subst hvb2
                clear hnil
                go_wp2
                go_ret
                exact ⟨rfl, hB8⟩
              · obtain ⟨vq, hvq0⟩ : ∃ v, (prtF T q2 4).any (hitB xs) = v := ⟨_, rfl⟩
                have hback : vb = (bx xs q2 || vq) := by rw [← hvb.out, back_any xs hcons, hvq0]
                have hvq := hide hvq0
                subst hq2
                clear hcons hvq0
                cases hxq : bx xs q2
                · rw [hxq, Bool.false_or] at hback
                  subst hback
                  have hxq' := hide hxq
                  clear hxq
                  have hlt8 : w.heap.size < w8.heap.size := cell_in hbox8
                  go_wp2_with fail
                  have z8 := below_alloc (Below.refl w8.heap.size w8) (.cells #[.int .u8 4] 5)
                  refine (cmatch_at T q2 [4] (twoH xs T.length) _ 0 (two_ask hg'.out xs hxT.out (by decide) (by decide) hql2) ((two_mat hg'.out xs hxT.out (by decide) (by decide) hql2).trans hvq.out) _ _ _ _ c 1 _ 2 _ _ (hT.out.below (Below.on hB8 z8)) (isU8_lt _ _ _ [4] (by decide) (by decide) (by simp)) (hI.out.below (Below.on hBI8 z8))).mono ?_
                  rintro e w9 ⟨rfl, hb9⟩
                  have hz := Below.on z8 hb9
                  have hB9 := Below.on hB8 hz
                  have hBI9 := Below.on hBI8 hz
                  have hbox9 := cell_later hz hbox8
                  clear hz hb9 z8 hbox8
                  have gq := (old hB9 _ _ hbb).trans (hcb'.out q2 (by omega))
                  rw [hxq'.out] at gq
                  have hbbr : bb < w9.heap.size := Nat.lt_of_lt_of_le hbb hB9.size
                  go_wp2
                  go_ret
                  exact ⟨rfl, hB9⟩
                · rw [hxq, Bool.true_or] at hback
                  subst hback
                  have hxq' := hide hxq
                  clear hxq
                  have hlt8 : w.heap.size < w8.heap.size := cell_in hbox8
                  go_wp2_with fail
                  have z8 := below_alloc (Below.refl w8.heap.size w8) (.cells #[.int .u8 4] 5)
                  refine (cmatch_at T q2 [4] (twoH xs T.length) _ 0 (two_ask hg'.out xs hxT.out (by decide) (by decide) hql2) ((two_mat hg'.out xs hxT.out (by decide) (by decide) hql2).trans hvq.out) _ _ _ _ c 1 _ 2 _ _ (hT.out.below (Below.on hB8 z8)) (isU8_lt _ _ _ [4] (by decide) (by decide) (by simp)) (hI.out.below (Below.on hBI8 z8))).mono ?_
                  rintro e w9 ⟨rfl, hb9⟩
                  have hz := Below.on z8 hb9
                  have hB9 := Below.on hB8 hz
                  have hBI9 := Below.on hBI8 hz
                  have hbox9 := cell_later hz hbox8
                  clear hz hb9 z8 hbox8
                  have gq := (old hB9 _ _ hbb).trans (hcb'.out q2 (by omega))
                  rw [hxq'.out] at gq
                  have hbbr : bb < w9.heap.size := Nat.lt_of_lt_of_le hbb hB9.size
                  go_wp2
                  go_ret
                  exact ⟨rfl, hB9⟩
            · rw [hxp, Bool.true_or] at hup
              subst hup
              have hxp' := hide hxp
              clear hxp
              have hlt7 : w.heap.size < w7.heap.size := cell_in hbox7
              go_wp2_with fail
              have z7 := below_alloc (Below.refl w7.heap.size w7) (.cells #[.int .u8 1] 5)
              refine (cmatch_at T p [1] (twoH xs T.length) _ 0 (two_ask hg'.out xs hxT.out (by decide) (by decide) hpl) ((two_mat hg'.out xs hxT.out (by decide) (by decide) hpl).trans hvp.out) _ _ _ _ c 1 _ 2 _ _ (hT.out.below (Below.on hB7 z7)) (isU8_lt _ _ _ [1] (by decide) (by decide) (by simp)) (hI.out.below (Below.on hBI7 z7))).mono ?_
              rintro e w8 ⟨rfl, hb8⟩
              have hz := Below.on z7 hb8
              have hB8 := Below.on hB7 hz
              have hBI8 := Below.on hBI7 hz
              have hbox8 := cell_later hz hbox7
              clear hz hb8 z7 hbox7
              have gp := (old hB8 _ _ hbb).trans (hcb'.out p (by omega))
              rw [hxp'.out] at gp
              have hbbr8 : bb < w8.heap.size := Nat.lt_of_lt_of_le hbb hB8.size
              rcases hprev.out with ⟨hneg, hnil⟩ | ⟨q2, hq2, hql2, hcons⟩
              · have hvb2 : vb = false := by rw [← hvb.out, back_none xs hnil]
                subst hvb2
                clear hnil
                go_wp2
                go_ret
                exact ⟨rfl, hB8⟩
              · obtain ⟨vq, hvq0⟩ : ∃ v, (prtF T q2 4).any (hitB xs) = v := ⟨_, rfl⟩
                have hback : vb = (bx xs q2 || vq) := by rw [← hvb.out, back_any xs hcons, hvq0]
                have hvq := hide hvq0
                subst hq2
                clear hcons hvq0
                cases hxq : bx xs q2
                · rw [hxq, Bool.false_or] at hback
                  subst hback
                  have hxq' := hide hxq
                  clear hxq
                  have hlt8 : w.heap.size < w8.heap.size := cell_in hbox8
                  go_wp2_with fail
                  have z8 := below_alloc (Below.refl w8.heap.size w8) (.cells #[.int .u8 4] 5)
                  refine (cmatch_at T q2 [4] (twoH xs T.length) _ 0 (two_ask hg'.out xs hxT.out (by decide) (by decide) hql2) ((two_mat hg'.out xs hxT.out (by decide) (by decide) hql2).trans hvq.out) _ _ _ _ c 1 _ 2 _ _ (hT.out.below (Below.on hB8 z8)) (isU8_lt _ _ _ [4] (by decide) (by decide) (by simp)) (hI.out.below (Below.on hBI8 z8))).mono ?_
                  rintro e w9 ⟨rfl, hb9⟩
                  have hz := Below.on z8 hb9
                  have hB9 := Below.on hB8 hz
                  have hBI9 := Below.on hBI8 hz
                  have hbox9 := cell_later hz hbox8
                  clear hz hb9 z8 hbox8
                  have gq := (old hB9 _ _ hbb).trans (hcb'.out q2 (by omega))
                  rw [hxq'.out] at gq
                  have hbbr : bb < w9.heap.size := Nat.lt_of_lt_of_le hbb hB9.size
                  go_wp2
                  go_ret
                  exact ⟨rfl, hB9⟩
                · rw [hxq, Bool.true_or] at hback
                  subst hback
                  have hxq' := hide hxq
                  clear hxq
                  have hlt8 : w.heap.size < w8.heap.size := cell_in hbox8
                  go_wp2_with fail
                  have z8 := below_alloc (Below.refl w8.heap.size w8) (.cells #[.int .u8 4] 5)
                  refine (cmatch_at T q2 [4] (twoH xs T.length) _ 0 (two_ask hg'.out xs hxT.out (by decide) (by decide) hql2) ((two_mat hg'.out xs hxT.out (by decide) (by decide) hql2).trans hvq.out) _ _ _ _ c 1 _ 2 _ _ (hT.out.below (Below.on hB8 z8)) (isU8_lt _ _ _ [4] (by decide) (by decide) (by simp)) (hI.out.below (Below.on hBI8 z8))).mono ?_
                  rintro e w9 ⟨rfl, hb9⟩
                  have hz := Below.on z8 hb9
                  have hB9 := Below.on hB8 hz
                  have hBI9 := Below.on hBI8 hz
                  have hbox9 := cell_later hz hbox8
                  clear hz hb9 z8 hbox8
                  have gq := (old hB9 _ _ hbb).trans (hcb'.out q2 (by omega))
                  rw [hxq'.out] at gq
                  have hbbr : bb < w9.heap.size := Nat.lt_of_lt_of_le hbb hB9.size
                  go_wp2
                  go_ret
                  exact ⟨rfl, hB9⟩
        · have h0' : (cask T i [1] (twoH xs q) != 0) = true := by rw [hl] at h0; simp [h0]
          clear h0
          go_wp2_with fail
          refine (rcask_ok _ _ _ _ c 1 _ 2 _ T i [1] (twoH xs T.length) _ (hT.out.below (Below.on hB4 z4)) (isU8_lt w3 w3.heap.size _ [1] (by decide) (by decide) rfl) (hI.out.below (Below.on hBI4 z4))).mono ?_
          rintro e w4 ⟨rfl, hb4⟩
          have hB5 := Below.on (Below.on hB4 z4) hb4
          go_wp2
          go_ret
          exact ⟨rfl, hB5⟩

set_option maxRecDepth 100000 in
theorem lifted (os : Os) (started : os.Started) (H : Type) (enc : TypeId × Value → H) :
    ReturnsInHanded {} Try.checked os 7 .any (Rows.combUpSpec.pre6 enc Try.prog Try.f7 Rows.combUpRow.domain false) (Rows.combUpSpec.post enc Try.prog Try.f7 false true false false) := by
  refine returnsInHanded_of_change_sized (C := Try.checked) own started (by kernel_rfl) Try.func7
    (ChangeSpec.witness6 (enc := enc) (C := Try.checked) false ⟨#[], #[.agg #[.slice none 0 0], .int .i64 0, .slice none 0 0], []⟩ 8 (by kernel_rfl) (by kernel_rfl) (by kernel_rfl) (by kernel_rfl)) ?_
  intro W base args ds gs before hval0 hW hcnd hsz _
  have hval : ∀ (j : Nat) t v, Try.f7.params[j]? = some t → args[j]? = some v → Value.okWide Try.prog W .any base t v := hval0
  have hW' := hW
  obtain ⟨p, q, hA0, hV, rfl, hfz, hnd⟩ := hW
  have hA : DataW.TrodAll enc Try.prog W 0 (fun _ => true) true Try.f7.params.toList args.toList ds p := hA0
  rw [Try.params7] at hA hval hsz
  obtain ⟨v0, vs0, d0, ds0, p0, q0, hargs, rfl, rfl, h0, r0⟩ := trodAll_cons hA
  obtain ⟨v1, vs1, d1, ds1, p1, q1, rfl, rfl, rfl, h1, r1⟩ := trodAll_cons r0
  obtain ⟨v2, vs2, d2, ds2, p2, q2, rfl, rfl, rfl, h2, r2⟩ := trodAll_cons r1
  obtain ⟨rfl, rfl, rfl⟩ := trodAll_nil r2
  obtain rfl : args = #[v0, v1, v2] := by cases args; simp_all
  obtain ⟨rfl, rfl⟩ := trodVars_none hV
  have lt0 : ∀ x ∈ p0, x.block < W.heap.size := by obtain ⟨m, hm⟩ := h0; exact DataW.trod_lt m _ _ _ hm
  have k0 := h0
  have lt1 : ∀ x ∈ p1, x.block < W.heap.size := by obtain ⟨m, hm⟩ := h1; exact DataW.trod_lt m _ _ _ hm
  have k1 := h1
  have lt2 : ∀ x ∈ p2, x.block < W.heap.size := by obtain ⟨m, hm⟩ := h2; exact DataW.trod_lt m _ _ _ hm
  have k2 := h2
  obtain ⟨A0, n0, c0, T0, rfl, hT0⟩ := tree_open (hval 0 _ v0 rfl rfl) h0
  have z0 := tree_sized k0 (weight_le hsz (j := 0) rfl rfl)
  obtain ⟨a1, rfl, rfl, rfl, w1⟩ := open_int Try.underlying3 (hval 1 _ v1 rfl rfl) h1
  obtain ⟨A2, n2, c2, xs2, rfl, hk2, hL2⟩ := bools_param2 (hval 2 _ v2 rfl rfl) h2
  clear hA0 hval0
  refine (walk A0 n0 c0 T0 a1 A2 n2 c2 xs2 W hT0 z0  hk2 hL2).mono fun e W' ⟨he, bel⟩ => ?_
  subst he
  exact ⟨_, rfl, _, _, _, [], _, [], hW', trodAll_mk1 (shut_bool Try.underlying4 _), (trodAll_cons_mk (Below.trod laidOut (by kernel_rfl) (of_decide_eq_true (by kernel_rfl)) k0 bel lt0) (trodAll_cons_mk (Below.trod laidOut (by kernel_rfl) (of_decide_eq_true (by kernel_rfl)) k1 bel lt1) (trodAll_cons_mk (Below.trod laidOut (by kernel_rfl) (of_decide_eq_true (by kernel_rfl)) k2 bel lt2) trodAll_mk0))), rfl, bel.frame _, fun h => by cases h⟩

theorem proved : Rows.CombUpSaid :=
  OpenClaim.holds_of_wide 7 Try.f7 rfl rfl rfl rfl rfl rfl rfl ⟨rfl, rfl, rfl, rfl, rfl⟩ rfl rfl rfl rfl rfl (by kernel_rfl) Try.func7 (by kernel_rfl)
    (of_decide_eq_true (by kernel_rfl)) (by unfold Func.isWrapper; first | (rw [if_pos (by decide +kernel)]; kernel_rfl) | (rw [if_neg (by decide +kernel)]; exact ⟨rfl, rfl⟩))
    (fun os started H enc _ => lifted os started H enc)
#print axioms proved
end Go.Proofs.Ytaliekkdamghbaa.combUp
