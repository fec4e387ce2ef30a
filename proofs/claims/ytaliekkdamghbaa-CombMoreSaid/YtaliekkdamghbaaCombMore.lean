/- For every tree and what is told: more matches of a compound give no fewer matches, and a nearer combinator gives no more; unless the data are greater than the statement considers. No condition. -/
import Derived.Test.YtaliekkdamghbaaDe
import Derived.Test.YtaliekkdamghbaaDb
import Derived.Test.YtaliekkdamghbaaDa
import Derived.Test.YtaliekkdamghbaaCt
import Derived.Test.YtaliekkdamghbaaCo
import Derived.Test.YtaliekkdamghbaaOpen
namespace Go.Proofs.Ytaliekkdamghbaa.combMore
open Go.ChangeShapes Go.WideShapes Go.ChangeAt Go.RowKit

set_option maxRecDepth 100000 in
set_option maxHeartbeats 4000000 in
theorem walk (A : Option Addr) (n c : Nat) (T : List ANode) (B : Option Addr) (m d : Nat) (cs : List Int) (C : Option Addr) (K e : Nat) (H : List (List Bool)) (k i : Int) (w : World) (h : IsTree w A n T) (hcs : IsU8 w B m cs) (hH : IsBB w C K H) :
    Calls Try.prog 3 #[.agg #[.slice A n c], .slice B m d, .slice C K e, .int .i64 k, .int .i64 i] w fun e w' => e = .returned (.bool true) ∧ Below w.heap.size w w' := by
  have hml := hcs.1
  have hkl := hH.1
  have hk63 := hH.2.1
  have hcs' := hide hcs
  have hH' := hide hH
  clear hcs hH
  have hT := hide h
  have hl := h.1
  clear h
  have hB0 := below_alloc (Below.refl w.heap.size w) (.cells #[.slice A n c] 24)
  have hbox0 : (w.alloc (.cells #[.slice A n c] 24)).cell? ⟨w.heap.size, 0, none⟩ = some (.slice A n c) := by go_simp
  cases hs : small21 T cs H
  · have hs' := hide hs
    clear hs
    go_enter Try.func3, Try.ntmps3
    go_wp2_with fail
    refine (alive21_ok _).mono ?_
    rintro e w1 ⟨rfl, hb1⟩
    have hbox1 := cell_later hb1 hbox0
    have hB1 := Below.on hB0 hb1
    go_wp2_with fail
    have hx := great21_ok _ _ _ _ c _ d _ e T cs H _ (hT.out.below hB1) (hcs'.out.below hB1) (hH'.out.below hB1)
    rw [hs'.out] at hx
    refine hx.mono ?_
    clear hx
    rintro e1 w2 ⟨rfl, hb2⟩
    go_wp2
    go_ret
    exact ⟨rfl, Below.on hB1 hb2⟩
  · obtain ⟨-, -, -, hk70, -, hrow80⟩ := small21_iff.1 hs
    have hs' := hide hs
    have hr80 := hide hrow80
    obtain ⟨i0, hI, hz0, hz1, hz2⟩ := info_parts info_bool'
    obtain ⟨i8, hI8, hy0, hy1, hy2⟩ := info_parts info_u8
    clear hs hrow80
    by_cases h0 : cchk T cs H = 0
    · obtain ⟨hg, ht⟩ := cchk_zero.1 h0
      obtain ⟨ht1, ht2⟩ := told_len ht
      obtain rfl : K = m + 1 := by omega
      by_cases ha : askI T [i] = 0
      · by_cases hk0 : 0 ≤ k ∧ k < (m : Int) + 1
        · obtain ⟨hk1, hk2⟩ := hk0
          obtain ⟨kk, rfl⟩ := Int.eq_ofNat_of_zero_le hk1
          have hir := (askI_zero.1 ha).2 i (by simp)
          obtain ⟨ii, rfl⟩ := Int.eq_ofNat_of_zero_le hir.1
          have hii : ii < n := by omega
          have hkk : kk < m + 1 := by omega
          have hn64 : n ≤ 64 := by have := ((goodB_iff T).1 hg).2.1; omega
          obtain ⟨XA, hXA⟩ : ∃ X, rchL T cs H m = X := ⟨_, rfl⟩
          obtain ⟨XB, hXB⟩ : ∃ X, rchL T cs (setH H kk ii) m = X := ⟨_, rfl⟩
          obtain ⟨XC, hXC⟩ : ∃ X, rchL T (tightL cs kk) H m = X := ⟨_, rfl⟩
          have h0B : cchk T cs (setH H kk ii) = 0 := cchk_zero.2 ⟨hg, setH_told ht kk ii⟩
          have h0C : cchk T (tightL cs kk) H = 0 := cchk_zero.2 ⟨hg, tight_told ht kk⟩
          have hlA : Hid (allE T cs H = XA) := by show _ = _; unfold allE; rw [if_pos h0, hml, hXA]
          have hlB : Hid (allE T cs (setH H kk ii) = XB) := by show _ = _; unfold allE; rw [if_pos h0B, hml, hXB]
          have hlC : Hid (allE T (tightL cs kk) H = XC) := by show _ = _; unfold allE; rw [if_pos h0C, tight_len, hml, hXC]
          have hnA : Hid (XA.length = n) := by show _ = _; rw [← hXA, rchL_len, hl]
          have hnB : Hid (XB.length = n) := by show _ = _; rw [← hXB, rchL_len, hl]
          have hnC : Hid (XC.length = n) := by show _ = _; rw [← hXC, rchL_len, hl]
          have hAB : Hid (∀ x, x < n → bx XA x = true → bx XB x = true) := fun x hx hv => by rw [← hXB]; exact more_all kk ii m x (by omega) (by rw [hXA]; exact hv)
          have hCA : Hid (∀ x, x < n → bx XC x = true → bx XA x = true) := fun x hx hv => by rw [← hXA]; exact less_all kk m x (by omega) (by rw [hXC]; exact hv)
          have hc0A := hide h0
          have hc0B := hide h0B
          have hc0C := hide h0C
          have ha' := hide ha
          have htix := hide (tight_ix cs kk)
          have hrk : Hid ((rowB H kk).length = n) := by show _ = _; rw [((toldB_iff _ _ _).1 ht).2.2.2.2 kk (by omega), hl]
          have hy4 := hide ((toldB_iff _ _ _).1 ht).2.2.2.1
          have hslen : Hid ((setH H kk ii).length = m + 1) := by show _ = _; unfold setH; rw [List.length_set]; exact hkl
          have hsrow := hide (setH_row_len H kk ii)
          have htr : Hid (∀ x ∈ tightL cs kk, 0 ≤ x ∧ x ≤ 255) := fun x hx => by
            obtain ⟨j, hj, rfl⟩ := mem_ix hx
            have := ((toldB_iff _ _ _).1 (tight_told ht kk)).2.2.2.1 j hj
            omega
          clear h0 h0B h0C hXA hXB hXC ha hg ht hir
          go_enter Try.func3, Try.ntmps3
          go_wp2_with fail
          refine (alive21_ok _).mono ?_
          rintro e w1 ⟨rfl, hb1⟩
          have hbox1 := cell_later hb1 hbox0
          have hB1 := Below.on hB0 hb1
          go_wp2_with fail
          have hx := great21_ok _ _ _ _ c _ d _ e T cs H _ (hT.out.below hB1) (hcs'.out.below hB1) (hH'.out.below hB1)
          rw [hs'.out] at hx
          refine hx.mono ?_
          clear hx
          rintro e1 w2 ⟨rfl, hb2⟩
          have hB2 := Below.on hB1 hb2
          have hbox2 := cell_later hb2 hbox1
          clear hb2 hbox1
          go_wp2_with fail
          have hx := rccheck_ok _ _ _ _ c _ d _ e T cs H _ (hT.out.below hB2) (hcs'.out.below hB2) (hH'.out.below hB2)
          rw [hc0A.out] at hx
          refine hx.mono ?_
          clear hx
          rintro e1 w3 ⟨rfl, hb3⟩
          have hB3 := Below.on hB2 hb3
          have hbox3 := cell_later hb3 hbox2
          clear hb3 hbox2
          go_wp2_with fail
          have hx := rasked_ok _ _ c T ii _ (hT.out.below hB3)
          rw [ha'.out] at hx
          refine hx.mono ?_
          clear hx
          rintro e1 w4 ⟨rfl, hb4⟩
          have hB4 := Below.on hB3 hb4
          have hbox4 := cell_later hb4 hbox3
          clear hb4 hbox3
          go_wp2_with fail
          refine (call_at T cs H XA 0 hc0A.out hlA.out _ _ _ _ c _ d _ e _ (hT.out.below hB4) (hcs'.out.below hB4) (hH'.out.below hB4)).mono ?_
          rintro e5 w5 ⟨A5, c5, rfl, hI5, h51, h52, hb5⟩
          rw [hnA.out] at hI5 ⊢
          have hB5 := Below.on hB4 hb5
          have hbox5 := cell_later hb5 hbox4
          have hIA5 := hide hI5
          clear hI5 hb5 hbox4
          go_wp2
          go_loopw [14, 15] (fun v s wr => ∃ q : Nat, q ≤ m + 1 ∧ s = .int .i64 q ∧ OwnBBd wr w5.heap.size v q H ∧ Below w5.heap.size w5 wr) (fun _ s _ => m + 1 - (intOf s).toNat)
          case atStart => exact ⟨0, Nat.zero_le _, rfl, ownBBd_nil _ _ _, Below.refl _ _⟩
          case round =>
            obtain ⟨q, hq, rfl, hown, hb⟩ := hrel
            have hBw := Below.on hB5 hb
            have hbox := cell_later hb hbox5
            by_cases hlt : q < m + 1
            · obtain ⟨bh, oh, hA, hC, rfl, hbh, hhc, hhr⟩ := hH'.out.2.2 (by omega)
              have gq := (old hBw _ _ hbh).trans (hhc q hlt)
              have hIq := (hhr q hlt).1.below hBw
              have hl80 := hr80.out q (by omega)
              have hbhr : bh < wr.heap.size := Nat.lt_of_lt_of_le hbh hBw.size
              generalize hA q = RA at gq hIq
              generalize hC q = RC at gq
              obtain ⟨ln, hln⟩ : ∃ ln, (rowB H q).length = ln := ⟨_, rfl⟩
              rw [hln] at gq hIq hl80
              have hIq' := hide hIq
              have hln' := hide hln
              have hlen : Hid ((bools (rowB H q)).length = ln * 1) := by show _ = _; simp [bools, hln]
              clear hhc hhr hIq hln
              go_wp2_with (at_builtin; refine wpList_append_from rfl _ _ 31 rfl wr.heap.size 4 i0 (.bool false) 1 1 Try.underlying31 hI hz0 hz1 hz2 rfl (by decide) _ _ _ rfl (World.ownsRow_lit wr #[] 0 (Nat.le_refl _) (Nat.zero_le _) rfl) RA ln RC (bools (rowB H q)) rfl ?c0 ?c1 ?c2 ?c3 ?c4 ?c5 ?c6 ?_)
              case c0 => exact hlen.out
              case c1 => exact bools_none hIq'.out
              case c2 => exact bools_at (hIq'.out.below (below_alloc (Below.refl _ _) _))
              case c3 => exact bools_one _
              case c4 => unfold maxLen; omega
              case c5 => omega
              case c6 => simp
              · intro v' w6 hown' hgrow
                have hrow2 : w6.ownsRow wr.heap.size 4 1 v' ln (bools (rowB H q)) := by simpa using hown'
                have hb6 : Below wr.heap.size wr w6 := (below_alloc (Below.refl wr.heap.size wr) (.cells #[] 4)).grown hgrow (by simp) (fun k hk => by simp [Value.ownBlock] at hk; omega)
                obtain ⟨A6, c6, rfl⟩ := own_slice hrow2
                have hrow2' := hide hrow2
                have hB6 := hide (Below.on hb hb6)
                have hown0 := hide hown
                have hb6' := hide hb6
                have hszw : w5.heap.size ≤ wr.heap.size := hb.size
                clear hown' hgrow hrow2 hown hb6 gq hlen
                go_wp2_with (at_builtin; refine wpList_pushBBd rfl _ _ rfl hown0.out hb6'.out A6 ln c6 hln'.out.symm hrow2'.out _ rfl rfl (by omega) hszw ?_)
                intro A7 c7 w7 hO7 hG7
                have hB7 := hide (hG7.below (Nat.le_refl _) hB6.out)
                have hO7' := hide hO7
                clear hO7 hG7 hown0
                go_wp2
                go_roundw
                case rel => exact ⟨q + 1, by omega, by go_num, hO7'.out, hB7.out⟩
                case measure => simp [intOf]; omega
            · obtain rfl : q = m + 1 := by omega
              generalize wr = u at *
              obtain ⟨ga, cga, g, ck, rfl, h61, h62, h63, h64, h65, h66, h67, h68, h69, h6a, hO6⟩ := hown.change hkl (by omega) (k := kk) (i := ii) hkk (by rw [hrk.out]; exact hii)
              rw [hrk.out] at h64 h65
              obtain ⟨AB, cB, hvB, -, -, hIB⟩ := hO6.isBB hslen.out (by omega) (fun j hj => by rw [hsrow.out]; have := hr80.out j (by omega); omega)
              injection hvB with v1 v2 v3
              subst v1 v3
              have hIB' := hide hIB
              have hBs : Below w.heap.size w (u.setCell ⟨g, ii, none⟩ (.bool true)) := hBw.setCell (p := ⟨g, ii, none⟩) (by have := hB5.size; show w.heap.size ≤ g; omega) _
              have hb5s : Below w5.heap.size w5 (u.setCell ⟨g, ii, none⟩ (.bool true)) := hb.setCell (p := ⟨g, ii, none⟩) (by show w5.heap.size ≤ g; omega) _
              have hboxs := cell_later hb5s hbox5
              have hIAs := hide (hIA5.out.below hb5s)
              have hc62 : cga ≤ 9223372036854775807 := by unfold maxLen at h62; omega
              have hc66 : ck ≤ 9223372036854775807 := by unfold maxLen at h66; omega
              clear hown hO6 v2 hIB hb hbox hb5s
              go_wp2_with fail
              refine (call_at T cs (setH H kk ii) XB 0 hc0B.out hlB.out _ _ _ _ c _ d _ _ _ (hT.out.below hBs) (hcs'.out.below hBs) hIB'.out).mono ?_
              rintro e7 w7 ⟨A7, c7, rfl, hI7, h71, h72, hb7⟩
              rw [hnB.out] at hI7 ⊢
              have hB7 := Below.on hBs hb7
              have hbox7 := cell_later hb7 hboxs
              have hIA7 := hide (hIAs.out.below hb7)
              have hIB7 := hide hI7
              have hU7 := hide (hcs'.out.below hB7)
              have hlen8 : Hid ((u8s cs).length = m * 1) := by show _ = _; rw [u8s_len, hml]; omega
              clear hI7 hb7 hIAs hboxs hBs hIB' h64 h69 h6a
              go_wp2_with (at_builtin; refine wpList_append_from rfl _ _ 25 rfl w7.heap.size 5 i8 (.int .u8 0) 1 1 Try.underlying25 hI8 hy0 hy1 hy2 rfl (by decide) _ _ _ rfl (World.ownsRow_lit w7 #[] 0 (Nat.le_refl _) (Nat.zero_le _) rfl) B m d (u8s cs) rfl ?d0 ?d1 ?d2 ?d3 ?d4 ?d5 ?d6 ?_)
              case d0 => exact hlen8.out
              case d1 => exact u8_none hU7.out
              case d2 => exact u8s_at (hU7.out.below (below_alloc (Below.refl _ _) _))
              case d3 => exact u8s_one _
              case d4 => unfold maxLen; omega
              case d5 => omega
              case d6 => simp
              · intro v' w8 hown' hgrow
                have hrow8 : w8.ownsRow w7.heap.size 5 1 v' m (u8s cs) := by simpa using hown'
                have hb8 : Below w7.heap.size w7 w8 := (below_alloc (Below.refl w7.heap.size w7) (.cells #[] 5)).grown hgrow (by simp) (fun k hk => by simp [Value.ownBlock] at hk; omega)
                have hB8 := Below.on hB7 hb8
                have hbox8 := cell_later hb8 hbox7
                have hIA8 := hide (hIA7.out.below hb8)
                have hIB8 := hide (hIB7.out.below hb8)
                have hb8k := hide hb8
                have hIA7k := hIA7
                have hIB7k := hIB7
                have hsz7 : w.heap.size < w7.heap.size := cell_in hbox7
                clear hown' hgrow hIA7 hIB7 hbox7 hb8
                by_cases hkm : kk < m
                · obtain ⟨gt, ct, cst, rfl, hc81, hc82, hc83, hc84⟩ := own_blk hrow8 (by omega)
                  have hgt := blk_lt hc84
                  have gy : w8.cell? ⟨gt, kk, none⟩ = some (.int .u8 (ix cs kk)) := by rw [World.ownsRow.cellAt hrow8 kk (by omega), u8s_get (by omega)]
                  have fy : w8.frozen? ⟨gt, kk, none⟩ = false := blk_frozen hc84 kk
                  have hy := hy4.out kk (by omega)
                  have hc822 : ct ≤ 9223372036854775807 := by unfold maxLen at hc82; omega
                  have hrow8' := hide hrow8
                  have htl : tightL cs kk = cs.set kk (tightC (ix cs kk)) := rfl
                  have hgw : w.heap.size ≤ gt := by have := hB7.size; omega
                  obtain ⟨y, hye⟩ : ∃ y, ix cs kk = y := ⟨_, rfl⟩
                  rw [hye] at gy hy htl
                  have htl' := hide htl
                  have hye' := hide hye
                  clear hrow8 hc84 htl hye
                  rcases (by omega : y = 1 ∨ y = 4 ∨ (y = 2 ∨ y = 3)) with rfl | rfl | hy23
                  · have hup := own_upd (o := kk) hrow8'.out (.int .u8 2)
                    have etl : cs.set kk 2 = tightL cs kk := by rw [htl'.out]; rfl
                    rw [u8s_set, etl] at hup
                    have hTr : ∀ x ∈ tightL cs kk, 0 ≤ x ∧ x ≤ 255 := htr.out
                    obtain ⟨AT, cT, hvT, -, -, hTg⟩ := own_isU8 hup (by omega) hTr
                    injection hvT with t1 t2 t3
                    subst t1 t3
                    have hBr : Below w.heap.size w (w8.setCell ⟨gt, kk, none⟩ (.int .u8 2)) := hB8.setCell (p := ⟨gt, kk, none⟩) hgw _
                    have hboxr : (w8.setCell ⟨gt, kk, none⟩ (.int .u8 2)).cell? ⟨w.heap.size, 0, none⟩ = some (.slice A n c) := (World.cell?_setCell_far _ ⟨gt, kk, none⟩ ⟨w.heap.size, 0, none⟩ _ (by have := hB7.size; have := cell_in hbox8; show gt ≠ w.heap.size; omega)).trans hbox8
                    have hb7s : Below w7.heap.size w7 (w8.setCell ⟨gt, kk, none⟩ (.int .u8 2)) := hb8k.out.setCell (p := ⟨gt, kk, none⟩) (by show w7.heap.size ≤ gt; omega) _
                    have hIAr := hide (hIA7k.out.below hb7s)
                    have hIBr := hide (hIB7k.out.below hb7s)
                    clear hup etl hTr t2 hb7s hB8 hbox8 hIA8 hIB8 hrow8'
                    have hT8 := hide hTg
                    have hBr' := hide hBr
                    clear hTg
                    go_wp2_with fail
                    refine (call_at T (tightL cs kk) H XC 0 hc0C.out hlC.out _ _ _ _ c _ _ _ e _ (hT.out.below hBr) hT8.out (hH'.out.below hBr)).mono ?_
                    rintro e9 w9 ⟨A9, c9, rfl, hI9, h91, h92, hb9⟩
                    rw [hnC.out] at hI9 ⊢
                    have hB9 := Below.on hBr hb9
                    have hbox9 := cell_later hb9 hboxr
                    have hIA9 := hide (hIAr.out.below hb9)
                    have hIB9 := hide (hIBr.out.below hb9)
                    have hIC9 := hide hI9
                    clear hI9 hb9 hBr hboxr hIAr hIBr hT8 hBr'
                    go_wp2
                    go_loop [21] (fun s => ∃ x : Nat, x ≤ n ∧ s = .int .i64 x) (fun s => n - (intOf s).toNat)
                    case atStart => exact ⟨0, Nat.zero_le _, rfl⟩
                    case round =>
                      obtain ⟨x, hx, rfl⟩ := hrel
                      by_cases hlx : x < n
                      · obtain ⟨ba, oa, rfl, hba, hca⟩ := hIA9.out.2.2 (by omega)
                        obtain ⟨bb, ob, rfl, hbb, hcb⟩ := hIB9.out.2.2 (by omega)
                        obtain ⟨bc, oc, rfl, hbc, hcc⟩ := hIC9.out.2.2 (by omega)
                        have ga := hca x hlx
                        have gb := hcb x hlx
                        have gc := hcc x hlx
                        have hab := hAB.out x hlx
                        have hca2 := hCA.out x hlx
                        generalize bx XA x = va at ga hab hca2
                        generalize bx XB x = vb at gb hab
                        generalize bx XC x = vc at gc hca2
                        clear hca hcb hcc
                        cases va
                        · have : vc = false := by cases vc; rfl; exact absurd (hca2 rfl) (by decide)
                          subst this
                          clear hab hca2
                          go_wp2
                          go_round
                          case rel => exact ⟨x + 1, by omega, by go_num⟩
                          case measure => simp [intOf]; omega
                        · have : vb = true := hab rfl
                          subst this
                          clear hab hca2
                          cases vc
                          all_goals
                            go_wp2
                            go_round
                            case rel => exact ⟨x + 1, by omega, by go_num⟩
                            case measure => simp [intOf]; omega
                      · go_wp2
                        go_ret
                        exact ⟨rfl, hB9⟩
                  · have hup := own_upd (o := kk) hrow8'.out (.int .u8 3)
                    have etl : cs.set kk 3 = tightL cs kk := by rw [htl'.out]; rfl
                    rw [u8s_set, etl] at hup
                    have hTr : ∀ x ∈ tightL cs kk, 0 ≤ x ∧ x ≤ 255 := htr.out
                    obtain ⟨AT, cT, hvT, -, -, hTg⟩ := own_isU8 hup (by omega) hTr
                    injection hvT with t1 t2 t3
                    subst t1 t3
                    have hBr : Below w.heap.size w (w8.setCell ⟨gt, kk, none⟩ (.int .u8 3)) := hB8.setCell (p := ⟨gt, kk, none⟩) hgw _
                    have hboxr : (w8.setCell ⟨gt, kk, none⟩ (.int .u8 3)).cell? ⟨w.heap.size, 0, none⟩ = some (.slice A n c) := (World.cell?_setCell_far _ ⟨gt, kk, none⟩ ⟨w.heap.size, 0, none⟩ _ (by have := hB7.size; have := cell_in hbox8; show gt ≠ w.heap.size; omega)).trans hbox8
                    have hb7s : Below w7.heap.size w7 (w8.setCell ⟨gt, kk, none⟩ (.int .u8 3)) := hb8k.out.setCell (p := ⟨gt, kk, none⟩) (by show w7.heap.size ≤ gt; omega) _
                    have hIAr := hide (hIA7k.out.below hb7s)
                    have hIBr := hide (hIB7k.out.below hb7s)
                    clear hup etl hTr t2 hb7s hB8 hbox8 hIA8 hIB8 hrow8'
                    have hT8 := hide hTg
                    have hBr' := hide hBr
                    clear hTg
                    go_wp2_with fail
                    refine (call_at T (tightL cs kk) H XC 0 hc0C.out hlC.out _ _ _ _ c _ _ _ e _ (hT.out.below hBr) hT8.out (hH'.out.below hBr)).mono ?_
                    rintro e9 w9 ⟨A9, c9, rfl, hI9, h91, h92, hb9⟩
                    rw [hnC.out] at hI9 ⊢
                    have hB9 := Below.on hBr hb9
                    have hbox9 := cell_later hb9 hboxr
                    have hIA9 := hide (hIAr.out.below hb9)
                    have hIB9 := hide (hIBr.out.below hb9)
                    have hIC9 := hide hI9
                    clear hI9 hb9 hBr hboxr hIAr hIBr hT8 hBr'
                    go_wp2
                    go_loop [21] (fun s => ∃ x : Nat, x ≤ n ∧ s = .int .i64 x) (fun s => n - (intOf s).toNat)
                    case atStart => exact ⟨0, Nat.zero_le _, rfl⟩
                    case round =>
                      obtain ⟨x, hx, rfl⟩ := hrel
                      by_cases hlx : x < n
                      · obtain ⟨ba, oa, rfl, hba, hca⟩ := hIA9.out.2.2 (by omega)
                        obtain ⟨bb, ob, rfl, hbb, hcb⟩ := hIB9.out.2.2 (by omega)
                        obtain ⟨bc, oc, rfl, hbc, hcc⟩ := hIC9.out.2.2 (by omega)
                        have ga := hca x hlx
                        have gb := hcb x hlx
                        have gc := hcc x hlx
                        have hab := hAB.out x hlx
                        have hca2 := hCA.out x hlx
                        generalize bx XA x = va at ga hab hca2
                        generalize bx XB x = vb at gb hab
                        generalize bx XC x = vc at gc hca2
                        clear hca hcb hcc
                        cases va
                        · have : vc = false := by cases vc; rfl; exact absurd (hca2 rfl) (by decide)
                          subst this
                          clear hab hca2
                          go_wp2
                          go_round
                          case rel => exact ⟨x + 1, by omega, by go_num⟩
                          case measure => simp [intOf]; omega
                        · have : vb = true := hab rfl
                          subst this
                          clear hab hca2
                          cases vc
                          all_goals
                            go_wp2
                            go_round
                            case rel => exact ⟨x + 1, by omega, by go_num⟩
                            case measure => simp [intOf]; omega
                      · go_wp2
                        go_ret
                        exact ⟨rfl, hB9⟩
                  · have hnc : Hid (tightL cs kk = cs) := by
                      show _ = _
                      rw [htl'.out]
                      have e1 : tightC y = y := by unfold tightC; rw [if_neg (by omega), if_neg (by omega)]
                      rw [e1, ← hye'.out, ix_get (by omega), List.set_getElem_self]
                    obtain ⟨AT, cT, hvT, -, -, hTg0⟩ := own_isU8 hrow8'.out (by omega) hU7.out.2.2.1
                    injection hvT with t1 t2 t3
                    subst t1 t3
                    have hTg : IsU8 w8 (some ⟨gt, 0, none⟩) m (tightL cs kk) := by rw [hnc.out]; exact hTg0
                    have hBr := hB8
                    have hboxr := hbox8
                    have hIAr := hIA8
                    have hIBr := hIB8
                    clear hTg0 t2 hB8 hbox8 hIA8 hIB8 hrow8'
                    have y1 : (y == 1) = false := by simp; omega
                    have y4 : (y == 4) = false := by simp; omega
                    clear hy23
                    have hT8 := hide hTg
                    have hBr' := hide hBr
                    clear hTg
                    go_wp2_with fail
                    refine (call_at T (tightL cs kk) H XC 0 hc0C.out hlC.out _ _ _ _ c _ _ _ e _ (hT.out.below hBr) hT8.out (hH'.out.below hBr)).mono ?_
                    rintro e9 w9 ⟨A9, c9, rfl, hI9, h91, h92, hb9⟩
                    rw [hnC.out] at hI9 ⊢
                    have hB9 := Below.on hBr hb9
                    have hbox9 := cell_later hb9 hboxr
                    have hIA9 := hide (hIAr.out.below hb9)
                    have hIB9 := hide (hIBr.out.below hb9)
                    have hIC9 := hide hI9
                    clear hI9 hb9 hBr hboxr hIAr hIBr hT8 hBr'
                    go_wp2
                    go_loop [21] (fun s => ∃ x : Nat, x ≤ n ∧ s = .int .i64 x) (fun s => n - (intOf s).toNat)
                    case atStart => exact ⟨0, Nat.zero_le _, rfl⟩
                    case round =>
                      obtain ⟨x, hx, rfl⟩ := hrel
                      by_cases hlx : x < n
                      · obtain ⟨ba, oa, rfl, hba, hca⟩ := hIA9.out.2.2 (by omega)
                        obtain ⟨bb, ob, rfl, hbb, hcb⟩ := hIB9.out.2.2 (by omega)
                        obtain ⟨bc, oc, rfl, hbc, hcc⟩ := hIC9.out.2.2 (by omega)
                        have ga := hca x hlx
                        have gb := hcb x hlx
                        have gc := hcc x hlx
                        have hab := hAB.out x hlx
                        have hca2 := hCA.out x hlx
                        generalize bx XA x = va at ga hab hca2
                        generalize bx XB x = vb at gb hab
                        generalize bx XC x = vc at gc hca2
                        clear hca hcb hcc
                        cases va
                        · have : vc = false := by cases vc; rfl; exact absurd (hca2 rfl) (by decide)
                          subst this
                          clear hab hca2
                          go_wp2
                          go_round
                          case rel => exact ⟨x + 1, by omega, by go_num⟩
                          case measure => simp [intOf]; omega
                        · have : vb = true := hab rfl
                          subst this
                          clear hab hca2
                          cases vc
                          all_goals
                            go_wp2
                            go_round
                            case rel => exact ⟨x + 1, by omega, by go_num⟩
                            case measure => simp [intOf]; omega
                      · go_wp2
                        go_ret
                        exact ⟨rfl, hB9⟩
                · have hnc : Hid (tightL cs kk = cs) := List.set_eq_of_length_le (by omega)
                  obtain ⟨AT, cT, rfl, -, -, hTg0⟩ := own_isU8 hrow8 (by omega) hU7.out.2.2.1
                  have hTg : IsU8 w8 AT m (tightL cs kk) := by rw [hnc.out]; exact hTg0
                  have hBr := hB8
                  have hboxr := hbox8
                  have hIAr := hIA8
                  have hIBr := hIB8
                  clear hTg0 hB8 hbox8 hIA8 hIB8 hrow8
                  have hT8 := hide hTg
                  have hBr' := hide hBr
                  clear hTg
                  go_wp2_with fail
                  refine (call_at T (tightL cs kk) H XC 0 hc0C.out hlC.out _ _ _ _ c _ _ _ e _ (hT.out.below hBr) hT8.out (hH'.out.below hBr)).mono ?_
                  rintro e9 w9 ⟨A9, c9, rfl, hI9, h91, h92, hb9⟩
                  rw [hnC.out] at hI9 ⊢
                  have hB9 := Below.on hBr hb9
                  have hbox9 := cell_later hb9 hboxr
                  have hIA9 := hide (hIAr.out.below hb9)
                  have hIB9 := hide (hIBr.out.below hb9)
                  have hIC9 := hide hI9
                  clear hI9 hb9 hBr hboxr hIAr hIBr hT8 hBr'
                  go_wp2
                  go_loop [21] (fun s => ∃ x : Nat, x ≤ n ∧ s = .int .i64 x) (fun s => n - (intOf s).toNat)
                  case atStart => exact ⟨0, Nat.zero_le _, rfl⟩
                  case round =>
                    obtain ⟨x, hx, rfl⟩ := hrel
                    by_cases hlx : x < n
                    · obtain ⟨ba, oa, rfl, hba, hca⟩ := hIA9.out.2.2 (by omega)
                      obtain ⟨bb, ob, rfl, hbb, hcb⟩ := hIB9.out.2.2 (by omega)
                      obtain ⟨bc, oc, rfl, hbc, hcc⟩ := hIC9.out.2.2 (by omega)
                      have ga := hca x hlx
                      have gb := hcb x hlx
                      have gc := hcc x hlx
                      have hab := hAB.out x hlx
                      have hca2 := hCA.out x hlx
                      generalize bx XA x = va at ga hab hca2
                      generalize bx XB x = vb at gb hab
                      generalize bx XC x = vc at gc hca2
                      clear hca hcb hcc
                      cases va
                      · have : vc = false := by cases vc; rfl; exact absurd (hca2 rfl) (by decide)
                        subst this
                        clear hab hca2
                        go_wp2
                        go_round
                        case rel => exact ⟨x + 1, by omega, by go_num⟩
                        case measure => simp [intOf]; omega
                      · have : vb = true := hab rfl
                        subst this
                        clear hab hca2
                        cases vc
                        all_goals
                          go_wp2
                          go_round
                          case rel => exact ⟨x + 1, by omega, by go_num⟩
                          case measure => simp [intOf]; omega
                    · go_wp2
                      go_ret
                      exact ⟨rfl, hB9⟩
        · have hc0A := hide h0
          have ha' := hide ha
          clear h0 ha hg ht
          go_enter Try.func3, Try.ntmps3
          go_wp2_with fail
          refine (alive21_ok _).mono ?_
          rintro e w1 ⟨rfl, hb1⟩
          have hbox1 := cell_later hb1 hbox0
          have hB1 := Below.on hB0 hb1
          go_wp2_with fail
          have hx := great21_ok _ _ _ _ c _ d _ e T cs H _ (hT.out.below hB1) (hcs'.out.below hB1) (hH'.out.below hB1)
          rw [hs'.out] at hx
          refine hx.mono ?_
          clear hx
          rintro e1 w2 ⟨rfl, hb2⟩
          have hB2 := Below.on hB1 hb2
          have hbox2 := cell_later hb2 hbox1
          clear hb2 hbox1
          go_wp2_with fail
          have hx := rccheck_ok _ _ _ _ c _ d _ e T cs H _ (hT.out.below hB2) (hcs'.out.below hB2) (hH'.out.below hB2)
          rw [hc0A.out] at hx
          refine hx.mono ?_
          clear hx
          rintro e1 w3 ⟨rfl, hb3⟩
          have hB3 := Below.on hB2 hb3
          have hbox3 := cell_later hb3 hbox2
          clear hb3 hbox2
          go_wp2_with fail
          have hx := rasked_ok _ _ c T i _ (hT.out.below hB3)
          rw [ha'.out] at hx
          refine hx.mono ?_
          clear hx
          rintro e1 w4 ⟨rfl, hb4⟩
          have hB4 := Below.on hB3 hb4
          rcases (by omega : k < 0 ∨ (0 ≤ k ∧ (m : Int) + 1 ≤ k)) with hk1 | ⟨hk1, hk2⟩
          all_goals
            clear hk0
            go_wp2
            go_ret
            exact ⟨rfl, hB4⟩
      · have hc0A := hide h0
        have ha' := hide ha
        clear h0 ha hg ht
        go_enter Try.func3, Try.ntmps3
        go_wp2_with fail
        refine (alive21_ok _).mono ?_
        rintro e w1 ⟨rfl, hb1⟩
        have hbox1 := cell_later hb1 hbox0
        have hB1 := Below.on hB0 hb1
        go_wp2_with fail
        have hx := great21_ok _ _ _ _ c _ d _ e T cs H _ (hT.out.below hB1) (hcs'.out.below hB1) (hH'.out.below hB1)
        rw [hs'.out] at hx
        refine hx.mono ?_
        clear hx
        rintro e1 w2 ⟨rfl, hb2⟩
        have hB2 := Below.on hB1 hb2
        have hbox2 := cell_later hb2 hbox1
        clear hb2 hbox1
        go_wp2_with fail
        have hx := rccheck_ok _ _ _ _ c _ d _ e T cs H _ (hT.out.below hB2) (hcs'.out.below hB2) (hH'.out.below hB2)
        rw [hc0A.out] at hx
        refine hx.mono ?_
        clear hx
        rintro e1 w3 ⟨rfl, hb3⟩
        have hB3 := Below.on hB2 hb3
        have hbox3 := cell_later hb3 hbox2
        clear hb3 hbox2
        have ha2 : (askI T [i] != 0) = true := by simp [ha'.out]
        go_wp2_with fail
        refine (rasked_ok _ _ _ T _ _ (hT.out.below hB3)).mono ?_
        rintro e w4 ⟨rfl, hb4⟩
        have hbox4 := cell_later hb4 hbox3
        have hB4 := Below.on hB3 hb4
        go_wp2
        go_ret
        exact ⟨rfl, hB4⟩
    · have h0' : (cchk T cs H != 0) = true := by simp [h0]
      clear h0
      go_enter Try.func3, Try.ntmps3
      go_wp2_with fail
      refine (alive21_ok _).mono ?_
      rintro e w1 ⟨rfl, hb1⟩
      have hbox1 := cell_later hb1 hbox0
      have hB1 := Below.on hB0 hb1
      go_wp2_with fail
      have hx := great21_ok _ _ _ _ c _ d _ e T cs H _ (hT.out.below hB1) (hcs'.out.below hB1) (hH'.out.below hB1)
      rw [hs'.out] at hx
      refine hx.mono ?_
      clear hx
      rintro e1 w2 ⟨rfl, hb2⟩
      have hB2 := Below.on hB1 hb2
      have hbox2 := cell_later hb2 hbox1
      go_wp2_with fail
      refine (rccheck_ok _ _ _ _ _ _ _ _ _ T cs H _ (hT.out.below hB2) (hcs'.out.below hB2) (hH'.out.below hB2)).mono ?_
      rintro e w3 ⟨rfl, hb3⟩
      have hbox3 := cell_later hb3 hbox2
      have hB3 := Below.on hB2 hb3
      go_wp2
      go_ret
      exact ⟨rfl, hB3⟩

set_option maxRecDepth 100000 in
theorem lifted (os : Os) (started : os.Started) (H : Type) (enc : TypeId × Value → H) :
    ReturnsInHanded {} Try.checked os 3 .any (Rows.combMoreSpec.pre6 enc Try.prog Try.f3 Rows.combMoreRow.domain false) (Rows.combMoreSpec.post enc Try.prog Try.f3 false true false false) := by
  refine returnsInHanded_of_change (C := Try.checked) own started (by kernel_rfl) Try.func3
    (ChangeSpec.witness6 (enc := enc) (C := Try.checked) false ⟨#[], #[.agg #[.slice none 0 0], .slice none 0 0, .slice none 0 0, .int .i64 0, .int .i64 0], []⟩ 8 (by kernel_rfl) (by kernel_rfl) (by kernel_rfl) (by kernel_rfl)) ?_
  intro W base args ds gs before hval0 hW hcnd _
  have hval : ∀ (j : Nat) t v, Try.f3.params[j]? = some t → args[j]? = some v → Value.okWide Try.prog W .any base t v := hval0
  have hW' := hW
  obtain ⟨p, q, hA0, hV, rfl, hfz, hnd⟩ := hW
  have hA : DataW.TrodAll enc Try.prog W 0 (fun _ => true) true Try.f3.params.toList args.toList ds p := hA0
  rw [Try.params3] at hA hval
  obtain ⟨v0, vs0, d0, ds0, p0, q0, hargs, rfl, rfl, h0, r0⟩ := trodAll_cons hA
  obtain ⟨v1, vs1, d1, ds1, p1, q1, rfl, rfl, rfl, h1, r1⟩ := trodAll_cons r0
  obtain ⟨v2, vs2, d2, ds2, p2, q2, rfl, rfl, rfl, h2, r2⟩ := trodAll_cons r1
  obtain ⟨v3, vs3, d3, ds3, p3, q3, rfl, rfl, rfl, h3, r3⟩ := trodAll_cons r2
  obtain ⟨v4, vs4, d4, ds4, p4, q4, rfl, rfl, rfl, h4, r4⟩ := trodAll_cons r3
  obtain ⟨rfl, rfl, rfl⟩ := trodAll_nil r4
  obtain rfl : args = #[v0, v1, v2, v3, v4] := by cases args; simp_all
  obtain ⟨rfl, rfl⟩ := trodVars_none hV
  have lt0 : ∀ x ∈ p0, x.block < W.heap.size := by obtain ⟨m, hm⟩ := h0; exact DataW.trod_lt m _ _ _ hm
  have k0 := h0
  have lt1 : ∀ x ∈ p1, x.block < W.heap.size := by obtain ⟨m, hm⟩ := h1; exact DataW.trod_lt m _ _ _ hm
  have k1 := h1
  have lt2 : ∀ x ∈ p2, x.block < W.heap.size := by obtain ⟨m, hm⟩ := h2; exact DataW.trod_lt m _ _ _ hm
  have k2 := h2
  have lt3 : ∀ x ∈ p3, x.block < W.heap.size := by obtain ⟨m, hm⟩ := h3; exact DataW.trod_lt m _ _ _ hm
  have k3 := h3
  have lt4 : ∀ x ∈ p4, x.block < W.heap.size := by obtain ⟨m, hm⟩ := h4; exact DataW.trod_lt m _ _ _ hm
  have k4 := h4
  obtain ⟨A0, n0, c0, T0, rfl, hT0⟩ := tree_open (hval 0 _ v0 rfl rfl) h0
  obtain ⟨A1, n1, c1, xs1, rfl, hU1⟩ := u8s_param (hval 1 _ v1 rfl rfl) h1
  obtain ⟨A2, n2, c2, xs2, rfl, hM2⟩ := bbs_param (hval 2 _ v2 rfl rfl) h2
  obtain ⟨a3, rfl, rfl, rfl, w3⟩ := open_int Try.underlying3 (hval 3 _ v3 rfl rfl) h3
  obtain ⟨a4, rfl, rfl, rfl, w4⟩ := open_int Try.underlying3 (hval 4 _ v4 rfl rfl) h4
  clear hA0 hval0
  refine (walk A0 n0 c0 T0 A1 n1 c1 xs1 A2 n2 c2 xs2 a3 a4 W hT0 hU1 hM2  ).mono fun e W' ⟨he, bel⟩ => ?_
  subst he
  exact ⟨_, rfl, _, _, _, [], _, [], hW', trodAll_mk1 (shut_bool Try.underlying4 _), (trodAll_cons_mk (Below.trod laidOut (by kernel_rfl) (of_decide_eq_true (by kernel_rfl)) k0 bel lt0) (trodAll_cons_mk (Below.trod laidOut (by kernel_rfl) (of_decide_eq_true (by kernel_rfl)) k1 bel lt1) (trodAll_cons_mk (Below.trod laidOut (by kernel_rfl) (of_decide_eq_true (by kernel_rfl)) k2 bel lt2) (trodAll_cons_mk (Below.trod laidOut (by kernel_rfl) (of_decide_eq_true (by kernel_rfl)) k3 bel lt3) (trodAll_cons_mk (Below.trod laidOut (by kernel_rfl) (of_decide_eq_true (by kernel_rfl)) k4 bel lt4) trodAll_mk0))))), rfl, bel.frame _, fun h => by cases h⟩

theorem proved : Rows.CombMoreSaid :=
  OpenClaim.holds_of_wide 3 Try.f3 rfl rfl rfl rfl rfl rfl rfl ⟨rfl, rfl, rfl, rfl, rfl⟩ rfl rfl rfl rfl rfl (by kernel_rfl) Try.func3 (by kernel_rfl)
    (of_decide_eq_true (by kernel_rfl)) (by unfold Func.isWrapper; first | (rw [if_pos (by decide +kernel)]; kernel_rfl) | (rw [if_neg (by decide +kernel)]; exact ⟨rfl, rfl⟩))
    (fun os started H enc _ => lifted os started H enc)
#print axioms proved
end Go.Proofs.Ytaliekkdamghbaa.combMore
