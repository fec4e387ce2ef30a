/- For every tree, compound, mode and lists of truth values, All answers as the reference does and leaves what is told as it is, unless they are greater than the statement considers. No condition. -/
import Derived.Test.YtbedomopojiehaaSt
import Derived.Test.YtbedomopojiehaaVk
import Derived.Test.YtbedomopojiehaaDd
import Derived.Test.YtbedomopojiehaaSb
import Derived.Test.YtbedomopojiehaaCo
import Derived.Deep.RegionHeld3
namespace Go.Proofs.Ytbedomopojiehaa.compoundAll
open Go.ChangeShapes Go.WideShapes Go.ChangeAt Go.RowKit

set_option maxRecDepth 100000 in
set_option maxHeartbeats 4000000 in
theorem walk (A : Option Addr) (n c : Nat) (T : List ANode) (tag : ByteArray) (SA : Option Addr) (sn sc : Nat) (S : List Sim) (m : Int) (C : Option Addr) (k e : Nat) (H : List (List Bool)) (w : World) (h : IsTree w A n T) (hS0 : IsSims w SA sn S) (hH : IsBB w C k H) (hm0 : HasMax w) :
    Calls Try.prog 10 #[.agg #[.slice A n c], .agg #[.string tag, .slice SA sn sc], .int .i64 m, .slice C k e] w fun r w' => r = .returned (.bool true) ∧ Below w.heap.size w w' := by
  have hkl := hH.1
  have hT := hide h
  have hm := hide hm0
  have hS := hide hS0
  have hH' := hide hH
  have hB0 := below_alloc (below_alloc (Below.refl w.heap.size w) (.cells #[.slice A n c] 43)) (.cells #[.string tag, .slice SA sn sc] 65)
  have hbox0 : ((w.alloc (.cells #[.slice A n c] 43)).alloc (.cells #[.string tag, .slice SA sn sc] 65)).cell? ⟨w.heap.size, 0, none⟩ = some (.slice A n c) := by go_simp
  have ht0 : ((w.alloc (.cells #[.slice A n c] 43)).alloc (.cells #[.string tag, .slice SA sn sc] 65)).cell? ⟨w.heap.size + 1, 0, none⟩ = some (.string tag) := by go_simp
  have htb0 : ((w.alloc (.cells #[.slice A n c] 43)).alloc (.cells #[.string tag, .slice SA sn sc] 65)).cell? ⟨w.heap.size + 1, 1, none⟩ = some (.slice SA sn sc) := by go_simp
  clear h hm0 hS0 hH
  cases hg0 : smallTB T
  · have hgr : Hid ((!smallTB T) = true) := by show _ = _; rw [hg0]; rfl
    clear hg0
    go_enter Try.func10, Try.ntmps10
    go_wp2_with fail
    have hx := great_ok _ _ c T _ (hT.out.below hB0)
    rw [hgr.out] at hx
    refine hx.mono ?_
    clear hx
    rintro e w1 ⟨rfl, hb1⟩
    have hB1 := Below.on hB0 hb1
    have hbox1 := cell_later hb1 hbox0
    have ht1 := cell_later hb1 ht0
    have htb1 := cell_later hb1 htb0
    clear hb1 hbox0 ht0 htb0
    go_wp2
    go_ret
    exact ⟨rfl, hB1⟩
  · have hgr : Hid ((!smallTB T) = false) := by show _ = _; rw [hg0]; rfl
    clear hg0
    by_cases h80 : 80 < k
    · have g1 : decide (80 < (k : Int)) = true := by rw [decide_eq_true_eq]; omega
      clear h80
      go_enter Try.func10, Try.ntmps10
      go_wp2_with fail
      have hx := great_ok _ _ c T _ (hT.out.below hB0)
      rw [hgr.out] at hx
      refine hx.mono ?_
      clear hx
      rintro e w1 ⟨rfl, hb1⟩
      have hB1 := Below.on hB0 hb1
      have hbox1 := cell_later hb1 hbox0
      have ht1 := cell_later hb1 ht0
      have htb1 := cell_later hb1 htb0
      clear hb1 hbox0 ht0 htb0
      go_wp2_with fail
      refine (rgreat19_ok tag _ _ sc S _ (hS.out.below hB1)).mono ?_
      rintro e w2 ⟨⟨v, rfl⟩, hb2⟩
      have hB2 := Below.on hB1 hb2
      have hbox2 := cell_later hb2 hbox1
      have ht2 := cell_later hb2 ht1
      have htb2 := cell_later hb2 htb1
      clear hb2 hbox1 ht1 htb1
      cases v
      all_goals
        go_wp2
        go_ret
        exact ⟨rfl, hB2⟩
    · have g1 : decide (80 < (k : Int)) = false := by rw [decide_eq_false_iff_not]; omega
      have hk80 : k ≤ 80 := by omega
      obtain ⟨i0, hI, hz0, hz1, hz2⟩ := info_parts info_bool'
      clear h80
      go_enter Try.func10, Try.ntmps10
      go_wp2_with fail
      have hx := great_ok _ _ c T _ (hT.out.below hB0)
      rw [hgr.out] at hx
      refine hx.mono ?_
      clear hx
      rintro e w1 ⟨rfl, hb1⟩
      have hB1 := Below.on hB0 hb1
      have hbox1 := cell_later hb1 hbox0
      have ht1 := cell_later hb1 ht0
      have htb1 := cell_later hb1 htb0
      clear hb1 hbox0 ht0 htb0
      go_wp2_with fail
      refine (rgreat19_ok tag _ _ sc S _ (hS.out.below hB1)).mono ?_
      rintro e w2 ⟨⟨v, rfl⟩, hb2⟩
      have hB2 := Below.on hB1 hb2
      have hbox2 := cell_later hb2 hbox1
      have ht2 := cell_later hb2 ht1
      have htb2 := cell_later hb2 htb1
      clear hb2 hbox1 ht1 htb1
      cases v
      · go_wp2
        go_loopw [9, 10] (fun v s wr => ∃ q : Nat, q ≤ k ∧ s = .int .i64 q ∧ OwnBB wr w2.heap.size v q H ∧ Below w2.heap.size w2 wr ∧ Hid (∀ j, j < q → (rowB H j).length ≤ 80)) (fun _ s _ => k - (intOf s).toNat)
        case atStart => exact ⟨0, Nat.zero_le _, rfl, ownBB_nil _ _ _, Below.refl _ _, fun j hj => absurd hj (by omega)⟩
        case round =>
          obtain ⟨q, hq, rfl, hown, hb, hr80⟩ := hrel
          have hBw := Below.on hB2 hb
          have hbox := cell_later hb hbox2
          have ht := cell_later hb ht2
          have htb := cell_later hb htb2
          by_cases hlt : q < k
          · obtain ⟨bh, oh, hA, hC, rfl, hbh, hhc, hhr⟩ := hH'.out.2.2 (by omega)
            have gq := (old hBw _ _ hbh).trans (hhc q hlt)
            have hIq := (hhr q hlt).1.below hBw
            have hbhr : bh < wr.heap.size := Nat.lt_of_lt_of_le hbh hBw.size
            generalize hA q = RA at gq hIq
            generalize hC q = RC at gq
            obtain ⟨ln, hln⟩ : ∃ ln, (rowB H q).length = ln := ⟨_, rfl⟩
            rw [hln] at gq hIq
            have hIq' := hide hIq
            have hln' := hide hln
            by_cases hl80 : ln ≤ 80
            · have g8 : decide (80 < (ln : Int)) = false := by rw [decide_eq_false_iff_not]; omega
              have hr81 : Hid (∀ j, j < q + 1 → (rowB H j).length ≤ 80) := fun j hj => by
                by_cases hjq : j = q
                · subst hjq; rw [hln]; exact hl80
                · exact hr80.out j (by omega)
              have hlen : Hid ((bools (rowB H q)).length = ln * 1) := by show _ = _; simp [bools, hln]
              clear hhc hhr hIq hln hr80 ht htb
              go_wp2_with (at_builtin; refine wpList_append_from rfl _ _ 47 rfl wr.heap.size 4 i0 (.bool false) 1 1 Try.underlying47 hI hz0 hz1 hz2 rfl (by decide) _ _ _ rfl (World.ownsRow_lit wr #[] 0 (Nat.le_refl _) (Nat.zero_le _) rfl) RA ln RC (bools (rowB H q)) rfl ?c0 ?c1 ?c2 ?c3 ?c4 ?c5 ?c6 ?_)
              case c0 => exact hlen.out
              case c1 => exact bools_none hIq'.out
              case c2 => exact bools_at (hIq'.out.below (below_alloc (Below.refl _ _) _))
              case c3 => exact bools_one _
              case c4 => unfold maxLen; omega
              case c5 => omega
              case c6 => simp
              · intro v' w3 hown' hgrow
                have hrow2 : w3.ownsRow wr.heap.size 4 1 v' ln (bools (rowB H q)) := by simpa using hown'
                have hb2 : Below wr.heap.size wr w3 := (below_alloc (Below.refl wr.heap.size wr) (.cells #[] 4)).grown hgrow (by simp) (fun k hk => by simp [Value.ownBlock] at hk; omega)
                obtain ⟨A2, c2, rfl⟩ := own_slice hrow2
                have hO2 := hown.below hb2
                have hrow2' := hide (own_base (base := w2.heap.size) hrow2 hb.size)
                have hB3 := hide (Below.on hb hb2)
                have hsz2 : w2.heap.size ≤ w3.heap.size := hB3.out.size
                clear hown' hgrow hrow2 hown hb2 gq hlen
                go_wp2_with (at_builtin; refine wpList_pushBB rfl _ _ rfl hO2 A2 ln c2 hln'.out.symm hrow2'.out _ rfl rfl (by omega) hsz2 ?_)
                intro A7 c7 w7 hO7 hG7
                have hB7 := hide (hG7.below (Nat.le_refl _) hB3.out)
                have hO7' := hide hO7
                clear hO7 hG7 hO2
                go_wp2
                go_roundw
                case rel => exact ⟨q + 1, by omega, by go_num, hO7'.out, hB7.out, hr81⟩
                case measure => simp [intOf]; omega
            · have g8 : decide (80 < (ln : Int)) = true := by rw [decide_eq_true_eq]; omega
              clear hhc hhr hIq hln hr80 ht htb hown
              go_wp2
              go_ret
              exact ⟨rfl, hBw⟩
          · obtain rfl : q = k := by omega
            generalize wr = u at *
            obtain ⟨AO, cO, rfl, -, -, hO⟩ := hown.isBB hkl (by omega) (fun j hj => by have := hr80.out j (by omega); omega)
            have hO' := hide hO
            clear hO hown
            go_wp2_with fail
            refine (compAll_ok _ _ c T tag _ _ sc S m _ _ cO H _ (hT.out.below hBw) (hS.out.below hBw) hO'.out (hm.out.below hBw)).mono ?_
            rintro e2 w3 ⟨A3, c3, rfl, hI3, -, -, hb3⟩
            have hB3 := Below.on hBw hb3
            have hbox3 := cell_later hb3 hbox
            have ht3 := cell_later hb3 ht
            have htb3 := cell_later hb3 htb
            have hO3 := hide (hO'.out.below hb3)
            have hI3' := hide hI3
            clear hO' hBw hbox ht htb hb3 hI3
            go_wp2_with fail
            refine (rcAll_ok _ _ c T tag _ _ sc S m _ _ e H _ (hT.out.below hB3) (hS.out.below hB3) (hH'.out.below hB3)).mono ?_
            rintro e3 w4 ⟨A4, c4, rfl, hI4, -, -, hb4⟩
            have hB4 := Below.on hB3 hb4
            have hO4 := hide (hO3.out.below hb4)
            have hI4' := hide hI4
            have hJ4 := hide (hI3'.out.below hb4)
            clear hO3 hB3 hbox3 ht3 htb3 hb4 hI4 hI3'
            generalize calV T tag S m H = XV at *
            generalize calE T tag S m H = XE at *
            go_wp2
            go_loopw [15] (fun s wr => ∃ x : Nat, x ≤ q ∧ s = .int .i64 x ∧ Below w4.heap.size w4 wr) (fun s _ => q - (intOf s).toNat)
            case atStart => exact ⟨0, Nat.zero_le _, rfl, Below.refl _ _⟩
            case round =>
              clear hlt hq hb
              obtain ⟨x, hx, rfl, hb⟩ := hrel
              have hBz := Below.on hB4 hb
              by_cases hlx : x < q
              · obtain ⟨bo, oo, oA, oC, rfl, hbo, hoc, hor⟩ := hO4.out.2.2 (by omega)
                obtain ⟨bh, oh, hA, hC, rfl, hbh, hhc, hhr⟩ := hH'.out.2.2 (by omega)
                have p1 := (old hb _ _ hbo).trans (hoc x hlx)
                have p2 := (old hBz _ _ hbh).trans (hhc x hlx)
                have i1 := hide ((hor x hlx).1.below hb)
                have i2 := hide ((hhr x hlx).1.below hBz)
                generalize oA x = RA1 at p1 i1
                generalize oC x = RC1 at p1
                generalize hA x = RA2 at p2 i2
                generalize hC x = RC2 at p2
                obtain ⟨ln, hln⟩ : ∃ ln, (rowB H x).length = ln := ⟨_, rfl⟩
                rw [hln] at p1 p2 i1 i2
                have hsm := hide (fun W (hW : Below wr.heap.size wr W) => sameBools_yes RA1 RA2 ln ln RC1 RC2 (rowB H x) W (i1.out.below hW) (i2.out.below hW))
                have x0 : (0 : Int) ≤ (x : Int) := by omega
                have x1 : (x : Int) < (q : Int) := by omega
                clear hoc hhc hor hhr hln
                go_wp2
                go_region_held3 (fun X => X.cell? ⟨bo, oo + x, none⟩ = some (.slice RA1 ln RC1) ∧ X.cell? ⟨bh, oh + x, none⟩ = some (.slice RA2 ln RC2)) (first | exact ⟨p1, p2⟩ | exact ⟨r0, r1⟩) (first | (go_at_call 29; (with_reducible refine (hsm.out _ (Below.refl _ _).drew).mono ?_); rintro e9 w9 ⟨rfl, hb9⟩; have r0 := cell_later hb9 p1; have r1 := cell_later hb9 p2))
                have hB9 := hide (Below.on (w1 := wr.drew) hb.drew hb9)
                clear r0 r1 hb9
                go_wp2
                go_roundw
                case rel => exact ⟨x + 1, by omega, by go_num, hB9.out⟩
                case measure => simp [intOf]; omega
              · have hk3 := hide (sameBools_yes _ _ _ _ c3 c4 XV wr (hJ4.out.below hb) (hI4'.out.below hb))
                go_wp2_with fail
                (with_reducible refine hk3.out.mono ?_)
                rintro e9 w9 ⟨rfl, hb9⟩
                go_wp2
                go_ret
                exact ⟨rfl, Below.on hB4 (Below.on hb hb9)⟩
      · go_wp2
        go_ret
        exact ⟨rfl, hB2⟩

set_option maxRecDepth 100000 in
theorem lifted (os : Os) (started : os.Started) (H : Type) (enc : TypeId × Value → H) :
    ReturnsInHanded {} Try.checked os 10 .any (Rows.compoundAllSpec.pre6 enc Try.prog Try.f10 Rows.compoundAllRow.domain false) (Rows.compoundAllSpec.post enc Try.prog Try.f10 false true false false) := by
  refine returnsInHanded_of_change_shaped (C := Try.checked) own started (by kernel_rfl) Try.func10
    (ChangeSpec.witness6 (enc := enc) (C := Try.checked) false ⟨#[], #[.agg #[.slice none 0 0], .agg #[.string .empty, .slice none 0 0], .int .i64 0, .slice none 0 0], []⟩ 8 (by kernel_rfl) (by kernel_rfl) (by kernel_rfl) (by kernel_rfl)) ?_
  intro W base args ds gs before hval0 hW hcnd hsz hsh _
  have hval : ∀ (j : Nat) t v, Try.f10.params[j]? = some t → args[j]? = some v → Value.okWide Try.prog W .any base t v := hval0
  have hW' := hW
  obtain ⟨p, q, hA0, hV, rfl, hfz, hnd⟩ := hW
  have hA : DataW.TrodAll enc Try.prog W 0 (fun _ => true) true Try.f10.params.toList args.toList ds p := hA0
  rw [Try.params10] at hA hval hsz
  obtain ⟨v0, vs0, d0, ds0, p0, q0, hargs, rfl, rfl, h0, r0⟩ := trodAll_cons hA
  obtain ⟨v1, vs1, d1, ds1, p1, q1, rfl, rfl, rfl, h1, r1⟩ := trodAll_cons r0
  obtain ⟨v2, vs2, d2, ds2, p2, q2, rfl, rfl, rfl, h2, r2⟩ := trodAll_cons r1
  obtain ⟨v3, vs3, d3, ds3, p3, q3, rfl, rfl, rfl, h3, r3⟩ := trodAll_cons r2
  obtain ⟨rfl, rfl, rfl⟩ := trodAll_nil r3
  obtain rfl : args = #[v0, v1, v2, v3] := by cases args; simp_all
  obtain ⟨rfl, rfl⟩ := trodVars_none hV
  have lt0 : ∀ x ∈ p0, x.block < W.heap.size := by obtain ⟨m, hm⟩ := h0; exact DataW.trod_lt m _ _ _ hm
  have k0 := h0
  have lt1 : ∀ x ∈ p1, x.block < W.heap.size := by obtain ⟨m, hm⟩ := h1; exact DataW.trod_lt m _ _ _ hm
  have k1 := h1
  have lt2 : ∀ x ∈ p2, x.block < W.heap.size := by obtain ⟨m, hm⟩ := h2; exact DataW.trod_lt m _ _ _ hm
  have k2 := h2
  have lt3 : ∀ x ∈ p3, x.block < W.heap.size := by obtain ⟨m, hm⟩ := h3; exact DataW.trod_lt m _ _ _ hm
  have k3 := h3
  obtain ⟨A0, n0, c0, T0, rfl, hT0⟩ := tree_open (hval 0 _ v0 rfl rfl) h0
  obtain ⟨tg1, A1, n1, c1, S1, rfl, w1, hC1⟩ := comp_open (hval 1 _ v1 rfl rfl) h1
  obtain ⟨a2, rfl, rfl, rfl, w2⟩ := open_int Try.underlying3 (hval 2 _ v2 rfl rfl) h2
  obtain ⟨A3, n3, c3, xs3, rfl, hM3⟩ := bbs_param (hval 3 _ v3 rfl rfl) h3
  clear hA0 hval0
  refine (walk A0 n0 c0 T0 tg1 A1 n1 c1 S1 a2 A3 n3 c3 xs3 W hT0 hC1  hM3 (hasMax_of hsh)).mono fun e W' ⟨he, bel⟩ => ?_
  subst he
  exact ⟨_, rfl, _, _, _, [], _, [], hW', trodAll_mk1 (shut_bool Try.underlying4 _), (trodAll_cons_mk (Below.trod laidOut (by kernel_rfl) (of_decide_eq_true (by kernel_rfl)) k0 bel lt0) (trodAll_cons_mk (Below.trod laidOut (by kernel_rfl) (of_decide_eq_true (by kernel_rfl)) k1 bel lt1) (trodAll_cons_mk (Below.trod laidOut (by kernel_rfl) (of_decide_eq_true (by kernel_rfl)) k2 bel lt2) (trodAll_cons_mk (Below.trod laidOut (by kernel_rfl) (of_decide_eq_true (by kernel_rfl)) k3 bel lt3) trodAll_mk0)))), rfl, bel.frame _, fun h => by cases h⟩

theorem proved : Rows.CompoundAllSaid :=
  OpenClaim.holds_of_wide 10 Try.f10 rfl rfl rfl rfl rfl rfl rfl ⟨rfl, rfl, rfl, rfl, rfl⟩ rfl rfl rfl rfl rfl (by kernel_rfl) Try.func10 (by kernel_rfl)
    (of_decide_eq_true (by kernel_rfl)) (by unfold Func.isWrapper; first | (rw [if_pos (by decide +kernel)]; kernel_rfl) | (rw [if_neg (by decide +kernel)]; exact ⟨rfl, rfl⟩))
    (fun os started H enc _ => lifted os started H enc)
#print axioms proved
end Go.Proofs.Ytbedomopojiehaa.compoundAll
