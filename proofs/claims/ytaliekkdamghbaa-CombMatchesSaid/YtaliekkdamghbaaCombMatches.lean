/- For every tree, number and what is told, Check, Match, All and Ways answer as the reference does, and leave what is told as it is, unless the data are greater than the statement considers. No condition. -/
import Derived.Test.YtaliekkdamghbaaDc
import Derived.Test.YtaliekkdamghbaaDd
import Derived.Test.YtaliekkdamghbaaDa
import Derived.Test.YtaliekkdamghbaaCo
import Derived.Test.YtaliekkdamghbaaSb
import Derived.Test.YtaliekkdamghbaaOpen
import Derived.Deep.RegionHeld3
namespace Go.Proofs.Ytaliekkdamghbaa.combMatches
open Go.ChangeShapes Go.WideShapes Go.ChangeAt Go.RowKit

set_option maxRecDepth 100000 in
set_option maxHeartbeats 2000000 in
theorem walk (A : Option Addr) (n c : Nat) (T : List ANode) (i : Int) (B : Option Addr) (m d : Nat) (cs : List Int) (C : Option Addr) (k e : Nat) (H : List (List Bool)) (w : World) (h : IsTree w A n T) (hcs : IsU8 w B m cs) (hH : IsBB w C k H) :
    Calls Try.prog 5 #[.agg #[.slice A n c], .int .i64 i, .slice B m d, .slice C k e] w fun e w' => e = .returned (.bool true) ∧ Below w.heap.size w w' := by
  have hkl := hH.1
  have hcs' := hide hcs
  have hH' := hide hH
  clear hcs hH
  have hT := hide h
  have hl := h.1
  clear h
  have hB0 := below_alloc (Below.refl w.heap.size w) (.cells #[.slice A n c] 24)
  have hbox0 : (w.alloc (.cells #[.slice A n c] 24)).cell? ⟨w.heap.size, 0, none⟩ = some (.slice A n c) := by go_simp
  cases hs : small21 T cs H
  · have hs' := hide hs
    clear hs
    go_enter Try.func5, Try.ntmps5
    go_wp2_with fail
    have hx := great21_ok _ _ _ _ c _ d _ e T cs H _ (hT.out.below hB0) (hcs'.out.below hB0) (hH'.out.below hB0)
    rw [hs'.out] at hx
    refine hx.mono ?_
    clear hx
    rintro e1 w1 ⟨rfl, hb1⟩
    go_wp2
    go_ret
    exact ⟨rfl, Below.on hB0 hb1⟩
  · obtain ⟨-, -, -, hk70, -, hrow80⟩ := small21_iff.1 hs
    have hs' := hide hs
    have hr80 := hide hrow80
    obtain ⟨i0, hI, hz0, hz1, hz2⟩ := info_parts info_bool'
    clear hs hrow80
    go_enter Try.func5, Try.ntmps5
    go_wp2_with fail
    have hx := great21_ok _ _ _ _ c _ d _ e T cs H _ (hT.out.below hB0) (hcs'.out.below hB0) (hH'.out.below hB0)
    rw [hs'.out] at hx
    refine hx.mono ?_
    clear hx
    rintro e1 w1 ⟨rfl, hb1⟩
    have hB1 := Below.on hB0 hb1
    have hbox1 := cell_later hb1 hbox0
    clear hb1
    go_wp2
    go_loopw [9, 10] (fun v s wr => ∃ q : Nat, q ≤ k ∧ s = .int .i64 q ∧ OwnBB wr w1.heap.size v q H ∧ Below w1.heap.size w1 wr) (fun _ s _ => k - (intOf s).toNat)
    case atStart => exact ⟨0, Nat.zero_le _, rfl, ownBB_nil _ _ _, Below.refl _ _⟩
    case round =>
      obtain ⟨q, hq, rfl, hown, hb⟩ := hrel
      have hBw := Below.on hB1 hb
      have hbox := cell_later hb hbox1
      by_cases hlt : q < k
      · obtain ⟨bh, oh, hA, hC, rfl, hbh, hhc, hhr⟩ := hH'.out.2.2 (by omega)
        have gq := (old hBw _ _ hbh).trans (hhc q hlt)
        have hIq := (hhr q hlt).1.below hBw
        have hl80 := hr80.out q (by omega)
        have hbhr : bh < wr.heap.size := Nat.lt_of_lt_of_le hbh hBw.size
        generalize hA q = RA at gq hIq
        generalize hC q = RC at gq
        obtain ⟨ln, hln⟩ : ∃ ln, (rowB H q).length = ln := ⟨_, rfl⟩
        rw [hln] at gq hIq hl80
        have hIq' := hide hIq
        have hln' := hide hln
        have hlen : Hid ((bools (rowB H q)).length = ln * 1) := by show _ = _; simp [bools, hln]
        clear hhc hhr hIq hln
        go_wp2_with (at_builtin; refine wpList_append_from rfl _ _ 31 rfl wr.heap.size 4 i0 (.bool false) 1 1 Try.underlying31 hI hz0 hz1 hz2 rfl (by decide) _ _ _ rfl (World.ownsRow_lit wr #[] 0 (Nat.le_refl _) (Nat.zero_le _) rfl) RA ln RC (bools (rowB H q)) rfl ?c0 ?c1 ?c2 ?c3 ?c4 ?c5 ?c6 ?_)
        case c0 => exact hlen.out
        case c1 => exact bools_none hIq'.out
        case c2 => exact bools_at (hIq'.out.below (below_alloc (Below.refl _ _) _))
        case c3 => exact bools_one _
        case c4 => unfold maxLen; omega
        case c5 => omega
        case c6 => simp
        · intro v' w2 hown' hgrow
          have hrow2 : w2.ownsRow wr.heap.size 4 1 v' ln (bools (rowB H q)) := by simpa using hown'
          have hb2 : Below wr.heap.size wr w2 := (below_alloc (Below.refl wr.heap.size wr) (.cells #[] 4)).grown hgrow (by simp) (fun k hk => by simp [Value.ownBlock] at hk; omega)
          obtain ⟨A2, c2, rfl⟩ := own_slice hrow2
          have hO2 := hown.below hb2
          have hrow2' := hide (own_base (base := w1.heap.size) hrow2 hb.size)
          have hB2 := hide (Below.on hb hb2)
          have hsz2 : w1.heap.size ≤ w2.heap.size := hB2.out.size
          clear hown' hgrow hrow2 hown hb2 gq hlen
          go_wp2_with (at_builtin; refine wpList_pushBB rfl _ _ rfl hO2 A2 ln c2 hln'.out.symm hrow2'.out _ rfl rfl (by omega) hsz2 ?_)
          intro A7 c7 w7 hO7 hG7
          have hB7 := hide (hG7.below (Nat.le_refl _) hB2.out)
          have hO7' := hide hO7
          clear hO7 hG7 hO2
          go_wp2
          go_roundw
          case rel => exact ⟨q + 1, by omega, by go_num, hO7'.out, hB7.out⟩
          case measure => simp [intOf]; omega
      · obtain rfl : q = k := by omega
        generalize wr = u at *
        obtain ⟨AO, cO, rfl, -, -, hO⟩ := hown.isBB hkl (by omega) (fun j hj => by have := hr80.out j (by omega); omega)
        have hO' := hide hO
        clear hO hown
        go_wp2_with fail
        refine (cmatch_ok _ _ _ _ c _ d _ cO T i cs H _ (hT.out.below hBw) (hcs'.out.below hBw) hO'.out).mono ?_
        rintro e2 w2 ⟨rfl, hb2⟩
        have hB2 := Below.on hBw hb2
        have hbox2 := cell_later hb2 hbox
        have hO2 := hide (hO'.out.below hb2)
        clear hO' hBw hbox hb2
        go_wp2_with fail
        refine (rmatch_ok _ _ _ _ c _ d _ e T i cs H _ (hT.out.below hB2) (hcs'.out.below hB2) (hH'.out.below hB2)).mono ?_
        rintro e3 w3 ⟨rfl, hb3⟩
        have hB3 := Below.on hB2 hb3
        have hbox3 := cell_later hb3 hbox2
        have hO3 := hide (hO2.out.below hb3)
        clear hO2 hB2 hbox2 hb3
        go_wp2_with fail
        refine (call_ok _ _ _ _ c _ d _ cO T cs H _ (hT.out.below hB3) (hcs'.out.below hB3) hO3.out).mono ?_
        rintro e4 w4 ⟨A4, c4, rfl, hI4, h41, h42, hb4⟩
        have hB4 := Below.on hB3 hb4
        have hbox4 := cell_later hb4 hbox3
        have hO4 := hide (hO3.out.below hb4)
        have hI4' := hide hI4
        clear hO3 hB3 hbox3 hb4 hI4
        go_wp2_with fail
        refine (rall_ok _ _ _ _ c _ d _ e T cs H _ (hT.out.below hB4) (hcs'.out.below hB4) (hH'.out.below hB4)).mono ?_
        rintro e5 w5 ⟨A5, c5, rfl, hI5, h51, h52, hb5⟩
        have hB5 := Below.on hB4 hb5
        have hbox5 := cell_later hb5 hbox4
        have hO5 := hide (hO4.out.below hb5)
        have hP5 := hide (hI4'.out.below hb5)
        have hI5' := hide hI5
        clear hO4 hB4 hbox4 hb5 hI5 hI4'
        go_wp2_with fail
        refine (cways_ok _ _ _ _ c _ d _ cO T i cs H _ (hT.out.below hB5) (hcs'.out.below hB5) hO5.out).mono ?_
        rintro e6 w6 ⟨A6, c6, rfl, hI6, h61, h62, hb6⟩
        have hB6 := Below.on hB5 hb6
        have hbox6 := cell_later hb6 hbox5
        have hO6 := hide (hO5.out.below hb6)
        have hP6 := hide (hP5.out.below hb6)
        have hQ6 := hide (hI5'.out.below hb6)
        have hI6' := hide hI6
        clear hO5 hB5 hbox5 hb6 hI6 hP5 hI5'
        go_wp2_with fail
        refine (rways_ok _ _ _ _ c _ d _ e T i cs H _ (hT.out.below hB6) (hcs'.out.below hB6) (hH'.out.below hB6)).mono ?_
        rintro e7 w7 ⟨A7, c7, rfl, hI7, h71, h72, hb7⟩
        have hB7 := Below.on hB6 hb7
        have hbox7 := cell_later hb7 hbox6
        have hO7 := hide (hO6.out.below hb7)
        have hP7 := hide (hP6.out.below hb7)
        have hQ7 := hide (hQ6.out.below hb7)
        have hR7 := hide (hI6'.out.below hb7)
        have hI7' := hide hI7
        clear hO6 hB6 hbox6 hb7 hI7 hP6 hQ6 hI6'
        go_wp2
        go_loopw [23] (fun s wr => ∃ x : Nat, x ≤ q ∧ s = .int .i64 x ∧ Below w7.heap.size w7 wr) (fun s _ => q - (intOf s).toNat)
        case atStart => exact ⟨0, Nat.zero_le _, rfl, Below.refl _ _⟩
        case round =>
          clear hlt hq hb
          obtain ⟨x, hx, rfl, hb⟩ := hrel
          have hBz := Below.on hB7 hb
          have hboxz := cell_later hb hbox7
          by_cases hlx : x < q
          · obtain ⟨bo, oo, oA, oC, rfl, hbo, hoc, hor⟩ := hO7.out.2.2 (by omega)
            obtain ⟨bh, oh, hA, hC, rfl, hbh, hhc, hhr⟩ := hH'.out.2.2 (by omega)
            have g1 := (old hb _ _ hbo).trans (hoc x hlx)
            have g2 := (old hBz _ _ hbh).trans (hhc x hlx)
            have i1 := hide ((hor x hlx).1.below hb)
            have i2 := hide ((hhr x hlx).1.below hBz)
            generalize oA x = RA1 at g1 i1
            generalize oC x = RC1 at g1
            generalize hA x = RA2 at g2 i2
            generalize hC x = RC2 at g2
            obtain ⟨ln, hln⟩ : ∃ ln, (rowB H x).length = ln := ⟨_, rfl⟩
            rw [hln] at g1 g2 i1 i2
            have hsm := hide (fun W (hW : Below wr.heap.size wr W) => sameBools_yes RA1 RA2 ln ln RC1 RC2 (rowB H x) W (i1.out.below hW) (i2.out.below hW))
            have x0 : (0 : Int) ≤ (x : Int) := by omega
            have x1 : (x : Int) < (q : Int) := by omega
            clear hoc hhc hor hhr hln
            go_wp2
            go_region_held3 (fun X => X.cell? ⟨bo, oo + x, none⟩ = some (.slice RA1 ln RC1) ∧ X.cell? ⟨bh, oh + x, none⟩ = some (.slice RA2 ln RC2)) (first | exact ⟨g1, g2⟩ | exact ⟨r0, r1⟩) (first | (go_at_call 20; (with_reducible refine (hsm.out _ (Below.refl _ _).drew).mono ?_); rintro e9 w9 ⟨rfl, hb9⟩; have r0 := cell_later hb9 g1; have r1 := cell_later hb9 g2))
            have hB9 := hide (Below.on (w1 := wr.drew) hb.drew hb9)
            clear r0 r1 hb9
            go_wp2
            go_roundw
            case rel => exact ⟨x + 1, by omega, by go_num, hB9.out⟩
            case measure => simp [intOf]; omega
          · have hk1 := hide (fun W (hW : Below w7.heap.size w7 W) => ccheck_ok _ _ _ _ c _ d _ cO T cs H W (hT.out.below (Below.on hB7 hW)) (hcs'.out.below (Below.on hB7 hW)) (hO7.out.below hW))
            have hk2 := hide (fun W (hW : Below w7.heap.size w7 W) => rccheck_ok _ _ _ _ c _ d _ e T cs H W (hT.out.below (Below.on hB7 hW)) (hcs'.out.below (Below.on hB7 hW)) (hH'.out.below (Below.on hB7 hW)))
            have hk3 := hide (fun W (hW : Below w7.heap.size w7 W) => sameBools_yes _ _ _ _ c4 c5 (allE T cs H) W (hP7.out.below hW) (hQ7.out.below hW))
            have hk4 := hide (fun W (hW : Below w7.heap.size w7 W) => sameInts_yes _ _ _ _ c6 c7 (wayL T i cs H) W (hR7.out.below hW) (hI7'.out.below hW))
            go_wp2
            go_region_held3 (fun X => X.cell? ⟨w.heap.size, 0, none⟩ = some (.slice A n c)) (first | exact hboxz | exact r0 | exact r1 | exact r2 | exact r3) (first | (go_at_call 26; (with_reducible refine (hk1.out _ hb.drew).mono ?_); rintro e9 w9 ⟨rfl, hb9⟩; have hB9 := Below.on (w1 := wr.drew) hb.drew hb9; have r0 := cell_later hb9 hboxz) | (go_at_call 17; (with_reducible refine (hk2.out _ hB9).mono ?_); rintro e10 w10 ⟨rfl, hb10⟩; have hB10 := Below.on hB9 hb10; have r1 := cell_later hb10 r0) | (go_at_call 20; (with_reducible refine (hk3.out _ hB10).mono ?_); rintro e11 w11 ⟨rfl, hb11⟩; have hB11 := Below.on hB10 hb11; have r2 := cell_later hb11 r1) | (go_at_call 27; (with_reducible refine (hk4.out _ hB11).mono ?_); rintro e12 w12 ⟨rfl, hb12⟩; have hB12 := Below.on hB11 hb12; have r3 := cell_later hb12 r2))
            go_wp2
            go_ret
            exact ⟨rfl, Below.on hB7 hB12⟩

set_option maxRecDepth 100000 in
theorem lifted (os : Os) (started : os.Started) (H : Type) (enc : TypeId × Value → H) :
    ReturnsInHanded {} Try.checked os 5 .any (Rows.combMatchesSpec.pre6 enc Try.prog Try.f5 Rows.combMatchesRow.domain false) (Rows.combMatchesSpec.post enc Try.prog Try.f5 false true false false) := by
  refine returnsInHanded_of_change (C := Try.checked) own started (by kernel_rfl) Try.func5
    (ChangeSpec.witness6 (enc := enc) (C := Try.checked) false ⟨#[], #[.agg #[.slice none 0 0], .int .i64 0, .slice none 0 0, .slice none 0 0], []⟩ 8 (by kernel_rfl) (by kernel_rfl) (by kernel_rfl) (by kernel_rfl)) ?_
  intro W base args ds gs before hval0 hW hcnd _
  have hval : ∀ (j : Nat) t v, Try.f5.params[j]? = some t → args[j]? = some v → Value.okWide Try.prog W .any base t v := hval0
  have hW' := hW
  obtain ⟨p, q, hA0, hV, rfl, hfz, hnd⟩ := hW
  have hA : DataW.TrodAll enc Try.prog W 0 (fun _ => true) true Try.f5.params.toList args.toList ds p := hA0
  rw [Try.params5] at hA hval
  obtain ⟨v0, vs0, d0, ds0, p0, q0, hargs, rfl, rfl, h0, r0⟩ := trodAll_cons hA
  obtain ⟨v1, vs1, d1, ds1, p1, q1, rfl, rfl, rfl, h1, r1⟩ := trodAll_cons r0
  obtain ⟨v2, vs2, d2, ds2, p2, q2, rfl, rfl, rfl, h2, r2⟩ := trodAll_cons r1
  obtain ⟨v3, vs3, d3, ds3, p3, q3, rfl, rfl, rfl, h3, r3⟩ := trodAll_cons r2
  obtain ⟨rfl, rfl, rfl⟩ := trodAll_nil r3
  obtain rfl : args = #[v0, v1, v2, v3] := by cases args; simp_all
  obtain ⟨rfl, rfl⟩ := trodVars_none hV
  have lt0 : ∀ x ∈ p0, x.block < W.heap.size := by obtain ⟨m, hm⟩ := h0; exact DataW.trod_lt m _ _ _ hm
  have k0 := h0
  have lt1 : ∀ x ∈ p1, x.block < W.heap.size := by obtain ⟨m, hm⟩ := h1; exact DataW.trod_lt m _ _ _ hm
  have k1 := h1
  have lt2 : ∀ x ∈ p2, x.block < W.heap.size := by obtain ⟨m, hm⟩ := h2; exact DataW.trod_lt m _ _ _ hm
  have k2 := h2
  have lt3 : ∀ x ∈ p3, x.block < W.heap.size := by obtain ⟨m, hm⟩ := h3; exact DataW.trod_lt m _ _ _ hm
  have k3 := h3
  obtain ⟨A0, n0, c0, T0, rfl, hT0⟩ := tree_open (hval 0 _ v0 rfl rfl) h0
  obtain ⟨a1, rfl, rfl, rfl, w1⟩ := open_int Try.underlying3 (hval 1 _ v1 rfl rfl) h1
  obtain ⟨A2, n2, c2, xs2, rfl, hU2⟩ := u8s_param (hval 2 _ v2 rfl rfl) h2
  obtain ⟨A3, n3, c3, xs3, rfl, hM3⟩ := bbs_param (hval 3 _ v3 rfl rfl) h3
  clear hA0 hval0
  refine (walk A0 n0 c0 T0 a1 A2 n2 c2 xs2 A3 n3 c3 xs3 W hT0  hU2 hM3).mono fun e W' ⟨he, bel⟩ => ?_
  subst he
  exact ⟨_, rfl, _, _, _, [], _, [], hW', trodAll_mk1 (shut_bool Try.underlying4 _), (trodAll_cons_mk (Below.trod laidOut (by kernel_rfl) (of_decide_eq_true (by kernel_rfl)) k0 bel lt0) (trodAll_cons_mk (Below.trod laidOut (by kernel_rfl) (of_decide_eq_true (by kernel_rfl)) k1 bel lt1) (trodAll_cons_mk (Below.trod laidOut (by kernel_rfl) (of_decide_eq_true (by kernel_rfl)) k2 bel lt2) (trodAll_cons_mk (Below.trod laidOut (by kernel_rfl) (of_decide_eq_true (by kernel_rfl)) k3 bel lt3) trodAll_mk0)))), rfl, bel.frame _, fun h => by cases h⟩

theorem proved : Rows.CombMatchesSaid :=
  OpenClaim.holds_of_wide 5 Try.f5 rfl rfl rfl rfl rfl rfl rfl ⟨rfl, rfl, rfl, rfl, rfl⟩ rfl rfl rfl rfl rfl (by kernel_rfl) Try.func5 (by kernel_rfl)
    (of_decide_eq_true (by kernel_rfl)) (by unfold Func.isWrapper; first | (rw [if_pos (by decide +kernel)]; kernel_rfl) | (rw [if_neg (by decide +kernel)]; exact ⟨rfl, rfl⟩))
    (fun os started H enc _ => lifted os started H enc)
#print axioms proved
end Go.Proofs.Ytaliekkdamghbaa.combMatches
