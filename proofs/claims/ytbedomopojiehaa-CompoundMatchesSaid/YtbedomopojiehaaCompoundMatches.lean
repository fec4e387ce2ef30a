/- For every tree, number, compound, mode and list of truth values, Check, Tag and Match answer as the reference does, unless they are greater than the statement considers. No condition. -/
import Derived.Test.YtbedomopojiehaaSt
import Derived.Test.YtbedomopojiehaaVf
import Derived.Test.YtbedomopojiehaaSb
import Derived.Deep.RegionHeld3
namespace Go.Proofs.Ytbedomopojiehaa.compoundMatches
open Go.ChangeShapes Go.WideShapes Go.ChangeAt Go.RowKit

set_option maxRecDepth 100000 in
set_option maxHeartbeats 2000000 in
theorem walk (A : Option Addr) (n c : Nat) (T : List ANode) (i : Int) (tag : ByteArray) (SA : Option Addr) (sn sc : Nat) (S : List Sim) (m : Int) (TA : Option Addr) (tn tc : Nat) (B : List Bool) (w : World) (h : IsTree w A n T) (hS0 : IsSims w SA sn S) (hB' : IsBools w TA tn B) (hm0 : HasMax w) :
    Calls Try.prog 9 #[.agg #[.slice A n c], .int .i64 i, .agg #[.string tag, .slice SA sn sc], .int .i64 m, .slice TA tn tc] w fun r w' => r = .returned (.bool true) ∧ Below w.heap.size w w' := by
  have hT := hide h
  have hm := hide hm0
  have hS := hide hS0
  have hTB := hide hB'
  have hB0 := below_alloc (below_alloc (Below.refl w.heap.size w) (.cells #[.slice A n c] 43)) (.cells #[.string tag, .slice SA sn sc] 65)
  have hbox0 : ((w.alloc (.cells #[.slice A n c] 43)).alloc (.cells #[.string tag, .slice SA sn sc] 65)).cell? ⟨w.heap.size, 0, none⟩ = some (.slice A n c) := by go_simp
  have ht0 : ((w.alloc (.cells #[.slice A n c] 43)).alloc (.cells #[.string tag, .slice SA sn sc] 65)).cell? ⟨w.heap.size + 1, 0, none⟩ = some (.string tag) := by go_simp
  have htb0 : ((w.alloc (.cells #[.slice A n c] 43)).alloc (.cells #[.string tag, .slice SA sn sc] 65)).cell? ⟨w.heap.size + 1, 1, none⟩ = some (.slice SA sn sc) := by go_simp
  clear h hm0 hS0 hB'
  cases hg0 : smallTB T
  · have hgr : Hid ((!smallTB T) = true) := by show _ = _; rw [hg0]; rfl
    clear hg0
    go_enter Try.func9, Try.ntmps9
    go_wp2_with fail
    have hx := great_ok _ _ c T _ (hT.out.below hB0)
    rw [hgr.out] at hx
    refine hx.mono ?_
    clear hx
    rintro e w1 ⟨rfl, hb1⟩
    have hB1 := Below.on hB0 hb1
    have hbox1 := cell_later hb1 hbox0
    have ht1 := cell_later hb1 ht0
    have htb1 := cell_later hb1 htb0
    clear hb1 hbox0 ht0 htb0
    go_wp2
    go_ret
    exact ⟨rfl, hB1⟩
  · have hgr : Hid ((!smallTB T) = false) := by show _ = _; rw [hg0]; rfl
    clear hg0
    by_cases h80 : 80 < tn
    · have g1 : decide (80 < (tn : Int)) = true := by rw [decide_eq_true_eq]; omega
      clear h80
      go_enter Try.func9, Try.ntmps9
      go_wp2_with fail
      have hx := great_ok _ _ c T _ (hT.out.below hB0)
      rw [hgr.out] at hx
      refine hx.mono ?_
      clear hx
      rintro e w1 ⟨rfl, hb1⟩
      have hB1 := Below.on hB0 hb1
      have hbox1 := cell_later hb1 hbox0
      have ht1 := cell_later hb1 ht0
      have htb1 := cell_later hb1 htb0
      clear hb1 hbox0 ht0 htb0
      go_wp2_with fail
      refine (rgreat19_ok tag _ _ sc S _ (hS.out.below hB1)).mono ?_
      rintro e w2 ⟨⟨v, rfl⟩, hb2⟩
      have hB2 := Below.on hB1 hb2
      have hbox2 := cell_later hb2 hbox1
      have ht2 := cell_later hb2 ht1
      have htb2 := cell_later hb2 htb1
      clear hb2 hbox1 ht1 htb1
      cases v
      all_goals
        go_wp2
        go_ret
        exact ⟨rfl, hB2⟩
    · have g1 : decide (80 < (tn : Int)) = false := by rw [decide_eq_false_iff_not]; omega
      clear h80
      go_enter Try.func9, Try.ntmps9
      go_wp2_with fail
      have hx := great_ok _ _ c T _ (hT.out.below hB0)
      rw [hgr.out] at hx
      refine hx.mono ?_
      clear hx
      rintro e w1 ⟨rfl, hb1⟩
      have hB1 := Below.on hB0 hb1
      have hbox1 := cell_later hb1 hbox0
      have ht1 := cell_later hb1 ht0
      have htb1 := cell_later hb1 htb0
      clear hb1 hbox0 ht0 htb0
      go_wp2_with fail
      refine (rgreat19_ok tag _ _ sc S _ (hS.out.below hB1)).mono ?_
      rintro e w2 ⟨⟨v, rfl⟩, hb2⟩
      have hB2 := Below.on hB1 hb2
      have hbox2 := cell_later hb2 hbox1
      have ht2 := cell_later hb2 ht1
      have htb2 := cell_later hb2 htb1
      clear hb2 hbox1 ht1 htb1
      cases v
      · go_wp2_with fail
        refine (compMatch_ok _ _ c T i tag _ _ sc S m _ _ tc B _ (hT.out.below hB2) (hS.out.below hB2) (hTB.out.below hB2) (hm.out.below hB2)).mono ?_
        rintro e w3 ⟨rfl, hb3⟩
        have hB3 := Below.on hB2 hb3
        have hbox3 := cell_later hb3 hbox2
        have ht3 := cell_later hb3 ht2
        have htb3 := cell_later hb3 htb2
        clear hb3 hbox2 ht2 htb2
        go_wp2_with fail
        refine (rcMatch_ok _ _ c T i tag _ _ sc S m _ _ tc B _ (hT.out.below hB3) (hS.out.below hB3) (hTB.out.below hB3)).mono ?_
        rintro e w4 ⟨rfl, hb4⟩
        have hB4 := Below.on hB3 hb4
        have hbox4 := cell_later hb4 hbox3
        have ht4 := cell_later hb4 ht3
        have htb4 := cell_later hb4 htb3
        clear hb4 hbox3 ht3 htb3
        generalize cmV T i tag S m B tn = x1
        generalize cmE T i tag S m tn = x2
        go_wp2_with fail
        refine (compTag_ok _ _ c T i tag _ (hT.out.below hB4)).mono ?_
        rintro e w5 ⟨rfl, hb5⟩
        have hB5 := Below.on hB4 hb5
        have hbox5 := cell_later hb5 hbox4
        have ht5 := cell_later hb5 ht4
        have htb5 := cell_later hb5 htb4
        clear hb5 hbox4 ht4 htb4
        go_wp2_with fail
        refine (rcTag_ok _ _ c T i tag _ (hT.out.below hB5)).mono ?_
        rintro e w6 ⟨rfl, hb6⟩
        have hB6 := Below.on hB5 hb6
        have hbox6 := cell_later hb6 hbox5
        have ht6 := cell_later hb6 ht5
        have htb6 := cell_later hb6 htb5
        clear hb6 hbox5 ht5 htb5
        generalize tagVal T i tag = x3
        generalize tagErr T i tag = x4
        obtain ⟨c0, hc0⟩ : ∃ x, ckC tag S = x := ⟨_, rfl⟩
        have hk1 := hide (fun (W : World) (hW : Below w6.heap.size w6 W) => compCheck_ok tag SA sn sc S W (hS.out.below (Below.on hB6 hW)))
        have hk2 := hide (fun (W : World) (hW : Below w6.heap.size w6 W) => rcompCheck_ok tag SA sn sc S W (hS.out.below (Below.on hB6 hW)))
        rw [hc0] at hk1 hk2
        clear hc0 hbox6
        have hz0 := (Below.refl w6.heap.size w6).drew
        go_wp2
        go_region_held3 (fun X => X.cell? ⟨w.heap.size + 1, 0, none⟩ = some (.string tag) ∧ X.cell? ⟨w.heap.size + 1, 1, none⟩ = some (.slice SA sn sc)) (first | exact ⟨ht6, htb6⟩ | exact ⟨d0, d1⟩ | exact ⟨e0, e1⟩) (first
          | (go_at_call 41; (with_reducible refine (hk1.out _ hz0).mono ?_); rintro e u1 ⟨rfl, hu1⟩; have d0 := cell_later hu1 ht6; have d1 := cell_later hu1 htb6; have hz1 := Below.on hz0 hu1)
          | (go_at_call 42; (with_reducible refine (hk2.out _ hz1).mono ?_); rintro e u2 ⟨rfl, hu2⟩; have e0 := cell_later hu2 d0; have e1 := cell_later hu2 d1; have hz2 := Below.on hz1 hu2))
        go_wp2
        go_ret
        exact ⟨rfl, Below.on hB6 hz2⟩
      · go_wp2
        go_ret
        exact ⟨rfl, hB2⟩

set_option maxRecDepth 100000 in
theorem lifted (os : Os) (started : os.Started) (H : Type) (enc : TypeId × Value → H) :
    ReturnsInHanded {} Try.checked os 9 .any (Rows.compoundMatchesSpec.pre6 enc Try.prog Try.f9 Rows.compoundMatchesRow.domain false) (Rows.compoundMatchesSpec.post enc Try.prog Try.f9 false true false false) := by
  refine returnsInHanded_of_change_shaped (C := Try.checked) own started (by kernel_rfl) Try.func9
    (ChangeSpec.witness6 (enc := enc) (C := Try.checked) false ⟨#[], #[.agg #[.slice none 0 0], .int .i64 0, .agg #[.string .empty, .slice none 0 0], .int .i64 0, .slice none 0 0], []⟩ 8 (by kernel_rfl) (by kernel_rfl) (by kernel_rfl) (by kernel_rfl)) ?_
  intro W base args ds gs before hval0 hW hcnd hsz hsh _
  have hval : ∀ (j : Nat) t v, Try.f9.params[j]? = some t → args[j]? = some v → Value.okWide Try.prog W .any base t v := hval0
  have hW' := hW
  obtain ⟨p, q, hA0, hV, rfl, hfz, hnd⟩ := hW
  have hA : DataW.TrodAll enc Try.prog W 0 (fun _ => true) true Try.f9.params.toList args.toList ds p := hA0
  rw [Try.params9] at hA hval hsz
  obtain ⟨v0, vs0, d0, ds0, p0, q0, hargs, rfl, rfl, h0, r0⟩ := trodAll_cons hA
  obtain ⟨v1, vs1, d1, ds1, p1, q1, rfl, rfl, rfl, h1, r1⟩ := trodAll_cons r0
  obtain ⟨v2, vs2, d2, ds2, p2, q2, rfl, rfl, rfl, h2, r2⟩ := trodAll_cons r1
  obtain ⟨v3, vs3, d3, ds3, p3, q3, rfl, rfl, rfl, h3, r3⟩ := trodAll_cons r2
  obtain ⟨v4, vs4, d4, ds4, p4, q4, rfl, rfl, rfl, h4, r4⟩ := trodAll_cons r3
  obtain ⟨rfl, rfl, rfl⟩ := trodAll_nil r4
  obtain rfl : args = #[v0, v1, v2, v3, v4] := by cases args; simp_all
  obtain ⟨rfl, rfl⟩ := trodVars_none hV
  have lt0 : ∀ x ∈ p0, x.block < W.heap.size := by obtain ⟨m, hm⟩ := h0; exact DataW.trod_lt m _ _ _ hm
  have k0 := h0
  have lt1 : ∀ x ∈ p1, x.block < W.heap.size := by obtain ⟨m, hm⟩ := h1; exact DataW.trod_lt m _ _ _ hm
  have k1 := h1
  have lt2 : ∀ x ∈ p2, x.block < W.heap.size := by obtain ⟨m, hm⟩ := h2; exact DataW.trod_lt m _ _ _ hm
  have k2 := h2
  have lt3 : ∀ x ∈ p3, x.block < W.heap.size := by obtain ⟨m, hm⟩ := h3; exact DataW.trod_lt m _ _ _ hm
  have k3 := h3
  have lt4 : ∀ x ∈ p4, x.block < W.heap.size := by obtain ⟨m, hm⟩ := h4; exact DataW.trod_lt m _ _ _ hm
  have k4 := h4
  obtain ⟨A0, n0, c0, T0, rfl, hT0⟩ := tree_open (hval 0 _ v0 rfl rfl) h0
  obtain ⟨a1, rfl, rfl, rfl, w1⟩ := open_int Try.underlying3 (hval 1 _ v1 rfl rfl) h1
  obtain ⟨tg2, A2, n2, c2, S2, rfl, w2, hC2⟩ := comp_open (hval 2 _ v2 rfl rfl) h2
  obtain ⟨a3, rfl, rfl, rfl, w3⟩ := open_int Try.underlying3 (hval 3 _ v3 rfl rfl) h3
  obtain ⟨A4, n4, c4, xs4, rfl, hL4⟩ := bools_param (hval 4 _ v4 rfl rfl) h4
  clear hA0 hval0
  refine (walk A0 n0 c0 T0 a1 tg2 A2 n2 c2 S2 a3 A4 n4 c4 xs4 W hT0  hC2  hL4 (hasMax_of hsh)).mono fun e W' ⟨he, bel⟩ => ?_
  subst he
  exact ⟨_, rfl, _, _, _, [], _, [], hW', trodAll_mk1 (shut_bool Try.underlying4 _), (trodAll_cons_mk (Below.trod laidOut (by kernel_rfl) (of_decide_eq_true (by kernel_rfl)) k0 bel lt0) (trodAll_cons_mk (Below.trod laidOut (by kernel_rfl) (of_decide_eq_true (by kernel_rfl)) k1 bel lt1) (trodAll_cons_mk (Below.trod laidOut (by kernel_rfl) (of_decide_eq_true (by kernel_rfl)) k2 bel lt2) (trodAll_cons_mk (Below.trod laidOut (by kernel_rfl) (of_decide_eq_true (by kernel_rfl)) k3 bel lt3) (trodAll_cons_mk (Below.trod laidOut (by kernel_rfl) (of_decide_eq_true (by kernel_rfl)) k4 bel lt4) trodAll_mk0))))), rfl, bel.frame _, fun h => by cases h⟩

theorem proved : Rows.CompoundMatchesSaid :=
  OpenClaim.holds_of_wide 9 Try.f9 rfl rfl rfl rfl rfl rfl rfl ⟨rfl, rfl, rfl, rfl, rfl⟩ rfl rfl rfl rfl rfl (by kernel_rfl) Try.func9 (by kernel_rfl)
    (of_decide_eq_true (by kernel_rfl)) (by unfold Func.isWrapper; first | (rw [if_pos (by decide +kernel)]; kernel_rfl) | (rw [if_neg (by decide +kernel)]; exact ⟨rfl, rfl⟩))
    (fun os started H enc _ => lifted os started H enc)
#print axioms proved
end Go.Proofs.Ytbedomopojiehaa.compoundMatches
