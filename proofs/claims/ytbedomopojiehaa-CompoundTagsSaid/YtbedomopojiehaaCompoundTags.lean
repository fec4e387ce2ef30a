/- A tag matches just the elements that have it, and the star and no tag match all; for every valid tree, number and text of at most 500 bytes. No condition. -/
import Derived.Test.YtbedomopojiehaaSt
import Derived.Test.YtbedomopojiehaaVi
import Derived.Test.YtbedomopojiehaaSx
import Derived.Deep.RegionHeld3
namespace Go.Proofs.Ytbedomopojiehaa.compoundTags
open Go.ChangeShapes Go.WideShapes Go.ChangeAt Go.RowKit

set_option maxRecDepth 100000 in
set_option maxHeartbeats 4000000 in
theorem walk (A : Option Addr) (n c : Nat) (T : List ANode) (i : Int) (tag : ByteArray) (w : World) (h : IsTree w A n T) (_hts : tag.size ≤ 9223372036854775807) (hmx : HasMax w) :
    Calls Try.prog 14 #[.agg #[.slice A n c], .int .i64 i, .string tag] w fun r w' => r = .returned (.bool true) ∧ Below w.heap.size w w' := by
  have hm' := hide hmx
  have ho := hide h.2.2.2
  clear hmx
  have hT := hide h
  have hl := h.1
  clear h
  have hB0 := below_alloc (Below.refl w.heap.size w) (.cells #[.slice A n c] 43)
  have hbox0 : (w.alloc (.cells #[.slice A n c] 43)).cell? ⟨w.heap.size, 0, none⟩ = some (.slice A n c) := by go_simp
  by_cases h0 : askI T [i] = 0
  · have hia := hide h0
    have hir := (askI_zero.1 h0).2 i (by simp)
    have hg := (askI_zero.1 h0).1
    obtain ⟨j, rfl⟩ := Int.eq_ofNat_of_zero_le hir.1
    have hj : j < n := by omega
    by_cases h5 : tag.size ≤ 500
    · have g5 : decide (500 < (tag.size : Int)) = false := by rw [decide_eq_false_iff_not]; omega
      have hg' := hide hg
      have hmd : Hid (modeB T (-1) = true) := rfl
      obtain ⟨bb, off, aA, cA, aC, cC, rfl, hbl, c0, -, -, -, -, -⟩ := ho.out (by omega)
      have c0' := hide (c0 j hj)
      have q1 : (0 : Int) ≤ (j : Int) := by omega
      have q2 : (j : Int) < (n : Int) := by omega
      obtain ⟨nt, hnt⟩ : ∃ x, (nd T j).tag = x := ⟨_, rfl⟩
      rw [hnt] at c0'
      have hn64 : nt.size ≤ 64 := by rw [← hnt]; exact ((namedB_iff _).1 (((goodB_iff T).1 hg).2.2.1 j (by omega)).1).2.1
      have hV0 : ∀ t : ByteArray, t.size ≤ 64 → tagErr T j t = 0 ∧ tagVal T j t = (decide (t.size = 0) || (decide (t = ⟨#[42]⟩) || decide (t = nt))) := fun t ht => by
        have e : tagErr T j t = 0 := by unfold tagErr; rw [if_pos h0]; exact if_pos ht
        refine ⟨e, ?_⟩
        unfold tagVal
        rw [if_pos e, Int.toNat_natCast]
        unfold tagF
        rw [hnt]
      have he1 := hide (hV0 nt hn64).1
      have hv1 : Hid (tagVal T j nt = true) := by show _ = _; rw [(hV0 nt hn64).2, decide_eq_true (p := nt = nt) rfl]; simp
      have he2 := hide (hV0 ⟨#[42]⟩ (by decide)).1
      have hv2 : Hid (tagVal T j ⟨#[42]⟩ = true) := by show _ = _; rw [(hV0 ⟨#[42]⟩ (by decide)).2, decide_eq_true (p := (⟨#[42]⟩ : ByteArray) = ⟨#[42]⟩) rfl]; simp
      by_cases h64 : tag.size ≤ 64
      · have he3 := hide (hV0 tag h64).1
        have hV3 := (hV0 tag h64).2
        rcases tag_ways tag with hw | hw | ⟨hw1, hw2⟩
        · have hv3 : Hid (tagVal T j tag = true) := by show _ = _; rw [hV3, decide_eq_true hw]; rfl
          have d1 := (toList_nil tag).2 hw
          have d2 : tag.toList.isEmpty = true := by rw [d1]; rfl
          clear h0 h5 hir hg c0 hnt hn64 hV0 h64 hV3 hw
          go_enter Try.func14, Try.ntmps14
          go_wp2_with fail
          refine (alive19_ok _ (hm'.out.below hB0)).mono ?_
          rintro e w1 ⟨rfl, hb1⟩
          have hB1 := Below.on hB0 hb1
          have hbox1 := cell_later hb1 hbox0
          clear hb1 hbox0
          go_wp2_with fail
          refine (rasked_at T j 0 hia.out _ _ c _ (hT.out.below hB1)).mono ?_
          rintro e w2 ⟨rfl, hb2⟩
          have hB2 := Below.on hB1 hb2
          have hbox2 := cell_later hb2 hbox1
          clear hb2 hbox1
          have g2 := (old hB2 _ _ hbl).trans c0'.out
          have hk1 := hide (fun (W : World) (hW : Below w2.heap.size w2 W) => compTag_at T j nt true 0 hv1.out he1.out _ _ c W (hT.out.below (Below.on hB2 hW)))
          have hz0 := (Below.refl w2.heap.size w2).drew
          go_wp2
          go_region_held3 (fun X => X.cell? ⟨w.heap.size, 0, none⟩ = some (.slice (some ⟨bb, off, none⟩) n c) ∧ X.cell? ⟨bb, off + j * 4, none⟩ = some (.string nt)) (first | exact ⟨hbox2, g2⟩ | exact ⟨d0, d1⟩) (first
            | (go_at_call 39; (with_reducible refine (hk1.out _ hz0).mono ?_); rintro e w3 ⟨rfl, hb3⟩; have d0 := cell_later hb3 hbox2; have d1 := cell_later hb3 g2))
          have hB3 := Below.on hB2 (Below.on hz0 hb3)
          have hbox3 := d0
          clear d0 d1 g2 hk1 hz0 hb3 hbox2
          go_wp2_with fail
          refine (compTag_at T j ⟨#[42]⟩ true 0 hv2.out he2.out _ _ c _ (hT.out.below hB3)).mono ?_
          rintro e w4 ⟨rfl, hb4⟩
          have hB4 := Below.on hB3 hb4
          have hbox4 := cell_later hb4 hbox3
          clear hb4 hbox3
          go_wp2_with fail
          refine (compTag_at T j tag true 0 hv3.out he3.out _ _ c _ (hT.out.below hB4)).mono ?_
          rintro e w5 ⟨rfl, hb5⟩
          have hB5 := Below.on hB4 hb5
          have hbox5 := cell_later hb5 hbox4
          clear hb5 hbox4
          go_wp2_with fail
          refine (rmode_at T (-1) true hmd.out _ _ c _ (hT.out.below hB5) hg'.out).mono ?_
          rintro e w6 ⟨rfl, hb6⟩
          have hB6 := Below.on hB5 hb6
          go_wp2
          go_ret
          exact ⟨rfl, hB6⟩
        · subst hw
          clear h0 h5 hir hg c0 hnt hn64 hV0 h64 hV3
          go_enter Try.func14, Try.ntmps14
          go_wp2_with fail
          refine (alive19_ok _ (hm'.out.below hB0)).mono ?_
          rintro e w1 ⟨rfl, hb1⟩
          have hB1 := Below.on hB0 hb1
          have hbox1 := cell_later hb1 hbox0
          clear hb1 hbox0
          go_wp2_with fail
          refine (rasked_at T j 0 hia.out _ _ c _ (hT.out.below hB1)).mono ?_
          rintro e w2 ⟨rfl, hb2⟩
          have hB2 := Below.on hB1 hb2
          have hbox2 := cell_later hb2 hbox1
          clear hb2 hbox1
          have g2 := (old hB2 _ _ hbl).trans c0'.out
          have hk1 := hide (fun (W : World) (hW : Below w2.heap.size w2 W) => compTag_at T j nt true 0 hv1.out he1.out _ _ c W (hT.out.below (Below.on hB2 hW)))
          have hz0 := (Below.refl w2.heap.size w2).drew
          go_wp2
          go_region_held3 (fun X => X.cell? ⟨w.heap.size, 0, none⟩ = some (.slice (some ⟨bb, off, none⟩) n c) ∧ X.cell? ⟨bb, off + j * 4, none⟩ = some (.string nt)) (first | exact ⟨hbox2, g2⟩ | exact ⟨d0, d1⟩) (first
            | (go_at_call 39; (with_reducible refine (hk1.out _ hz0).mono ?_); rintro e w3 ⟨rfl, hb3⟩; have d0 := cell_later hb3 hbox2; have d1 := cell_later hb3 g2))
          have hB3 := Below.on hB2 (Below.on hz0 hb3)
          have hbox3 := d0
          clear d0 d1 g2 hk1 hz0 hb3 hbox2
          go_wp2_with fail
          refine (compTag_at T j ⟨#[42]⟩ true 0 hv2.out he2.out _ _ c _ (hT.out.below hB3)).mono ?_
          rintro e w4 ⟨rfl, hb4⟩
          have hB4 := Below.on hB3 hb4
          have hbox4 := cell_later hb4 hbox3
          clear hb4 hbox3
          go_wp2_with fail
          refine (compTag_at T j ⟨#[42]⟩ true 0 hv2.out he2.out _ _ c _ (hT.out.below hB4)).mono ?_
          rintro e w5 ⟨rfl, hb5⟩
          have hB5 := Below.on hB4 hb5
          have hbox5 := cell_later hb5 hbox4
          clear hb5 hbox4
          go_wp2_with fail
          refine (rmode_at T (-1) true hmd.out _ _ c _ (hT.out.below hB5) hg'.out).mono ?_
          rintro e w6 ⟨rfl, hb6⟩
          have hB6 := Below.on hB5 hb6
          go_wp2
          go_ret
          exact ⟨rfl, hB6⟩
        · obtain ⟨v, hv⟩ : ∃ x, (tag.toList == nt.toList) = x := ⟨_, rfl⟩
          have hv3 : Hid (tagVal T j tag = v) := by
            show _ = _
            rw [hV3, decide_eq_false hw1, decide_eq_false hw2, Bool.false_or, Bool.false_or, ← hv]
            by_cases h : tag = nt
            · rw [decide_eq_true h, str_eq h]
            · rw [decide_eq_false h, str_ne h]
          have d1 := mt (toList_nil tag).1 hw1
          have d2 : tag.toList.isEmpty = false := by rw [List.isEmpty_eq_false_iff]; exact d1
          have d3 : (tag.toList == (⟨#[42]⟩ : ByteArray).toList) = false := str_ne hw2
          have d4 : (⟨#[42]⟩ : ByteArray).toList = [42] := by rw [ByteArray.toList_eq]
          rw [d4] at d3
          clear h0 h5 hir hg c0 hnt hn64 hV0 h64 hV3 hw1 hw2 d4
          go_enter Try.func14, Try.ntmps14
          go_wp2_with fail
          refine (alive19_ok _ (hm'.out.below hB0)).mono ?_
          rintro e w1 ⟨rfl, hb1⟩
          have hB1 := Below.on hB0 hb1
          have hbox1 := cell_later hb1 hbox0
          clear hb1 hbox0
          go_wp2_with fail
          refine (rasked_at T j 0 hia.out _ _ c _ (hT.out.below hB1)).mono ?_
          rintro e w2 ⟨rfl, hb2⟩
          have hB2 := Below.on hB1 hb2
          have hbox2 := cell_later hb2 hbox1
          clear hb2 hbox1
          have g2 := (old hB2 _ _ hbl).trans c0'.out
          have hk1 := hide (fun (W : World) (hW : Below w2.heap.size w2 W) => compTag_at T j nt true 0 hv1.out he1.out _ _ c W (hT.out.below (Below.on hB2 hW)))
          have hz0 := (Below.refl w2.heap.size w2).drew
          go_wp2
          go_region_held3 (fun X => X.cell? ⟨w.heap.size, 0, none⟩ = some (.slice (some ⟨bb, off, none⟩) n c) ∧ X.cell? ⟨bb, off + j * 4, none⟩ = some (.string nt)) (first | exact ⟨hbox2, g2⟩ | exact ⟨d0, d1⟩) (first
            | (go_at_call 39; (with_reducible refine (hk1.out _ hz0).mono ?_); rintro e w3 ⟨rfl, hb3⟩; have d0 := cell_later hb3 hbox2; have d1 := cell_later hb3 g2))
          have hB3 := Below.on hB2 (Below.on hz0 hb3)
          have hbox3 := d0
          clear d0 d1 g2 hk1 hz0 hb3 hbox2
          go_wp2_with fail
          refine (compTag_at T j ⟨#[42]⟩ true 0 hv2.out he2.out _ _ c _ (hT.out.below hB3)).mono ?_
          rintro e w4 ⟨rfl, hb4⟩
          have hB4 := Below.on hB3 hb4
          have hbox4 := cell_later hb4 hbox3
          clear hb4 hbox3
          go_wp2_with fail
          refine (compTag_at T j tag v 0 hv3.out he3.out _ _ c _ (hT.out.below hB4)).mono ?_
          rintro e w5 ⟨rfl, hb5⟩
          have hB5 := Below.on hB4 hb5
          have hbox5 := cell_later hb5 hbox4
          clear hb5 hbox4
          have g5 := (old hB5 _ _ hbl).trans c0'.out
          cases v
          · go_wp2_with fail
            refine (rmode_at T (-1) true hmd.out _ _ c _ (hT.out.below hB5) hg'.out).mono ?_
            rintro e w6 ⟨rfl, hb6⟩
            have hB6 := Below.on hB5 hb6
            go_wp2
            go_ret
            exact ⟨rfl, hB6⟩
          · go_wp2_with fail
            refine (rmode_at T (-1) true hmd.out _ _ c _ (hT.out.below hB5) hg'.out).mono ?_
            rintro e w6 ⟨rfl, hb6⟩
            have hB6 := Below.on hB5 hb6
            go_wp2
            go_ret
            exact ⟨rfl, hB6⟩
      · have g6 : decide (64 < (tag.size : Int)) = true := by rw [decide_eq_true_eq]; omega
        have he3 : Hid (tagErr T j tag = 12) := by show _ = _; unfold tagErr; rw [if_pos h0]; exact if_neg h64
        have hv3 : Hid (tagVal T j tag = false) := by show _ = _; unfold tagVal; rw [if_neg (by rw [he3.out]; omega)]
        clear h0 h5 hir hg c0 hnt hn64 hV0 h64
        go_enter Try.func14, Try.ntmps14
        go_wp2_with fail
        refine (alive19_ok _ (hm'.out.below hB0)).mono ?_
        rintro e w1 ⟨rfl, hb1⟩
        have hB1 := Below.on hB0 hb1
        have hbox1 := cell_later hb1 hbox0
        clear hb1 hbox0
        go_wp2_with fail
        refine (rasked_at T j 0 hia.out _ _ c _ (hT.out.below hB1)).mono ?_
        rintro e w2 ⟨rfl, hb2⟩
        have hB2 := Below.on hB1 hb2
        have hbox2 := cell_later hb2 hbox1
        clear hb2 hbox1
        have g2 := (old hB2 _ _ hbl).trans c0'.out
        have hk1 := hide (fun (W : World) (hW : Below w2.heap.size w2 W) => compTag_at T j nt true 0 hv1.out he1.out _ _ c W (hT.out.below (Below.on hB2 hW)))
        have hz0 := (Below.refl w2.heap.size w2).drew
        go_wp2
        go_region_held3 (fun X => X.cell? ⟨w.heap.size, 0, none⟩ = some (.slice (some ⟨bb, off, none⟩) n c) ∧ X.cell? ⟨bb, off + j * 4, none⟩ = some (.string nt)) (first | exact ⟨hbox2, g2⟩ | exact ⟨d0, d1⟩) (first
          | (go_at_call 39; (with_reducible refine (hk1.out _ hz0).mono ?_); rintro e w3 ⟨rfl, hb3⟩; have d0 := cell_later hb3 hbox2; have d1 := cell_later hb3 g2))
        have hB3 := Below.on hB2 (Below.on hz0 hb3)
        have hbox3 := d0
        clear d0 d1 g2 hk1 hz0 hb3 hbox2
        go_wp2_with fail
        refine (compTag_at T j ⟨#[42]⟩ true 0 hv2.out he2.out _ _ c _ (hT.out.below hB3)).mono ?_
        rintro e w4 ⟨rfl, hb4⟩
        have hB4 := Below.on hB3 hb4
        have hbox4 := cell_later hb4 hbox3
        clear hb4 hbox3
        go_wp2_with fail
        refine (compTag_at T j tag false 12 hv3.out he3.out _ _ c _ (hT.out.below hB4)).mono ?_
        rintro e w5 ⟨rfl, hb5⟩
        have hB5 := Below.on hB4 hb5
        have hbox5 := cell_later hb5 hbox4
        clear hb5 hbox4
        go_wp2
        go_ret
        exact ⟨rfl, hB5⟩
    · have g5 : decide (500 < (tag.size : Int)) = true := by rw [decide_eq_true_eq]; omega
      clear h0 h5 hir hg
      go_enter Try.func14, Try.ntmps14
      go_wp2_with fail
      refine (alive19_ok _ (hm'.out.below hB0)).mono ?_
      rintro e w1 ⟨rfl, hb1⟩
      have hB1 := Below.on hB0 hb1
      have hbox1 := cell_later hb1 hbox0
      clear hb1 hbox0
      go_wp2_with fail
      refine (rasked_at T j 0 hia.out _ _ c _ (hT.out.below hB1)).mono ?_
      rintro e w2 ⟨rfl, hb2⟩
      have hB2 := Below.on hB1 hb2
      have hbox2 := cell_later hb2 hbox1
      clear hb2 hbox1
      go_wp2
      go_ret
      exact ⟨rfl, hB2⟩
  · obtain ⟨c1, hc1⟩ : ∃ x, askI T [i] = x := ⟨_, rfl⟩
    have hcz : ¬ c1 = 0 := by rw [← hc1]; exact h0
    have hia := hide hc1
    have hcb : (c1 != 0) = true := by rw [bne_iff_ne]; exact hcz
    clear h0 hc1 hcz
    go_enter Try.func14, Try.ntmps14
    go_wp2_with fail
    refine (alive19_ok _ (hm'.out.below hB0)).mono ?_
    rintro e w1 ⟨rfl, hb1⟩
    have hB1 := Below.on hB0 hb1
    have hbox1 := cell_later hb1 hbox0
    clear hb1 hbox0
    go_wp2_with fail
    refine (rasked_at T i c1 hia.out _ _ c _ (hT.out.below hB1)).mono ?_
    rintro e w2 ⟨rfl, hb2⟩
    have hB2 := Below.on hB1 hb2
    have hbox2 := cell_later hb2 hbox1
    clear hb2 hbox1
    go_wp2
    go_ret
    exact ⟨rfl, hB2⟩

set_option maxRecDepth 100000 in
theorem lifted (os : Os) (started : os.Started) (H : Type) (enc : TypeId × Value → H) :
    ReturnsInHanded {} Try.checked os 14 .any (Rows.compoundTagsSpec.pre6 enc Try.prog Try.f14 Rows.compoundTagsRow.domain false) (Rows.compoundTagsSpec.post enc Try.prog Try.f14 false true false false) := by
  refine returnsInHanded_of_change_shaped (C := Try.checked) own started (by kernel_rfl) Try.func14
    (ChangeSpec.witness6 (enc := enc) (C := Try.checked) false ⟨#[], #[.agg #[.slice none 0 0], .int .i64 0, .string .empty], []⟩ 8 (by kernel_rfl) (by kernel_rfl) (by kernel_rfl) (by kernel_rfl)) ?_
  intro W base args ds gs before hval0 hW hcnd hsz hsh _
  have hval : ∀ (j : Nat) t v, Try.f14.params[j]? = some t → args[j]? = some v → Value.okWide Try.prog W .any base t v := hval0
  have hW' := hW
  obtain ⟨p, q, hA0, hV, rfl, hfz, hnd⟩ := hW
  have hA : DataW.TrodAll enc Try.prog W 0 (fun _ => true) true Try.f14.params.toList args.toList ds p := hA0
  rw [Try.params14] at hA hval hsz
  obtain ⟨v0, vs0, d0, ds0, p0, q0, hargs, rfl, rfl, h0, r0⟩ := trodAll_cons hA
  obtain ⟨v1, vs1, d1, ds1, p1, q1, rfl, rfl, rfl, h1, r1⟩ := trodAll_cons r0
  obtain ⟨v2, vs2, d2, ds2, p2, q2, rfl, rfl, rfl, h2, r2⟩ := trodAll_cons r1
  obtain ⟨rfl, rfl, rfl⟩ := trodAll_nil r2
  obtain rfl : args = #[v0, v1, v2] := by cases args; simp_all
  obtain ⟨rfl, rfl⟩ := trodVars_none hV
  have lt0 : ∀ x ∈ p0, x.block < W.heap.size := by obtain ⟨m, hm⟩ := h0; exact DataW.trod_lt m _ _ _ hm
  have k0 := h0
  have lt1 : ∀ x ∈ p1, x.block < W.heap.size := by obtain ⟨m, hm⟩ := h1; exact DataW.trod_lt m _ _ _ hm
  have k1 := h1
  have lt2 : ∀ x ∈ p2, x.block < W.heap.size := by obtain ⟨m, hm⟩ := h2; exact DataW.trod_lt m _ _ _ hm
  have k2 := h2
  obtain ⟨A0, n0, c0, T0, rfl, hT0⟩ := tree_open (hval 0 _ v0 rfl rfl) h0
  obtain ⟨a1, rfl, rfl, rfl, w1⟩ := open_int Try.underlying3 (hval 1 _ v1 rfl rfl) h1
  obtain ⟨a2, rfl, rfl, rfl, w2⟩ := Go.ChangeMaps.open_string Try.underlying9 (hval 2 _ v2 rfl rfl) h2
  have w2' : a2.size ≤ 9223372036854775807 := by unfold maxLen at w2; omega
  clear hA0 hval0
  refine (walk A0 n0 c0 T0 a1 a2 W hT0  w2' (hasMax_of hsh)).mono fun e W' ⟨he, bel⟩ => ?_
  subst he
  exact ⟨_, rfl, _, _, _, [], _, [], hW', trodAll_mk1 (shut_bool Try.underlying4 _), (trodAll_cons_mk (Below.trod laidOut (by kernel_rfl) (of_decide_eq_true (by kernel_rfl)) k0 bel lt0) (trodAll_cons_mk (Below.trod laidOut (by kernel_rfl) (of_decide_eq_true (by kernel_rfl)) k1 bel lt1) (trodAll_cons_mk (Below.trod laidOut (by kernel_rfl) (of_decide_eq_true (by kernel_rfl)) k2 bel lt2) trodAll_mk0))), rfl, bel.frame _, fun h => by cases h⟩

theorem proved : Rows.CompoundTagsSaid :=
  OpenClaim.holds_of_wide 14 Try.f14 rfl rfl rfl rfl rfl rfl rfl ⟨rfl, rfl, rfl, rfl, rfl⟩ rfl rfl rfl rfl rfl (by kernel_rfl) Try.func14 (by kernel_rfl)
    (of_decide_eq_true (by kernel_rfl)) (by unfold Func.isWrapper; first | (rw [if_pos (by decide +kernel)]; kernel_rfl) | (rw [if_neg (by decide +kernel)]; exact ⟨rfl, rfl⟩))
    (fun os started H enc _ => lifted os started H enc)
#print axioms proved
end Go.Proofs.Ytbedomopojiehaa.compoundTags
