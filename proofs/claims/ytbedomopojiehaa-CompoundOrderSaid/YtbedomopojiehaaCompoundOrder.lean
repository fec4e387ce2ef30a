/- The order of simple selectors does not matter, nor one that is there twice, and more of them match no more elements; for every valid tree, number, right compound, mode, truth values and index. No condition. -/
import Derived.Test.YtbedomopojiehaaSt
import Derived.Test.YtbedomopojiehaaVk
import Derived.Test.YtbedomopojiehaaVi
import Derived.Test.YtbedomopojiehaaVp
import Derived.Deep.CutRange
import Derived.Deep.RegionHeld3
namespace Go.Proofs.Ytbedomopojiehaa.compoundOrder
open Go.ChangeShapes Go.WideShapes Go.ChangeAt Go.RowKit

theorem compMatch_at (T : List ANode) (i : Int) (tag : ByteArray) (S : List Sim) (m : Int) (tn : Nat) (B : List Bool) (V : Bool) (E : Int) (hV : cmV T i tag S m B tn = V) (hE : cmE T i tag S m tn = E) (A : Option Addr) (n c : Nat) (SA : Option Addr) (sn sc : Nat) (TA : Option Addr) (tc : Nat) (w : World) (h : IsTree w A n T) (hS0 : IsSims w SA sn S) (hB' : IsBools w TA tn B) (hmx : HasMax w) :
    Calls Try.prog 37 #[.agg #[.slice A n c], .int .i64 i, .agg #[.string tag, .slice SA sn sc], .int .i64 m, .slice TA tn tc] w fun r w' => r = .returned (.tuple #[.bool V, .int .i64 E]) ∧ Below w.heap.size w w' := by
  rw [← hV, ← hE]; exact compMatch_ok A n c T i tag SA sn sc S m TA tn tc B w h hS0 hB' hmx
set_option maxRecDepth 100000 in
set_option maxHeartbeats 8000000 in
theorem walk (A : Option Addr) (n c : Nat) (T : List ANode) (i : Int) (tag : ByteArray) (SA : Option Addr) (sn sc : Nat) (S : List Sim) (m : Int) (TA : Option Addr) (tn tc : Nat) (B : List Bool) (ix0 : Int) (w : World) (h : IsTree w A n T) (hS0 : IsSims w SA sn S) (hB' : IsBools w TA tn B) (hm0 : HasMax w) :
    Calls Try.prog 13 #[.agg #[.slice A n c], .int .i64 i, .agg #[.string tag, .slice SA sn sc], .int .i64 m, .slice TA tn tc, .int .i64 ix0] w fun r w' => r = .returned (.bool true) ∧ Below w.heap.size w w' := by
  have hT := hide h
  have hl := h.1
  have hm' := hide hm0
  have hS := hide hS0
  have hsl := hS0.1
  have hTB := hide hB'
  have hB0 := below_alloc (below_alloc (Below.refl w.heap.size w) (.cells #[.slice A n c] 43)) (.cells #[.string tag, .slice SA sn sc] 65)
  have hbox0 : ((w.alloc (.cells #[.slice A n c] 43)).alloc (.cells #[.string tag, .slice SA sn sc] 65)).cell? ⟨w.heap.size, 0, none⟩ = some (.slice A n c) := by go_simp
  have ht0 : ((w.alloc (.cells #[.slice A n c] 43)).alloc (.cells #[.string tag, .slice SA sn sc] 65)).cell? ⟨w.heap.size + 1, 0, none⟩ = some (.string tag) := by go_simp
  have htb0 : ((w.alloc (.cells #[.slice A n c] 43)).alloc (.cells #[.string tag, .slice SA sn sc] 65)).cell? ⟨w.heap.size + 1, 1, none⟩ = some (.slice SA sn sc) := by go_simp
  clear h hm0 hS0 hB'
  by_cases h0 : askI T [i] = 0
  · have hia := hide h0
    have hir := (askI_zero.1 h0).2 i (by simp)
    obtain ⟨j, rfl⟩ := Int.eq_ofNat_of_zero_le hir.1
    have hj : j < n := by omega
    obtain ⟨cc, hcc0⟩ : ∃ x, ccE T tag S m = x := ⟨_, rfl⟩
    have hcc := hide hcc0
    by_cases h1 : cc = 0
    · subst h1
      obtain ⟨hg, hmd, hck⟩ := ccE_zero.1 hcc0
      by_cases h2 : tn = sn
      · subst h2
        by_cases h60 : 60 < tn
        · have g60 : decide (60 < (tn : Int)) = true := by rw [decide_eq_true_eq]; omega
          clear h0 hcc0 hir hg hmd hck h60
          go_enter Try.func13, Try.ntmps13
          go_wp2_with fail
          refine (alive19_ok _ (hm'.out.below hB0)).mono ?_
          rintro e w1 ⟨rfl, hb1⟩
          have hB1 := Below.on hB0 hb1
          have hbox1 := cell_later hb1 hbox0
          have ht1 := cell_later hb1 ht0
          have htb1 := cell_later hb1 htb0
          clear hb1 hbox0 ht0 htb0
          go_wp2_with fail
          refine (rasked_at T j 0 hia.out _ _ c _ (hT.out.below hB1)).mono ?_
          rintro e w2 ⟨rfl, hb2⟩
          have hB2 := Below.on hB1 hb2
          have hbox2 := cell_later hb2 hbox1
          have ht2 := cell_later hb2 ht1
          have htb2 := cell_later hb2 htb1
          clear hb2 hbox1 ht1 htb1
          go_wp2_with fail
          refine (rgreat19_ok tag _ _ sc S _ (hS.out.below hB2)).mono ?_
          rintro e w3 ⟨⟨v, rfl⟩, hb3⟩
          have hB3 := Below.on hB2 hb3
          have hbox3 := cell_later hb3 hbox2
          have ht3 := cell_later hb3 ht2
          have htb3 := cell_later hb3 htb2
          clear hb3 hbox2 ht2 htb2
          cases v
          · go_wp2_with fail
            refine (rc19asked_at T tag S m 0 hcc.out _ _ c _ _ sc _ (hT.out.below hB3) (hS.out.below hB3)).mono ?_
            rintro e w4 ⟨rfl, hb4⟩
            have hB4 := Below.on hB3 hb4
            have hbox4 := cell_later hb4 hbox3
            have ht4 := cell_later hb4 ht3
            have htb4 := cell_later hb4 htb3
            clear hb4 hbox3 ht3 htb3
            go_wp2
            go_ret
            exact ⟨rfl, hB4⟩
          · go_wp2
            go_ret
            exact ⟨rfl, hB3⟩
        · have g60 : decide (60 < (tn : Int)) = false := by rw [decide_eq_false_iff_not]; omega
          by_cases hneg : ix0 < 0
          · clear h0 hcc0 hir hg hmd hck h60
            go_enter Try.func13, Try.ntmps13
            go_wp2_with fail
            refine (alive19_ok _ (hm'.out.below hB0)).mono ?_
            rintro e w1 ⟨rfl, hb1⟩
            have hB1 := Below.on hB0 hb1
            have hbox1 := cell_later hb1 hbox0
            have ht1 := cell_later hb1 ht0
            have htb1 := cell_later hb1 htb0
            clear hb1 hbox0 ht0 htb0
            go_wp2_with fail
            refine (rasked_at T j 0 hia.out _ _ c _ (hT.out.below hB1)).mono ?_
            rintro e w2 ⟨rfl, hb2⟩
            have hB2 := Below.on hB1 hb2
            have hbox2 := cell_later hb2 hbox1
            have ht2 := cell_later hb2 ht1
            have htb2 := cell_later hb2 htb1
            clear hb2 hbox1 ht1 htb1
            go_wp2_with fail
            refine (rgreat19_ok tag _ _ sc S _ (hS.out.below hB2)).mono ?_
            rintro e w3 ⟨⟨v, rfl⟩, hb3⟩
            have hB3 := Below.on hB2 hb3
            have hbox3 := cell_later hb3 hbox2
            have ht3 := cell_later hb3 ht2
            have htb3 := cell_later hb3 htb2
            clear hb3 hbox2 ht2 htb2
            cases v
            · go_wp2_with fail
              refine (rc19asked_at T tag S m 0 hcc.out _ _ c _ _ sc _ (hT.out.below hB3) (hS.out.below hB3)).mono ?_
              rintro e w4 ⟨rfl, hb4⟩
              have hB4 := Below.on hB3 hb4
              have hbox4 := cell_later hb4 hbox3
              have ht4 := cell_later hb4 ht3
              have htb4 := cell_later hb4 htb3
              clear hb4 hbox3 ht3 htb3
              go_wp2
              go_ret
              exact ⟨rfl, hB4⟩
            · go_wp2
              go_ret
              exact ⟨rfl, hB3⟩
          · obtain ⟨at0, rfl⟩ := Int.eq_ofNat_of_zero_le (Int.not_lt.1 hneg)
            by_cases hge : tn ≤ at0
            · have gge : decide ((tn : Int) ≤ (at0 : Int)) = true := by rw [decide_eq_true_eq]; omega
              clear h0 hcc0 hir hg hmd hck h60
              go_enter Try.func13, Try.ntmps13
              go_wp2_with fail
              refine (alive19_ok _ (hm'.out.below hB0)).mono ?_
              rintro e w1 ⟨rfl, hb1⟩
              have hB1 := Below.on hB0 hb1
              have hbox1 := cell_later hb1 hbox0
              have ht1 := cell_later hb1 ht0
              have htb1 := cell_later hb1 htb0
              clear hb1 hbox0 ht0 htb0
              go_wp2_with fail
              refine (rasked_at T j 0 hia.out _ _ c _ (hT.out.below hB1)).mono ?_
              rintro e w2 ⟨rfl, hb2⟩
              have hB2 := Below.on hB1 hb2
              have hbox2 := cell_later hb2 hbox1
              have ht2 := cell_later hb2 ht1
              have htb2 := cell_later hb2 htb1
              clear hb2 hbox1 ht1 htb1
              go_wp2_with fail
              refine (rgreat19_ok tag _ _ sc S _ (hS.out.below hB2)).mono ?_
              rintro e w3 ⟨⟨v, rfl⟩, hb3⟩
              have hB3 := Below.on hB2 hb3
              have hbox3 := cell_later hb3 hbox2
              have ht3 := cell_later hb3 ht2
              have htb3 := cell_later hb3 htb2
              clear hb3 hbox2 ht2 htb2
              cases v
              · go_wp2_with fail
                refine (rc19asked_at T tag S m 0 hcc.out _ _ c _ _ sc _ (hT.out.below hB3) (hS.out.below hB3)).mono ?_
                rintro e w4 ⟨rfl, hb4⟩
                have hB4 := Below.on hB3 hb4
                have hbox4 := cell_later hb4 hbox3
                have ht4 := cell_later hb4 ht3
                have htb4 := cell_later hb4 htb3
                clear hb4 hbox3 ht3 htb3
                go_wp2
                go_ret
                exact ⟨rfl, hB4⟩
              · go_wp2
                go_ret
                exact ⟨rfl, hB3⟩
            · have gge : decide ((tn : Int) ≤ (at0 : Int)) = false := by rw [decide_eq_false_iff_not]; omega
              have hat : at0 < tn := by omega
              have hle60 : tn ≤ 60 := by omega
              have hE : Hid (cmE T j tag S m tn = 0) := by show _ = _; unfold cmE; rw [if_pos h0, if_pos hcc0, if_pos hsl.symm]
              obtain ⟨r, hr⟩ : ∃ x, matC T j tag S m (bx B) tn = x := ⟨_, rfl⟩
              have hV : Hid (cmV T j tag S m B tn = r) := by show _ = _; unfold cmV; rw [if_pos hE.out, Int.toNat_natCast, hsl, hr]
              have hia0 := hide h0
              have hcc1 := hide hcc0
              have hck' := hide hck
              have hr' := hide hr
              have hg' := hide hg
              have hmd' := hide hmd
              clear h0 hcc0 hir hg hmd hck h60 hge hneg hr
              go_enter Try.func13, Try.ntmps13
              go_wp2_with fail
              refine (alive19_ok _ (hm'.out.below hB0)).mono ?_
              rintro e w1 ⟨rfl, hb1⟩
              have hB1 := Below.on hB0 hb1
              have hbox1 := cell_later hb1 hbox0
              have ht1 := cell_later hb1 ht0
              have htb1 := cell_later hb1 htb0
              clear hb1 hbox0 ht0 htb0
              go_wp2_with fail
              refine (rasked_at T j 0 hia.out _ _ c _ (hT.out.below hB1)).mono ?_
              rintro e w2 ⟨rfl, hb2⟩
              have hB2 := Below.on hB1 hb2
              have hbox2 := cell_later hb2 hbox1
              have ht2 := cell_later hb2 ht1
              have htb2 := cell_later hb2 htb1
              clear hb2 hbox1 ht1 htb1
              go_wp2_with fail
              refine (rgreat19_ok tag _ _ sc S _ (hS.out.below hB2)).mono ?_
              rintro e w3 ⟨⟨v, rfl⟩, hb3⟩
              have hB3 := Below.on hB2 hb3
              have hbox3 := cell_later hb3 hbox2
              have ht3 := cell_later hb3 ht2
              have htb3 := cell_later hb3 htb2
              clear hb3 hbox2 ht2 htb2
              cases v
              · go_wp2_with fail
                refine (rc19asked_at T tag S m 0 hcc.out _ _ c _ _ sc _ (hT.out.below hB3) (hS.out.below hB3)).mono ?_
                rintro e w4 ⟨rfl, hb4⟩
                have hB4 := Below.on hB3 hb4
                have hbox4 := cell_later hb4 hbox3
                have ht4 := cell_later hb4 ht3
                have htb4 := cell_later hb4 htb3
                clear hb4 hbox3 ht3 htb3
                go_wp2_with fail
                refine (compMatch_at T j tag S m tn B r 0 hV.out hE.out _ _ c _ _ sc _ tc _ (hT.out.below hB4) (hS.out.below hB4) (hTB.out.below hB4) (hm'.out.below hB4)).mono ?_
                rintro e w5 ⟨rfl, hb5⟩
                have hB5 := Below.on hB4 hb5
                have hbox5 := cell_later hb5 hbox4
                have ht5 := cell_later hb5 ht4
                have htb5 := cell_later hb5 htb4
                clear hb5 hbox4 ht4 htb4
                go_upto_region 5 with fail
                go_cut [16, 17, 18] from 83 to 91 (fun p q r wx => Below w5.heap.size w5 wx ∧ ∃ g1 g2 g3 : Nat, p = .pointer (some ⟨g1, 0, none⟩) ∧ q = .pointer (some ⟨g2, 0, none⟩) ∧ r = .pointer (some ⟨g3, 0, none⟩) ∧ Six wx w5.heap.size tag g1 g2 g3 (.slice none 0 0) (.slice none 0 0) (.slice none 0 0) (.slice none 0 0) (.slice none 0 0) (.slice none 0 0) [] [] [] (.slice none 0 0) (.slice none 0 0) (.slice none 0 0) [] [] [])
                case first =>
                  go_region_held3 (fun X => X.cell? ⟨w.heap.size + 1, 0, none⟩ = some (.string tag)) (first | exact ht5 | exact far_al ht5 _ | exact far_al (far_al ht5 _) _ | exact far_al (far_al (far_al ht5 _) _) _) (first | fail)
                  all_goals
                    go_wp2_with fail
                    go_meet
                    exact ⟨below_alloc (below_alloc (below_alloc (Below.refl _ _).drew _) _) _, _, _, _, rfl, rfl, rfl, (six_new w5 tag (by omega) (by omega) (by omega) (by omega) (by omega) (by omega)).below (Below.refl _ _).drew⟩
                case rest =>
                obtain ⟨hb6, g1, g2, g3, rfl, rfl, rfl, hSix0⟩ := hcut
                generalize wc = w6 at *
                have hq6 := hide hSix0
                clear hSix0
                go_wp2
                go_loopw [19, 20, 21, 22] (fun u19 u20 u21 s wr => ∃ k : Nat, k ≤ tn ∧ s = .int .i64 k ∧ Below w5.heap.size w5 wr ∧ ∃ y1 y2 y3 : Value, Six wr w5.heap.size tag g1 g2 g3 y1 y2 y3 y1 y2 y3 (((List.range k).map fun x => (x + at0) % tn).map (sm S)) ((List.range k).map (sm S)) (((List.range k).filter (fun x => decide (x ≠ at0))).map (sm S)) u19 u20 u21 (((List.range k).map fun x => (x + at0) % tn).map (bx B)) ((List.range k).map (bx B)) (((List.range k).filter (fun x => decide (x ≠ at0))).map (bx B))) (fun _ _ _ s _ => tn - (intOf s).toNat)
                case atStart => exact ⟨0, Nat.zero_le _, rfl, hb6, _, _, _, hq6.out⟩
                case round =>
                  obtain ⟨k, hk, rfl, hb, y1, y2, y3, hq⟩ := hrel
                  by_cases hlt : k < tn
                  · have q1 : (0 : Int) ≤ (k : Int) := by omega
                    have q2 : (k : Int) < (tn : Int) := by omega
                    have hqr := hide hq
                    clear hq
                    have hBr := Below.on hB5 hb
                    have htbr := cell_later hb htb5
                    obtain ⟨bb, off, rfl, hbl, hc0⟩ := hS.out.2.2 (by omega)
                    obtain ⟨bt, ot, rfl, hbt, hct0⟩ := hTB.out.2.2 (by omega)
                    have hq := hqr
                    clear hqr
                    go_upto_region 11 with fail
                    have hwm : ((k : Int) + (at0 : Int)) % (tn : Int) = (((k + at0) % tn : Nat) : Int) := rfl
                    rw [hwm]
                    have hm1 : (k + at0) % tn < tn := Nat.mod_lt _ (by omega)
                    clear hwm
                    generalize hmm : (k + at0) % tn = mm at hm1 ⊢
                    have p1 : (0 : Int) ≤ (mm : Int) := by omega
                    have p2 : (mm : Int) < (tn : Int) := by omega
                    have hin := (hc0 mm hm1).later hB5
                    have gt := (old hB5 _ _ hbt).trans (hct0 mm hm1)
                    obtain ⟨bvq, hbvq⟩ : ∃ x, bx B mm = x := ⟨_, rfl⟩
                    rw [hbvq] at gt
                    obtain ⟨sXq, hsXq⟩ : ∃ x, sm S mm = x := ⟨_, rfl⟩
                    rw [hsXq] at hin
                    obtain ⟨k0q, nmq, opq, vlq, foq, a0q, b0q, f0q, LAq, lnq, lcq⟩ := sXq
                    obtain ⟨s0, s1, s2, s3, s4, s5, s6, s7, s8⟩ := hin
                    have hS5 := hide (fun (W : World) (hW : Below w5.heap.size w5 W) => (show W.cell? ⟨w.heap.size + 1, 1, none⟩ = some (.slice (some ⟨bb, off, none⟩) tn sc) ∧ W.cell? ⟨bb, off + mm * 9, none⟩ = some (.int .u8 k0q) ∧ W.cell? ⟨bb, off + mm * 9 + 1, none⟩ = some (.string nmq) ∧ W.cell? ⟨bb, off + mm * 9 + 2, none⟩ = some (.int .u8 opq) ∧ W.cell? ⟨bb, off + mm * 9 + 3, none⟩ = some (.string vlq) ∧ W.cell? ⟨bb, off + mm * 9 + 4, none⟩ = some (.bool foq) ∧ W.cell? ⟨bb, off + mm * 9 + 5, none⟩ = some (.int .i64 a0q) ∧ W.cell? ⟨bb, off + mm * 9 + 6, none⟩ = some (.int .i64 b0q) ∧ W.cell? ⟨bb, off + mm * 9 + 7, none⟩ = some (.bool f0q) ∧ W.cell? ⟨bb, off + mm * 9 + 8, none⟩ = some (.slice LAq lnq lcq) ∧ W.cell? ⟨bt, ot + mm, none⟩ = some (.bool bvq) from ⟨cell_later hW htb5, cell_later hW s0, cell_later hW s1, cell_later hW s2, cell_later hW s3, cell_later hW s4, cell_later hW s5, cell_later hW s6, cell_later hW s7, cell_later hW s8, cell_later hW gt⟩))
                    clear s0 s1 s2 s3 s4 s5 s6 s7 s8 gt
                    have hl1 := hq.out.l1
                    have hlen : ((((List.range k).map fun x => (x + at0) % tn).map (sm S))).length ≤ 1000000 := (by simp; omega)
                    have hlenB : ((((List.range k).map fun x => (x + at0) % tn).map (bx B))).length ≤ 1000000 := (by simp; omega)
                    obtain ⟨nl, hnl0⟩ : ∃ x, ((((List.range k).map fun x => (x + at0) % tn).map (sm S))).length = x := ⟨_, rfl⟩
                    obtain ⟨nb, hnb0⟩ : ∃ x, ((((List.range k).map fun x => (x + at0) % tn).map (bx B))).length = x := ⟨_, rfl⟩
                    have hnl := hide hnl0
                    have hnb := hide hnb0
                    clear hnl0 hnb0
                    go_cut [19] from 104 to 120 (fun u wx => Below w5.heap.size w5 wx ∧ ∃ y : Value, Six wx w5.heap.size tag g1 g2 g3 y y2 y3 y y2 y3 ((((List.range k).map fun x => (x + at0) % tn).map (sm S)) ++ [sm S mm]) ((List.range k).map (sm S)) (((List.range k).filter (fun x => decide (x ≠ at0))).map (sm S)) u u20 u21 ((((List.range k).map fun x => (x + at0) % tn).map (bx B)) ++ [bx B mm]) ((List.range k).map (bx B)) (((List.range k).filter (fun x => decide (x ≠ at0))).map (bx B)))
                    case first =>
                      refine wp_region_held_drew (S := fun X => X.cell? ⟨w.heap.size + 1, 1, none⟩ = some (.slice (some ⟨bb, off, none⟩) tn sc) ∧ X.cell? ⟨bb, off + mm * 9, none⟩ = some (.int .u8 k0q) ∧ X.cell? ⟨bb, off + mm * 9 + 1, none⟩ = some (.string nmq) ∧ X.cell? ⟨bb, off + mm * 9 + 2, none⟩ = some (.int .u8 opq) ∧ X.cell? ⟨bb, off + mm * 9 + 3, none⟩ = some (.string vlq) ∧ X.cell? ⟨bb, off + mm * 9 + 4, none⟩ = some (.bool foq) ∧ X.cell? ⟨bb, off + mm * 9 + 5, none⟩ = some (.int .i64 a0q) ∧ X.cell? ⟨bb, off + mm * 9 + 6, none⟩ = some (.int .i64 b0q) ∧ X.cell? ⟨bb, off + mm * 9 + 7, none⟩ = some (.bool f0q) ∧ X.cell? ⟨bb, off + mm * 9 + 8, none⟩ = some (.slice LAq lnq lcq) ∧ X.cell? ⟨bt, ot + mm, none⟩ = some (.bool bvq)) (by kernel_rfl) (hS5.out _ hb.drew) (fun hHeld => ?_)
                      refine mgTake 0 104 (.pointer (some ⟨g1, 1, none⟩)) (by kernel_rfl) (by kernel_rfl) (by kernel_rfl) (by kernel_rfl) (fun _ _ _ h => h) (by rfl) ?_ (by assumption) ?_
                      · intro W hW
                        try dsimp only at hW
                        simp only [List.getElem?_toArray, List.getElem?_cons_zero, Option.map_some, Option.some.injEq]
                        go_simp
                      try simp only [Act.put, List.setIfInBounds_toArray, List.set_cons_zero, List.set_cons_succ]
                      refine mgTake 2 106 (.pointer (some ⟨w.heap.size + 1, 1, none⟩)) (by kernel_rfl) (by kernel_rfl) (by kernel_rfl) (by kernel_rfl) (fun _ _ _ h => h) (by rfl) ?_ (by assumption) ?_
                      · intro W hW
                        try dsimp only at hW
                        simp only [List.getElem?_toArray, List.getElem?_cons_succ, List.getElem?_cons_zero, Option.map_some, Option.some.injEq]
                        go_simp
                      try simp only [Act.put, List.setIfInBounds_toArray, List.set_cons_zero, List.set_cons_succ]
                      refine mgTake 3 107 (.slice (some ⟨bb, off, none⟩) tn sc) (by kernel_rfl) (by kernel_rfl) (by kernel_rfl) (by kernel_rfl) (fun _ _ _ h => h) (by rfl) ?_ (by assumption) ?_
                      · intro W hW
                        try dsimp only at hW
                        simp only [List.getElem?_toArray, List.getElem?_cons_succ, List.getElem?_cons_zero, Option.map_some, Option.some.injEq]
                        go_simp
                      try simp only [Act.put, List.setIfInBounds_toArray, List.set_cons_zero, List.set_cons_succ]
                      refine mgTake 4 108 (.int .i64 mm) (by kernel_rfl) (by kernel_rfl) (by kernel_rfl) (by kernel_rfl) (fun _ _ _ h => h) (by rfl) ?_ (by assumption) ?_
                      · intro W hW
                        try dsimp only at hW
                        simp only [List.getElem?_toArray, List.getElem?_cons_succ, List.getElem?_cons_zero, Option.map_some, Option.some.injEq]
                        go_simp
                      try simp only [Act.put, List.setIfInBounds_toArray, List.set_cons_zero, List.set_cons_succ]
                      refine mgTake 5 109 (.pointer (some ⟨bb, off + mm * 9, none⟩)) (by kernel_rfl) (by kernel_rfl) (by kernel_rfl) (by kernel_rfl) (fun _ _ _ h => h) (by rfl) ?_ (by assumption) ?_
                      · intro W hW
                        try dsimp only at hW
                        simp only [List.getElem?_toArray, List.getElem?_cons_succ, List.getElem?_cons_zero, Option.map_some, Option.some.injEq]
                        go_simp
                      try simp only [Act.put, List.setIfInBounds_toArray, List.set_cons_zero, List.set_cons_succ]
                      refine mgTake 6 110 (.agg #[.int .u8 k0q, .string nmq, .int .u8 opq, .string vlq, .bool foq, .int .i64 a0q, .int .i64 b0q, .bool f0q, .slice LAq lnq lcq]) (by kernel_rfl) (by kernel_rfl) (by kernel_rfl) (by kernel_rfl) (fun _ _ _ h => h) (by rfl) ?_ (by assumption) ?_
                      · intro W hW
                        try dsimp only at hW
                        simp only [List.getElem?_toArray, List.getElem?_cons_succ, List.getElem?_cons_zero, Option.map_some, Option.some.injEq]
                        go_simp
                      try simp only [Act.put, List.setIfInBounds_toArray, List.set_cons_zero, List.set_cons_succ]
                      refine mgTake 9 113 (u19) (by kernel_rfl) (by kernel_rfl) (by kernel_rfl) (by kernel_rfl) (fun _ _ _ h => h) (by rfl) ?_ (by assumption) ?_
                      · intro W hW
                        try dsimp only at hW
                        simp only [List.getElem?_toArray, List.getElem?_cons_succ, List.getElem?_cons_zero, Option.map_some, Option.some.injEq]
                        go_simp
                      try simp only [Act.put, List.setIfInBounds_toArray, List.set_cons_zero, List.set_cons_succ]
                      refine mgTake 10 114 (.slice (some ⟨bt, ot, none⟩) tn tc) (by kernel_rfl) (by kernel_rfl) (by kernel_rfl) (by kernel_rfl) (fun _ _ _ h => h) (by rfl) ?_ (by assumption) ?_
                      · intro W hW
                        try dsimp only at hW
                        simp only [List.getElem?_toArray, List.getElem?_cons_succ, List.getElem?_cons_zero, Option.map_some, Option.some.injEq]
                        go_simp
                      try simp only [Act.put, List.setIfInBounds_toArray, List.set_cons_zero, List.set_cons_succ]
                      refine mgTake 11 115 (.int .i64 mm) (by kernel_rfl) (by kernel_rfl) (by kernel_rfl) (by kernel_rfl) (fun _ _ _ h => h) (by rfl) ?_ (by assumption) ?_
                      · intro W hW
                        try dsimp only at hW
                        simp only [List.getElem?_toArray, List.getElem?_cons_succ, List.getElem?_cons_zero, Option.map_some, Option.some.injEq]
                        go_simp
                      try simp only [Act.put, List.setIfInBounds_toArray, List.set_cons_zero, List.set_cons_succ]
                      refine mgTake 12 116 (.pointer (some ⟨bt, ot + mm, none⟩)) (by kernel_rfl) (by kernel_rfl) (by kernel_rfl) (by kernel_rfl) (fun _ _ _ h => h) (by rfl) ?_ (by assumption) ?_
                      · intro W hW
                        try dsimp only at hW
                        simp only [List.getElem?_toArray, List.getElem?_cons_succ, List.getElem?_cons_zero, Option.map_some, Option.some.injEq]
                        go_simp
                      try simp only [Act.put, List.setIfInBounds_toArray, List.set_cons_zero, List.set_cons_succ]
                      refine mgTake 13 117 (.bool bvq) (by kernel_rfl) (by kernel_rfl) (by kernel_rfl) (by kernel_rfl) (fun _ _ _ h => h) (by rfl) ?_ (by assumption) ?_
                      · intro W hW
                        try dsimp only at hW
                        simp only [List.getElem?_toArray, List.getElem?_cons_succ, List.getElem?_cons_zero, Option.map_some, Option.some.injEq]
                        go_simp
                      try simp only [Act.put, List.setIfInBounds_toArray, List.set_cons_zero, List.set_cons_succ]
                      refine merge6 (S := fun X => X.cell? ⟨w.heap.size + 1, 1, none⟩ = some (.slice (some ⟨bb, off, none⟩) tn sc) ∧ X.cell? ⟨bb, off + mm * 9, none⟩ = some (.int .u8 k0q) ∧ X.cell? ⟨bb, off + mm * 9 + 1, none⟩ = some (.string nmq) ∧ X.cell? ⟨bb, off + mm * 9 + 2, none⟩ = some (.int .u8 opq) ∧ X.cell? ⟨bb, off + mm * 9 + 3, none⟩ = some (.string vlq) ∧ X.cell? ⟨bb, off + mm * 9 + 4, none⟩ = some (.bool foq) ∧ X.cell? ⟨bb, off + mm * 9 + 5, none⟩ = some (.int .i64 a0q) ∧ X.cell? ⟨bb, off + mm * 9 + 6, none⟩ = some (.int .i64 b0q) ∧ X.cell? ⟨bb, off + mm * 9 + 7, none⟩ = some (.bool f0q) ∧ X.cell? ⟨bb, off + mm * 9 + 8, none⟩ = some (.slice LAq lnq lcq) ∧ X.cell? ⟨bt, ot + mm, none⟩ = some (.bool bvq)) (f := 2) (i1 := 1) (i2 := 7) (i3 := 8) (i4 := 14) (i5 := 15) (i6 := 16) (t1 := 105) (t2 := 111) (t3 := 112) (t4 := 118) (t5 := 119) (t6 := 120) (c1 := fun _ _ _ _ _ _ => true) (c2 := fun _ _ _ _ _ _ => true) (c3 := fun d1 d2 _ _ _ _ => d1 && d2) (c4 := fun _ _ _ _ _ _ => true) (c5 := fun _ _ d3 d4 _ _ => d3 && d4) (c6 := fun _ _ d3 _ _ _ => d3) (L := fun d1 d2 d3 d4 d5 d6 => #[true, d1, true, true, true, true, true, d2, d3, true, true, true, true, true, d4, d5, d6, false, false]) (F := fun (d1 : Bool) (d2 : Bool) (d3 : Bool) (d4 : Bool) (d5 : Bool) (d6 : Bool) (v1 : Value) (v2 : Value) (v3 : Value) (v4 : Value) (v5 : Value) (v6 : Value) W => (Below w5.heap.size w5 W ∧ Six W w5.heap.size tag g1 g2 g3 y1 y2 y3 (if d3 then v3 else y1) y2 y3 (if d3 then (((List.range k).map fun x => (x + at0) % tn).map (sm S)) ++ [⟨k0q, nmq, opq, vlq, foq, a0q, b0q, f0q, LAq, lnq, lcq⟩] else (((List.range k).map fun x => (x + at0) % tn).map (sm S))) ((List.range k).map (sm S)) (((List.range k).filter (fun x => decide (x ≠ at0))).map (sm S)) (if d5 then v5 else u19) u20 u21 (if d5 then (((List.range k).map fun x => (x + at0) % tn).map (bx B)) ++ [bvq] else (((List.range k).map fun x => (x + at0) % tn).map (bx B))) ((List.range k).map (bx B)) (((List.range k).filter (fun x => decide (x ≠ at0))).map (bx B))) ∧ (d1 = true → v1 = y1) ∧ (d2 = true → d3 = false → ∃ g, v2 = .slice (some ⟨g, 0, none⟩) 1 1 ∧ W.heap[g]? = some (.cells #[.int .u8 k0q, .string nmq, .int .u8 opq, .string vlq, .bool foq, .int .i64 a0q, .int .i64 b0q, .bool f0q, .slice LAq lnq lcq] 26 (0, 0))) ∧ (d3 = true → ∃ A c, v3 = .slice A (nl + 1) c) ∧ (d4 = true → d5 = false → ∃ g, v4 = .slice (some ⟨g, 0, none⟩) 1 1 ∧ W.heap[g]? = some (.cells #[.bool bvq] 4 (0, 0))) ∧ (d5 = true → ∃ A c, v5 = .slice A (nb + 1) c) ∧ (d6 = true → v6 = .pointer (some ⟨g1, 1, none⟩))) (hready := by decide +kernel) (hne := by decide +kernel) (hok1 := by decide +kernel) (hok2 := by decide +kernel) (hok3 := by decide +kernel) (hok4 := by decide +kernel) (hok5 := by decide +kernel) (hok6 := by decide +kernel) (hset1 := fun _ _ _ _ _ => rfl) (hstep1 := ?s1) (hset2 := fun _ _ _ _ _ => rfl) (hstep2 := ?s2) (hset3 := fun _ _ _ _ _ => rfl) (hstep3 := ?s3) (hset4 := fun _ _ _ _ _ => rfl) (hstep4 := ?s4) (hset5 := fun _ _ _ _ _ => rfl) (hstep5 := ?s5) (hset6 := fun _ _ _ _ _ => rfl) (hstep6 := ?s6) (hend := ?fin) (x1 := u105) (x2 := u111) (x3 := u112) (x4 := u118) (x5 := u119) (x6 := u120) rfl rfl (by simp only [Act.put, List.setIfInBounds_toArray, List.set_cons_zero, List.set_cons_succ]) ?beg
                      case s1 =>
                        intro d2 d3 d4 d5 d6 v1 v2 v3 v4 v5 v6 W hc hF K hK
                        obtain ⟨hb, f1, f2, f3, f4, f5, f6⟩ := hF
                        simp only [Act.put, List.setIfInBounds_toArray, List.set_cons_zero, List.set_cons_succ] at hK ⊢
                        have hz := hide (hb.2.c1.cells)
                        obtain ⟨q0, q1, q2⟩ := hz.out
                        refine wpOp_one rfl rfl ?_
                        clear hc
                        go_simp
                        try simp only [Act.put, List.setIfInBounds_toArray, List.set_cons_zero, List.set_cons_succ]
                        exact hK _ _ (hS5.out _ hb.1) ⟨hb, (fun _ => rfl), f2, f3, f4, f5, f6⟩
                      case s2 =>
                        intro d1 d3 d4 d5 d6 v1 v2 v3 v4 v5 v6 W hc hF K hK
                        obtain ⟨hb, f1, f2, f3, f4, f5, f6⟩ := hF
                        simp only [Act.put, List.setIfInBounds_toArray, List.set_cons_zero, List.set_cons_succ] at hK ⊢
                        have hx := below_alloc (Below.refl W.heap.size W) (.cells #[.int .u8 k0q, .string nmq, .int .u8 opq, .string vlq, .bool foq, .int .i64 a0q, .int .i64 b0q, .bool f0q, .slice LAq lnq lcq] 26)
                        refine wpOp_one rfl rfl ?_
                        clear hc
                        go_simp
                        try simp only [Act.put, List.setIfInBounds_toArray, List.set_cons_zero, List.set_cons_succ]
                        exact hK _ _ (hS5.out _ (below_alloc hb.1 _)) ⟨⟨below_alloc hb.1 _, hb.2.below hx⟩, f1, (fun _ _ => ⟨_, rfl, blk_new _ _ _⟩), f3, (fun h h3 => (f4 h h3).imp fun g h => ⟨h.1, (hx.block g (blk_lt h.2)).trans h.2⟩), f5, f6⟩
                      case s3 =>
                        intro d1 d2 d4 d5 d6 v1 v2 v3 v4 v5 v6 W hc hF K hK
                        obtain ⟨hb, f1, f2, f3, f4, f5, f6⟩ := hF
                        simp only [Act.put, List.setIfInBounds_toArray, List.set_cons_zero, List.set_cons_succ] at hK ⊢
                        simp only [Bool.and_eq_true] at hc
                        obtain ⟨hd1, hd2⟩ := hc
                        have h6 := hb.2
                        simp only [Bool.false_eq_true, if_false] at h6
                        obtain rfl := f1 hd1
                        obtain ⟨gx, e, hgx⟩ := f2 hd2 rfl
                        subst e
                        refine wpOp_one rfl rfl ?_
                        refine wp_pushSm _ _ rfl h6.s1 ⟨k0q, nmq, opq, vlq, foq, a0q, b0q, f0q, LAq, lnq, lcq⟩ gx hgx rfl rfl hlen hb.1.size ?_
                        intro A1' c1' wA hownA hGA
                        rw [hnl.out] at hownA hGA ⊢
                        have hBA := hGA.1 _ w5 (Nat.le_refl _) hb.1
                        try simp only [Act.put, List.setIfInBounds_toArray, List.set_cons_zero, List.set_cons_succ]
                        refine hK _ _ (hS5.out _ hBA) ⟨⟨hBA, ?_⟩, (fun _ => rfl), (fun _ h => absurd h (by simp)), (fun _ => ⟨A1', c1', rfl⟩), (fun h h3 => (f4 h h3).imp fun g h => ⟨h.1, (hGA.2.2.1 g (blk_lt h.2) (own_no_box h6.s1 h.2 (by decide))).trans h.2⟩), f5, f6⟩
                        simp only [if_true]
                        exact h6.growS hGA hownA
                      case s4 =>
                        intro d1 d2 d3 d5 d6 v1 v2 v3 v4 v5 v6 W hc hF K hK
                        obtain ⟨hb, f1, f2, f3, f4, f5, f6⟩ := hF
                        simp only [Act.put, List.setIfInBounds_toArray, List.set_cons_zero, List.set_cons_succ] at hK ⊢
                        have hx := below_alloc (Below.refl W.heap.size W) (.cells #[.bool bvq] 4)
                        refine wpOp_one rfl rfl ?_
                        clear hc
                        go_simp
                        try simp only [Act.put, List.setIfInBounds_toArray, List.set_cons_zero, List.set_cons_succ]
                        exact hK _ _ (hS5.out _ (below_alloc hb.1 _)) ⟨⟨below_alloc hb.1 _, hb.2.below hx⟩, f1, (fun h h3 => (f2 h h3).imp fun g h => ⟨h.1, (hx.block g (blk_lt h.2)).trans h.2⟩), f3, (fun _ _ => ⟨_, rfl, blk_new _ _ _⟩), f5, f6⟩
                      case s5 =>
                        intro d1 d2 d3 d4 d6 v1 v2 v3 v4 v5 v6 W hc hF K hK
                        obtain ⟨hb, f1, f2, f3, f4, f5, f6⟩ := hF
                        simp only [Act.put, List.setIfInBounds_toArray, List.set_cons_zero, List.set_cons_succ] at hK ⊢
                        simp only [Bool.and_eq_true] at hc
                        obtain ⟨hd3, hd4⟩ := hc
                        have h6 := hb.2
                        simp only [Bool.false_eq_true, if_false] at h6
                        obtain ⟨gx, e, hgx⟩ := f4 hd4 rfl
                        subst e
                        refine wpOp_one rfl rfl ?_
                        refine wp_pushB0 _ _ rfl h6.t1 bvq gx hgx rfl rfl hlenB hb.1.size ?_
                        intro A2' c2' wB hownB hGB
                        rw [hnb.out] at hownB hGB ⊢
                        have hBB := hGB.1 _ w5 (Nat.le_refl _) hb.1
                        try simp only [Act.put, List.setIfInBounds_toArray, List.set_cons_zero, List.set_cons_succ]
                        refine hK _ _ (hS5.out _ hBB) ⟨⟨hBB, ?_⟩, f1, (fun h h3 => by rw [hd3] at h3; cases h3), f3, (fun _ h => absurd h (by simp)), (fun _ => ⟨A2', c2', rfl⟩), f6⟩
                        simp only [if_true]
                        exact h6.growB hGB hownB
                      case s6 =>
                        intro d1 d2 d3 d4 d5 v1 v2 v3 v4 v5 v6 W hc hF K hK
                        obtain ⟨hb, f1, f2, f3, f4, f5, f6⟩ := hF
                        simp only [Act.put, List.setIfInBounds_toArray, List.set_cons_zero, List.set_cons_succ] at hK ⊢
                        have hd3 : d3 = true := hc
                        refine wpOp_one rfl rfl ?_
                        clear hd3 hc
                        go_simp
                        try simp only [Act.put, List.setIfInBounds_toArray, List.set_cons_zero, List.set_cons_succ]
                        exact hK _ _ (hS5.out _ hb.1) ⟨hb, f1, f2, f3, f4, f5, (fun _ => rfl)⟩
                      case fin =>
                        intro v1 v2 v3 v4 v5 v6 W hF
                        obtain ⟨hb, f1, f2, f3, f4, f5, f6⟩ := hF
                        simp only [Act.put, List.setIfInBounds_toArray, List.set_cons_zero, List.set_cons_succ]
                        obtain rfl := f1 rfl
                        obtain ⟨A1', c1', rfl⟩ := f3 rfl
                        obtain ⟨A2', c2', rfl⟩ := f5 rfl
                        obtain rfl := f6 rfl
                        have h6 := hb.2
                        simp only [if_true] at h6
                        have hBW := hb.1
                        obtain ⟨q0, q1, q2⟩ := h6.c1.cells
                        clear f2 f4
                        refine wpAnyH_ready (rs := [17]) (by kernel_rfl) (by simp) (AllReadyH.cons rfl (fun K hK => ?_) AllReadyH.nil)
                        go_simp
                        refine hK.out _ _ (hS5.out _ (hBW.setCell (p := ⟨g1, 1, none⟩) hl1 _)) (fun hHeld1 => ?_)
                        try simp only [Act.put, List.setIfInBounds_toArray, List.set_cons_zero, List.set_cons_succ]
                        refine mgTake 18 19 (.slice A2' (nb + 1) c2') (by kernel_rfl) (by kernel_rfl) (by kernel_rfl) (by kernel_rfl) (fun _ _ _ h => h) (by rfl) ?_ (by assumption) ?_
                        · intro W hW
                          try dsimp only at hW
                          simp only [List.getElem?_toArray, List.getElem?_cons_succ, List.getElem?_cons_zero, Option.map_some, Option.some.injEq]
                          go_simp
                        try simp only [Act.put, List.setIfInBounds_toArray, List.set_cons_zero, List.set_cons_succ]
                        refine wpAnyH_done (by kernel_rfl) ?_ _
                        go_wp2_with fail
                        go_meet
                        rw [hsXq, hbvq]
                        exact ⟨hBW.setCell (p := ⟨g1, 1, none⟩) hl1 _, _, h6.store _⟩
                      case beg => exact ⟨⟨hb.drew, hq.out.below (Below.refl _ _).drew⟩, (fun h => by cases h), (fun h => by cases h), (fun h => by cases h), (fun h => by cases h), (fun h => by cases h), (fun h => by cases h)⟩
                    case rest =>
                    clear hb hq hS5 hl1 hlen hlenB hnl hnb
                    obtain ⟨hb, yq, hq0⟩ := hcut
                    generalize wc = W1 at *
                    have hq := hide hq0
                    clear hq0
                    have hq1 := hide hq.out.rot
                    clear hq
                    have hq := hq1
                    clear hq1
                    go_upto_region 12 with fail
                    have hin := (hc0 k hlt).later hB5
                    have gt := (old hB5 _ _ hbt).trans (hct0 k hlt)
                    obtain ⟨bvp, hbvp⟩ : ∃ x, bx B k = x := ⟨_, rfl⟩
                    rw [hbvp] at gt
                    obtain ⟨sXp, hsXp⟩ : ∃ x, sm S k = x := ⟨_, rfl⟩
                    rw [hsXp] at hin
                    obtain ⟨k0p, nmp, opp, vlp, fop, a0p, b0p, f0p, LAp, lnp, lcp⟩ := sXp
                    obtain ⟨s0, s1, s2, s3, s4, s5, s6, s7, s8⟩ := hin
                    have hS5 := hide (fun (W : World) (hW : Below w5.heap.size w5 W) => (show W.cell? ⟨w.heap.size + 1, 1, none⟩ = some (.slice (some ⟨bb, off, none⟩) tn sc) ∧ W.cell? ⟨bb, off + k * 9, none⟩ = some (.int .u8 k0p) ∧ W.cell? ⟨bb, off + k * 9 + 1, none⟩ = some (.string nmp) ∧ W.cell? ⟨bb, off + k * 9 + 2, none⟩ = some (.int .u8 opp) ∧ W.cell? ⟨bb, off + k * 9 + 3, none⟩ = some (.string vlp) ∧ W.cell? ⟨bb, off + k * 9 + 4, none⟩ = some (.bool fop) ∧ W.cell? ⟨bb, off + k * 9 + 5, none⟩ = some (.int .i64 a0p) ∧ W.cell? ⟨bb, off + k * 9 + 6, none⟩ = some (.int .i64 b0p) ∧ W.cell? ⟨bb, off + k * 9 + 7, none⟩ = some (.bool f0p) ∧ W.cell? ⟨bb, off + k * 9 + 8, none⟩ = some (.slice LAp lnp lcp) ∧ W.cell? ⟨bt, ot + k, none⟩ = some (.bool bvp) from ⟨cell_later hW htb5, cell_later hW s0, cell_later hW s1, cell_later hW s2, cell_later hW s3, cell_later hW s4, cell_later hW s5, cell_later hW s6, cell_later hW s7, cell_later hW s8, cell_later hW gt⟩))
                    clear s0 s1 s2 s3 s4 s5 s6 s7 s8 gt
                    have hl1 := hq.out.l1
                    have hlen : (((List.range k).map (sm S))).length ≤ 1000000 := (by simp; omega)
                    have hlenB : (((List.range k).map (bx B))).length ≤ 1000000 := (by simp; omega)
                    obtain ⟨nl, hnl0⟩ : ∃ x, (((List.range k).map (sm S))).length = x := ⟨_, rfl⟩
                    obtain ⟨nb, hnb0⟩ : ∃ x, (((List.range k).map (bx B))).length = x := ⟨_, rfl⟩
                    have hnl := hide hnl0
                    have hnb := hide hnb0
                    clear hnl0 hnb0
                    go_cut [20] from 121 to 137 (fun u wx => Below w5.heap.size w5 wx ∧ ∃ y : Value, Six wx w5.heap.size tag g2 g3 g1 y y3 yq y y3 yq (((List.range k).map (sm S)) ++ [sm S k]) (((List.range k).filter (fun x => decide (x ≠ at0))).map (sm S)) ((((List.range k).map fun x => (x + at0) % tn).map (sm S)) ++ [sm S mm]) u u21 u19 (((List.range k).map (bx B)) ++ [bx B k]) (((List.range k).filter (fun x => decide (x ≠ at0))).map (bx B)) ((((List.range k).map fun x => (x + at0) % tn).map (bx B)) ++ [bx B mm]))
                    case first =>
                      refine wp_region_held_drew (S := fun X => X.cell? ⟨w.heap.size + 1, 1, none⟩ = some (.slice (some ⟨bb, off, none⟩) tn sc) ∧ X.cell? ⟨bb, off + k * 9, none⟩ = some (.int .u8 k0p) ∧ X.cell? ⟨bb, off + k * 9 + 1, none⟩ = some (.string nmp) ∧ X.cell? ⟨bb, off + k * 9 + 2, none⟩ = some (.int .u8 opp) ∧ X.cell? ⟨bb, off + k * 9 + 3, none⟩ = some (.string vlp) ∧ X.cell? ⟨bb, off + k * 9 + 4, none⟩ = some (.bool fop) ∧ X.cell? ⟨bb, off + k * 9 + 5, none⟩ = some (.int .i64 a0p) ∧ X.cell? ⟨bb, off + k * 9 + 6, none⟩ = some (.int .i64 b0p) ∧ X.cell? ⟨bb, off + k * 9 + 7, none⟩ = some (.bool f0p) ∧ X.cell? ⟨bb, off + k * 9 + 8, none⟩ = some (.slice LAp lnp lcp) ∧ X.cell? ⟨bt, ot + k, none⟩ = some (.bool bvp)) (by kernel_rfl) (hS5.out _ hb.drew) (fun hHeld => ?_)
                      refine mgTake 0 121 (.pointer (some ⟨g2, 1, none⟩)) (by kernel_rfl) (by kernel_rfl) (by kernel_rfl) (by kernel_rfl) (fun _ _ _ h => h) (by rfl) ?_ (by assumption) ?_
                      · intro W hW
                        try dsimp only at hW
                        simp only [List.getElem?_toArray, List.getElem?_cons_zero, Option.map_some, Option.some.injEq]
                        go_simp
                      try simp only [Act.put, List.setIfInBounds_toArray, List.set_cons_zero, List.set_cons_succ]
                      refine mgTake 2 123 (.pointer (some ⟨w.heap.size + 1, 1, none⟩)) (by kernel_rfl) (by kernel_rfl) (by kernel_rfl) (by kernel_rfl) (fun _ _ _ h => h) (by rfl) ?_ (by assumption) ?_
                      · intro W hW
                        try dsimp only at hW
                        simp only [List.getElem?_toArray, List.getElem?_cons_succ, List.getElem?_cons_zero, Option.map_some, Option.some.injEq]
                        go_simp
                      try simp only [Act.put, List.setIfInBounds_toArray, List.set_cons_zero, List.set_cons_succ]
                      refine mgTake 3 124 (.slice (some ⟨bb, off, none⟩) tn sc) (by kernel_rfl) (by kernel_rfl) (by kernel_rfl) (by kernel_rfl) (fun _ _ _ h => h) (by rfl) ?_ (by assumption) ?_
                      · intro W hW
                        try dsimp only at hW
                        simp only [List.getElem?_toArray, List.getElem?_cons_succ, List.getElem?_cons_zero, Option.map_some, Option.some.injEq]
                        go_simp
                      try simp only [Act.put, List.setIfInBounds_toArray, List.set_cons_zero, List.set_cons_succ]
                      refine mgTake 4 125 (.int .i64 k) (by kernel_rfl) (by kernel_rfl) (by kernel_rfl) (by kernel_rfl) (fun _ _ _ h => h) (by rfl) ?_ (by assumption) ?_
                      · intro W hW
                        try dsimp only at hW
                        simp only [List.getElem?_toArray, List.getElem?_cons_succ, List.getElem?_cons_zero, Option.map_some, Option.some.injEq]
                        go_simp
                      try simp only [Act.put, List.setIfInBounds_toArray, List.set_cons_zero, List.set_cons_succ]
                      refine mgTake 5 126 (.pointer (some ⟨bb, off + k * 9, none⟩)) (by kernel_rfl) (by kernel_rfl) (by kernel_rfl) (by kernel_rfl) (fun _ _ _ h => h) (by rfl) ?_ (by assumption) ?_
                      · intro W hW
                        try dsimp only at hW
                        simp only [List.getElem?_toArray, List.getElem?_cons_succ, List.getElem?_cons_zero, Option.map_some, Option.some.injEq]
                        go_simp
                      try simp only [Act.put, List.setIfInBounds_toArray, List.set_cons_zero, List.set_cons_succ]
                      refine mgTake 6 127 (.agg #[.int .u8 k0p, .string nmp, .int .u8 opp, .string vlp, .bool fop, .int .i64 a0p, .int .i64 b0p, .bool f0p, .slice LAp lnp lcp]) (by kernel_rfl) (by kernel_rfl) (by kernel_rfl) (by kernel_rfl) (fun _ _ _ h => h) (by rfl) ?_ (by assumption) ?_
                      · intro W hW
                        try dsimp only at hW
                        simp only [List.getElem?_toArray, List.getElem?_cons_succ, List.getElem?_cons_zero, Option.map_some, Option.some.injEq]
                        go_simp
                      try simp only [Act.put, List.setIfInBounds_toArray, List.set_cons_zero, List.set_cons_succ]
                      refine mgTake 9 130 (u20) (by kernel_rfl) (by kernel_rfl) (by kernel_rfl) (by kernel_rfl) (fun _ _ _ h => h) (by rfl) ?_ (by assumption) ?_
                      · intro W hW
                        try dsimp only at hW
                        simp only [List.getElem?_toArray, List.getElem?_cons_succ, List.getElem?_cons_zero, Option.map_some, Option.some.injEq]
                        go_simp
                      try simp only [Act.put, List.setIfInBounds_toArray, List.set_cons_zero, List.set_cons_succ]
                      refine mgTake 10 131 (.slice (some ⟨bt, ot, none⟩) tn tc) (by kernel_rfl) (by kernel_rfl) (by kernel_rfl) (by kernel_rfl) (fun _ _ _ h => h) (by rfl) ?_ (by assumption) ?_
                      · intro W hW
                        try dsimp only at hW
                        simp only [List.getElem?_toArray, List.getElem?_cons_succ, List.getElem?_cons_zero, Option.map_some, Option.some.injEq]
                        go_simp
                      try simp only [Act.put, List.setIfInBounds_toArray, List.set_cons_zero, List.set_cons_succ]
                      refine mgTake 11 132 (.int .i64 k) (by kernel_rfl) (by kernel_rfl) (by kernel_rfl) (by kernel_rfl) (fun _ _ _ h => h) (by rfl) ?_ (by assumption) ?_
                      · intro W hW
                        try dsimp only at hW
                        simp only [List.getElem?_toArray, List.getElem?_cons_succ, List.getElem?_cons_zero, Option.map_some, Option.some.injEq]
                        go_simp
                      try simp only [Act.put, List.setIfInBounds_toArray, List.set_cons_zero, List.set_cons_succ]
                      refine mgTake 12 133 (.pointer (some ⟨bt, ot + k, none⟩)) (by kernel_rfl) (by kernel_rfl) (by kernel_rfl) (by kernel_rfl) (fun _ _ _ h => h) (by rfl) ?_ (by assumption) ?_
                      · intro W hW
                        try dsimp only at hW
                        simp only [List.getElem?_toArray, List.getElem?_cons_succ, List.getElem?_cons_zero, Option.map_some, Option.some.injEq]
                        go_simp
                      try simp only [Act.put, List.setIfInBounds_toArray, List.set_cons_zero, List.set_cons_succ]
                      refine mgTake 13 134 (.bool bvp) (by kernel_rfl) (by kernel_rfl) (by kernel_rfl) (by kernel_rfl) (fun _ _ _ h => h) (by rfl) ?_ (by assumption) ?_
                      · intro W hW
                        try dsimp only at hW
                        simp only [List.getElem?_toArray, List.getElem?_cons_succ, List.getElem?_cons_zero, Option.map_some, Option.some.injEq]
                        go_simp
                      try simp only [Act.put, List.setIfInBounds_toArray, List.set_cons_zero, List.set_cons_succ]
                      refine merge6 (S := fun X => X.cell? ⟨w.heap.size + 1, 1, none⟩ = some (.slice (some ⟨bb, off, none⟩) tn sc) ∧ X.cell? ⟨bb, off + k * 9, none⟩ = some (.int .u8 k0p) ∧ X.cell? ⟨bb, off + k * 9 + 1, none⟩ = some (.string nmp) ∧ X.cell? ⟨bb, off + k * 9 + 2, none⟩ = some (.int .u8 opp) ∧ X.cell? ⟨bb, off + k * 9 + 3, none⟩ = some (.string vlp) ∧ X.cell? ⟨bb, off + k * 9 + 4, none⟩ = some (.bool fop) ∧ X.cell? ⟨bb, off + k * 9 + 5, none⟩ = some (.int .i64 a0p) ∧ X.cell? ⟨bb, off + k * 9 + 6, none⟩ = some (.int .i64 b0p) ∧ X.cell? ⟨bb, off + k * 9 + 7, none⟩ = some (.bool f0p) ∧ X.cell? ⟨bb, off + k * 9 + 8, none⟩ = some (.slice LAp lnp lcp) ∧ X.cell? ⟨bt, ot + k, none⟩ = some (.bool bvp)) (f := 2) (i1 := 1) (i2 := 7) (i3 := 8) (i4 := 14) (i5 := 15) (i6 := 16) (t1 := 122) (t2 := 128) (t3 := 129) (t4 := 135) (t5 := 136) (t6 := 137) (c1 := fun _ _ _ _ _ _ => true) (c2 := fun _ _ _ _ _ _ => true) (c3 := fun d1 d2 _ _ _ _ => d1 && d2) (c4 := fun _ _ _ _ _ _ => true) (c5 := fun _ _ d3 d4 _ _ => d3 && d4) (c6 := fun _ _ d3 _ _ _ => d3) (L := fun d1 d2 d3 d4 d5 d6 => #[true, d1, true, true, true, true, true, d2, d3, true, true, true, true, true, d4, d5, d6, false, false]) (F := fun (d1 : Bool) (d2 : Bool) (d3 : Bool) (d4 : Bool) (d5 : Bool) (d6 : Bool) (v1 : Value) (v2 : Value) (v3 : Value) (v4 : Value) (v5 : Value) (v6 : Value) W => (Below w5.heap.size w5 W ∧ Six W w5.heap.size tag g2 g3 g1 y2 y3 yq (if d3 then v3 else y2) y3 yq (if d3 then ((List.range k).map (sm S)) ++ [⟨k0p, nmp, opp, vlp, fop, a0p, b0p, f0p, LAp, lnp, lcp⟩] else ((List.range k).map (sm S))) (((List.range k).filter (fun x => decide (x ≠ at0))).map (sm S)) ((((List.range k).map fun x => (x + at0) % tn).map (sm S)) ++ [sm S mm]) (if d5 then v5 else u20) u21 u19 (if d5 then ((List.range k).map (bx B)) ++ [bvp] else ((List.range k).map (bx B))) (((List.range k).filter (fun x => decide (x ≠ at0))).map (bx B)) ((((List.range k).map fun x => (x + at0) % tn).map (bx B)) ++ [bx B mm])) ∧ (d1 = true → v1 = y2) ∧ (d2 = true → d3 = false → ∃ g, v2 = .slice (some ⟨g, 0, none⟩) 1 1 ∧ W.heap[g]? = some (.cells #[.int .u8 k0p, .string nmp, .int .u8 opp, .string vlp, .bool fop, .int .i64 a0p, .int .i64 b0p, .bool f0p, .slice LAp lnp lcp] 26 (0, 0))) ∧ (d3 = true → ∃ A c, v3 = .slice A (nl + 1) c) ∧ (d4 = true → d5 = false → ∃ g, v4 = .slice (some ⟨g, 0, none⟩) 1 1 ∧ W.heap[g]? = some (.cells #[.bool bvp] 4 (0, 0))) ∧ (d5 = true → ∃ A c, v5 = .slice A (nb + 1) c) ∧ (d6 = true → v6 = .pointer (some ⟨g2, 1, none⟩))) (hready := by decide +kernel) (hne := by decide +kernel) (hok1 := by decide +kernel) (hok2 := by decide +kernel) (hok3 := by decide +kernel) (hok4 := by decide +kernel) (hok5 := by decide +kernel) (hok6 := by decide +kernel) (hset1 := fun _ _ _ _ _ => rfl) (hstep1 := ?s1) (hset2 := fun _ _ _ _ _ => rfl) (hstep2 := ?s2) (hset3 := fun _ _ _ _ _ => rfl) (hstep3 := ?s3) (hset4 := fun _ _ _ _ _ => rfl) (hstep4 := ?s4) (hset5 := fun _ _ _ _ _ => rfl) (hstep5 := ?s5) (hset6 := fun _ _ _ _ _ => rfl) (hstep6 := ?s6) (hend := ?fin) (x1 := u122) (x2 := u128) (x3 := u129) (x4 := u135) (x5 := u136) (x6 := u137) rfl rfl (by simp only [Act.put, List.setIfInBounds_toArray, List.set_cons_zero, List.set_cons_succ]) ?beg
                      case s1 =>
                        intro d2 d3 d4 d5 d6 v1 v2 v3 v4 v5 v6 W hc hF K hK
                        obtain ⟨hb, f1, f2, f3, f4, f5, f6⟩ := hF
                        simp only [Act.put, List.setIfInBounds_toArray, List.set_cons_zero, List.set_cons_succ] at hK ⊢
                        have hz := hide (hb.2.c1.cells)
                        obtain ⟨q0, q1, q2⟩ := hz.out
                        refine wpOp_one rfl rfl ?_
                        clear hc
                        go_simp
                        try simp only [Act.put, List.setIfInBounds_toArray, List.set_cons_zero, List.set_cons_succ]
                        exact hK _ _ (hS5.out _ hb.1) ⟨hb, (fun _ => rfl), f2, f3, f4, f5, f6⟩
                      case s2 =>
                        intro d1 d3 d4 d5 d6 v1 v2 v3 v4 v5 v6 W hc hF K hK
                        obtain ⟨hb, f1, f2, f3, f4, f5, f6⟩ := hF
                        simp only [Act.put, List.setIfInBounds_toArray, List.set_cons_zero, List.set_cons_succ] at hK ⊢
                        have hx := below_alloc (Below.refl W.heap.size W) (.cells #[.int .u8 k0p, .string nmp, .int .u8 opp, .string vlp, .bool fop, .int .i64 a0p, .int .i64 b0p, .bool f0p, .slice LAp lnp lcp] 26)
                        refine wpOp_one rfl rfl ?_
                        clear hc
                        go_simp
                        try simp only [Act.put, List.setIfInBounds_toArray, List.set_cons_zero, List.set_cons_succ]
                        exact hK _ _ (hS5.out _ (below_alloc hb.1 _)) ⟨⟨below_alloc hb.1 _, hb.2.below hx⟩, f1, (fun _ _ => ⟨_, rfl, blk_new _ _ _⟩), f3, (fun h h3 => (f4 h h3).imp fun g h => ⟨h.1, (hx.block g (blk_lt h.2)).trans h.2⟩), f5, f6⟩
                      case s3 =>
                        intro d1 d2 d4 d5 d6 v1 v2 v3 v4 v5 v6 W hc hF K hK
                        obtain ⟨hb, f1, f2, f3, f4, f5, f6⟩ := hF
                        simp only [Act.put, List.setIfInBounds_toArray, List.set_cons_zero, List.set_cons_succ] at hK ⊢
                        simp only [Bool.and_eq_true] at hc
                        obtain ⟨hd1, hd2⟩ := hc
                        have h6 := hb.2
                        simp only [Bool.false_eq_true, if_false] at h6
                        obtain rfl := f1 hd1
                        obtain ⟨gx, e, hgx⟩ := f2 hd2 rfl
                        subst e
                        refine wpOp_one rfl rfl ?_
                        refine wp_pushSm _ _ rfl h6.s1 ⟨k0p, nmp, opp, vlp, fop, a0p, b0p, f0p, LAp, lnp, lcp⟩ gx hgx rfl rfl hlen hb.1.size ?_
                        intro A1' c1' wA hownA hGA
                        rw [hnl.out] at hownA hGA ⊢
                        have hBA := hGA.1 _ w5 (Nat.le_refl _) hb.1
                        try simp only [Act.put, List.setIfInBounds_toArray, List.set_cons_zero, List.set_cons_succ]
                        refine hK _ _ (hS5.out _ hBA) ⟨⟨hBA, ?_⟩, (fun _ => rfl), (fun _ h => absurd h (by simp)), (fun _ => ⟨A1', c1', rfl⟩), (fun h h3 => (f4 h h3).imp fun g h => ⟨h.1, (hGA.2.2.1 g (blk_lt h.2) (own_no_box h6.s1 h.2 (by decide))).trans h.2⟩), f5, f6⟩
                        simp only [if_true]
                        exact h6.growS hGA hownA
                      case s4 =>
                        intro d1 d2 d3 d5 d6 v1 v2 v3 v4 v5 v6 W hc hF K hK
                        obtain ⟨hb, f1, f2, f3, f4, f5, f6⟩ := hF
                        simp only [Act.put, List.setIfInBounds_toArray, List.set_cons_zero, List.set_cons_succ] at hK ⊢
                        have hx := below_alloc (Below.refl W.heap.size W) (.cells #[.bool bvp] 4)
                        refine wpOp_one rfl rfl ?_
                        clear hc
                        go_simp
                        try simp only [Act.put, List.setIfInBounds_toArray, List.set_cons_zero, List.set_cons_succ]
                        exact hK _ _ (hS5.out _ (below_alloc hb.1 _)) ⟨⟨below_alloc hb.1 _, hb.2.below hx⟩, f1, (fun h h3 => (f2 h h3).imp fun g h => ⟨h.1, (hx.block g (blk_lt h.2)).trans h.2⟩), f3, (fun _ _ => ⟨_, rfl, blk_new _ _ _⟩), f5, f6⟩
                      case s5 =>
                        intro d1 d2 d3 d4 d6 v1 v2 v3 v4 v5 v6 W hc hF K hK
                        obtain ⟨hb, f1, f2, f3, f4, f5, f6⟩ := hF
                        simp only [Act.put, List.setIfInBounds_toArray, List.set_cons_zero, List.set_cons_succ] at hK ⊢
                        simp only [Bool.and_eq_true] at hc
                        obtain ⟨hd3, hd4⟩ := hc
                        have h6 := hb.2
                        simp only [Bool.false_eq_true, if_false] at h6
                        obtain ⟨gx, e, hgx⟩ := f4 hd4 rfl
                        subst e
                        refine wpOp_one rfl rfl ?_
                        refine wp_pushB0 _ _ rfl h6.t1 bvp gx hgx rfl rfl hlenB hb.1.size ?_
                        intro A2' c2' wB hownB hGB
                        rw [hnb.out] at hownB hGB ⊢
                        have hBB := hGB.1 _ w5 (Nat.le_refl _) hb.1
                        try simp only [Act.put, List.setIfInBounds_toArray, List.set_cons_zero, List.set_cons_succ]
                        refine hK _ _ (hS5.out _ hBB) ⟨⟨hBB, ?_⟩, f1, (fun h h3 => by rw [hd3] at h3; cases h3), f3, (fun _ h => absurd h (by simp)), (fun _ => ⟨A2', c2', rfl⟩), f6⟩
                        simp only [if_true]
                        exact h6.growB hGB hownB
                      case s6 =>
                        intro d1 d2 d3 d4 d5 v1 v2 v3 v4 v5 v6 W hc hF K hK
                        obtain ⟨hb, f1, f2, f3, f4, f5, f6⟩ := hF
                        simp only [Act.put, List.setIfInBounds_toArray, List.set_cons_zero, List.set_cons_succ] at hK ⊢
                        have hd3 : d3 = true := hc
                        refine wpOp_one rfl rfl ?_
                        clear hd3 hc
                        go_simp
                        try simp only [Act.put, List.setIfInBounds_toArray, List.set_cons_zero, List.set_cons_succ]
                        exact hK _ _ (hS5.out _ hb.1) ⟨hb, f1, f2, f3, f4, f5, (fun _ => rfl)⟩
                      case fin =>
                        intro v1 v2 v3 v4 v5 v6 W hF
                        obtain ⟨hb, f1, f2, f3, f4, f5, f6⟩ := hF
                        simp only [Act.put, List.setIfInBounds_toArray, List.set_cons_zero, List.set_cons_succ]
                        obtain rfl := f1 rfl
                        obtain ⟨A1', c1', rfl⟩ := f3 rfl
                        obtain ⟨A2', c2', rfl⟩ := f5 rfl
                        obtain rfl := f6 rfl
                        have h6 := hb.2
                        simp only [if_true] at h6
                        have hBW := hb.1
                        obtain ⟨q0, q1, q2⟩ := h6.c1.cells
                        clear f2 f4
                        refine wpAnyH_ready (rs := [17]) (by kernel_rfl) (by simp) (AllReadyH.cons rfl (fun K hK => ?_) AllReadyH.nil)
                        go_simp
                        refine hK.out _ _ (hS5.out _ (hBW.setCell (p := ⟨g2, 1, none⟩) hl1 _)) (fun hHeld1 => ?_)
                        try simp only [Act.put, List.setIfInBounds_toArray, List.set_cons_zero, List.set_cons_succ]
                        refine mgTake 18 20 (.slice A2' (nb + 1) c2') (by kernel_rfl) (by kernel_rfl) (by kernel_rfl) (by kernel_rfl) (fun _ _ _ h => h) (by rfl) ?_ (by assumption) ?_
                        · intro W hW
                          try dsimp only at hW
                          simp only [List.getElem?_toArray, List.getElem?_cons_succ, List.getElem?_cons_zero, Option.map_some, Option.some.injEq]
                          go_simp
                        try simp only [Act.put, List.setIfInBounds_toArray, List.set_cons_zero, List.set_cons_succ]
                        refine wpAnyH_done (by kernel_rfl) ?_ _
                        go_wp2_with fail
                        go_meet
                        rw [hsXp, hbvp]
                        exact ⟨hBW.setCell (p := ⟨g2, 1, none⟩) hl1 _, _, h6.store _⟩
                      case beg => exact ⟨⟨hb.drew, hq.out.below (Below.refl _ _).drew⟩, (fun h => by cases h), (fun h => by cases h), (fun h => by cases h), (fun h => by cases h), (fun h => by cases h), (fun h => by cases h)⟩
                    case rest =>
                    clear hb hq hS5 hl1 hlen hlenB hnl hnb
                    obtain ⟨hb, yp, hq0⟩ := hcut
                    generalize wc = W2 at *
                    have hq := hide hq0
                    clear hq0
                    have d1 : Hid ((((List.range (k + 1)).map fun x => (x + at0) % tn).map (sm S)) = (((List.range k).map fun x => (x + at0) % tn).map (sm S)) ++ [sm S mm]) := by show _ = _; rw [List.range_succ, List.map_append, List.map_append, ← hmm]; rfl
                    have d2 : Hid ((((List.range (k + 1)).map fun x => (x + at0) % tn).map (bx B)) = (((List.range k).map fun x => (x + at0) % tn).map (bx B)) ++ [bx B mm]) := by show _ = _; rw [List.range_succ, List.map_append, List.map_append, ← hmm]; rfl
                    have d3 : Hid (((List.range (k + 1)).map (sm S)) = ((List.range k).map (sm S)) ++ [sm S k]) := by show _ = _; rw [List.range_succ, List.map_append]; rfl
                    have d4 : Hid (((List.range (k + 1)).map (bx B)) = ((List.range k).map (bx B)) ++ [bx B k]) := by show _ = _; rw [List.range_succ, List.map_append]; rfl
                    by_cases hka : k = at0
                    · have hkb : ((k : Int) != (at0 : Int)) = false := by rw [bne_eq_false_iff_eq]; omega
                      have d5 : Hid ((List.range (k + 1)).filter (fun x => decide (x ≠ at0)) = (List.range k).filter (fun x => decide (x ≠ at0))) := by
                        show _ = _
                        rw [List.range_succ, List.filter_append, show [k].filter (fun x => decide (x ≠ at0)) = [] by simp [hka], List.append_nil]
                      clear hka
                      go_wp2
                      go_roundw
                      case rel => exact ⟨k + 1, by omega, by go_num, hb, yq, yp, y3, by rw [d1.out, d2.out, d3.out, d4.out, d5.out]; exact hq.out.rot.rot⟩
                      case measure => simp [intOf]; omega
                    · have hkb : ((k : Int) != (at0 : Int)) = true := by rw [bne_iff_ne]; omega
                      have d5 : Hid ((List.range (k + 1)).filter (fun x => decide (x ≠ at0)) = (List.range k).filter (fun x => decide (x ≠ at0)) ++ [k]) := by
                        show _ = _
                        rw [List.range_succ, List.filter_append, show [k].filter (fun x => decide (x ≠ at0)) = [k] by simp [hka]]
                      clear hka
                      have hq1 := hide hq.out.rot
                      clear hq
                      have hq := hq1
                      clear hq1
                      go_upto_region 14 with fail
                      have hin := (hc0 k hlt).later hB5
                      have gt := (old hB5 _ _ hbt).trans (hct0 k hlt)
                      obtain ⟨bvn, hbvn⟩ : ∃ x, bx B k = x := ⟨_, rfl⟩
                      rw [hbvn] at gt
                      obtain ⟨sXn, hsXn⟩ : ∃ x, sm S k = x := ⟨_, rfl⟩
                      rw [hsXn] at hin
                      obtain ⟨k0n, nmn, opn, vln, fon, a0n, b0n, f0n, LAn, lnn, lcn⟩ := sXn
                      obtain ⟨s0, s1, s2, s3, s4, s5, s6, s7, s8⟩ := hin
                      have hS5 := hide (fun (W : World) (hW : Below w5.heap.size w5 W) => (show W.cell? ⟨w.heap.size + 1, 1, none⟩ = some (.slice (some ⟨bb, off, none⟩) tn sc) ∧ W.cell? ⟨bb, off + k * 9, none⟩ = some (.int .u8 k0n) ∧ W.cell? ⟨bb, off + k * 9 + 1, none⟩ = some (.string nmn) ∧ W.cell? ⟨bb, off + k * 9 + 2, none⟩ = some (.int .u8 opn) ∧ W.cell? ⟨bb, off + k * 9 + 3, none⟩ = some (.string vln) ∧ W.cell? ⟨bb, off + k * 9 + 4, none⟩ = some (.bool fon) ∧ W.cell? ⟨bb, off + k * 9 + 5, none⟩ = some (.int .i64 a0n) ∧ W.cell? ⟨bb, off + k * 9 + 6, none⟩ = some (.int .i64 b0n) ∧ W.cell? ⟨bb, off + k * 9 + 7, none⟩ = some (.bool f0n) ∧ W.cell? ⟨bb, off + k * 9 + 8, none⟩ = some (.slice LAn lnn lcn) ∧ W.cell? ⟨bt, ot + k, none⟩ = some (.bool bvn) from ⟨cell_later hW htb5, cell_later hW s0, cell_later hW s1, cell_later hW s2, cell_later hW s3, cell_later hW s4, cell_later hW s5, cell_later hW s6, cell_later hW s7, cell_later hW s8, cell_later hW gt⟩))
                      clear s0 s1 s2 s3 s4 s5 s6 s7 s8 gt
                      have hl1 := hq.out.l1
                      have hlen : ((((List.range k).filter (fun x => decide (x ≠ at0))).map (sm S))).length ≤ 1000000 := (by rw [List.length_map]; exact Nat.le_trans (List.length_filter_le _ _) (by simp; omega))
                      have hlenB : ((((List.range k).filter (fun x => decide (x ≠ at0))).map (bx B))).length ≤ 1000000 := (by rw [List.length_map]; exact Nat.le_trans (List.length_filter_le _ _) (by simp; omega))
                      obtain ⟨nl, hnl0⟩ : ∃ x, ((((List.range k).filter (fun x => decide (x ≠ at0))).map (sm S))).length = x := ⟨_, rfl⟩
                      obtain ⟨nb, hnb0⟩ : ∃ x, ((((List.range k).filter (fun x => decide (x ≠ at0))).map (bx B))).length = x := ⟨_, rfl⟩
                      have hnl := hide hnl0
                      have hnb := hide hnb0
                      clear hnl0 hnb0
                      refine wp_region_held_drew (S := fun X => X.cell? ⟨w.heap.size + 1, 1, none⟩ = some (.slice (some ⟨bb, off, none⟩) tn sc) ∧ X.cell? ⟨bb, off + k * 9, none⟩ = some (.int .u8 k0n) ∧ X.cell? ⟨bb, off + k * 9 + 1, none⟩ = some (.string nmn) ∧ X.cell? ⟨bb, off + k * 9 + 2, none⟩ = some (.int .u8 opn) ∧ X.cell? ⟨bb, off + k * 9 + 3, none⟩ = some (.string vln) ∧ X.cell? ⟨bb, off + k * 9 + 4, none⟩ = some (.bool fon) ∧ X.cell? ⟨bb, off + k * 9 + 5, none⟩ = some (.int .i64 a0n) ∧ X.cell? ⟨bb, off + k * 9 + 6, none⟩ = some (.int .i64 b0n) ∧ X.cell? ⟨bb, off + k * 9 + 7, none⟩ = some (.bool f0n) ∧ X.cell? ⟨bb, off + k * 9 + 8, none⟩ = some (.slice LAn lnn lcn) ∧ X.cell? ⟨bt, ot + k, none⟩ = some (.bool bvn)) (by kernel_rfl) (hS5.out _ hb.drew) (fun hHeld => ?_)
                      refine mgTake 0 141 (.pointer (some ⟨g3, 1, none⟩)) (by kernel_rfl) (by kernel_rfl) (by kernel_rfl) (by kernel_rfl) (fun _ _ _ h => h) (by rfl) ?_ (by assumption) ?_
                      · intro W hW
                        try dsimp only at hW
                        simp only [List.getElem?_toArray, List.getElem?_cons_zero, Option.map_some, Option.some.injEq]
                        go_simp
                      try simp only [Act.put, List.setIfInBounds_toArray, List.set_cons_zero, List.set_cons_succ]
                      refine mgTake 2 143 (.pointer (some ⟨w.heap.size + 1, 1, none⟩)) (by kernel_rfl) (by kernel_rfl) (by kernel_rfl) (by kernel_rfl) (fun _ _ _ h => h) (by rfl) ?_ (by assumption) ?_
                      · intro W hW
                        try dsimp only at hW
                        simp only [List.getElem?_toArray, List.getElem?_cons_succ, List.getElem?_cons_zero, Option.map_some, Option.some.injEq]
                        go_simp
                      try simp only [Act.put, List.setIfInBounds_toArray, List.set_cons_zero, List.set_cons_succ]
                      refine mgTake 3 144 (.slice (some ⟨bb, off, none⟩) tn sc) (by kernel_rfl) (by kernel_rfl) (by kernel_rfl) (by kernel_rfl) (fun _ _ _ h => h) (by rfl) ?_ (by assumption) ?_
                      · intro W hW
                        try dsimp only at hW
                        simp only [List.getElem?_toArray, List.getElem?_cons_succ, List.getElem?_cons_zero, Option.map_some, Option.some.injEq]
                        go_simp
                      try simp only [Act.put, List.setIfInBounds_toArray, List.set_cons_zero, List.set_cons_succ]
                      refine mgTake 4 145 (.int .i64 k) (by kernel_rfl) (by kernel_rfl) (by kernel_rfl) (by kernel_rfl) (fun _ _ _ h => h) (by rfl) ?_ (by assumption) ?_
                      · intro W hW
                        try dsimp only at hW
                        simp only [List.getElem?_toArray, List.getElem?_cons_succ, List.getElem?_cons_zero, Option.map_some, Option.some.injEq]
                        go_simp
                      try simp only [Act.put, List.setIfInBounds_toArray, List.set_cons_zero, List.set_cons_succ]
                      refine mgTake 5 146 (.pointer (some ⟨bb, off + k * 9, none⟩)) (by kernel_rfl) (by kernel_rfl) (by kernel_rfl) (by kernel_rfl) (fun _ _ _ h => h) (by rfl) ?_ (by assumption) ?_
                      · intro W hW
                        try dsimp only at hW
                        simp only [List.getElem?_toArray, List.getElem?_cons_succ, List.getElem?_cons_zero, Option.map_some, Option.some.injEq]
                        go_simp
                      try simp only [Act.put, List.setIfInBounds_toArray, List.set_cons_zero, List.set_cons_succ]
                      refine mgTake 6 147 (.agg #[.int .u8 k0n, .string nmn, .int .u8 opn, .string vln, .bool fon, .int .i64 a0n, .int .i64 b0n, .bool f0n, .slice LAn lnn lcn]) (by kernel_rfl) (by kernel_rfl) (by kernel_rfl) (by kernel_rfl) (fun _ _ _ h => h) (by rfl) ?_ (by assumption) ?_
                      · intro W hW
                        try dsimp only at hW
                        simp only [List.getElem?_toArray, List.getElem?_cons_succ, List.getElem?_cons_zero, Option.map_some, Option.some.injEq]
                        go_simp
                      try simp only [Act.put, List.setIfInBounds_toArray, List.set_cons_zero, List.set_cons_succ]
                      refine mgTake 9 150 (u21) (by kernel_rfl) (by kernel_rfl) (by kernel_rfl) (by kernel_rfl) (fun _ _ _ h => h) (by rfl) ?_ (by assumption) ?_
                      · intro W hW
                        try dsimp only at hW
                        simp only [List.getElem?_toArray, List.getElem?_cons_succ, List.getElem?_cons_zero, Option.map_some, Option.some.injEq]
                        go_simp
                      try simp only [Act.put, List.setIfInBounds_toArray, List.set_cons_zero, List.set_cons_succ]
                      refine mgTake 10 151 (.slice (some ⟨bt, ot, none⟩) tn tc) (by kernel_rfl) (by kernel_rfl) (by kernel_rfl) (by kernel_rfl) (fun _ _ _ h => h) (by rfl) ?_ (by assumption) ?_
                      · intro W hW
                        try dsimp only at hW
                        simp only [List.getElem?_toArray, List.getElem?_cons_succ, List.getElem?_cons_zero, Option.map_some, Option.some.injEq]
                        go_simp
                      try simp only [Act.put, List.setIfInBounds_toArray, List.set_cons_zero, List.set_cons_succ]
                      refine mgTake 11 152 (.int .i64 k) (by kernel_rfl) (by kernel_rfl) (by kernel_rfl) (by kernel_rfl) (fun _ _ _ h => h) (by rfl) ?_ (by assumption) ?_
                      · intro W hW
                        try dsimp only at hW
                        simp only [List.getElem?_toArray, List.getElem?_cons_succ, List.getElem?_cons_zero, Option.map_some, Option.some.injEq]
                        go_simp
                      try simp only [Act.put, List.setIfInBounds_toArray, List.set_cons_zero, List.set_cons_succ]
                      refine mgTake 12 153 (.pointer (some ⟨bt, ot + k, none⟩)) (by kernel_rfl) (by kernel_rfl) (by kernel_rfl) (by kernel_rfl) (fun _ _ _ h => h) (by rfl) ?_ (by assumption) ?_
                      · intro W hW
                        try dsimp only at hW
                        simp only [List.getElem?_toArray, List.getElem?_cons_succ, List.getElem?_cons_zero, Option.map_some, Option.some.injEq]
                        go_simp
                      try simp only [Act.put, List.setIfInBounds_toArray, List.set_cons_zero, List.set_cons_succ]
                      refine mgTake 13 154 (.bool bvn) (by kernel_rfl) (by kernel_rfl) (by kernel_rfl) (by kernel_rfl) (fun _ _ _ h => h) (by rfl) ?_ (by assumption) ?_
                      · intro W hW
                        try dsimp only at hW
                        simp only [List.getElem?_toArray, List.getElem?_cons_succ, List.getElem?_cons_zero, Option.map_some, Option.some.injEq]
                        go_simp
                      try simp only [Act.put, List.setIfInBounds_toArray, List.set_cons_zero, List.set_cons_succ]
                      refine merge6 (S := fun X => X.cell? ⟨w.heap.size + 1, 1, none⟩ = some (.slice (some ⟨bb, off, none⟩) tn sc) ∧ X.cell? ⟨bb, off + k * 9, none⟩ = some (.int .u8 k0n) ∧ X.cell? ⟨bb, off + k * 9 + 1, none⟩ = some (.string nmn) ∧ X.cell? ⟨bb, off + k * 9 + 2, none⟩ = some (.int .u8 opn) ∧ X.cell? ⟨bb, off + k * 9 + 3, none⟩ = some (.string vln) ∧ X.cell? ⟨bb, off + k * 9 + 4, none⟩ = some (.bool fon) ∧ X.cell? ⟨bb, off + k * 9 + 5, none⟩ = some (.int .i64 a0n) ∧ X.cell? ⟨bb, off + k * 9 + 6, none⟩ = some (.int .i64 b0n) ∧ X.cell? ⟨bb, off + k * 9 + 7, none⟩ = some (.bool f0n) ∧ X.cell? ⟨bb, off + k * 9 + 8, none⟩ = some (.slice LAn lnn lcn) ∧ X.cell? ⟨bt, ot + k, none⟩ = some (.bool bvn)) (f := 2) (i1 := 1) (i2 := 7) (i3 := 8) (i4 := 14) (i5 := 15) (i6 := 16) (t1 := 142) (t2 := 148) (t3 := 149) (t4 := 155) (t5 := 156) (t6 := 157) (c1 := fun _ _ _ _ _ _ => true) (c2 := fun _ _ _ _ _ _ => true) (c3 := fun d1 d2 _ _ _ _ => d1 && d2) (c4 := fun _ _ _ _ _ _ => true) (c5 := fun _ _ d3 d4 _ _ => d3 && d4) (c6 := fun _ _ d3 _ _ _ => d3) (L := fun d1 d2 d3 d4 d5 d6 => #[true, d1, true, true, true, true, true, d2, d3, true, true, true, true, true, d4, d5, d6, false, false]) (F := fun (d1 : Bool) (d2 : Bool) (d3 : Bool) (d4 : Bool) (d5 : Bool) (d6 : Bool) (v1 : Value) (v2 : Value) (v3 : Value) (v4 : Value) (v5 : Value) (v6 : Value) W => (Below w5.heap.size w5 W ∧ Six W w5.heap.size tag g3 g1 g2 y3 yq yp (if d3 then v3 else y3) yq yp (if d3 then (((List.range k).filter (fun x => decide (x ≠ at0))).map (sm S)) ++ [⟨k0n, nmn, opn, vln, fon, a0n, b0n, f0n, LAn, lnn, lcn⟩] else (((List.range k).filter (fun x => decide (x ≠ at0))).map (sm S))) ((((List.range k).map fun x => (x + at0) % tn).map (sm S)) ++ [sm S mm]) (((List.range k).map (sm S)) ++ [sm S k]) (if d5 then v5 else u21) u19 u20 (if d5 then (((List.range k).filter (fun x => decide (x ≠ at0))).map (bx B)) ++ [bvn] else (((List.range k).filter (fun x => decide (x ≠ at0))).map (bx B))) ((((List.range k).map fun x => (x + at0) % tn).map (bx B)) ++ [bx B mm]) (((List.range k).map (bx B)) ++ [bx B k])) ∧ (d1 = true → v1 = y3) ∧ (d2 = true → d3 = false → ∃ g, v2 = .slice (some ⟨g, 0, none⟩) 1 1 ∧ W.heap[g]? = some (.cells #[.int .u8 k0n, .string nmn, .int .u8 opn, .string vln, .bool fon, .int .i64 a0n, .int .i64 b0n, .bool f0n, .slice LAn lnn lcn] 26 (0, 0))) ∧ (d3 = true → ∃ A c, v3 = .slice A (nl + 1) c) ∧ (d4 = true → d5 = false → ∃ g, v4 = .slice (some ⟨g, 0, none⟩) 1 1 ∧ W.heap[g]? = some (.cells #[.bool bvn] 4 (0, 0))) ∧ (d5 = true → ∃ A c, v5 = .slice A (nb + 1) c) ∧ (d6 = true → v6 = .pointer (some ⟨g3, 1, none⟩))) (hready := by decide +kernel) (hne := by decide +kernel) (hok1 := by decide +kernel) (hok2 := by decide +kernel) (hok3 := by decide +kernel) (hok4 := by decide +kernel) (hok5 := by decide +kernel) (hok6 := by decide +kernel) (hset1 := fun _ _ _ _ _ => rfl) (hstep1 := ?s1) (hset2 := fun _ _ _ _ _ => rfl) (hstep2 := ?s2) (hset3 := fun _ _ _ _ _ => rfl) (hstep3 := ?s3) (hset4 := fun _ _ _ _ _ => rfl) (hstep4 := ?s4) (hset5 := fun _ _ _ _ _ => rfl) (hstep5 := ?s5) (hset6 := fun _ _ _ _ _ => rfl) (hstep6 := ?s6) (hend := ?fin) (x1 := u142) (x2 := u148) (x3 := u149) (x4 := u155) (x5 := u156) (x6 := u157) rfl rfl (by simp only [Act.put, List.setIfInBounds_toArray, List.set_cons_zero, List.set_cons_succ]) ?beg
                      case s1 =>
                        intro d2 d3 d4 d5 d6 v1 v2 v3 v4 v5 v6 W hc hF K hK
                        obtain ⟨hb, f1, f2, f3, f4, f5, f6⟩ := hF
                        simp only [Act.put, List.setIfInBounds_toArray, List.set_cons_zero, List.set_cons_succ] at hK ⊢
                        have hz := hide (hb.2.c1.cells)
                        obtain ⟨q0, q1, q2⟩ := hz.out
                        refine wpOp_one rfl rfl ?_
                        clear hc
                        go_simp
                        try simp only [Act.put, List.setIfInBounds_toArray, List.set_cons_zero, List.set_cons_succ]
                        exact hK _ _ (hS5.out _ hb.1) ⟨hb, (fun _ => rfl), f2, f3, f4, f5, f6⟩
                      case s2 =>
                        intro d1 d3 d4 d5 d6 v1 v2 v3 v4 v5 v6 W hc hF K hK
                        obtain ⟨hb, f1, f2, f3, f4, f5, f6⟩ := hF
                        simp only [Act.put, List.setIfInBounds_toArray, List.set_cons_zero, List.set_cons_succ] at hK ⊢
                        have hx := below_alloc (Below.refl W.heap.size W) (.cells #[.int .u8 k0n, .string nmn, .int .u8 opn, .string vln, .bool fon, .int .i64 a0n, .int .i64 b0n, .bool f0n, .slice LAn lnn lcn] 26)
                        refine wpOp_one rfl rfl ?_
                        clear hc
                        go_simp
                        try simp only [Act.put, List.setIfInBounds_toArray, List.set_cons_zero, List.set_cons_succ]
                        exact hK _ _ (hS5.out _ (below_alloc hb.1 _)) ⟨⟨below_alloc hb.1 _, hb.2.below hx⟩, f1, (fun _ _ => ⟨_, rfl, blk_new _ _ _⟩), f3, (fun h h3 => (f4 h h3).imp fun g h => ⟨h.1, (hx.block g (blk_lt h.2)).trans h.2⟩), f5, f6⟩
                      case s3 =>
                        intro d1 d2 d4 d5 d6 v1 v2 v3 v4 v5 v6 W hc hF K hK
                        obtain ⟨hb, f1, f2, f3, f4, f5, f6⟩ := hF
                        simp only [Act.put, List.setIfInBounds_toArray, List.set_cons_zero, List.set_cons_succ] at hK ⊢
                        simp only [Bool.and_eq_true] at hc
                        obtain ⟨hd1, hd2⟩ := hc
                        have h6 := hb.2
                        simp only [Bool.false_eq_true, if_false] at h6
                        obtain rfl := f1 hd1
                        obtain ⟨gx, e, hgx⟩ := f2 hd2 rfl
                        subst e
                        refine wpOp_one rfl rfl ?_
                        refine wp_pushSm _ _ rfl h6.s1 ⟨k0n, nmn, opn, vln, fon, a0n, b0n, f0n, LAn, lnn, lcn⟩ gx hgx rfl rfl hlen hb.1.size ?_
                        intro A1' c1' wA hownA hGA
                        rw [hnl.out] at hownA hGA ⊢
                        have hBA := hGA.1 _ w5 (Nat.le_refl _) hb.1
                        try simp only [Act.put, List.setIfInBounds_toArray, List.set_cons_zero, List.set_cons_succ]
                        refine hK _ _ (hS5.out _ hBA) ⟨⟨hBA, ?_⟩, (fun _ => rfl), (fun _ h => absurd h (by simp)), (fun _ => ⟨A1', c1', rfl⟩), (fun h h3 => (f4 h h3).imp fun g h => ⟨h.1, (hGA.2.2.1 g (blk_lt h.2) (own_no_box h6.s1 h.2 (by decide))).trans h.2⟩), f5, f6⟩
                        simp only [if_true]
                        exact h6.growS hGA hownA
                      case s4 =>
                        intro d1 d2 d3 d5 d6 v1 v2 v3 v4 v5 v6 W hc hF K hK
                        obtain ⟨hb, f1, f2, f3, f4, f5, f6⟩ := hF
                        simp only [Act.put, List.setIfInBounds_toArray, List.set_cons_zero, List.set_cons_succ] at hK ⊢
                        have hx := below_alloc (Below.refl W.heap.size W) (.cells #[.bool bvn] 4)
                        refine wpOp_one rfl rfl ?_
                        clear hc
                        go_simp
                        try simp only [Act.put, List.setIfInBounds_toArray, List.set_cons_zero, List.set_cons_succ]
                        exact hK _ _ (hS5.out _ (below_alloc hb.1 _)) ⟨⟨below_alloc hb.1 _, hb.2.below hx⟩, f1, (fun h h3 => (f2 h h3).imp fun g h => ⟨h.1, (hx.block g (blk_lt h.2)).trans h.2⟩), f3, (fun _ _ => ⟨_, rfl, blk_new _ _ _⟩), f5, f6⟩
                      case s5 =>
                        intro d1 d2 d3 d4 d6 v1 v2 v3 v4 v5 v6 W hc hF K hK
                        obtain ⟨hb, f1, f2, f3, f4, f5, f6⟩ := hF
                        simp only [Act.put, List.setIfInBounds_toArray, List.set_cons_zero, List.set_cons_succ] at hK ⊢
                        simp only [Bool.and_eq_true] at hc
                        obtain ⟨hd3, hd4⟩ := hc
                        have h6 := hb.2
                        simp only [Bool.false_eq_true, if_false] at h6
                        obtain ⟨gx, e, hgx⟩ := f4 hd4 rfl
                        subst e
                        refine wpOp_one rfl rfl ?_
                        refine wp_pushB0 _ _ rfl h6.t1 bvn gx hgx rfl rfl hlenB hb.1.size ?_
                        intro A2' c2' wB hownB hGB
                        rw [hnb.out] at hownB hGB ⊢
                        have hBB := hGB.1 _ w5 (Nat.le_refl _) hb.1
                        try simp only [Act.put, List.setIfInBounds_toArray, List.set_cons_zero, List.set_cons_succ]
                        refine hK _ _ (hS5.out _ hBB) ⟨⟨hBB, ?_⟩, f1, (fun h h3 => by rw [hd3] at h3; cases h3), f3, (fun _ h => absurd h (by simp)), (fun _ => ⟨A2', c2', rfl⟩), f6⟩
                        simp only [if_true]
                        exact h6.growB hGB hownB
                      case s6 =>
                        intro d1 d2 d3 d4 d5 v1 v2 v3 v4 v5 v6 W hc hF K hK
                        obtain ⟨hb, f1, f2, f3, f4, f5, f6⟩ := hF
                        simp only [Act.put, List.setIfInBounds_toArray, List.set_cons_zero, List.set_cons_succ] at hK ⊢
                        have hd3 : d3 = true := hc
                        refine wpOp_one rfl rfl ?_
                        clear hd3 hc
                        go_simp
                        try simp only [Act.put, List.setIfInBounds_toArray, List.set_cons_zero, List.set_cons_succ]
                        exact hK _ _ (hS5.out _ hb.1) ⟨hb, f1, f2, f3, f4, f5, (fun _ => rfl)⟩
                      case fin =>
                        intro v1 v2 v3 v4 v5 v6 W hF
                        obtain ⟨hb, f1, f2, f3, f4, f5, f6⟩ := hF
                        simp only [Act.put, List.setIfInBounds_toArray, List.set_cons_zero, List.set_cons_succ]
                        obtain rfl := f1 rfl
                        obtain ⟨A1', c1', rfl⟩ := f3 rfl
                        obtain ⟨A2', c2', rfl⟩ := f5 rfl
                        obtain rfl := f6 rfl
                        have h6 := hb.2
                        simp only [if_true] at h6
                        have hBW := hb.1
                        obtain ⟨q0, q1, q2⟩ := h6.c1.cells
                        clear f2 f4
                        refine wpAnyH_ready (rs := [17]) (by kernel_rfl) (by simp) (AllReadyH.cons rfl (fun K hK => ?_) AllReadyH.nil)
                        go_simp
                        refine hK.out _ _ (hS5.out _ (hBW.setCell (p := ⟨g3, 1, none⟩) hl1 _)) (fun hHeld1 => ?_)
                        try simp only [Act.put, List.setIfInBounds_toArray, List.set_cons_zero, List.set_cons_succ]
                        refine mgTake 18 21 (.slice A2' (nb + 1) c2') (by kernel_rfl) (by kernel_rfl) (by kernel_rfl) (by kernel_rfl) (fun _ _ _ h => h) (by rfl) ?_ (by assumption) ?_
                        · intro W hW
                          try dsimp only at hW
                          simp only [List.getElem?_toArray, List.getElem?_cons_succ, List.getElem?_cons_zero, Option.map_some, Option.some.injEq]
                          go_simp
                        try simp only [Act.put, List.setIfInBounds_toArray, List.set_cons_zero, List.set_cons_succ]
                        refine wpAnyH_done (by kernel_rfl) ?_ _
                        have hBX := hBW.setCell (p := ⟨g3, 1, none⟩) hl1 (.slice A1' (nl + 1) c1')
                        have hqX := hide (h6.store (.slice A1' (nl + 1) c1'))
                        go_wp2
                        go_roundw
                        case rel => exact ⟨k + 1, by omega, by go_num, hBX, yq, yp, _, by rw [d1.out, d2.out, d3.out, d4.out, d5.out, List.map_append, List.map_append]; have hz := hqX.out.rot; rw [← hsXn, ← hbvn] at hz; exact hz⟩
                        case measure => simp [intOf]; omega
                      case beg => exact ⟨⟨hb.drew, hq.out.below (Below.refl _ _).drew⟩, (fun h => by cases h), (fun h => by cases h), (fun h => by cases h), (fun h => by cases h), (fun h => by cases h), (fun h => by cases h)⟩
                  · have etn : (k : Int) = (tn : Int) := by omega
                    rw [etn]
                    obtain rfl : k = tn := by omega
                    clear etn
                    have hBr := Below.on hB5 hb
                    obtain ⟨bb, off, rfl, hbl, hc0⟩ := hS.out.2.2 (by omega)
                    obtain ⟨bt, ot, rfl, hbt, hct0⟩ := hTB.out.2.2 (by omega)
                    have htbr := cell_later hb htb5
                    have hq1 := hide hq.rot
                    clear hq
                    have hq := hq1
                    clear hq1
                    generalize wr = W4 at *
                    have p1 : (0 : Int) ≤ (at0 : Int) := by omega
                    have p2 : (at0 : Int) < (k : Int) := by omega
                    go_upto_region 15 with fail
                    have hin := (hc0 at0 hat).later hB5
                    have gt := (old hB5 _ _ hbt).trans (hct0 at0 hat)
                    obtain ⟨bvz, hbvz⟩ : ∃ x, bx B at0 = x := ⟨_, rfl⟩
                    rw [hbvz] at gt
                    obtain ⟨sXz, hsXz⟩ : ∃ x, sm S at0 = x := ⟨_, rfl⟩
                    rw [hsXz] at hin
                    obtain ⟨k0z, nmz, opz, vlz, foz, a0z, b0z, f0z, LAz, lnz, lcz⟩ := sXz
                    obtain ⟨s0, s1, s2, s3, s4, s5, s6, s7, s8⟩ := hin
                    have hS5 := hide (fun (W : World) (hW : Below w5.heap.size w5 W) => (show W.cell? ⟨w.heap.size + 1, 1, none⟩ = some (.slice (some ⟨bb, off, none⟩) k sc) ∧ W.cell? ⟨bb, off + at0 * 9, none⟩ = some (.int .u8 k0z) ∧ W.cell? ⟨bb, off + at0 * 9 + 1, none⟩ = some (.string nmz) ∧ W.cell? ⟨bb, off + at0 * 9 + 2, none⟩ = some (.int .u8 opz) ∧ W.cell? ⟨bb, off + at0 * 9 + 3, none⟩ = some (.string vlz) ∧ W.cell? ⟨bb, off + at0 * 9 + 4, none⟩ = some (.bool foz) ∧ W.cell? ⟨bb, off + at0 * 9 + 5, none⟩ = some (.int .i64 a0z) ∧ W.cell? ⟨bb, off + at0 * 9 + 6, none⟩ = some (.int .i64 b0z) ∧ W.cell? ⟨bb, off + at0 * 9 + 7, none⟩ = some (.bool f0z) ∧ W.cell? ⟨bb, off + at0 * 9 + 8, none⟩ = some (.slice LAz lnz lcz) ∧ W.cell? ⟨bt, ot + at0, none⟩ = some (.bool bvz) from ⟨cell_later hW htb5, cell_later hW s0, cell_later hW s1, cell_later hW s2, cell_later hW s3, cell_later hW s4, cell_later hW s5, cell_later hW s6, cell_later hW s7, cell_later hW s8, cell_later hW gt⟩))
                    clear s0 s1 s2 s3 s4 s5 s6 s7 s8 gt
                    have hl1 := hq.out.l1
                    have hlen : (((List.range k).map (sm S))).length ≤ 1000000 := (by simp; omega)
                    have hlenB : (((List.range k).map (bx B))).length ≤ 1000000 := (by simp; omega)
                    obtain ⟨nl, hnl0⟩ : ∃ x, (((List.range k).map (sm S))).length = x := ⟨_, rfl⟩
                    obtain ⟨nb, hnb0⟩ : ∃ x, (((List.range k).map (bx B))).length = x := ⟨_, rfl⟩
                    have hnl := hide hnl0
                    have hnb := hide hnb0
                    clear hnl0 hnb0
                    go_cut [20] from 158 to 174 (fun u wx => Below w5.heap.size w5 wx ∧ ∃ y : Value, Six wx w5.heap.size tag g2 g3 g1 y y3 y1 y y3 y1 (((List.range k).map (sm S)) ++ [sm S at0]) (((List.range k).filter (fun x => decide (x ≠ at0))).map (sm S)) (((List.range k).map fun x => (x + at0) % k).map (sm S)) u u21 u19 (((List.range k).map (bx B)) ++ [bx B at0]) (((List.range k).filter (fun x => decide (x ≠ at0))).map (bx B)) (((List.range k).map fun x => (x + at0) % k).map (bx B)))
                    case first =>
                      refine wp_region_held_drew (S := fun X => X.cell? ⟨w.heap.size + 1, 1, none⟩ = some (.slice (some ⟨bb, off, none⟩) k sc) ∧ X.cell? ⟨bb, off + at0 * 9, none⟩ = some (.int .u8 k0z) ∧ X.cell? ⟨bb, off + at0 * 9 + 1, none⟩ = some (.string nmz) ∧ X.cell? ⟨bb, off + at0 * 9 + 2, none⟩ = some (.int .u8 opz) ∧ X.cell? ⟨bb, off + at0 * 9 + 3, none⟩ = some (.string vlz) ∧ X.cell? ⟨bb, off + at0 * 9 + 4, none⟩ = some (.bool foz) ∧ X.cell? ⟨bb, off + at0 * 9 + 5, none⟩ = some (.int .i64 a0z) ∧ X.cell? ⟨bb, off + at0 * 9 + 6, none⟩ = some (.int .i64 b0z) ∧ X.cell? ⟨bb, off + at0 * 9 + 7, none⟩ = some (.bool f0z) ∧ X.cell? ⟨bb, off + at0 * 9 + 8, none⟩ = some (.slice LAz lnz lcz) ∧ X.cell? ⟨bt, ot + at0, none⟩ = some (.bool bvz)) (by kernel_rfl) (hS5.out _ hb.drew) (fun hHeld => ?_)
                      refine mgTake 0 158 (.pointer (some ⟨g2, 1, none⟩)) (by kernel_rfl) (by kernel_rfl) (by kernel_rfl) (by kernel_rfl) (fun _ _ _ h => h) (by rfl) ?_ (by assumption) ?_
                      · intro W hW
                        try dsimp only at hW
                        simp only [List.getElem?_toArray, List.getElem?_cons_zero, Option.map_some, Option.some.injEq]
                        go_simp
                      try simp only [Act.put, List.setIfInBounds_toArray, List.set_cons_zero, List.set_cons_succ]
                      refine mgTake 2 160 (.pointer (some ⟨w.heap.size + 1, 1, none⟩)) (by kernel_rfl) (by kernel_rfl) (by kernel_rfl) (by kernel_rfl) (fun _ _ _ h => h) (by rfl) ?_ (by assumption) ?_
                      · intro W hW
                        try dsimp only at hW
                        simp only [List.getElem?_toArray, List.getElem?_cons_succ, List.getElem?_cons_zero, Option.map_some, Option.some.injEq]
                        go_simp
                      try simp only [Act.put, List.setIfInBounds_toArray, List.set_cons_zero, List.set_cons_succ]
                      refine mgTake 3 161 (.slice (some ⟨bb, off, none⟩) k sc) (by kernel_rfl) (by kernel_rfl) (by kernel_rfl) (by kernel_rfl) (fun _ _ _ h => h) (by rfl) ?_ (by assumption) ?_
                      · intro W hW
                        try dsimp only at hW
                        simp only [List.getElem?_toArray, List.getElem?_cons_succ, List.getElem?_cons_zero, Option.map_some, Option.some.injEq]
                        go_simp
                      try simp only [Act.put, List.setIfInBounds_toArray, List.set_cons_zero, List.set_cons_succ]
                      refine mgTake 4 162 (.int .i64 at0) (by kernel_rfl) (by kernel_rfl) (by kernel_rfl) (by kernel_rfl) (fun _ _ _ h => h) (by rfl) ?_ (by assumption) ?_
                      · intro W hW
                        try dsimp only at hW
                        simp only [List.getElem?_toArray, List.getElem?_cons_succ, List.getElem?_cons_zero, Option.map_some, Option.some.injEq]
                        go_simp
                      try simp only [Act.put, List.setIfInBounds_toArray, List.set_cons_zero, List.set_cons_succ]
                      refine mgTake 5 163 (.pointer (some ⟨bb, off + at0 * 9, none⟩)) (by kernel_rfl) (by kernel_rfl) (by kernel_rfl) (by kernel_rfl) (fun _ _ _ h => h) (by rfl) ?_ (by assumption) ?_
                      · intro W hW
                        try dsimp only at hW
                        simp only [List.getElem?_toArray, List.getElem?_cons_succ, List.getElem?_cons_zero, Option.map_some, Option.some.injEq]
                        go_simp
                      try simp only [Act.put, List.setIfInBounds_toArray, List.set_cons_zero, List.set_cons_succ]
                      refine mgTake 6 164 (.agg #[.int .u8 k0z, .string nmz, .int .u8 opz, .string vlz, .bool foz, .int .i64 a0z, .int .i64 b0z, .bool f0z, .slice LAz lnz lcz]) (by kernel_rfl) (by kernel_rfl) (by kernel_rfl) (by kernel_rfl) (fun _ _ _ h => h) (by rfl) ?_ (by assumption) ?_
                      · intro W hW
                        try dsimp only at hW
                        simp only [List.getElem?_toArray, List.getElem?_cons_succ, List.getElem?_cons_zero, Option.map_some, Option.some.injEq]
                        go_simp
                      try simp only [Act.put, List.setIfInBounds_toArray, List.set_cons_zero, List.set_cons_succ]
                      refine mgTake 9 167 (u20) (by kernel_rfl) (by kernel_rfl) (by kernel_rfl) (by kernel_rfl) (fun _ _ _ h => h) (by rfl) ?_ (by assumption) ?_
                      · intro W hW
                        try dsimp only at hW
                        simp only [List.getElem?_toArray, List.getElem?_cons_succ, List.getElem?_cons_zero, Option.map_some, Option.some.injEq]
                        go_simp
                      try simp only [Act.put, List.setIfInBounds_toArray, List.set_cons_zero, List.set_cons_succ]
                      refine mgTake 10 168 (.slice (some ⟨bt, ot, none⟩) k tc) (by kernel_rfl) (by kernel_rfl) (by kernel_rfl) (by kernel_rfl) (fun _ _ _ h => h) (by rfl) ?_ (by assumption) ?_
                      · intro W hW
                        try dsimp only at hW
                        simp only [List.getElem?_toArray, List.getElem?_cons_succ, List.getElem?_cons_zero, Option.map_some, Option.some.injEq]
                        go_simp
                      try simp only [Act.put, List.setIfInBounds_toArray, List.set_cons_zero, List.set_cons_succ]
                      refine mgTake 11 169 (.int .i64 at0) (by kernel_rfl) (by kernel_rfl) (by kernel_rfl) (by kernel_rfl) (fun _ _ _ h => h) (by rfl) ?_ (by assumption) ?_
                      · intro W hW
                        try dsimp only at hW
                        simp only [List.getElem?_toArray, List.getElem?_cons_succ, List.getElem?_cons_zero, Option.map_some, Option.some.injEq]
                        go_simp
                      try simp only [Act.put, List.setIfInBounds_toArray, List.set_cons_zero, List.set_cons_succ]
                      refine mgTake 12 170 (.pointer (some ⟨bt, ot + at0, none⟩)) (by kernel_rfl) (by kernel_rfl) (by kernel_rfl) (by kernel_rfl) (fun _ _ _ h => h) (by rfl) ?_ (by assumption) ?_
                      · intro W hW
                        try dsimp only at hW
                        simp only [List.getElem?_toArray, List.getElem?_cons_succ, List.getElem?_cons_zero, Option.map_some, Option.some.injEq]
                        go_simp
                      try simp only [Act.put, List.setIfInBounds_toArray, List.set_cons_zero, List.set_cons_succ]
                      refine mgTake 13 171 (.bool bvz) (by kernel_rfl) (by kernel_rfl) (by kernel_rfl) (by kernel_rfl) (fun _ _ _ h => h) (by rfl) ?_ (by assumption) ?_
                      · intro W hW
                        try dsimp only at hW
                        simp only [List.getElem?_toArray, List.getElem?_cons_succ, List.getElem?_cons_zero, Option.map_some, Option.some.injEq]
                        go_simp
                      try simp only [Act.put, List.setIfInBounds_toArray, List.set_cons_zero, List.set_cons_succ]
                      refine merge6 (S := fun X => X.cell? ⟨w.heap.size + 1, 1, none⟩ = some (.slice (some ⟨bb, off, none⟩) k sc) ∧ X.cell? ⟨bb, off + at0 * 9, none⟩ = some (.int .u8 k0z) ∧ X.cell? ⟨bb, off + at0 * 9 + 1, none⟩ = some (.string nmz) ∧ X.cell? ⟨bb, off + at0 * 9 + 2, none⟩ = some (.int .u8 opz) ∧ X.cell? ⟨bb, off + at0 * 9 + 3, none⟩ = some (.string vlz) ∧ X.cell? ⟨bb, off + at0 * 9 + 4, none⟩ = some (.bool foz) ∧ X.cell? ⟨bb, off + at0 * 9 + 5, none⟩ = some (.int .i64 a0z) ∧ X.cell? ⟨bb, off + at0 * 9 + 6, none⟩ = some (.int .i64 b0z) ∧ X.cell? ⟨bb, off + at0 * 9 + 7, none⟩ = some (.bool f0z) ∧ X.cell? ⟨bb, off + at0 * 9 + 8, none⟩ = some (.slice LAz lnz lcz) ∧ X.cell? ⟨bt, ot + at0, none⟩ = some (.bool bvz)) (f := 2) (i1 := 1) (i2 := 7) (i3 := 8) (i4 := 14) (i5 := 15) (i6 := 16) (t1 := 159) (t2 := 165) (t3 := 166) (t4 := 172) (t5 := 173) (t6 := 174) (c1 := fun _ _ _ _ _ _ => true) (c2 := fun _ _ _ _ _ _ => true) (c3 := fun d1 d2 _ _ _ _ => d1 && d2) (c4 := fun _ _ _ _ _ _ => true) (c5 := fun _ _ d3 d4 _ _ => d3 && d4) (c6 := fun _ _ d3 _ _ _ => d3) (L := fun d1 d2 d3 d4 d5 d6 => #[true, d1, true, true, true, true, true, d2, d3, true, true, true, true, true, d4, d5, d6, false, false]) (F := fun (d1 : Bool) (d2 : Bool) (d3 : Bool) (d4 : Bool) (d5 : Bool) (d6 : Bool) (v1 : Value) (v2 : Value) (v3 : Value) (v4 : Value) (v5 : Value) (v6 : Value) W => (Below w5.heap.size w5 W ∧ Six W w5.heap.size tag g2 g3 g1 y2 y3 y1 (if d3 then v3 else y2) y3 y1 (if d3 then ((List.range k).map (sm S)) ++ [⟨k0z, nmz, opz, vlz, foz, a0z, b0z, f0z, LAz, lnz, lcz⟩] else ((List.range k).map (sm S))) (((List.range k).filter (fun x => decide (x ≠ at0))).map (sm S)) (((List.range k).map fun x => (x + at0) % k).map (sm S)) (if d5 then v5 else u20) u21 u19 (if d5 then ((List.range k).map (bx B)) ++ [bvz] else ((List.range k).map (bx B))) (((List.range k).filter (fun x => decide (x ≠ at0))).map (bx B)) (((List.range k).map fun x => (x + at0) % k).map (bx B))) ∧ (d1 = true → v1 = y2) ∧ (d2 = true → d3 = false → ∃ g, v2 = .slice (some ⟨g, 0, none⟩) 1 1 ∧ W.heap[g]? = some (.cells #[.int .u8 k0z, .string nmz, .int .u8 opz, .string vlz, .bool foz, .int .i64 a0z, .int .i64 b0z, .bool f0z, .slice LAz lnz lcz] 26 (0, 0))) ∧ (d3 = true → ∃ A c, v3 = .slice A (nl + 1) c) ∧ (d4 = true → d5 = false → ∃ g, v4 = .slice (some ⟨g, 0, none⟩) 1 1 ∧ W.heap[g]? = some (.cells #[.bool bvz] 4 (0, 0))) ∧ (d5 = true → ∃ A c, v5 = .slice A (nb + 1) c) ∧ (d6 = true → v6 = .pointer (some ⟨g2, 1, none⟩))) (hready := by decide +kernel) (hne := by decide +kernel) (hok1 := by decide +kernel) (hok2 := by decide +kernel) (hok3 := by decide +kernel) (hok4 := by decide +kernel) (hok5 := by decide +kernel) (hok6 := by decide +kernel) (hset1 := fun _ _ _ _ _ => rfl) (hstep1 := ?s1) (hset2 := fun _ _ _ _ _ => rfl) (hstep2 := ?s2) (hset3 := fun _ _ _ _ _ => rfl) (hstep3 := ?s3) (hset4 := fun _ _ _ _ _ => rfl) (hstep4 := ?s4) (hset5 := fun _ _ _ _ _ => rfl) (hstep5 := ?s5) (hset6 := fun _ _ _ _ _ => rfl) (hstep6 := ?s6) (hend := ?fin) (x1 := undef) (x2 := undef) (x3 := undef) (x4 := undef) (x5 := undef) (x6 := undef) rfl rfl (by simp only [Act.put, List.setIfInBounds_toArray, List.set_cons_zero, List.set_cons_succ]) ?beg
                      case s1 =>
                        intro d2 d3 d4 d5 d6 v1 v2 v3 v4 v5 v6 W hc hF K hK
                        obtain ⟨hb, f1, f2, f3, f4, f5, f6⟩ := hF
                        simp only [Act.put, List.setIfInBounds_toArray, List.set_cons_zero, List.set_cons_succ] at hK ⊢
                        have hz := hide (hb.2.c1.cells)
                        obtain ⟨q0, q1, q2⟩ := hz.out
                        refine wpOp_one rfl rfl ?_
                        clear hc
                        go_simp
                        try simp only [Act.put, List.setIfInBounds_toArray, List.set_cons_zero, List.set_cons_succ]
                        exact hK _ _ (hS5.out _ hb.1) ⟨hb, (fun _ => rfl), f2, f3, f4, f5, f6⟩
                      case s2 =>
                        intro d1 d3 d4 d5 d6 v1 v2 v3 v4 v5 v6 W hc hF K hK
                        obtain ⟨hb, f1, f2, f3, f4, f5, f6⟩ := hF
                        simp only [Act.put, List.setIfInBounds_toArray, List.set_cons_zero, List.set_cons_succ] at hK ⊢
                        have hx := below_alloc (Below.refl W.heap.size W) (.cells #[.int .u8 k0z, .string nmz, .int .u8 opz, .string vlz, .bool foz, .int .i64 a0z, .int .i64 b0z, .bool f0z, .slice LAz lnz lcz] 26)
                        refine wpOp_one rfl rfl ?_
                        clear hc
                        go_simp
                        try simp only [Act.put, List.setIfInBounds_toArray, List.set_cons_zero, List.set_cons_succ]
                        exact hK _ _ (hS5.out _ (below_alloc hb.1 _)) ⟨⟨below_alloc hb.1 _, hb.2.below hx⟩, f1, (fun _ _ => ⟨_, rfl, blk_new _ _ _⟩), f3, (fun h h3 => (f4 h h3).imp fun g h => ⟨h.1, (hx.block g (blk_lt h.2)).trans h.2⟩), f5, f6⟩
                      case s3 =>
                        intro d1 d2 d4 d5 d6 v1 v2 v3 v4 v5 v6 W hc hF K hK
                        obtain ⟨hb, f1, f2, f3, f4, f5, f6⟩ := hF
                        simp only [Act.put, List.setIfInBounds_toArray, List.set_cons_zero, List.set_cons_succ] at hK ⊢
                        simp only [Bool.and_eq_true] at hc
                        obtain ⟨hd1, hd2⟩ := hc
                        have h6 := hb.2
                        simp only [Bool.false_eq_true, if_false] at h6
                        obtain rfl := f1 hd1
                        obtain ⟨gx, e, hgx⟩ := f2 hd2 rfl
                        subst e
                        refine wpOp_one rfl rfl ?_
                        refine wp_pushSm _ _ rfl h6.s1 ⟨k0z, nmz, opz, vlz, foz, a0z, b0z, f0z, LAz, lnz, lcz⟩ gx hgx rfl rfl hlen hb.1.size ?_
                        intro A1' c1' wA hownA hGA
                        rw [hnl.out] at hownA hGA ⊢
                        have hBA := hGA.1 _ w5 (Nat.le_refl _) hb.1
                        try simp only [Act.put, List.setIfInBounds_toArray, List.set_cons_zero, List.set_cons_succ]
                        refine hK _ _ (hS5.out _ hBA) ⟨⟨hBA, ?_⟩, (fun _ => rfl), (fun _ h => absurd h (by simp)), (fun _ => ⟨A1', c1', rfl⟩), (fun h h3 => (f4 h h3).imp fun g h => ⟨h.1, (hGA.2.2.1 g (blk_lt h.2) (own_no_box h6.s1 h.2 (by decide))).trans h.2⟩), f5, f6⟩
                        simp only [if_true]
                        exact h6.growS hGA hownA
                      case s4 =>
                        intro d1 d2 d3 d5 d6 v1 v2 v3 v4 v5 v6 W hc hF K hK
                        obtain ⟨hb, f1, f2, f3, f4, f5, f6⟩ := hF
                        simp only [Act.put, List.setIfInBounds_toArray, List.set_cons_zero, List.set_cons_succ] at hK ⊢
                        have hx := below_alloc (Below.refl W.heap.size W) (.cells #[.bool bvz] 4)
                        refine wpOp_one rfl rfl ?_
                        clear hc
                        go_simp
                        try simp only [Act.put, List.setIfInBounds_toArray, List.set_cons_zero, List.set_cons_succ]
                        exact hK _ _ (hS5.out _ (below_alloc hb.1 _)) ⟨⟨below_alloc hb.1 _, hb.2.below hx⟩, f1, (fun h h3 => (f2 h h3).imp fun g h => ⟨h.1, (hx.block g (blk_lt h.2)).trans h.2⟩), f3, (fun _ _ => ⟨_, rfl, blk_new _ _ _⟩), f5, f6⟩
                      case s5 =>
                        intro d1 d2 d3 d4 d6 v1 v2 v3 v4 v5 v6 W hc hF K hK
                        obtain ⟨hb, f1, f2, f3, f4, f5, f6⟩ := hF
                        simp only [Act.put, List.setIfInBounds_toArray, List.set_cons_zero, List.set_cons_succ] at hK ⊢
                        simp only [Bool.and_eq_true] at hc
                        obtain ⟨hd3, hd4⟩ := hc
                        have h6 := hb.2
                        simp only [Bool.false_eq_true, if_false] at h6
                        obtain ⟨gx, e, hgx⟩ := f4 hd4 rfl
                        subst e
                        refine wpOp_one rfl rfl ?_
                        refine wp_pushB0 _ _ rfl h6.t1 bvz gx hgx rfl rfl hlenB hb.1.size ?_
                        intro A2' c2' wB hownB hGB
                        rw [hnb.out] at hownB hGB ⊢
                        have hBB := hGB.1 _ w5 (Nat.le_refl _) hb.1
                        try simp only [Act.put, List.setIfInBounds_toArray, List.set_cons_zero, List.set_cons_succ]
                        refine hK _ _ (hS5.out _ hBB) ⟨⟨hBB, ?_⟩, f1, (fun h h3 => by rw [hd3] at h3; cases h3), f3, (fun _ h => absurd h (by simp)), (fun _ => ⟨A2', c2', rfl⟩), f6⟩
                        simp only [if_true]
                        exact h6.growB hGB hownB
                      case s6 =>
                        intro d1 d2 d3 d4 d5 v1 v2 v3 v4 v5 v6 W hc hF K hK
                        obtain ⟨hb, f1, f2, f3, f4, f5, f6⟩ := hF
                        simp only [Act.put, List.setIfInBounds_toArray, List.set_cons_zero, List.set_cons_succ] at hK ⊢
                        have hd3 : d3 = true := hc
                        refine wpOp_one rfl rfl ?_
                        clear hd3 hc
                        go_simp
                        try simp only [Act.put, List.setIfInBounds_toArray, List.set_cons_zero, List.set_cons_succ]
                        exact hK _ _ (hS5.out _ hb.1) ⟨hb, f1, f2, f3, f4, f5, (fun _ => rfl)⟩
                      case fin =>
                        intro v1 v2 v3 v4 v5 v6 W hF
                        obtain ⟨hb, f1, f2, f3, f4, f5, f6⟩ := hF
                        simp only [Act.put, List.setIfInBounds_toArray, List.set_cons_zero, List.set_cons_succ]
                        obtain rfl := f1 rfl
                        obtain ⟨A1', c1', rfl⟩ := f3 rfl
                        obtain ⟨A2', c2', rfl⟩ := f5 rfl
                        obtain rfl := f6 rfl
                        have h6 := hb.2
                        simp only [if_true] at h6
                        have hBW := hb.1
                        obtain ⟨q0, q1, q2⟩ := h6.c1.cells
                        clear f2 f4
                        refine wpAnyH_ready (rs := [17]) (by kernel_rfl) (by simp) (AllReadyH.cons rfl (fun K hK => ?_) AllReadyH.nil)
                        go_simp
                        refine hK.out _ _ (hS5.out _ (hBW.setCell (p := ⟨g2, 1, none⟩) hl1 _)) (fun hHeld1 => ?_)
                        try simp only [Act.put, List.setIfInBounds_toArray, List.set_cons_zero, List.set_cons_succ]
                        refine mgTake 18 20 (.slice A2' (nb + 1) c2') (by kernel_rfl) (by kernel_rfl) (by kernel_rfl) (by kernel_rfl) (fun _ _ _ h => h) (by rfl) ?_ (by assumption) ?_
                        · intro W hW
                          try dsimp only at hW
                          simp only [List.getElem?_toArray, List.getElem?_cons_succ, List.getElem?_cons_zero, Option.map_some, Option.some.injEq]
                          go_simp
                        try simp only [Act.put, List.setIfInBounds_toArray, List.set_cons_zero, List.set_cons_succ]
                        refine wpAnyH_done (by kernel_rfl) ?_ _
                        go_wp2_with fail
                        go_meet
                        rw [hsXz, hbvz]
                        exact ⟨hBW.setCell (p := ⟨g2, 1, none⟩) hl1 _, _, h6.store _⟩
                      case beg => exact ⟨⟨hb.drew, hq.out.below (Below.refl _ _).drew⟩, (fun h => by cases h), (fun h => by cases h), (fun h => by cases h), (fun h => by cases h), (fun h => by cases h), (fun h => by cases h)⟩
                    case rest =>
                    clear hb hq hS5 hl1 hlen hlenB hnl hnb
                    obtain ⟨hb, yz, hq0⟩ := hcut
                    generalize wc = W5 at *
                    have hq := hide hq0
                    clear hq0
                    have h6 := hq.out
                    obtain ⟨c20, c21, -⟩ := h6.c1.cells
                    obtain ⟨c30, c31, -⟩ := h6.c2.cells
                    obtain ⟨c10, c11, -⟩ := h6.c3.cells
                    have hB6 := Below.on hB5 hb
                    have hbox6 := cell_later hb hbox5
                    have h22 := h6.s1
                    have h22' := h6.t1
                    rw [show (List.range k).map (sm S) ++ [sm S at0] = (List.range k ++ [at0]).map (sm S) by rw [List.map_append]; rfl] at h22
                    rw [show (List.range k).map (bx B) ++ [bx B at0] = (List.range k ++ [at0]).map (bx B) by rw [List.map_append]; rfl] at h22'
                    obtain ⟨n3, hn3⟩ : ∃ x, ((List.range k).filter (fun x => decide (x ≠ at0))).length = x := ⟨_, rfl⟩
                    have hn3k : n3 ≤ k := by rw [← hn3]; exact Nat.le_trans (List.length_filter_le _ _) (by simp)
                    obtain ⟨A2, d2, A2', d2', L2, M2, e2, e2', hS2, hT2, hv2, hc2⟩ := rows_same (I := List.range k ++ [at0]) (n := k + 1) (by simp) h22 h22' (by omega) (by omega) hia0.out hg'.out hmd'.out hck'.out (by intro y hy; rcases List.mem_append.1 hy with h | h; (have := List.mem_range.1 h; omega); (rw [List.mem_singleton.1 h]; omega)) hr'.out (all_twice hat _)
                    obtain ⟨A1, d1, A1', d1', L1, M1, e1, e1', hS1, hT1, hv1, hc1⟩ := rows_same (I := turnI k at0) (n := k) (by unfold turnI; simp) h6.s3 h6.t3 (by omega) (by omega) hia0.out hg'.out hmd'.out hck'.out (by intro y hy; obtain ⟨x, hx, rfl⟩ := List.mem_map.1 hy; have := Nat.mod_lt (x + at0) (show 0 < k by omega); omega) hr'.out (all_turn hat _)
                    obtain ⟨A3, d3, A3', d3', L3, M3, z, E, e3, e3', hS3, hT3, hv3, hc3, hk3, hz⟩ := rows_less hn3 h6.s2 h6.t2 (by omega) hia0.out hg'.out hmd'.out hck'.out (by intro y hy; have := List.mem_range.1 (List.mem_filter.1 hy).1; omega) hr'.out all_less
                    have hv1 := hide hv1
                    have hc1 := hide hc1
                    have hv2 := hide hv2
                    have hc2 := hide hc2
                    have hv3 := hide hv3
                    have hc3 := hide hc3
                    have hk3 := hide hk3
                    have hz := hide hz
                    have hS1 := hide hS1
                    have hS2 := hide hS2
                    have hS3 := hide hS3
                    have hT1 := hide hT1
                    have hT2 := hide hT2
                    have hT3 := hide hT3
                    clear h6 hq h22 h22' hbox5
                    subst e1 e1' e2 e2' e3 e3'
                    go_wp2_with fail
                    refine (compMatch_at T j tag L1 m k M1 r 0 hv1.out hc1.out _ _ c _ _ _ _ _ _ (hT.out.below hB6) hS1.out hT1.out (hm'.out.below hB6)).mono ?_
                    rintro e w6 ⟨rfl, hb6⟩
                    have hB7 := Below.on hB6 hb6
                    have hbox7 := cell_later hb6 hbox6
                    have c20 := cell_later hb6 c20
                    have c21 := cell_later hb6 c21
                    have c30 := cell_later hb6 c30
                    have c31 := cell_later hb6 c31
                    clear hbox6 c10 c11
                    go_wp2_with fail
                    refine (compMatch_at T j tag L2 m (k + 1) M2 r 0 hv2.out hc2.out _ _ c _ _ _ _ _ _ (hT.out.below hB7) (hS2.out.below hb6) (hT2.out.below hb6) (hm'.out.below hB7)).mono ?_
                    rintro e w7 ⟨rfl, hb7⟩
                    have hB8 := Below.on hB7 hb7
                    have hb67 := Below.on hb6 hb7
                    have hbox8 := cell_later hb7 hbox7
                    have c30 := cell_later hb7 c30
                    have c31 := cell_later hb7 c31
                    clear hbox7 c20 c21
                    go_wp2_with fail
                    refine (compMatch_at T j tag L3 m n3 M3 z E hv3.out hc3.out _ _ c _ _ _ _ _ _ (hT.out.below hB8) (hS3.out.below hb67) (hT3.out.below hb67) (hm'.out.below hB8)).mono ?_
                    rintro e w8 ⟨rfl, hb8⟩
                    have hB9 := Below.on hB8 hb8
                    have hb68 := Below.on hb67 hb8
                    have c30 := cell_later hb8 c30
                    have c31 := cell_later hb8 c31
                    clear hbox8
                    have hrr : (r != r) = false := by cases r <;> rfl
                    go_wp2_with fail
                    refine (rcompCheck_ok tag _ n3 _ L3 _ (hS3.out.below hb68)).mono ?_
                    rintro e w9 ⟨rfl, hb9⟩
                    have hB10 := Below.on hB9 hb9
                    rw [hk3.out]
                    rcases hz.out with rfl | ⟨rfl, hzr⟩
                    · clear hz hc3 hk3
                      go_wp2
                      go_ret
                      exact ⟨rfl, hB10⟩
                    · have hzt : (z || !r) = true := by
                        cases r
                        · simp
                        · rw [hzr rfl]; rfl
                      clear hz hc3 hk3 hzr
                      cases z
                      · have hr0 : r = false := by simpa using hzt
                        subst hr0
                        clear hzt
                        go_wp2
                        go_ret
                        exact ⟨rfl, hB10⟩
                      · clear hzt
                        go_wp2
                        go_ret
                        exact ⟨rfl, hB10⟩
              · go_wp2
                go_ret
                exact ⟨rfl, hB3⟩
      · have g1 : ((tn : Int) != (sn : Int)) = true := by rw [bne_iff_ne]; omega
        clear h0 hcc0 hir hg hmd hck h2
        go_enter Try.func13, Try.ntmps13
        go_wp2_with fail
        refine (alive19_ok _ (hm'.out.below hB0)).mono ?_
        rintro e w1 ⟨rfl, hb1⟩
        have hB1 := Below.on hB0 hb1
        have hbox1 := cell_later hb1 hbox0
        have ht1 := cell_later hb1 ht0
        have htb1 := cell_later hb1 htb0
        clear hb1 hbox0 ht0 htb0
        go_wp2_with fail
        refine (rasked_at T j 0 hia.out _ _ c _ (hT.out.below hB1)).mono ?_
        rintro e w2 ⟨rfl, hb2⟩
        have hB2 := Below.on hB1 hb2
        have hbox2 := cell_later hb2 hbox1
        have ht2 := cell_later hb2 ht1
        have htb2 := cell_later hb2 htb1
        clear hb2 hbox1 ht1 htb1
        go_wp2_with fail
        refine (rgreat19_ok tag _ _ sc S _ (hS.out.below hB2)).mono ?_
        rintro e w3 ⟨⟨v, rfl⟩, hb3⟩
        have hB3 := Below.on hB2 hb3
        have hbox3 := cell_later hb3 hbox2
        have ht3 := cell_later hb3 ht2
        have htb3 := cell_later hb3 htb2
        clear hb3 hbox2 ht2 htb2
        cases v
        · go_wp2_with fail
          refine (rc19asked_at T tag S m 0 hcc.out _ _ c _ _ sc _ (hT.out.below hB3) (hS.out.below hB3)).mono ?_
          rintro e w4 ⟨rfl, hb4⟩
          have hB4 := Below.on hB3 hb4
          have hbox4 := cell_later hb4 hbox3
          have ht4 := cell_later hb4 ht3
          have htb4 := cell_later hb4 htb3
          clear hb4 hbox3 ht3 htb3
          go_wp2
          go_ret
          exact ⟨rfl, hB4⟩
        · go_wp2
          go_ret
          exact ⟨rfl, hB3⟩
    · have hcb : (cc != 0) = true := by rw [bne_iff_ne]; exact h1
      clear h0 hcc0 h1 hir
      go_enter Try.func13, Try.ntmps13
      go_wp2_with fail
      refine (alive19_ok _ (hm'.out.below hB0)).mono ?_
      rintro e w1 ⟨rfl, hb1⟩
      have hB1 := Below.on hB0 hb1
      have hbox1 := cell_later hb1 hbox0
      have ht1 := cell_later hb1 ht0
      have htb1 := cell_later hb1 htb0
      clear hb1 hbox0 ht0 htb0
      go_wp2_with fail
      refine (rasked_at T j 0 hia.out _ _ c _ (hT.out.below hB1)).mono ?_
      rintro e w2 ⟨rfl, hb2⟩
      have hB2 := Below.on hB1 hb2
      have hbox2 := cell_later hb2 hbox1
      have ht2 := cell_later hb2 ht1
      have htb2 := cell_later hb2 htb1
      clear hb2 hbox1 ht1 htb1
      go_wp2_with fail
      refine (rgreat19_ok tag _ _ sc S _ (hS.out.below hB2)).mono ?_
      rintro e w3 ⟨⟨v, rfl⟩, hb3⟩
      have hB3 := Below.on hB2 hb3
      have hbox3 := cell_later hb3 hbox2
      have ht3 := cell_later hb3 ht2
      have htb3 := cell_later hb3 htb2
      clear hb3 hbox2 ht2 htb2
      cases v
      · go_wp2_with fail
        refine (rc19asked_at T tag S m cc hcc.out _ _ c _ _ sc _ (hT.out.below hB3) (hS.out.below hB3)).mono ?_
        rintro e w4 ⟨rfl, hb4⟩
        have hB4 := Below.on hB3 hb4
        have hbox4 := cell_later hb4 hbox3
        have ht4 := cell_later hb4 ht3
        have htb4 := cell_later hb4 htb3
        clear hb4 hbox3 ht3 htb3
        go_wp2
        go_ret
        exact ⟨rfl, hB4⟩
      · go_wp2
        go_ret
        exact ⟨rfl, hB3⟩
  · obtain ⟨c1, hc1⟩ : ∃ x, askI T [i] = x := ⟨_, rfl⟩
    have hcz : ¬ c1 = 0 := by rw [← hc1]; exact h0
    have hia := hide hc1
    have hcb : (c1 != 0) = true := by rw [bne_iff_ne]; exact hcz
    clear h0 hc1 hcz
    go_enter Try.func13, Try.ntmps13
    go_wp2_with fail
    refine (alive19_ok _ (hm'.out.below hB0)).mono ?_
    rintro e w1 ⟨rfl, hb1⟩
    have hB1 := Below.on hB0 hb1
    have hbox1 := cell_later hb1 hbox0
    have ht1 := cell_later hb1 ht0
    have htb1 := cell_later hb1 htb0
    clear hb1 hbox0 ht0 htb0
    go_wp2_with fail
    refine (rasked_at T i c1 hia.out _ _ c _ (hT.out.below hB1)).mono ?_
    rintro e w2 ⟨rfl, hb2⟩
    have hB2 := Below.on hB1 hb2
    have hbox2 := cell_later hb2 hbox1
    have ht2 := cell_later hb2 ht1
    have htb2 := cell_later hb2 htb1
    clear hb2 hbox1 ht1 htb1
    go_wp2
    go_ret
    exact ⟨rfl, hB2⟩

set_option maxRecDepth 100000 in
theorem lifted (os : Os) (started : os.Started) (H : Type) (enc : TypeId × Value → H) :
    ReturnsInHanded {} Try.checked os 13 .any (Rows.compoundOrderSpec.pre6 enc Try.prog Try.f13 Rows.compoundOrderRow.domain false) (Rows.compoundOrderSpec.post enc Try.prog Try.f13 false true false false) := by
  refine returnsInHanded_of_change_shaped (C := Try.checked) own started (by kernel_rfl) Try.func13
    (ChangeSpec.witness6 (enc := enc) (C := Try.checked) false ⟨#[], #[.agg #[.slice none 0 0], .int .i64 0, .agg #[.string .empty, .slice none 0 0], .int .i64 0, .slice none 0 0, .int .i64 0], []⟩ 8 (by kernel_rfl) (by kernel_rfl) (by kernel_rfl) (by kernel_rfl)) ?_
  intro W base args ds gs before hval0 hW hcnd hsz hsh _
  have hval : ∀ (j : Nat) t v, Try.f13.params[j]? = some t → args[j]? = some v → Value.okWide Try.prog W .any base t v := hval0
  have hW' := hW
  obtain ⟨p, q, hA0, hV, rfl, hfz, hnd⟩ := hW
  have hA : DataW.TrodAll enc Try.prog W 0 (fun _ => true) true Try.f13.params.toList args.toList ds p := hA0
  rw [Try.params13] at hA hval hsz
  obtain ⟨v0, vs0, d0, ds0, p0, q0, hargs, rfl, rfl, h0, r0⟩ := trodAll_cons hA
  obtain ⟨v1, vs1, d1, ds1, p1, q1, rfl, rfl, rfl, h1, r1⟩ := trodAll_cons r0
  obtain ⟨v2, vs2, d2, ds2, p2, q2, rfl, rfl, rfl, h2, r2⟩ := trodAll_cons r1
  obtain ⟨v3, vs3, d3, ds3, p3, q3, rfl, rfl, rfl, h3, r3⟩ := trodAll_cons r2
  obtain ⟨v4, vs4, d4, ds4, p4, q4, rfl, rfl, rfl, h4, r4⟩ := trodAll_cons r3
  obtain ⟨v5, vs5, d5, ds5, p5, q5, rfl, rfl, rfl, h5, r5⟩ := trodAll_cons r4
  obtain ⟨rfl, rfl, rfl⟩ := trodAll_nil r5
  obtain rfl : args = #[v0, v1, v2, v3, v4, v5] := by cases args; simp_all
  obtain ⟨rfl, rfl⟩ := trodVars_none hV
  have lt0 : ∀ x ∈ p0, x.block < W.heap.size := by obtain ⟨m, hm⟩ := h0; exact DataW.trod_lt m _ _ _ hm
  have k0 := h0
  have lt1 : ∀ x ∈ p1, x.block < W.heap.size := by obtain ⟨m, hm⟩ := h1; exact DataW.trod_lt m _ _ _ hm
  have k1 := h1
  have lt2 : ∀ x ∈ p2, x.block < W.heap.size := by obtain ⟨m, hm⟩ := h2; exact DataW.trod_lt m _ _ _ hm
  have k2 := h2
  have lt3 : ∀ x ∈ p3, x.block < W.heap.size := by obtain ⟨m, hm⟩ := h3; exact DataW.trod_lt m _ _ _ hm
  have k3 := h3
  have lt4 : ∀ x ∈ p4, x.block < W.heap.size := by obtain ⟨m, hm⟩ := h4; exact DataW.trod_lt m _ _ _ hm
  have k4 := h4
  have lt5 : ∀ x ∈ p5, x.block < W.heap.size := by obtain ⟨m, hm⟩ := h5; exact DataW.trod_lt m _ _ _ hm
  have k5 := h5
  obtain ⟨A0, n0, c0, T0, rfl, hT0⟩ := tree_open (hval 0 _ v0 rfl rfl) h0
  obtain ⟨a1, rfl, rfl, rfl, w1⟩ := open_int Try.underlying3 (hval 1 _ v1 rfl rfl) h1
  obtain ⟨tg2, A2, n2, c2, S2, rfl, w2, hC2⟩ := comp_open (hval 2 _ v2 rfl rfl) h2
  obtain ⟨a3, rfl, rfl, rfl, w3⟩ := open_int Try.underlying3 (hval 3 _ v3 rfl rfl) h3
  obtain ⟨A4, n4, c4, xs4, rfl, hL4⟩ := bools_param (hval 4 _ v4 rfl rfl) h4
  obtain ⟨a5, rfl, rfl, rfl, w5⟩ := open_int Try.underlying3 (hval 5 _ v5 rfl rfl) h5
  clear hA0 hval0
  refine (walk A0 n0 c0 T0 a1 tg2 A2 n2 c2 S2 a3 A4 n4 c4 xs4 a5 W hT0  hC2  hL4  (hasMax_of hsh)).mono fun e W' ⟨he, bel⟩ => ?_
  subst he
  exact ⟨_, rfl, _, _, _, [], _, [], hW', trodAll_mk1 (shut_bool Try.underlying4 _), (trodAll_cons_mk (Below.trod laidOut (by kernel_rfl) (of_decide_eq_true (by kernel_rfl)) k0 bel lt0) (trodAll_cons_mk (Below.trod laidOut (by kernel_rfl) (of_decide_eq_true (by kernel_rfl)) k1 bel lt1) (trodAll_cons_mk (Below.trod laidOut (by kernel_rfl) (of_decide_eq_true (by kernel_rfl)) k2 bel lt2) (trodAll_cons_mk (Below.trod laidOut (by kernel_rfl) (of_decide_eq_true (by kernel_rfl)) k3 bel lt3) (trodAll_cons_mk (Below.trod laidOut (by kernel_rfl) (of_decide_eq_true (by kernel_rfl)) k4 bel lt4) (trodAll_cons_mk (Below.trod laidOut (by kernel_rfl) (of_decide_eq_true (by kernel_rfl)) k5 bel lt5) trodAll_mk0)))))), rfl, bel.frame _, fun h => by cases h⟩

theorem proved : Rows.CompoundOrderSaid :=
  OpenClaim.holds_of_wide 13 Try.f13 rfl rfl rfl rfl rfl rfl rfl ⟨rfl, rfl, rfl, rfl, rfl⟩ rfl rfl rfl rfl rfl (by kernel_rfl) Try.func13 (by kernel_rfl)
    (of_decide_eq_true (by kernel_rfl)) (by unfold Func.isWrapper; first | (rw [if_pos (by decide +kernel)]; kernel_rfl) | (rw [if_neg (by decide +kernel)]; exact ⟨rfl, rfl⟩))
    (fun os started H enc _ => lifted os started H enc)
#print axioms proved
end Go.Proofs.Ytbedomopojiehaa.compoundOrder
