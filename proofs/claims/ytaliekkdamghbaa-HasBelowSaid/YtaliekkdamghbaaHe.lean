/- Walks: chapter 22, by the reference. Conditions as each states. -/
import Derived.Test.YtaliekkdamghbaaHc
import Derived.Test.YtaliekkdamghbaaCy
import Derived.Test.YtaliekkdamghbaaCu
import Derived.Test.YtaliekkdamghbaaOe
namespace Go.Proofs.Ytaliekkdamghbaa
open Go.RowKit

theorem rlead_ok (ld : Int) (w : World) : Calls Try.prog 40 #[.int .u8 ld] w fun r w' => r = .returned (.bool (decide (1 ≤ ld) && decide (ld ≤ 4))) ∧ w = w' := by
  rcases (by omega : ld < 1 ∨ (1 ≤ ld ∧ 4 < ld) ∨ (1 ≤ ld ∧ ld ≤ 4)) with h1 | ⟨h1, h2⟩ | ⟨h1, h2⟩
  · have e : Hid ((decide (1 ≤ ld) && decide (ld ≤ 4)) = false) := by show _ = _; rw [decide_eq_false (by omega)]; rfl
    go_enter Try.func40, Try.ntmps40
    go_wp2
    go_ret
    exact ⟨ret_bool (by rw [e.out] <;> first | rfl | (simp; omega)), rfl⟩
  · have e : Hid ((decide (1 ≤ ld) && decide (ld ≤ 4)) = false) := by show _ = _; rw [decide_eq_false (show ¬ ld ≤ 4 by omega), Bool.and_false]
    go_enter Try.func40, Try.ntmps40
    go_wp2
    go_ret
    exact ⟨ret_bool (by rw [e.out] <;> first | rfl | (simp; omega)), rfl⟩
  · have e : Hid ((decide (1 ≤ ld) && decide (ld ≤ 4)) = true) := by show _ = _; rw [decide_eq_true h1, decide_eq_true h2]; rfl
    go_enter Try.func40, Try.ntmps40
    go_wp2
    go_ret
    exact ⟨ret_bool (by rw [e.out] <;> first | rfl | (simp; omega)), rfl⟩
theorem filter_succ {l : List Int} (p : Int → Bool) {k : Nat} (h : k < l.length) : (l.take (k + 1)).filter p = (l.take k).filter p ++ if p (ix l k) = true then [ix l k] else [] := by
  rw [take_snoc' _ _ h, List.filter_append, ← ix_get h]
  congr 1
  by_cases hp : p (ix l k) = true
  · rw [if_pos hp, List.filter_cons_of_pos hp]; rfl
  · rw [if_neg hp, List.filter_cons_of_neg hp]; rfl
set_option maxRecDepth 100000 in
set_option maxHeartbeats 2000000 in
theorem rnear_ok (A : Option Addr) (n c : Nat) (T : List ANode) (i : Nat) (ld : Int) (w : World) (h : IsTree w A n T) (hg : goodB T = true) (hi : i < n) (hl1 : 1 ≤ ld) (hl4 : ld ≤ 4) :
    Calls Try.prog 60 #[.agg #[.slice A n c], .int .i64 i, .int .u8 ld] w (MadeInts0 w (nearF T i ld)) := by
  have hT := hide h
  have hl := h.1
  clear h
  have hB0 := below_alloc (Below.refl w.heap.size w) (.cells #[.slice A n c] 24)
  have hbox0 : (w.alloc (.cells #[.slice A n c] 24)).cell? ⟨w.heap.size, 0, none⟩ = some (.slice A n c) := by go_simp
  have hil : i < T.length := by omega
  have h0 : askI T [(i : Int)] = 0 := askI_ok hg (by simp; omega)
  obtain ⟨t, ht, htl, hta⟩ := top_nat hg hil
  have hto : topE T i = t := by rw [topE_ok h0, ht]
  have hpl := preT_len hg htl
  have hn64 : T.length ≤ 64 := ((goodB_iff T).1 hg).2.1
  have hfin := near_filter hg hil hl1 hl4
  rw [ht] at hfin
  have hmem := fun x (hx : x ∈ preT T t) => pre_mem hg _ htl hx
  have hpp := fun k (hk : k < (preT T t).length) => filter_succ (fun x => decide ((i : Int) ∈ prtF T x.toNat ld)) (l := preT T t) hk
  obtain ⟨P, hP⟩ : ∃ P, preT T t = P := ⟨_, rfl⟩
  simp only [hP] at hpl hfin hmem hpp
  have hP' := hide hP
  have hfin' := hide hfin
  have hmem' := hide hmem
  have hpp' := hide hpp
  have hto' := hide hto
  have h0' := hide h0
  have hg' := hide hg
  obtain ⟨R, hR⟩ : ∃ R, nearF T i ld = R := ⟨_, rfl⟩
  rw [hR] at hfin' ⊢
  clear hP hfin hmem hpp hto h0 hg hR ht
  go_enter Try.func60, Try.ntmps60
  go_wp2_with fail
  have hx := rtop_ok _ _ c T i _ (hT.out.below hB0)
  rw [hto'.out, h0'.out] at hx
  refine hx.mono ?_
  clear hx
  rintro e w1 ⟨rfl, hb1⟩
  have hbox1 := cell_later hb1 hbox0
  have hB1 := Below.on hB0 hb1
  go_wp2_with fail
  refine (rwalk_ok A n c T t _ (hT.out.below hB1) (by omega) hg'.out).mono ?_
  rintro e w2 ⟨A2, c2, rfl, hI2, hb2⟩
  rw [hP'.out] at hI2 ⊢
  have hbox2 := cell_later hb2 hbox1
  have hB2 := Below.on hB1 hb2
  have hI2' := hide hI2
  clear hI2 hb2 hbox1
  go_wp2
  go_loopw [7, 11] (fun v s wr => ∃ x : Nat, x ≤ P.length ∧ s = .int .i64 x ∧ OwnI wr w2.heap.size v ((P.take x).filter fun z => decide ((i : Int) ∈ prtF T z.toNat ld)) ∧ Below w2.heap.size w2 wr) (fun _ s _ => P.length - (intOf s).toNat)
  case atStart => exact ⟨0, Nat.zero_le _, rfl, OwnI.nil _ _, Below.refl _ _⟩
  case round =>
    obtain ⟨x, hx, rfl, hown, hb⟩ := hrel
    have hBw := Below.on hB2 hb
    have hbox := cell_later hb hbox2
    have hfl : ((P.take x).filter fun z => decide ((i : Int) ∈ prtF T z.toNat ld)).length ≤ x := Nat.le_trans (List.length_filter_le _ _) (List.length_take_le _ _)
    by_cases hlx : x < P.length
    · obtain ⟨y, hy, hyn, -⟩ := hmem'.out _ (ix_mem hlx)
      obtain ⟨b2, o2, rfl, hbl2, hc2⟩ := hI2'.out.2.2 (by omega)
      have gy := (old hb _ _ hbl2).trans (hc2 x hlx)
      have hps := hpp'.out x hlx
      rw [hy] at gy hps
      simp only [Int.toNat_natCast] at hps
      have hpa := hide (rpartners_ok A n c T y ld wr.drew (hT.out.below (show Below w.heap.size w wr.drew from hBw.drew)) hg'.out (by omega) hl1 hl4)
      have hpn := posn_neg (xs := prtF T y ld) (x := (i : Int))
      obtain ⟨PT, hPT⟩ : ∃ l, prtF T y ld = l := ⟨_, rfl⟩
      simp only [hPT] at hpa hpn hps
      obtain ⟨ps, hpsn⟩ : ∃ z, posn PT i = z := ⟨_, rfl⟩
      rw [hpsn] at hpn
      have hpsn' := hide hpsn
      have x0 : (0 : Int) ≤ (x : Int) := by omega
      have x1 : (x : Int) < (P.length : Int) := by omega
      clear hc2 hy hPT hpsn
      by_cases hm : (i : Int) ∈ PT
      · have hps0 : 0 ≤ ps := hpn.2 hm
        have hps2 : Hid ((P.take (x + 1)).filter (fun z => decide ((i : Int) ∈ prtF T z.toNat ld)) = (P.take x).filter (fun z => decide ((i : Int) ∈ prtF T z.toNat ld)) ++ [(y : Int)]) := by
          show _ = _
          rw [hps, if_pos (decide_eq_true hm)]
        clear hps hpn hm
        go_wp2
        go_region_held3 (fun X => X.cell? ⟨w.heap.size, 0, none⟩ = some (.slice A n c) ∧ X.cell? ⟨b2, o2 + x, none⟩ = some (.int .i64 y)) (first | exact ⟨hbox, gy⟩ | exact ⟨r0, r1⟩ | exact ⟨r2, r3⟩) (first | (go_at_call 75; (with_reducible refine hpa.out.mono ?_); rintro e5 w5 ⟨A5, c5, rfl, hI5, hb5⟩; have hrat := rat_ok A5 PT.length c5 PT i w5 hI5; rw [hpsn'.out] at hrat; have hrat' := hide hrat; clear hrat hI5; have r0 := cell_later hb5 hbox; have r1 := cell_later hb5 gy) | (go_at_call 83; (with_reducible refine hrat'.out.mono ?_); rintro e6 w6 ⟨rfl, rfl⟩; have r2 := r0; have r3 := r1))
        have hb5' := Below.on (w1 := wr.drew) hb.drew hb5
        have hown5 := (show OwnI wr.drew _ _ _ from hown).below hb5
        have hsz5 : w2.heap.size ≤ w5.heap.size := hb5'.size
        clear hown hb5 hpa hrat' r2 r3
        go_wp2_with (at_builtin; refine wpList_pushI rfl _ _ rfl hown5 (y : Int) _ rfl rfl (by omega) hsz5 ?_)
        intro A7 c7 w7 hown7 hgr
        have hB7 := hide (hgr.below (Nat.le_refl _) hb5')
        have hown7' := hide hown7
        clear hgr hown7 hown5 r0 r1
        go_wp2
        go_roundw
        case rel => exact ⟨x + 1, by omega, by go_num, by rw [hps2.out]; exact hown7'.out, hB7.out⟩
        case measure => simp [intOf]; omega
      · have hps0 : ¬ 0 ≤ ps := fun h => hm (hpn.1 h)
        have hps2 : Hid ((P.take (x + 1)).filter (fun z => decide ((i : Int) ∈ prtF T z.toNat ld)) = (P.take x).filter (fun z => decide ((i : Int) ∈ prtF T z.toNat ld))) := by
          show _ = _
          rw [hps, if_neg (by simpa using hm), List.append_nil]
        have d0 : decide (0 ≤ ps) = false := decide_eq_false hps0
        clear hps hpn hm
        go_wp2
        go_region_held3 (fun X => X.cell? ⟨w.heap.size, 0, none⟩ = some (.slice A n c) ∧ X.cell? ⟨b2, o2 + x, none⟩ = some (.int .i64 y)) (first | exact ⟨hbox, gy⟩ | exact ⟨r0, r1⟩ | exact ⟨r2, r3⟩) (first | (go_at_call 75; (with_reducible refine hpa.out.mono ?_); rintro e5 w5 ⟨A5, c5, rfl, hI5, hb5⟩; have hrat := rat_ok A5 PT.length c5 PT i w5 hI5; rw [hpsn'.out] at hrat; have hrat' := hide hrat; clear hrat hI5; have r0 := cell_later hb5 hbox; have r1 := cell_later hb5 gy) | (go_at_call 83; (with_reducible refine hrat'.out.mono ?_); rintro e6 w6 ⟨rfl, rfl⟩; have r2 := r0; have r3 := r1))
        have hb5' := hide (Below.on (w1 := wr.drew) hb.drew hb5)
        have hown5 := hide ((show OwnI wr.drew _ _ _ from hown).below hb5)
        clear hown hb5 hpa hrat' r2 r3 r0 r1
        go_wp2
        go_roundw
        case rel => exact ⟨x + 1, by omega, by go_num, by rw [hps2.out]; exact hown5.out, hb5'.out⟩
        case measure => simp [intOf]; omega
    · have he : Hid ((P.take x).filter (fun z => decide ((i : Int) ∈ prtF T z.toNat ld)) = R) := by
        show _ = _
        rw [List.take_of_length_le (by omega)]
        exact hfin'.out
      have hRl : R.length ≤ 64 := by rw [← he.out]; omega
      rw [he.out] at hown
      obtain ⟨A5, c5, rfl, -, -, hI5⟩ := hown.isInts (by omega)
      have hI5' := hide hI5
      clear hI5 hown
      go_wp2
      go_ret
      exact ⟨A5, c5, rfl, hI5'.out, hBw⟩
end Go.Proofs.Ytaliekkdamghbaa
/- Walks: Reach, begins, Has, Match and All of chapter 22, by the reference. Conditions as each states. -/
namespace Go.Proofs.Ytaliekkdamghbaa
open Go.RowKit

set_option maxRecDepth 100000 in
theorem rhReach_ok (A : Option Addr) (n c : Nat) (T : List ANode) (i ld : Int) (w : World) (h : IsTree w A n T) :
    Calls Try.prog 33 #[.agg #[.slice A n c], .int .i64 i, .int .u8 ld] w (MadeIntsR w (rchX T i ld) (rchC T i ld)) := by
  have hT := hide h
  have hl := h.1
  clear h
  have hB0 := below_alloc (Below.refl w.heap.size w) (.cells #[.slice A n c] 24)
  have hbox0 : (w.alloc (.cells #[.slice A n c] 24)).cell? ⟨w.heap.size, 0, none⟩ = some (.slice A n c) := by go_simp
  by_cases h0 : askI T [i] = 0
  · have e2 : rchC T i ld = ldE T ld := if_pos h0
    have hg : goodB T = true := (askI_zero.1 h0).1
    have h0' := hide h0
    by_cases h1 : 1 ≤ ld ∧ ld ≤ 4
    · obtain ⟨hl1, hl4⟩ := h1
      have h1 : ldE T ld = 0 := ldE_zero.2 ⟨hg, hl1, hl4⟩
      have hir := (askI_zero.1 h0).2 i (by simp)
      obtain ⟨j, rfl⟩ := Int.eq_ofNat_of_zero_le hir.1
      have e1 : rchX T j ld = nearF T j ld := by unfold rchX; rw [if_pos h0, if_pos h1, Int.toNat_natCast]
      have hg' := hide hg
      have hj : j < n := by omega
      have hd : Hid ((decide (1 ≤ ld) && decide (ld ≤ 4)) = true) := by show _ = _; rw [decide_eq_true hl1, decide_eq_true hl4]; rfl
      rw [e1, e2, h1]
      clear h0 h1 hg e1 e2
      go_enter Try.func33, Try.ntmps33
      go_wp2_with fail
      have hx := rasked_ok _ _ c T j _ (hT.out.below hB0)
      rw [h0'.out] at hx
      refine hx.mono ?_
      clear hx
      rintro e w1 ⟨rfl, hb1⟩
      have hB1 := Below.on hB0 hb1
      have hbox1 := cell_later hb1 hbox0
      go_wp2_with fail
      have hx := rlead_ok ld w1
      rw [hd.out] at hx
      refine hx.mono ?_
      clear hx
      rintro e w2 ⟨rfl, rfl⟩
      go_wp2_with fail
      refine (rnear_ok A n c T j ld _ (hT.out.below hB1) hg'.out hj hl1 hl4).mono ?_
      rintro e w3 ⟨A3, c3, rfl, hI3, hb3⟩
      have hI3' := hide hI3
      have hB3 := Below.on hB1 hb3
      clear hI3
      go_wp2
      go_ret2
      exact ⟨A3, c3, rfl, hI3'.out, hB3⟩
    · have h2 : ldE T ld = 2 := by unfold ldE; rw [if_pos hg, if_neg h1]
      have e1 : rchX T i ld = [] := by unfold rchX; rw [if_pos h0, if_neg (by rw [h2]; decide)]
      have hd : Hid ((decide (1 ≤ ld) && decide (ld ≤ 4)) = false) := by
        show _ = _
        rw [Bool.eq_false_iff]
        intro h3
        simp only [Bool.and_eq_true, decide_eq_true_eq] at h3
        exact h1 h3
      rw [e1, e2, h2]
      clear h0 h1 h2 e1 e2 hg
      go_enter Try.func33, Try.ntmps33
      go_wp2_with fail
      have hx := rasked_ok _ _ c T i _ (hT.out.below hB0)
      rw [h0'.out] at hx
      refine hx.mono ?_
      clear hx
      rintro e w1 ⟨rfl, hb1⟩
      have hB1 := Below.on hB0 hb1
      go_wp2_with fail
      have hx := rlead_ok ld w1
      rw [hd.out] at hx
      refine hx.mono ?_
      clear hx
      rintro e w2 ⟨rfl, rfl⟩
      go_wp2
      go_ret2
      exact madeIntsR_nil hB1
  · have e1 : rchX T i ld = [] := if_neg h0
    have e2 : rchC T i ld = askI T [i] := if_neg h0
    have h0' : (askI T [i] != 0) = true := by simp [h0]
    rw [e1, e2]
    clear h0 e1 e2
    go_enter Try.func33, Try.ntmps33
    go_wp2_with fail
    refine (rasked_ok _ _ _ T _ _ (hT.out.below hB0)).mono ?_
    rintro e w1 ⟨rfl, hb1⟩
    have hbox1 := cell_later hb1 hbox0
    have hB1 := Below.on hB0 hb1
    go_wp2_with fail
    refine (rasked_ok _ _ _ T _ _ (hT.out.below hB1)).mono ?_
    rintro e w2 ⟨rfl, hb2⟩
    have hbox2 := cell_later hb2 hbox1
    have hB2 := Below.on hB1 hb2
    go_wp2
    go_ret2
    exact madeIntsR_nil hB2

set_option maxRecDepth 100000 in
set_option maxHeartbeats 2000000 in
theorem rbeg_ok (A : Option Addr) (n c m d e0 : Nat) (T : List ANode) (cs : List Int) (H : List (List Bool)) (hg : goodB T = true) (ht : toldB T.length cs H = true) (hm : cs.length = m) : ∀ (q k i : Nat) (B C : Option Addr) (w : World), IsTree w A n T → IsU8 w B m cs → IsBB w C (m + 1) H → i < n → k + q = m →
    Calls Try.prog 85 #[.agg #[.slice A n c], .int .i64 i, .int .i64 k, .slice B m d, .slice C (m + 1) e0] w fun r w' => r = .returned (.bool (begF T cs H q k i)) ∧ Below w.heap.size w w' := by
  have hg' := hide hg
  have hm63 : m ≤ 63 := by have := told_len ht; omega
  have hn64 : T.length ≤ 64 := ((goodB_iff T).1 hg).2.1
  have ht5 := hide ((toldB_iff _ _ _).1 ht).2.2.2.2
  have ht4 := hide ((toldB_iff _ _ _).1 ht).2.2.2.1
  have hm' := hide hm
  have hHl : H.length = m + 1 := by have := told_len ht; omega
  have hHl' := hide hHl
  clear hg ht hm hHl
  intro q
  induction q with
  | zero =>
    intro k i B C w h hcs hH hi hk
    have hHl := hHl'.out
    have hn63 : n ≤ 64 := by have := h.1; omega
    obtain rfl : k = m := by omega
    clear hcs
    have hT := hide h
    have hl := h.1
    clear h
    have hB0 := below_alloc (Below.refl w.heap.size w) (.cells #[.slice A n c] 24)
    have hbox0 : (w.alloc (.cells #[.slice A n c] 24)).cell? ⟨w.heap.size, 0, none⟩ = some (.slice A n c) := by go_simp
    obtain ⟨bh, oh, hA, hC, rfl, hbh, hhc, hhr⟩ := hH.2.2 (by omega)
    have gr := (old hB0 _ _ hbh).trans (hhc k (by omega))
    have hIr := (hhr k (by omega)).1.below hB0
    have hrc1 := (hhr k (by omega)).2.1
    have hrc2 := (hhr k (by omega)).2.2
    have hl1 := ht5.out k (by omega)
    rw [hl1, hl] at gr hIr hrc1
    have hH' := hide hH
    generalize hA k = HA1 at gr hIr
    generalize hC k = HC1 at gr hrc1 hrc2
    obtain ⟨-, -, hro⟩ := hIr
    obtain ⟨b5, o5, rfl, hb5, hc5⟩ := hro (by omega)
    have gx := hc5 i hi
    have hbhu : bh < (w.alloc (.cells #[.slice A n c] 24)).heap.size := Nat.lt_of_lt_of_le hbh hB0.size
    clear hhc hhr hro hc5 hH
    cases hx : bx (rowB H k) i
    · have e : Hid (begF T cs H 0 k i = false) := hx
      rw [hx] at gx
      rw [e.out]
      clear hx hHl
      go_enter Try.func85, Try.ntmps85
      go_wp2
      go_ret
      exact ⟨rfl, hB0⟩
    · have e : Hid (begF T cs H 0 k i = true) := hx
      rw [hx] at gx
      rw [e.out]
      clear hx hHl
      go_enter Try.func85, Try.ntmps85
      go_wp2
      go_ret
      exact ⟨rfl, hB0⟩
  | succ q ih =>
    intro k i B C w h hcs hH hi hk
    have hHl := hHl'.out
    have ih' := hide ih
    have hn63 : n ≤ 64 := by have := h.1; omega
    have hcs' := hide hcs
    clear hcs ih
    have hT := hide h
    have hl := h.1
    clear h
    have hB0 := below_alloc (Below.refl w.heap.size w) (.cells #[.slice A n c] 24)
    have hbox0 : (w.alloc (.cells #[.slice A n c] 24)).cell? ⟨w.heap.size, 0, none⟩ = some (.slice A n c) := by go_simp
    obtain ⟨bh, oh, hA, hC, rfl, hbh, hhc, hhr⟩ := hH.2.2 (by omega)
    have gr := (old hB0 _ _ hbh).trans (hhc k (by omega))
    have hIr := (hhr k (by omega)).1.below hB0
    have hrc1 := (hhr k (by omega)).2.1
    have hrc2 := (hhr k (by omega)).2.2
    have hl1 := ht5.out k (by omega)
    rw [hl1, hl] at gr hIr hrc1
    have hH' := hide hH
    generalize hA k = HA1 at gr hIr
    generalize hC k = HC1 at gr hrc1 hrc2
    obtain ⟨-, -, hro⟩ := hIr
    obtain ⟨b5, o5, rfl, hb5, hc5⟩ := hro (by omega)
    have gx := hc5 i hi
    have hbhu : bh < (w.alloc (.cells #[.slice A n c] 24)).heap.size := Nat.lt_of_lt_of_le hbh hB0.size
    clear hhc hhr hro hc5 hH
    have hst : begF T cs H (q + 1) k i = (bx (rowB H k) i && (nearF T i (ix cs k)).any fun l => begF T cs H q (k + 1) l.toNat) := rfl
    have k0 : ((k : Int) == (m : Int)) = false := by simp; omega
    cases hx : bx (rowB H k) i
    · have e : Hid (begF T cs H (q + 1) k i = false) := by show _ = _; rw [hst, hx]; rfl
      rw [hx] at gx
      rw [e.out]
      clear hx hHl hst
      go_enter Try.func85, Try.ntmps85
      go_wp2
      go_ret
      exact ⟨rfl, hB0⟩
    · rw [hx] at gx
      have hst2 : Hid (begF T cs H (q + 1) k i = (nearF T i (ix cs k)).any fun l => begF T cs H q (k + 1) l.toNat) := by show _ = _; rw [hst, hx]; rfl
      have hnr := fun x hx => near_range hg'.out (i := i) (by omega) (c := ix cs k) (x := x) hx
      obtain ⟨bc, oc, rfl, hbc, hck⟩ := hcs'.out.2.2.2 (by omega)
      have gy := (old hB0 _ _ hbc).trans (hck k (by omega))
      have hy := ht4.out k (by have := hm'.out; omega)
      obtain ⟨y, hye⟩ : ∃ y, ix cs k = y := ⟨_, rfl⟩
      simp only [hye] at gy hy hnr hst2
      have hpa := hide (rnear_ok A n c T i y _ (hT.out.below (show Below w.heap.size w (w.alloc (.cells #[.slice A n c] 24)).drew from hB0.drew)) hg'.out hi hy.1 hy.2)
      obtain ⟨L, hL⟩ : ∃ L, nearF T i y = L := ⟨_, rfl⟩
      simp only [hL] at hpa hnr hst2
      have hnr' := hide hnr
      have hx0 : (0 : Int) ≤ (k : Int) := by omega
      have hx1 : (k : Int) < (m : Int) := by omega
      have hw1 : IntKind.i64.wrap ((k : Int) + 1) = (k : Int) + 1 := IntWalk.i64_in _ (by omega)
      clear hx hst hck hye hL hnr hHl
      rw [hst2.out]
      obtain ⟨rv, hrv⟩ : ∃ rv, (L.any fun l => begF T cs H q (k + 1) l.toNat) = rv := ⟨_, rfl⟩
      rw [hrv]
      have hrv' := hide hrv
      clear hst2 hrv
      go_enter Try.func85, Try.ntmps85
      go_wp2
      go_region_held3 (fun X => X.cell? ⟨w.heap.size, 0, none⟩ = some (.slice A n c) ∧ X.cell? ⟨bc, oc + k, none⟩ = some (.int .u8 y)) (first | exact ⟨hbox0, gy⟩ | exact ⟨r0, r2⟩) (first | (go_at_call 60; (with_reducible refine hpa.out.mono ?_); rintro e5 w5 ⟨A5, c5, rfl, hI5, hb5⟩; have r0 := cell_later hb5 hbox0; have r2 := cell_later hb5 gy))
      have hI5' := hide hI5
      have hB5 : Below w.heap.size w w5 := Below.on (w1 := (w.alloc (.cells #[.slice A n c] 24)).drew) hB0.drew hb5
      have hL63 : L.length ≤ 9223372036854775807 := hI5'.out.2.1
      have hbox5 := r0
      clear hI5 hpa hb5 gy r2 r0
      go_wp2
      go_loopw [12] (fun s wr => ∃ x : Nat, x ≤ L.length ∧ s = .int .i64 x ∧ Hid (∀ j, j < x → begF T cs H q (k + 1) (ix L j).toNat = false) ∧ Below w5.heap.size w5 wr) (fun s _ => L.length - (intOf s).toNat)
      case atStart => exact ⟨0, Nat.zero_le _, rfl, fun j hj => absurd hj (by omega), Below.refl _ _⟩
      case round =>
        obtain ⟨x, hx, rfl, hno, hb⟩ := hrel
        have hbw := cell_later hb hbox5
        have hBw := Below.on hB5 hb
        by_cases hlt : x < L.length
        · obtain ⟨b6, o6, rfl, hb6, hc6⟩ := hI5'.out.2.2 (by omega)
          have gz := (old hb _ _ hb6).trans (hc6 x hlt)
          obtain ⟨zz, hzz, hzn⟩ := hnr'.out _ (ix_mem hlt)
          rw [hzz] at gz
          have hzn' : zz < n := by omega
          have x2 : (0 : Int) ≤ (x : Int) := by omega
          have x3 : (x : Int) < (L.length : Int) := by omega
          have hih := ih'.out (k + 1) zz _ _ wr.drew (hT.out.below (show Below w.heap.size w wr.drew from hBw.drew)) (hcs'.out.below (show Below w.heap.size w wr.drew from hBw.drew)) (hH'.out.below (show Below w.heap.size w wr.drew from hBw.drew)) hzn' (by omega)
          rw [(show ((k + 1 : Nat) : Int) = (k : Int) + 1 by omega)] at hih
          have hzz' := hide hzz
          cases hr : begF T cs H q (k + 1) zz
          · rw [hr] at hih
            have hih' := hide hih
            have hno2 : Hid (∀ j, j < x + 1 → begF T cs H q (k + 1) (ix L j).toNat = false) := by
              intro j hj
              by_cases h : j = x
              · subst h; rw [hzz'.out, Int.toNat_natCast]; exact hr
              · exact hno.out j (by omega)
            clear hc6 hzz hr hih
            go_wp2
            go_region_held3 (fun X => X.cell? ⟨w.heap.size, 0, none⟩ = some (.slice A n c) ∧ X.cell? ⟨b6, o6 + x, none⟩ = some (.int .i64 zz)) (first | exact ⟨hbw, gz⟩ | exact ⟨r0, r2⟩) (first | (go_at_call 85; (with_reducible refine hih'.out.mono ?_); rintro e7 w7 ⟨rfl, hb7⟩; have r0 := cell_later hb7 hbw; have r2 := cell_later hb7 gz))
            have hb7' := hide (Below.on (w1 := wr.drew) hb.drew hb7)
            clear hb7 r0 r2
            go_wp2
            go_roundw
            case rel => exact ⟨x + 1, by omega, by go_num, hno2.out, hb7'.out⟩
            case measure => simp [intOf]; omega
          · rw [hr] at hih
            have hih' := hide hih
            have hrt : Hid (rv = true) := by
              show _ = _
              rw [← hrv'.out, List.any_eq_true]
              exact ⟨_, ix_mem hlt, by rw [hzz, Int.toNat_natCast]; exact hr⟩
            clear hc6 hzz hr hih
            go_wp2
            go_region_held3 (fun X => X.cell? ⟨w.heap.size, 0, none⟩ = some (.slice A n c) ∧ X.cell? ⟨b6, o6 + x, none⟩ = some (.int .i64 zz)) (first | exact ⟨hbw, gz⟩ | exact ⟨r0, r2⟩) (first | (go_at_call 85; (with_reducible refine hih'.out.mono ?_); rintro e7 w7 ⟨rfl, hb7⟩; have r0 := cell_later hb7 hbw; have r2 := cell_later hb7 gz))
            have hb7' := hide (Below.on (w1 := wr.drew) hBw.drew hb7)
            clear hb7 r0 r2
            go_wp2
            go_ret
            exact ⟨ret_bool hrt.out.symm, hb7'.out⟩
        · have hrt : Hid (rv = false) := by
            show _ = _
            rw [← hrv'.out, List.any_eq_false]
            intro z hz
            obtain ⟨j, hj, rfl⟩ := mem_ix hz
            rw [hno.out j (by omega)]
            decide
          go_wp2
          go_ret
          exact ⟨ret_bool hrt.out.symm, hBw⟩
set_option maxRecDepth 100000 in
set_option maxHeartbeats 2000000 in
theorem rhas_ok (A : Option Addr) (n c m d e0 : Nat) (T : List ANode) (cs : List Int) (H : List (List Bool)) (hg : goodB T = true) (ht : toldB T.length cs H = true) (i : Nat) (ld : Int) (B C : Option Addr) (w : World) (h : IsTree w A n T) (hcs : IsU8 w B m cs) (hH : IsBB w C (m + 1) H) (hi : i < n) (hl1 : 1 ≤ ld) (hl4 : ld ≤ 4) :
    Calls Try.prog 62 #[.agg #[.slice A n c], .int .i64 i, .int .u8 ld, .slice B m d, .slice C (m + 1) e0] w fun r w' => r = .returned (.bool (hasF T i ld cs H)) ∧ Below w.heap.size w w' := by
  have hml := hcs.1
  have hn64 : T.length ≤ 64 := ((goodB_iff T).1 hg).2.1
  have hcs' := hide hcs
  have hH' := hide hH
  clear hcs hH
  have hT := hide h
  have hl := h.1
  clear h
  have hB0 := below_alloc (Below.refl w.heap.size w) (.cells #[.slice A n c] 24)
  have hbox0 : (w.alloc (.cells #[.slice A n c] 24)).cell? ⟨w.heap.size, 0, none⟩ = some (.slice A n c) := by go_simp
  have hst := has_beg hg ht (i := i) (c := ld) (by omega)
  have hnr := fun x hx => near_range hg (i := i) (by omega) (c := ld) (x := x) hx
  have ih' := hide (rbeg_ok A n c m d e0 T cs H hg ht hml m)
  have hg' := hide hg
  obtain ⟨L, hL⟩ : ∃ L, nearF T i ld = L := ⟨_, rfl⟩
  simp only [hL] at hnr hst
  rw [hml] at hst
  have hnr' := hide hnr
  have hL' := hide hL
  rw [hst]
  obtain ⟨rv, hrv⟩ : ∃ rv, (L.any fun l => begF T cs H m 0 l.toNat) = rv := ⟨_, rfl⟩
  rw [hrv]
  have hrv' := hide hrv
  clear hst hrv hnr hL hg ht hml
  go_enter Try.func62, Try.ntmps62
  go_wp2_with fail
  refine (rnear_ok A n c T i ld _ (hT.out.below hB0) hg'.out hi hl1 hl4).mono ?_
  rintro e5 w5 ⟨A5, c5, rfl, hI5, hb5⟩
  rw [hL'.out] at hI5 ⊢
  have hI5' := hide hI5
  have hB5 := Below.on hB0 hb5
  have hL63 : L.length ≤ 9223372036854775807 := hI5'.out.2.1
  have hbox5 := cell_later hb5 hbox0
  clear hI5 hb5
  go_wp2
  go_loopw [12] (fun s wr => ∃ x : Nat, x ≤ L.length ∧ s = .int .i64 x ∧ Hid (∀ j, j < x → begF T cs H m 0 (ix L j).toNat = false) ∧ Below w5.heap.size w5 wr) (fun s _ => L.length - (intOf s).toNat)
  case atStart => exact ⟨0, Nat.zero_le _, rfl, fun j hj => absurd hj (by omega), Below.refl _ _⟩
  case round =>
    obtain ⟨x, hx, rfl, hno, hb⟩ := hrel
    have hbw := cell_later hb hbox5
    have hBw := Below.on hB5 hb
    by_cases hlt : x < L.length
    · obtain ⟨b6, o6, rfl, hb6, hc6⟩ := hI5'.out.2.2 (by omega)
      have gz := (old hb _ _ hb6).trans (hc6 x hlt)
      obtain ⟨zz, hzz, hzn⟩ := hnr'.out _ (ix_mem hlt)
      rw [hzz] at gz
      have hzn' : zz < n := by omega
      have x2 : (0 : Int) ≤ (x : Int) := by omega
      have x3 : (x : Int) < (L.length : Int) := by omega
      have hih := ih'.out 0 zz _ _ wr.drew (hT.out.below (show Below w.heap.size w wr.drew from hBw.drew)) (hcs'.out.below (show Below w.heap.size w wr.drew from hBw.drew)) (hH'.out.below (show Below w.heap.size w wr.drew from hBw.drew)) hzn' (by omega)
      rw [(show ((0 : Nat) : Int) = 0 from rfl)] at hih
      have hzz' := hide hzz
      cases hr : begF T cs H m 0 zz
      · rw [hr] at hih
        have hih' := hide hih
        have hno2 : Hid (∀ j, j < x + 1 → begF T cs H m 0 (ix L j).toNat = false) := by
          intro j hj
          by_cases h : j = x
          · subst h; rw [hzz'.out, Int.toNat_natCast]; exact hr
          · exact hno.out j (by omega)
        clear hc6 hzz hr hih
        go_wp2
        go_region_held3 (fun X => X.cell? ⟨w.heap.size, 0, none⟩ = some (.slice A n c) ∧ X.cell? ⟨b6, o6 + x, none⟩ = some (.int .i64 zz)) (first | exact ⟨hbw, gz⟩ | exact ⟨r0, r2⟩) (first | (go_at_call 85; (with_reducible refine hih'.out.mono ?_); rintro e7 w7 ⟨rfl, hb7⟩; have r0 := cell_later hb7 hbw; have r2 := cell_later hb7 gz))
        have hb7' := hide (Below.on (w1 := wr.drew) hb.drew hb7)
        clear hb7 r0 r2
        go_wp2
        go_roundw
        case rel => exact ⟨x + 1, by omega, by go_num, hno2.out, hb7'.out⟩
        case measure => simp [intOf]; omega
      · rw [hr] at hih
        have hih' := hide hih
        have hrt : Hid (rv = true) := by
          show _ = _
          rw [← hrv'.out, List.any_eq_true]
          exact ⟨_, ix_mem hlt, by rw [hzz, Int.toNat_natCast]; exact hr⟩
        clear hc6 hzz hr hih
        go_wp2
        go_region_held3 (fun X => X.cell? ⟨w.heap.size, 0, none⟩ = some (.slice A n c) ∧ X.cell? ⟨b6, o6 + x, none⟩ = some (.int .i64 zz)) (first | exact ⟨hbw, gz⟩ | exact ⟨r0, r2⟩) (first | (go_at_call 85; (with_reducible refine hih'.out.mono ?_); rintro e7 w7 ⟨rfl, hb7⟩; have r0 := cell_later hb7 hbw; have r2 := cell_later hb7 gz))
        have hb7' := hide (Below.on (w1 := wr.drew) hBw.drew hb7)
        clear hb7 r0 r2
        go_wp2
        go_ret
        exact ⟨ret_bool hrt.out.symm, hb7'.out⟩
    · have hrt : Hid (rv = false) := by
        show _ = _
        rw [← hrv'.out, List.any_eq_false]
        intro z hz
        obtain ⟨j, hj, rfl⟩ := mem_ix hz
        rw [hno.out j (by omega)]
        decide
      go_wp2
      go_ret
      exact ⟨ret_bool hrt.out.symm, hBw⟩
end Go.Proofs.Ytaliekkdamghbaa
/- Walks: Match and All of chapter 22, by the reference. No condition. -/
namespace Go.Proofs.Ytaliekkdamghbaa
open Go.RowKit

set_option maxRecDepth 100000 in
set_option maxHeartbeats 1000000 in
theorem rhMatch_ok (A B C : Option Addr) (n c m d k e : Nat) (T : List ANode) (i ld : Int) (cs : List Int) (H : List (List Bool)) (w : World) (h : IsTree w A n T) (hcs : IsU8 w B m cs) (hH : IsBB w C k H) :
    Calls Try.prog 35 #[.agg #[.slice A n c], .int .i64 i, .int .u8 ld, .slice B m d, .slice C k e] w fun r w' => r = .returned (.tuple #[.bool (hmV T i ld cs H), .int .i64 (hmE T i ld cs H)]) ∧ Below w.heap.size w w' := by
  have hcs' := hide hcs
  have hH' := hide hH
  have hml := hcs.1
  have hkl := hH.1
  clear hcs hH
  have hT := hide h
  have hl := h.1
  clear h
  have hB0 := below_alloc (Below.refl w.heap.size w) (.cells #[.slice A n c] 24)
  have hbox0 : (w.alloc (.cells #[.slice A n c] 24)).cell? ⟨w.heap.size, 0, none⟩ = some (.slice A n c) := by go_simp
  by_cases h0 : rchC T i ld = 0
  · have h0' := hide h0
    have e1 : hmE T i ld cs H = cchk T cs H := if_pos h0
    by_cases h1 : cchk T cs H = 0
    · obtain ⟨hg, hir, hl1, hl4⟩ := rchC_zero.1 h0
      obtain ⟨-, ht⟩ := cchk_zero.1 h1
      obtain ⟨ht1, ht2⟩ := told_len ht
      obtain ⟨j, rfl⟩ := Int.eq_ofNat_of_zero_le hir.1
      have hj : j < n := by omega
      obtain rfl : k = m + 1 := by omega
      have hq : Hid (hmV T j ld cs H = hasF T j ld cs H) := by show _ = _; unfold hmV; rw [e1, if_pos h1, Int.toNat_natCast]
      have h1' := hide h1
      have hg' := hide hg
      have ht' := hide ht
      rw [e1, h1, hq.out]
      clear h0 h1 hg ht hir e1
      go_enter Try.func35, Try.ntmps35
      go_wp2_with fail
      have hx := rhReach_ok _ _ c T j ld _ (hT.out.below hB0)
      rw [h0'.out] at hx
      refine hx.mono ?_
      clear hx
      rintro e1 w1 ⟨A1, c1, rfl, -, hb1⟩
      have hbox1 := cell_later hb1 hbox0
      have hB1 := Below.on hB0 hb1
      go_wp2_with fail
      have hx := rccheck_ok _ _ _ _ c _ d _ e T cs H _ (hT.out.below hB1) (hcs'.out.below hB1) (hH'.out.below hB1)
      rw [h1'.out] at hx
      refine hx.mono ?_
      clear hx
      rintro e2 w2 ⟨rfl, hb2⟩
      have hbox2 := cell_later hb2 hbox1
      have hB2 := Below.on hB1 hb2
      go_wp2_with fail
      refine (rhas_ok A n c m d e T cs H hg'.out ht'.out j ld _ _ _ (hT.out.below hB2) (hcs'.out.below hB2) (hH'.out.below hB2) hj hl1 hl4).mono ?_
      rintro e3 w3 ⟨rfl, hb3⟩
      go_wp2
      go_ret2
      exact ⟨rfl, Below.on hB2 hb3⟩
    · have hq : Hid (hmV T i ld cs H = false) := by show _ = _; unfold hmV; rw [e1, if_neg h1]
      have h1' : (cchk T cs H != 0) = true := by simp [h1]
      rw [e1, hq.out]
      clear h0 h1 e1
      go_enter Try.func35, Try.ntmps35
      go_wp2_with fail
      have hx := rhReach_ok _ _ c T i ld _ (hT.out.below hB0)
      rw [h0'.out] at hx
      refine hx.mono ?_
      clear hx
      rintro e1 w1 ⟨A1, c1, rfl, -, hb1⟩
      have hbox1 := cell_later hb1 hbox0
      have hB1 := Below.on hB0 hb1
      go_wp2_with fail
      refine (rccheck_ok _ _ _ _ _ _ _ _ _ T cs H _ (hT.out.below hB1) (hcs'.out.below hB1) (hH'.out.below hB1)).mono ?_
      rintro e w2 ⟨rfl, hb2⟩
      have hbox2 := cell_later hb2 hbox1
      have hB2 := Below.on hB1 hb2
      go_wp2_with fail
      refine (rccheck_ok _ _ _ _ _ _ _ _ _ T cs H _ (hT.out.below hB2) (hcs'.out.below hB2) (hH'.out.below hB2)).mono ?_
      rintro e w3 ⟨rfl, hb3⟩
      have hbox3 := cell_later hb3 hbox2
      have hB3 := Below.on hB2 hb3
      go_wp2
      go_ret2
      exact ⟨rfl, hB3⟩
  · have e1 : hmE T i ld cs H = rchC T i ld := if_neg h0
    have hq : Hid (hmV T i ld cs H = false) := by show _ = _; unfold hmV; rw [e1, if_neg h0]
    have h0' : (rchC T i ld != 0) = true := by simp [h0]
    rw [e1, hq.out]
    clear h0 e1
    go_enter Try.func35, Try.ntmps35
    go_wp2_with fail
    refine (rhReach_ok _ _ c T i ld _ (hT.out.below hB0)).mono ?_
    rintro e1 w1 ⟨A1, c1, rfl, -, hb1⟩
    have hB1 := Below.on hB0 hb1
    go_wp2
    go_ret2
    exact ⟨rfl, hB1⟩
set_option maxRecDepth 100000 in
set_option maxHeartbeats 1000000 in
theorem rhAll_ok (A B C : Option Addr) (n c m d k e : Nat) (T : List ANode) (ld : Int) (cs : List Int) (H : List (List Bool)) (w : World) (h : IsTree w A n T) (hcs : IsU8 w B m cs) (hH : IsBB w C k H) :
    Calls Try.prog 37 #[.agg #[.slice A n c], .int .u8 ld, .slice B m d, .slice C k e] w (MadeBoolsE w (haV T ld cs H) (haE T ld cs H)) := by
  have hn63 : n ≤ 9223372036854775807 := h.2.1
  have hcs' := hide hcs
  have hH' := hide hH
  have hml := hcs.1
  have hkl := hH.1
  clear hcs hH
  have hT := hide h
  have hl := h.1
  clear h
  have hB0 := below_alloc (Below.refl w.heap.size w) (.cells #[.slice A n c] 24)
  have hbox0 : (w.alloc (.cells #[.slice A n c] 24)).cell? ⟨w.heap.size, 0, none⟩ = some (.slice A n c) := by go_simp
  by_cases hg : goodB T = true
  · have hc0 : Hid (chk T = 0) := chk_ok hg
    by_cases h1 : 1 ≤ ld ∧ ld ≤ 4
    · obtain ⟨hl1, hl4⟩ := h1
      have hd : Hid ((decide (1 ≤ ld) && decide (ld ≤ 4)) = true) := by show _ = _; rw [decide_eq_true hl1, decide_eq_true hl4]; rfl
      have h0 : ldE T ld = 0 := ldE_zero.2 ⟨hg, hl1, hl4⟩
      have e1 : haE T ld cs H = cchk T cs H := if_pos h0
      by_cases h1 : cchk T cs H = 0
      · obtain ⟨-, ht⟩ := cchk_zero.1 h1
        obtain ⟨ht1, ht2⟩ := told_len ht
        obtain rfl : k = m + 1 := by omega
        have hq : Hid (haV T ld cs H = hasL T ld cs H) := by show _ = _; unfold haV; rw [e1, if_pos h1]
        have h1' := hide h1
        have hg' := hide hg
        have ht' := hide ht
        have hrl := hide (hasL_len T ld cs H)
        have hts := hide (fun q (hq : q < n) => take_hasL T ld cs H (q := q) (by omega))
        have hn64 : T.length ≤ 64 := ((goodB_iff T).1 hg).2.1
        rw [e1, h1, hq.out]
        clear h0 h1 hg ht e1
        go_enter Try.func37, Try.ntmps37
        go_wp2_with fail
        have hx := rcheck_ok _ _ c T _ (hT.out.below hB0)
        rw [hc0.out] at hx
        refine hx.mono ?_
        clear hx
        rintro e1 w1 ⟨rfl, hb1⟩
        have hbox1 := cell_later hb1 hbox0
        have hB1 := Below.on hB0 hb1
        go_wp2_with fail
        have hx := rlead_ok ld w1
        rw [hd.out] at hx
        refine hx.mono ?_
        clear hx
        rintro e w1' ⟨rfl, rfl⟩
        go_wp2_with fail
        have hx := rccheck_ok _ _ _ _ c _ d _ e T cs H _ (hT.out.below hB1) (hcs'.out.below hB1) (hH'.out.below hB1)
        rw [h1'.out] at hx
        refine hx.mono ?_
        clear hx
        rintro e2 w2 ⟨rfl, hb2⟩
        have hbox2 := cell_later hb2 hbox1
        have hB2 := Below.on hB1 hb2
        go_wp2
        go_loopw [10, 11] (fun v s wr => ∃ q : Nat, q ≤ n ∧ s = .int .i64 q ∧ OwnB wr w2.heap.size v ((hasL T ld cs H).take q) ∧ Below w2.heap.size w2 wr) (fun _ s _ => n - (intOf s).toNat)
        case atStart => exact ⟨0, Nat.zero_le _, rfl, by rw [List.take_zero]; exact OwnB.nil _ _, Below.refl _ _⟩
        case round =>
          obtain ⟨q, hq, rfl, hown, hb⟩ := hrel
          have hbx := cell_later hb hbox2
          have hBw := Below.on hB2 hb
          have hlq : ((hasL T ld cs H).take q).length ≤ 64 := by rw [List.length_take, hrl.out]; omega
          by_cases hlt : q < n
          · have hx := hide (rhas_ok A n c m d e T cs H hg'.out ht'.out q ld B C wr (hT.out.below hBw) (hcs'.out.below hBw) (hH'.out.below hBw) hlt hl1 hl4)
            obtain ⟨rb, hrb⟩ : ∃ rb, hasF T q ld cs H = rb := ⟨_, rfl⟩
            have hts1 := hts.out q hlt
            rw [hrb] at hx hts1
            have hts1' := hide hts1
            clear hrb hts1
            go_wp2_with fail
            (with_reducible refine hx.out.mono ?_)
            rintro e3 w3 ⟨rfl, hb3⟩
            have hown3 := hown.below hb3
            have hB3 := hide (Below.on hb hb3)
            have hsz3 : w2.heap.size ≤ w3.heap.size := hB3.out.size
            clear hown hb3
            go_wp2_with (at_builtin; refine wpList_pushB rfl _ _ rfl hown3 rb _ rfl rfl (by omega) hsz3 ?_)
            intro A5 c5 w5 hown5 hgr
            have hB5 := hide (hgr.below (Nat.le_refl _) hB3.out)
            have hown5' := hide hown5
            clear hgr hown5 hown3
            go_wp2
            go_roundw
            case rel => exact ⟨q + 1, by omega, by go_num, by rw [hts1'.out]; exact hown5'.out, hB5.out⟩
            case measure => simp [intOf]; omega
          · have he : Hid ((hasL T ld cs H).take q = hasL T ld cs H) := List.take_of_length_le (by rw [hrl.out]; omega)
            rw [he.out] at hown
            obtain ⟨A5, c5, rfl, h51, h52, hI5⟩ := hown.isBools (by rw [hrl.out]; omega)
            have hI5' := hide hI5
            clear hI5 hown
            go_wp2
            go_ret2
            exact ⟨A5, c5, rfl, hI5'.out, h51, h52, hBw⟩
      · have hq : Hid (haV T ld cs H = []) := by show _ = _; unfold haV; rw [e1, if_neg h1]
        have h1' : (cchk T cs H != 0) = true := by simp [h1]
        rw [e1, hq.out]
        clear h0 h1 e1 hg
        go_enter Try.func37, Try.ntmps37
        go_wp2_with fail
        have hx := rcheck_ok _ _ c T _ (hT.out.below hB0)
        rw [hc0.out] at hx
        refine hx.mono ?_
        clear hx
        rintro e1 w1 ⟨rfl, hb1⟩
        have hbox1 := cell_later hb1 hbox0
        have hB1 := Below.on hB0 hb1
        go_wp2_with fail
        have hx := rlead_ok ld w1
        rw [hd.out] at hx
        refine hx.mono ?_
        clear hx
        rintro e w1' ⟨rfl, rfl⟩
        go_wp2_with fail
        refine (rccheck_ok _ _ _ _ _ _ _ _ _ T cs H _ (hT.out.below hB1) (hcs'.out.below hB1) (hH'.out.below hB1)).mono ?_
        rintro e w2 ⟨rfl, hb2⟩
        have hbox2 := cell_later hb2 hbox1
        have hB2 := Below.on hB1 hb2
        go_wp2_with fail
        refine (rccheck_ok _ _ _ _ _ _ _ _ _ T cs H _ (hT.out.below hB2) (hcs'.out.below hB2) (hH'.out.below hB2)).mono ?_
        rintro e w3 ⟨rfl, hb3⟩
        have hbox3 := cell_later hb3 hbox2
        have hB3 := Below.on hB2 hb3
        go_wp2
        go_ret2
        exact madeBoolsE_nil hB3
    · have hd : Hid ((decide (1 ≤ ld) && decide (ld ≤ 4)) = false) := by
        show _ = _
        rw [Bool.eq_false_iff]
        intro h3
        simp only [Bool.and_eq_true, decide_eq_true_eq] at h3
        exact h1 h3
      have h2 : ldE T ld = 2 := by unfold ldE; rw [if_pos hg, if_neg h1]
      have e1 : haE T ld cs H = 2 := by unfold haE; rw [if_neg (by rw [h2]; decide), h2]
      have e2 : haV T ld cs H = [] := by unfold haV; rw [e1, if_neg (by decide)]
      rw [e1, e2]
      clear h1 h2 e1 e2 hg
      go_enter Try.func37, Try.ntmps37
      go_wp2_with fail
      have hx := rcheck_ok _ _ c T _ (hT.out.below hB0)
      rw [hc0.out] at hx
      refine hx.mono ?_
      clear hx
      rintro e1 w1 ⟨rfl, hb1⟩
      have hbox1 := cell_later hb1 hbox0
      have hB1 := Below.on hB0 hb1
      go_wp2_with fail
      have hx := rlead_ok ld w1
      rw [hd.out] at hx
      refine hx.mono ?_
      clear hx
      rintro e w1' ⟨rfl, rfl⟩
      go_wp2
      go_ret2
      exact madeBoolsE_nil hB1
  · have hc0 : chk T = 8 := chk_bad hg
    have h2 : ldE T ld = 8 := if_neg hg
    have e1 : haE T ld cs H = 8 := by unfold haE; rw [if_neg (by rw [h2]; decide), h2]
    have e2 : haV T ld cs H = [] := by unfold haV; rw [e1, if_neg (by decide)]
    rw [e1, e2]
    clear h2 e1 e2 hg
    go_enter Try.func37, Try.ntmps37
    go_wp2_with fail
    refine (rcheck_ok _ _ _ T _ (hT.out.below hB0)).mono ?_
    rintro e w1 ⟨rfl, hb1⟩
    have hbox1 := cell_later hb1 hbox0
    have hB1 := Below.on hB0 hb1
    go_wp2_with fail
    refine (rcheck_ok _ _ _ T _ (hT.out.below hB1)).mono ?_
    rintro e w2 ⟨rfl, hb2⟩
    have hbox2 := cell_later hb2 hbox1
    have hB2 := Below.on hB1 hb2
    go_wp2
    go_ret2
    exact madeBoolsE_nil hB2
end Go.Proofs.Ytaliekkdamghbaa
