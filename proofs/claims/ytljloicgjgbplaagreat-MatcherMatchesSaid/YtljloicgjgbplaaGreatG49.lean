/- Walks: the partners of an element for a combinator, by the reference. Conditions: the tree is good, the element is in it, the combinator is one. -/
import Derived.Test.YtljloicgjgbplaaGreatG11
import Derived.Test.YtljloicgjgbplaaGreatG09
import Derived.Test.YtljloicgjgbplaaGreatG10
import Derived.Deep.QuietTactic
import Derived.BigQuiet
import Derived.Test.YtljloicgjgbplaaGreatG22
import Derived.Test.YtljloicgjgbplaaGreatG13
namespace Go.Proofs.YtljloicgjgbplaaGreat
open Go.RowKit

theorem sibs_pos2 {T : List ANode} (hg : goodB T = true) {i : Nat} (hi : i < T.length) : ∃ x : Nat, posn (sibs T i) i = x ∧ x < (sibs T i).length ∧ prevL T i = ((sibs T i).take x).reverse := by
  by_cases h : par T i < 0
  · have e : sibs T i = [(i : Int)] := if_pos h
    have e2 : prevL T i = [] := if_pos h
    exact ⟨0, by rw [e]; simp [posn], by rw [e]; simp, by rw [e2]; simp⟩
  · have e : sibs T i = kids T (par T i).toNat := if_neg h
    have hm := par_kid hg hi (by omega)
    have h0 := posn_neg.2 hm
    have h1 := (posn_lt (kids T (par T i).toNat) i).2
    obtain ⟨x, hx⟩ := Int.eq_ofNat_of_zero_le h0
    refine ⟨x, by rw [e, hx], by rw [e]; omega, ?_⟩
    rw [e]
    unfold prevL
    rw [if_neg h, hx, Int.toNat_natCast]
theorem down_step {l : List Int} {x q : Nat} (hx : x ≤ l.length) (hq : q < x) : ((l.take x).drop q).reverse = ((l.take x).drop (q + 1)).reverse ++ [ix l q] := by
  have hl : q < (l.take x).length := by rw [List.length_take]; omega
  rw [List.drop_eq_getElem_cons hl, List.reverse_cons]
  congr 2
  rw [ix_get (by omega), List.getElem_take]

def OnlyTop (cm : Int) (q x : Nat) : Prop := cm = 3 → q = x

set_option maxRecDepth 100000 in
set_option maxHeartbeats 2000000 in
theorem rpartners_ok (A : Option Addr) (n c : Nat) (T : List ANode) (i : Nat) (cm : Int) (w : World) (h : IsTree w A n T) (hg : goodB T = true) (hi : i < n) (hc1 : 1 ≤ cm) (hc4 : cm ≤ 4) :
    Calls Tryz.prog 80 #[.agg #[.slice A n c], .int .i64 i, .int .u8 cm] w (MadeInts0 w (prtF T i cm)) := by
  have ho := hide h.2.2.2
  have hT := hide h
  have hl := h.1
  clear h
  have hB0 := below_alloc (Below.refl w.heap.size w) (.cells #[.slice A n c] 24)
  have hbox0 : (w.alloc (.cells #[.slice A n c] 24)).cell? ⟨w.heap.size, 0, none⟩ = some (.slice A n c) := by go_simp
  rcases (by omega : cm = 1 ∨ cm = 2 ∨ cm = 3 ∨ cm = 4) with rfl | rfl | rfl | rfl
  · have hp : prtF T i 1 = anc T (par T i) := rfl
    rw [hp]
    have hg' := hide hg
    clear hp hc1 hc4 hg ho
    go_enter Tryz.func80, Tryz.ntmps80
    go_wp2_with fail
    refine (rup_ok A n c T i _ (hT.out.below hB0) hi hg'.out).mono ?_
    rintro e w1 ⟨A1, c1, rfl, -, hb1, -, -, -, hI⟩
    have hI' := hide hI
    clear hI
    go_wp2
    go_ret
    exact ⟨_, _, rfl, hI'.out, Below.on hB0 hb1⟩
  · have hp : prtF T i 2 = (anc T (par T i)).take 1 := rfl
    rw [hp]
    obtain ⟨b, off, aA, cA, aC, cC, rfl, hbl, -, -, c2, c3, -, hC⟩ := ho.out (by omega)
    have c2' := (old hB0 _ _ hbl).trans (c2 i hi)
    have hpr := good_par hg (by omega : i < T.length)
    have hbr : b < (w.alloc (.cells #[.slice (some ⟨b, off, none⟩) n c] 24)).heap.size := by simp; omega
    by_cases hneg : par T i < 0
    · have e0 : (anc T (par T i)).take 1 = [] := by rw [anc_neg hneg]; rfl
      rw [e0]
      clear hp hc1 hc4 hg ho c2 c3 hC hpr e0
      go_enter Tryz.func80, Tryz.ntmps80
      go_wp2
      go_ret
      exact ⟨none, 0, by simp, isInts_nil _, hB0⟩
    · obtain ⟨p, hpe⟩ := Int.eq_ofNat_of_zero_le (by omega : 0 ≤ par T i)
      have e1 : (anc T (par T i)).take 1 = [(p : Int)] := by rw [hpe, anc_cons hg (by omega)]; rfl
      rw [e1]
      rw [hpe] at c2'
      have j0 : (0 : Int) ≤ (p : Int) := by omega
      clear hp hc1 hc4 hg ho c2 c3 hC hpr e1 hneg hpe
      go_enter Tryz.func80, Tryz.ntmps80
      go_wp2
      go_ret
      exact ⟨_, _, rfl, isInts_build1 _ _ _ _ (by simp), below_alloc hB0 _⟩
  · have hp : prtF T i 3 = (prevL T i).take 1 := rfl
    rw [hp]
    clear hp hc1 hc4
    obtain ⟨x, hx, hxl, hprev⟩ := sibs_pos2 hg (by omega : i < T.length)
    have hlen := sibs_len hg (by omega : i < T.length)
    have hx' := hide hx
    obtain ⟨l, hla⟩ : ∃ l, sibs T i = l := ⟨_, rfl⟩
    rw [hla] at hx' hxl hprev hlen
    have hla' := hide hla
    rw [hprev]
    have hg' := hide hg
    obtain ⟨R, hR⟩ : ∃ R, (((l.take x).reverse).take 1) = R := ⟨_, rfl⟩
    rw [hR]
    have hR' := hide hR
    clear hx hla hprev hg hR ho
    go_enter Tryz.func80, Tryz.ntmps80
    go_wp2_with fail
    refine (rsiblings_ok A n c T i _ (hT.out.below hB0) hi hg'.out).mono ?_
    rintro e w1 ⟨A1, c1, rfl, hI, hb1⟩
    rw [hla'.out] at hI ⊢
    have hI' := hide hI
    have hB1 := Below.on hB0 hb1
    clear hI hb1
    go_wp2_with fail
    refine (rat_ok A1 _ c1 l i _ hI'.out).mono ?_
    rintro e w2 ⟨rfl, rfl⟩
    rw [hx'.out]
    clear hx'
    go_wp2
    go_loopw [7, 9] (fun v s wr => ∃ (q : Nat) (pre : List Int), q ≤ x ∧ OnlyTop 3 q x ∧ s = .int .i64 ((q : Int) - 1) ∧ OwnI wr w1.heap.size v pre ∧ Hid (pre = ((l.take x).drop q).reverse) ∧ Below w1.heap.size w1 wr) (fun _ s _ => (intOf s + 1).toNat)
    case atStart => exact ⟨x, [], Nat.le_refl _, fun _ => rfl, rfl, OwnI.nil _ _, by show _ = _; rw [List.drop_of_length_le (by rw [List.length_take]; omega)]; rfl, Below.refl _ _⟩
    case round =>
      obtain ⟨q, pre, hq, hq3, rfl, hown, hpre, hb⟩ := hrel
      have hq3' := hide hq3
      clear hq3
      have hpl : pre.length ≤ 64 := by rw [hpre.out, List.length_reverse, List.length_drop, List.length_take]; omega
      have hsz : w1.heap.size ≤ wr.heap.size := hb.size
      rcases Nat.eq_zero_or_pos q with rfl | hq0
      · have he : Hid (pre = R) := by
          show _ = _
          rw [hpre.out, ← hR'.out, List.drop_zero]
          have := hq3'.out rfl
          subst this
          rfl
        obtain ⟨A5, c5, rfl, -, -, hI5⟩ := hown.isInts (by omega)
        have hI5' := hide hI5
        clear hI5 hown
        go_wp2
        go_ret
        exact ⟨A5, c5, by rw [he.out]; rfl, by rw [← he.out]; exact hI5'.out, Below.on hB1 hb⟩
      · obtain ⟨p, rfl⟩ : ∃ p, q = p + 1 := ⟨q - 1, by omega⟩
        have ep : ((p + 1 : Nat) : Int) - 1 = (p : Int) := by omega
        rw [ep]
        have hst := hide (down_step (l := l) (x := x) (q := p) (by omega) (by omega))
        obtain ⟨b, off, rfl, hbl, hc⟩ := hI'.out.2.2 (by omega)
        have gp := (old hb _ _ hbl).trans (hc p (by omega))
        clear hc ep hq0
        go_wp2_with (at_builtin; refine wpList_pushI rfl _ _ rfl hown (ix l p) _ rfl rfl (by omega) hsz ?_)
        intro A5 c5 w5 hown5 hgr
        have hB5 := hgr.below (Nat.le_refl _) hb
        have hn5 : Hid (pre ++ [ix l p] = ((l.take x).drop p).reverse) := by show _ = _; rw [hst.out, ← hpre.out]
        have hown5' := hide hown5
        clear hgr hown5 hown gp
        go_wp2
        have he : Hid (pre ++ [ix l p] = R) := by
          show _ = _
          have := hq3'.out rfl
          subst this
          rw [← hR'.out, hpre.out, List.drop_of_length_le (by rw [List.length_take]; omega), take_snoc' l p (by omega), List.reverse_append, ← ix_get (by omega)]
          rfl
        obtain ⟨A6, c6, hv, -, -, hI6⟩ := hown5'.out.isInts (by rw [List.length_append]; simp; omega)
        injection hv with v1 v2 v3
        subst v1 v3
        have hI6' := hide hI6
        clear hI6 hown5' v2
        go_ret
        exact ⟨A5, c5, by rw [← he.out, List.length_append]; rfl, by rw [← he.out]; exact hI6'.out, Below.on hB1 hB5⟩
  · have hp : prtF T i 4 = prevL T i := rfl
    rw [hp]
    clear hp hc1 hc4
    obtain ⟨x, hx, hxl, hprev⟩ := sibs_pos2 hg (by omega : i < T.length)
    have hlen := sibs_len hg (by omega : i < T.length)
    have hx' := hide hx
    obtain ⟨l, hla⟩ : ∃ l, sibs T i = l := ⟨_, rfl⟩
    rw [hla] at hx' hxl hprev hlen
    have hla' := hide hla
    rw [hprev]
    have hg' := hide hg
    obtain ⟨R, hR⟩ : ∃ R, ((l.take x).reverse) = R := ⟨_, rfl⟩
    rw [hR]
    have hR' := hide hR
    clear hx hla hprev hg hR ho
    go_enter Tryz.func80, Tryz.ntmps80
    go_wp2_with fail
    refine (rsiblings_ok A n c T i _ (hT.out.below hB0) hi hg'.out).mono ?_
    rintro e w1 ⟨A1, c1, rfl, hI, hb1⟩
    rw [hla'.out] at hI ⊢
    have hI' := hide hI
    have hB1 := Below.on hB0 hb1
    clear hI hb1
    go_wp2_with fail
    refine (rat_ok A1 _ c1 l i _ hI'.out).mono ?_
    rintro e w2 ⟨rfl, rfl⟩
    rw [hx'.out]
    clear hx'
    go_wp2
    go_loopw [7, 9] (fun v s wr => ∃ (q : Nat) (pre : List Int), q ≤ x ∧ OnlyTop 4 q x ∧ s = .int .i64 ((q : Int) - 1) ∧ OwnI wr w1.heap.size v pre ∧ Hid (pre = ((l.take x).drop q).reverse) ∧ Below w1.heap.size w1 wr) (fun _ s _ => (intOf s + 1).toNat)
    case atStart => exact ⟨x, [], Nat.le_refl _, fun _ => rfl, rfl, OwnI.nil _ _, by show _ = _; rw [List.drop_of_length_le (by rw [List.length_take]; omega)]; rfl, Below.refl _ _⟩
    case round =>
      obtain ⟨q, pre, hq, hq3, rfl, hown, hpre, hb⟩ := hrel
      have hq3' := hide hq3
      clear hq3
      have hpl : pre.length ≤ 64 := by rw [hpre.out, List.length_reverse, List.length_drop, List.length_take]; omega
      have hsz : w1.heap.size ≤ wr.heap.size := hb.size
      rcases Nat.eq_zero_or_pos q with rfl | hq0
      · have he : Hid (pre = R) := by
          show _ = _
          rw [hpre.out, ← hR'.out, List.drop_zero]
          skip
        obtain ⟨A5, c5, rfl, -, -, hI5⟩ := hown.isInts (by omega)
        have hI5' := hide hI5
        clear hI5 hown
        go_wp2
        go_ret
        exact ⟨A5, c5, by rw [he.out]; rfl, by rw [← he.out]; exact hI5'.out, Below.on hB1 hb⟩
      · obtain ⟨p, rfl⟩ : ∃ p, q = p + 1 := ⟨q - 1, by omega⟩
        have ep : ((p + 1 : Nat) : Int) - 1 = (p : Int) := by omega
        rw [ep]
        have hst := hide (down_step (l := l) (x := x) (q := p) (by omega) (by omega))
        obtain ⟨b, off, rfl, hbl, hc⟩ := hI'.out.2.2 (by omega)
        have gp := (old hb _ _ hbl).trans (hc p (by omega))
        clear hc ep hq0
        go_wp2_with (at_builtin; refine wpList_pushI rfl _ _ rfl hown (ix l p) _ rfl rfl (by omega) hsz ?_)
        intro A5 c5 w5 hown5 hgr
        have hB5 := hgr.below (Nat.le_refl _) hb
        have hn5 : Hid (pre ++ [ix l p] = ((l.take x).drop p).reverse) := by show _ = _; rw [hst.out, ← hpre.out]
        have hown5' := hide hown5
        clear hgr hown5 hown gp
        go_wp2
        go_roundw
        case rel => exact ⟨p, _, by omega, fun h => absurd h (by decide), rfl, hown5'.out, hn5, hB5⟩
        case measure => simp [intOf]
end Go.Proofs.YtljloicgjgbplaaGreat
/- Walks: the errors of what is told, by the reference. No condition. -/
namespace Go.Proofs.YtljloicgjgbplaaGreat
open Go.RowKit

end Go.Proofs.YtljloicgjgbplaaGreat
/- Walks: the errors of an element and of what is told, by the reference. No condition. -/
namespace Go.Proofs.YtljloicgjgbplaaGreat
open Go.RowKit

end Go.Proofs.YtljloicgjgbplaaGreat
/- Walks: chapter 22, by the reference. Conditions as each states. -/
namespace Go.Proofs.YtljloicgjgbplaaGreat
open Go.RowKit

theorem filter_succ {l : List Int} (p : Int → Bool) {k : Nat} (h : k < l.length) : (l.take (k + 1)).filter p = (l.take k).filter p ++ if p (ix l k) = true then [ix l k] else [] := by
  rw [take_snoc' _ _ h, List.filter_append, ← ix_get h]
  congr 1
  by_cases hp : p (ix l k) = true
  · rw [if_pos hp, List.filter_cons_of_pos hp]; rfl
  · rw [if_neg hp, List.filter_cons_of_neg hp]; rfl
set_option maxRecDepth 100000 in
set_option maxHeartbeats 2000000 in
theorem rnear_ok (A : Option Addr) (n c : Nat) (T : List ANode) (i : Nat) (ld : Int) (w : World) (h : IsTree w A n T) (hg : goodB T = true) (hi : i < n) (hl1 : 1 ≤ ld) (hl4 : ld ≤ 4) :
    Calls Tryz.prog 150 #[.agg #[.slice A n c], .int .i64 i, .int .u8 ld] w (MadeInts0 w (nearH T i ld)) := by
  have hT := hide h
  have hl := h.1
  clear h
  have hB0 := below_alloc (Below.refl w.heap.size w) (.cells #[.slice A n c] 24)
  have hbox0 : (w.alloc (.cells #[.slice A n c] 24)).cell? ⟨w.heap.size, 0, none⟩ = some (.slice A n c) := by go_simp
  have hil : i < T.length := by omega
  have h0 : askI T [(i : Int)] = 0 := askI_ok hg (by simp; omega)
  obtain ⟨t, ht, htl, hta⟩ := top_nat hg hil
  have hto : topE T i = t := by rw [topE_ok h0, ht]
  have hpl := preT_len hg htl
  have hn64 : T.length ≤ 64 := ((goodB_iff T).1 hg).2.1
  have hfin := near_filter hg hil hl1 hl4
  rw [ht] at hfin
  have hmem := fun x (hx : x ∈ preT T t) => pre_mem hg _ htl hx
  have hpp := fun k (hk : k < (preT T t).length) => filter_succ (fun x => decide ((i : Int) ∈ prtF T x.toNat ld)) (l := preT T t) hk
  obtain ⟨P, hP⟩ : ∃ P, preT T t = P := ⟨_, rfl⟩
  simp only [hP] at hpl hfin hmem hpp
  have hP' := hide hP
  have hfin' := hide hfin
  have hmem' := hide hmem
  have hpp' := hide hpp
  have hto' := hide hto
  have h0' := hide h0
  have hg' := hide hg
  obtain ⟨R, hR⟩ : ∃ R, nearH T i ld = R := ⟨_, rfl⟩
  rw [hR] at hfin' ⊢
  clear hP hfin hmem hpp hto h0 hg hR ht
  go_enter Tryz.func150, Tryz.ntmps150
  go_wp2_with fail
  have hx := rtop_ok _ _ c T i _ (hT.out.below hB0)
  rw [hto'.out, h0'.out] at hx
  refine hx.mono ?_
  clear hx
  rintro e w1 ⟨rfl, hb1⟩
  have hbox1 := cell_later hb1 hbox0
  have hB1 := Below.on hB0 hb1
  go_wp2_with fail
  refine (rwalk_ok A n c T t _ (hT.out.below hB1) (by omega) hg'.out).mono ?_
  rintro e w2 ⟨A2, c2, rfl, hI2, hb2⟩
  rw [hP'.out] at hI2 ⊢
  have hbox2 := cell_later hb2 hbox1
  have hB2 := Below.on hB1 hb2
  have hI2' := hide hI2
  clear hI2 hb2 hbox1
  go_wp2
  go_loopw [7, 11] (fun v s wr => ∃ x : Nat, x ≤ P.length ∧ s = .int .i64 x ∧ OwnI wr w2.heap.size v ((P.take x).filter fun z => decide ((i : Int) ∈ prtF T z.toNat ld)) ∧ Below w2.heap.size w2 wr) (fun _ s _ => P.length - (intOf s).toNat)
  case atStart => exact ⟨0, Nat.zero_le _, rfl, OwnI.nil _ _, Below.refl _ _⟩
  case round =>
    obtain ⟨x, hx, rfl, hown, hb⟩ := hrel
    have hBw := Below.on hB2 hb
    have hbox := cell_later hb hbox2
    have hfl : ((P.take x).filter fun z => decide ((i : Int) ∈ prtF T z.toNat ld)).length ≤ x := Nat.le_trans (List.length_filter_le _ _) (List.length_take_le _ _)
    by_cases hlx : x < P.length
    · obtain ⟨y, hy, hyn, -⟩ := hmem'.out _ (ix_mem hlx)
      obtain ⟨b2, o2, rfl, hbl2, hc2⟩ := hI2'.out.2.2 (by omega)
      have gy := (old hb _ _ hbl2).trans (hc2 x hlx)
      have hps := hpp'.out x hlx
      rw [hy] at gy hps
      simp only [Int.toNat_natCast] at hps
      have hpa := hide (rpartners_ok A n c T y ld wr.drew (hT.out.below (show Below w.heap.size w wr.drew from hBw.drew)) hg'.out (by omega) hl1 hl4)
      have hpn := posn_neg (xs := prtF T y ld) (x := (i : Int))
      obtain ⟨PT, hPT⟩ : ∃ l, prtF T y ld = l := ⟨_, rfl⟩
      simp only [hPT] at hpa hpn hps
      obtain ⟨ps, hpsn⟩ : ∃ z, posn PT i = z := ⟨_, rfl⟩
      rw [hpsn] at hpn
      have hpsn' := hide hpsn
      have x0 : (0 : Int) ≤ (x : Int) := by omega
      have x1 : (x : Int) < (P.length : Int) := by omega
      clear hc2 hy hPT hpsn
      by_cases hm : (i : Int) ∈ PT
      · have hps0 : 0 ≤ ps := hpn.2 hm
        have hps2 : Hid ((P.take (x + 1)).filter (fun z => decide ((i : Int) ∈ prtF T z.toNat ld)) = (P.take x).filter (fun z => decide ((i : Int) ∈ prtF T z.toNat ld)) ++ [(y : Int)]) := by
          show _ = _
          rw [hps, if_pos (decide_eq_true hm)]
        clear hps hpn hm
        go_wp2
        go_region_held3 (fun X => X.cell? ⟨w.heap.size, 0, none⟩ = some (.slice A n c) ∧ X.cell? ⟨b2, o2 + x, none⟩ = some (.int .i64 y)) (first | exact ⟨hbox, gy⟩ | exact ⟨r0, r1⟩ | exact ⟨r2, r3⟩) (first | (go_at_call 80; (with_reducible refine hpa.out.mono ?_); rintro e5 w5 ⟨A5, c5, rfl, hI5, hb5⟩; have hrat := rat_ok A5 PT.length c5 PT i w5 hI5; rw [hpsn'.out] at hrat; have hrat' := hide hrat; clear hrat hI5; have r0 := cell_later hb5 hbox; have r1 := cell_later hb5 gy) | (go_at_call 116; (with_reducible refine hrat'.out.mono ?_); rintro e6 w6 ⟨rfl, rfl⟩; have r2 := r0; have r3 := r1))
        have hb5' := Below.on (w1 := wr.drew) hb.drew hb5
        have hown5 := (show OwnI wr.drew _ _ _ from hown).below hb5
        have hsz5 : w2.heap.size ≤ w5.heap.size := hb5'.size
        clear hown hb5 hpa hrat' r2 r3
        go_wp2_with (at_builtin; refine wpList_pushI rfl _ _ rfl hown5 (y : Int) _ rfl rfl (by omega) hsz5 ?_)
        intro A7 c7 w7 hown7 hgr
        have hB7 := hide (hgr.below (Nat.le_refl _) hb5')
        have hown7' := hide hown7
        clear hgr hown7 hown5 r0 r1
        go_wp2
        go_roundw
        case rel => exact ⟨x + 1, by omega, by go_num, by rw [hps2.out]; exact hown7'.out, hB7.out⟩
        case measure => simp [intOf]; omega
      · have hps0 : ¬ 0 ≤ ps := fun h => hm (hpn.1 h)
        have hps2 : Hid ((P.take (x + 1)).filter (fun z => decide ((i : Int) ∈ prtF T z.toNat ld)) = (P.take x).filter (fun z => decide ((i : Int) ∈ prtF T z.toNat ld))) := by
          show _ = _
          rw [hps, if_neg (by simpa using hm), List.append_nil]
        have d0 : decide (0 ≤ ps) = false := decide_eq_false hps0
        clear hps hpn hm
        go_wp2
        go_region_held3 (fun X => X.cell? ⟨w.heap.size, 0, none⟩ = some (.slice A n c) ∧ X.cell? ⟨b2, o2 + x, none⟩ = some (.int .i64 y)) (first | exact ⟨hbox, gy⟩ | exact ⟨r0, r1⟩ | exact ⟨r2, r3⟩) (first | (go_at_call 80; (with_reducible refine hpa.out.mono ?_); rintro e5 w5 ⟨A5, c5, rfl, hI5, hb5⟩; have hrat := rat_ok A5 PT.length c5 PT i w5 hI5; rw [hpsn'.out] at hrat; have hrat' := hide hrat; clear hrat hI5; have r0 := cell_later hb5 hbox; have r1 := cell_later hb5 gy) | (go_at_call 116; (with_reducible refine hrat'.out.mono ?_); rintro e6 w6 ⟨rfl, rfl⟩; have r2 := r0; have r3 := r1))
        have hb5' := hide (Below.on (w1 := wr.drew) hb.drew hb5)
        have hown5 := hide ((show OwnI wr.drew _ _ _ from hown).below hb5)
        clear hown hb5 hpa hrat' r2 r3 r0 r1
        go_wp2
        go_roundw
        case rel => exact ⟨x + 1, by omega, by go_num, by rw [hps2.out]; exact hown5.out, hb5'.out⟩
        case measure => simp [intOf]; omega
    · have he : Hid ((P.take x).filter (fun z => decide ((i : Int) ∈ prtF T z.toNat ld)) = R) := by
        show _ = _
        rw [List.take_of_length_le (by omega)]
        exact hfin'.out
      have hRl : R.length ≤ 64 := by rw [← he.out]; omega
      rw [he.out] at hown
      obtain ⟨A5, c5, rfl, -, -, hI5⟩ := hown.isInts (by omega)
      have hI5' := hide hI5
      clear hI5 hown
      go_wp2
      go_ret
      exact ⟨A5, c5, rfl, hI5'.out, hBw⟩
end Go.Proofs.YtljloicgjgbplaaGreat
/- Walks: Reach, begins, Has, Match and All of chapter 22, by the reference. Conditions as each states. -/
namespace Go.Proofs.YtljloicgjgbplaaGreat
open Go.RowKit

end Go.Proofs.YtljloicgjgbplaaGreat
/- Walks: Match and All of chapter 22, by the reference. No condition. -/
namespace Go.Proofs.YtljloicgjgbplaaGreat
open Go.RowKit

end Go.Proofs.YtljloicgjgbplaaGreat
