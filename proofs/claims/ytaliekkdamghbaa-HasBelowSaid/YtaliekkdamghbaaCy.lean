/- Walks: the partners of an element for a combinator, by the reference. Conditions: the tree is good, the element is in it, the combinator is one. -/
import Derived.Test.YtaliekkdamghbaaCp
import Derived.Test.YtaliekkdamghbaaOb
namespace Go.Proofs.Ytaliekkdamghbaa
open Go.RowKit

theorem sibs_pos2 {T : List ANode} (hg : goodB T = true) {i : Nat} (hi : i < T.length) : ∃ x : Nat, posn (sibs T i) i = x ∧ x < (sibs T i).length ∧ prevL T i = ((sibs T i).take x).reverse := by
  by_cases h : par T i < 0
  · have e : sibs T i = [(i : Int)] := if_pos h
    have e2 : prevL T i = [] := if_pos h
    exact ⟨0, by rw [e]; simp [posn], by rw [e]; simp, by rw [e2]; simp⟩
  · have e : sibs T i = kids T (par T i).toNat := if_neg h
    have hm := par_kid hg hi (by omega)
    have h0 := posn_neg.2 hm
    have h1 := (posn_lt (kids T (par T i).toNat) i).2
    obtain ⟨x, hx⟩ := Int.eq_ofNat_of_zero_le h0
    refine ⟨x, by rw [e, hx], by rw [e]; omega, ?_⟩
    rw [e]
    unfold prevL
    rw [if_neg h, hx, Int.toNat_natCast]
theorem down_step {l : List Int} {x q : Nat} (hx : x ≤ l.length) (hq : q < x) : ((l.take x).drop q).reverse = ((l.take x).drop (q + 1)).reverse ++ [ix l q] := by
  have hl : q < (l.take x).length := by rw [List.length_take]; omega
  rw [List.drop_eq_getElem_cons hl, List.reverse_cons]
  congr 2
  rw [ix_get (by omega), List.getElem_take]

def OnlyTop (cm : Int) (q x : Nat) : Prop := cm = 3 → q = x

set_option maxRecDepth 100000 in
set_option maxHeartbeats 2000000 in
theorem rpartners_ok (A : Option Addr) (n c : Nat) (T : List ANode) (i : Nat) (cm : Int) (w : World) (h : IsTree w A n T) (hg : goodB T = true) (hi : i < n) (hc1 : 1 ≤ cm) (hc4 : cm ≤ 4) :
    Calls Try.prog 75 #[.agg #[.slice A n c], .int .i64 i, .int .u8 cm] w (MadeInts0 w (prtF T i cm)) := by
  have ho := hide h.2.2.2
  have hT := hide h
  have hl := h.1
  clear h
  have hB0 := below_alloc (Below.refl w.heap.size w) (.cells #[.slice A n c] 24)
  have hbox0 : (w.alloc (.cells #[.slice A n c] 24)).cell? ⟨w.heap.size, 0, none⟩ = some (.slice A n c) := by go_simp
  rcases (by omega : cm = 1 ∨ cm = 2 ∨ cm = 3 ∨ cm = 4) with rfl | rfl | rfl | rfl
  · have hp : prtF T i 1 = anc T (par T i) := rfl
    rw [hp]
    have hg' := hide hg
    clear hp hc1 hc4 hg ho
    go_enter Try.func75, Try.ntmps75
    go_wp2_with fail
    refine (rup_ok A n c T i _ (hT.out.below hB0) hi hg'.out).mono ?_
    rintro e w1 ⟨A1, c1, rfl, -, hb1, -, -, -, hI⟩
    have hI' := hide hI
    clear hI
    go_wp2
    go_ret
    exact ⟨_, _, rfl, hI'.out, Below.on hB0 hb1⟩
  · have hp : prtF T i 2 = (anc T (par T i)).take 1 := rfl
    rw [hp]
    obtain ⟨b, off, aA, cA, aC, cC, rfl, hbl, -, -, c2, c3, -, hC⟩ := ho.out (by omega)
    have c2' := (old hB0 _ _ hbl).trans (c2 i hi)
    have hpr := good_par hg (by omega : i < T.length)
    have hbr : b < (w.alloc (.cells #[.slice (some ⟨b, off, none⟩) n c] 24)).heap.size := by simp; omega
    by_cases hneg : par T i < 0
    · have e0 : (anc T (par T i)).take 1 = [] := by rw [anc_neg hneg]; rfl
      rw [e0]
      clear hp hc1 hc4 hg ho c2 c3 hC hpr e0
      go_enter Try.func75, Try.ntmps75
      go_wp2
      go_ret
      exact ⟨none, 0, by simp, isInts_nil _, hB0⟩
    · obtain ⟨p, hpe⟩ := Int.eq_ofNat_of_zero_le (by omega : 0 ≤ par T i)
      have e1 : (anc T (par T i)).take 1 = [(p : Int)] := by rw [hpe, anc_cons hg (by omega)]; rfl
      rw [e1]
      rw [hpe] at c2'
      have j0 : (0 : Int) ≤ (p : Int) := by omega
      clear hp hc1 hc4 hg ho c2 c3 hC hpr e1 hneg hpe
      go_enter Try.func75, Try.ntmps75
      go_wp2
      go_ret
      exact ⟨_, _, rfl, isInts_build1 _ _ _ _ (by simp), below_alloc hB0 _⟩
  · have hp : prtF T i 3 = (prevL T i).take 1 := rfl
    rw [hp]
    clear hp hc1 hc4
    obtain ⟨x, hx, hxl, hprev⟩ := sibs_pos2 hg (by omega : i < T.length)
    have hlen := sibs_len hg (by omega : i < T.length)
    have hx' := hide hx
    obtain ⟨l, hla⟩ : ∃ l, sibs T i = l := ⟨_, rfl⟩
    rw [hla] at hx' hxl hprev hlen
    have hla' := hide hla
    rw [hprev]
    have hg' := hide hg
    obtain ⟨R, hR⟩ : ∃ R, (((l.take x).reverse).take 1) = R := ⟨_, rfl⟩
    rw [hR]
    have hR' := hide hR
    clear hx hla hprev hg hR ho
    go_enter Try.func75, Try.ntmps75
    go_wp2_with fail
    refine (rsiblings_ok A n c T i _ (hT.out.below hB0) hi hg'.out).mono ?_
    rintro e w1 ⟨A1, c1, rfl, hI, hb1⟩
    rw [hla'.out] at hI ⊢
    have hI' := hide hI
    have hB1 := Below.on hB0 hb1
    clear hI hb1
    go_wp2_with fail
    refine (rat_ok A1 _ c1 l i _ hI'.out).mono ?_
    rintro e w2 ⟨rfl, rfl⟩
    rw [hx'.out]
    clear hx'
    go_wp2
    go_loopw [7, 9] (fun v s wr => ∃ (q : Nat) (pre : List Int), q ≤ x ∧ OnlyTop 3 q x ∧ s = .int .i64 ((q : Int) - 1) ∧ OwnI wr w1.heap.size v pre ∧ Hid (pre = ((l.take x).drop q).reverse) ∧ Below w1.heap.size w1 wr) (fun _ s _ => (intOf s + 1).toNat)
    case atStart => exact ⟨x, [], Nat.le_refl _, fun _ => rfl, rfl, OwnI.nil _ _, by show _ = _; rw [List.drop_of_length_le (by rw [List.length_take]; omega)]; rfl, Below.refl _ _⟩
    case round =>
      obtain ⟨q, pre, hq, hq3, rfl, hown, hpre, hb⟩ := hrel
      have hq3' := hide hq3
      clear hq3
      have hpl : pre.length ≤ 64 := by rw [hpre.out, List.length_reverse, List.length_drop, List.length_take]; omega
      have hsz : w1.heap.size ≤ wr.heap.size := hb.size
      rcases Nat.eq_zero_or_pos q with rfl | hq0
      · have he : Hid (pre = R) := by
          show _ = _
          rw [hpre.out, ← hR'.out, List.drop_zero]
          have := hq3'.out rfl
          subst this
          rfl
        obtain ⟨A5, c5, rfl, -, -, hI5⟩ := hown.isInts (by omega)
        have hI5' := hide hI5
        clear hI5 hown
        go_wp2
        go_ret
        exact ⟨A5, c5, by rw [he.out]; rfl, by rw [← he.out]; exact hI5'.out, Below.on hB1 hb⟩
      · obtain ⟨p, rfl⟩ : ∃ p, q = p + 1 := ⟨q - 1, by omega⟩
        have ep : ((p + 1 : Nat) : Int) - 1 = (p : Int) := by omega
        rw [ep]
        have hst := hide (down_step (l := l) (x := x) (q := p) (by omega) (by omega))
        obtain ⟨b, off, rfl, hbl, hc⟩ := hI'.out.2.2 (by omega)
        have gp := (old hb _ _ hbl).trans (hc p (by omega))
        clear hc ep hq0
        go_wp2_with (at_builtin; refine wpList_pushI rfl _ _ rfl hown (ix l p) _ rfl rfl (by omega) hsz ?_)
        intro A5 c5 w5 hown5 hgr
        have hB5 := hgr.below (Nat.le_refl _) hb
        have hn5 : Hid (pre ++ [ix l p] = ((l.take x).drop p).reverse) := by show _ = _; rw [hst.out, ← hpre.out]
        have hown5' := hide hown5
        clear hgr hown5 hown gp
        go_wp2
        have he : Hid (pre ++ [ix l p] = R) := by
          show _ = _
          have := hq3'.out rfl
          subst this
          rw [← hR'.out, hpre.out, List.drop_of_length_le (by rw [List.length_take]; omega), take_snoc' l p (by omega), List.reverse_append, ← ix_get (by omega)]
          rfl
        obtain ⟨A6, c6, hv, -, -, hI6⟩ := hown5'.out.isInts (by rw [List.length_append]; simp; omega)
        injection hv with v1 v2 v3
        subst v1 v3
        have hI6' := hide hI6
        clear hI6 hown5' v2
        go_ret
        exact ⟨A5, c5, by rw [← he.out, List.length_append]; rfl, by rw [← he.out]; exact hI6'.out, Below.on hB1 hB5⟩
  · have hp : prtF T i 4 = prevL T i := rfl
    rw [hp]
    clear hp hc1 hc4
    obtain ⟨x, hx, hxl, hprev⟩ := sibs_pos2 hg (by omega : i < T.length)
    have hlen := sibs_len hg (by omega : i < T.length)
    have hx' := hide hx
    obtain ⟨l, hla⟩ : ∃ l, sibs T i = l := ⟨_, rfl⟩
    rw [hla] at hx' hxl hprev hlen
    have hla' := hide hla
    rw [hprev]
    have hg' := hide hg
    obtain ⟨R, hR⟩ : ∃ R, ((l.take x).reverse) = R := ⟨_, rfl⟩
    rw [hR]
    have hR' := hide hR
    clear hx hla hprev hg hR ho
    go_enter Try.func75, Try.ntmps75
    go_wp2_with fail
    refine (rsiblings_ok A n c T i _ (hT.out.below hB0) hi hg'.out).mono ?_
    rintro e w1 ⟨A1, c1, rfl, hI, hb1⟩
    rw [hla'.out] at hI ⊢
    have hI' := hide hI
    have hB1 := Below.on hB0 hb1
    clear hI hb1
    go_wp2_with fail
    refine (rat_ok A1 _ c1 l i _ hI'.out).mono ?_
    rintro e w2 ⟨rfl, rfl⟩
    rw [hx'.out]
    clear hx'
    go_wp2
    go_loopw [7, 9] (fun v s wr => ∃ (q : Nat) (pre : List Int), q ≤ x ∧ OnlyTop 4 q x ∧ s = .int .i64 ((q : Int) - 1) ∧ OwnI wr w1.heap.size v pre ∧ Hid (pre = ((l.take x).drop q).reverse) ∧ Below w1.heap.size w1 wr) (fun _ s _ => (intOf s + 1).toNat)
    case atStart => exact ⟨x, [], Nat.le_refl _, fun _ => rfl, rfl, OwnI.nil _ _, by show _ = _; rw [List.drop_of_length_le (by rw [List.length_take]; omega)]; rfl, Below.refl _ _⟩
    case round =>
      obtain ⟨q, pre, hq, hq3, rfl, hown, hpre, hb⟩ := hrel
      have hq3' := hide hq3
      clear hq3
      have hpl : pre.length ≤ 64 := by rw [hpre.out, List.length_reverse, List.length_drop, List.length_take]; omega
      have hsz : w1.heap.size ≤ wr.heap.size := hb.size
      rcases Nat.eq_zero_or_pos q with rfl | hq0
      · have he : Hid (pre = R) := by
          show _ = _
          rw [hpre.out, ← hR'.out, List.drop_zero]
          skip
        obtain ⟨A5, c5, rfl, -, -, hI5⟩ := hown.isInts (by omega)
        have hI5' := hide hI5
        clear hI5 hown
        go_wp2
        go_ret
        exact ⟨A5, c5, by rw [he.out]; rfl, by rw [← he.out]; exact hI5'.out, Below.on hB1 hb⟩
      · obtain ⟨p, rfl⟩ : ∃ p, q = p + 1 := ⟨q - 1, by omega⟩
        have ep : ((p + 1 : Nat) : Int) - 1 = (p : Int) := by omega
        rw [ep]
        have hst := hide (down_step (l := l) (x := x) (q := p) (by omega) (by omega))
        obtain ⟨b, off, rfl, hbl, hc⟩ := hI'.out.2.2 (by omega)
        have gp := (old hb _ _ hbl).trans (hc p (by omega))
        clear hc ep hq0
        go_wp2_with (at_builtin; refine wpList_pushI rfl _ _ rfl hown (ix l p) _ rfl rfl (by omega) hsz ?_)
        intro A5 c5 w5 hown5 hgr
        have hB5 := hgr.below (Nat.le_refl _) hb
        have hn5 : Hid (pre ++ [ix l p] = ((l.take x).drop p).reverse) := by show _ = _; rw [hst.out, ← hpre.out]
        have hown5' := hide hown5
        clear hgr hown5 hown gp
        go_wp2
        go_roundw
        case rel => exact ⟨p, _, by omega, fun h => absurd h (by decide), rfl, hown5'.out, hn5, hB5⟩
        case measure => simp [intOf]
end Go.Proofs.Ytaliekkdamghbaa
