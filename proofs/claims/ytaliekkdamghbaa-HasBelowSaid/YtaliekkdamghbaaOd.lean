/- Walks: what is above an element, the comparison of two elements, by the program. No condition. -/
import Derived.Test.YtaliekkdamghbaaOc
namespace Go.Proofs.Ytaliekkdamghbaa
open Go.RowKit

set_option maxRecDepth 100000 in
set_option maxHeartbeats 1000000 in
theorem above_ok (A : Option Addr) (n c : Nat) (T : List ANode) (i : Int) (w : World) (h : IsTree w A n T) :
    Calls Try.prog 73 #[.agg #[.slice A n c], .int .i64 i] w (MadeIntsE w (aboveE T i) (askI T [i])) := by
  have ho := hide h.2.2.2
  have hT := hide h
  have hl := h.1
  clear h
  have hB0 := below_alloc (Below.refl w.heap.size w) (.cells #[.slice A n c] 24)
  have hbox0 : (w.alloc (.cells #[.slice A n c] 24)).cell? ⟨w.heap.size, 0, none⟩ = some (.slice A n c) := by go_simp
  by_cases h0 : askI T [i] = 0
  · obtain ⟨hg, hir⟩ := askI_zero.1 h0
    have hir := hir i (by simp)
    obtain ⟨k, rfl⟩ := Int.eq_ofNat_of_zero_le hir.1
    have hk : k < n := by omega
    obtain ⟨b, off, aA, cA, aC, cC, rfl, hbl, -, -, c2, -, -, -⟩ := ho.out (by omega)
    have c2' := hide c2
    have hr : Hid (aboveE T k = anc T (par T k)) := if_pos h0
    have hg' := hide hg
    have h0' := hide h0
    have hle : (anc T (par T k)).length ≤ n := by have := anc_le hg (good_par hg (by omega : k < T.length)).2; omega
    have hpk' := hide (good_par hg (by omega : k < T.length))
    have hn64 : n ≤ 64 := by have := ((goodB_iff T).1 hg).2.1; omega
    have hq0 : (askI T [(k : Int)] != 0) = false := by simp [h0]
    clear hir hg c2 ho h0
    go_enter Try.func73, Try.ntmps73
    go_wp2_with fail
    refine (ocheck_ok _ _ _ T _ _ (hT.out.below hB0)).mono ?_
    rintro e w1 ⟨rfl, hb1⟩
    have hbox1 := cell_later hb1 hbox0
    have hB1 := Below.on hB0 hb1
    have hlt1 : w.heap.size < w1.heap.size := cell_in hbox1
    have gk := (old hB1 _ _ hbl).trans (c2'.out k hk)
    go_wp2
    clear gk hbox0 hb1 hB0
    go_loopw [7, 8] (fun v q wr => ∃ (pre : List Int) (x : Int), OwnI wr (w.heap.size + 1) v pre ∧ q = .int .i64 x ∧ -1 ≤ x ∧ x < n ∧ pre ++ anc T x = anc T (par T k) ∧ Below w.heap.size w wr ∧ w.heap.size + 1 ≤ wr.heap.size ∧ wr.cell? ⟨w.heap.size, 0, none⟩ = some (.slice (some ⟨b, off, none⟩) n c)) (fun _ q _ => (anc T (intOf q)).length)
    case atStart => exact ⟨[], _, OwnI.nil _ _, rfl, hpk'.out.1, by have := hpk'.out.2; omega, rfl, hB1, hlt1, hbox1⟩
    case round =>
      clear hB1 hbox1 hlt1
      obtain ⟨pre, x, hown, rfl, hx1, hx2, hm, hb, hsz, hbox⟩ := hrel
      have hm' := hide hm
      have hml : pre.length ≤ n := by have := congrArg List.length hm; simp at this; omega
      clear hm
      by_cases hx : 0 ≤ x
      · obtain ⟨q, rfl⟩ := Int.eq_ofNat_of_zero_le hx
        have hq : q < n := by omega
        have ht := hide (anc_cons hg'.out (by omega : q < T.length))
        have hp := hide (good_par hg'.out (by omega : q < T.length))
        go_wp2_with (at_builtin; refine wpList_pushI rfl _ _ rfl hown q _ rfl rfl (by omega) hsz ?_)
        intro A' c' w1 hown' hgr
        have hb1 := hgr.below (by omega) hb
        have hbx1 : w1.cell? ⟨w.heap.size, 0, none⟩ = some (.slice (some ⟨b, off, none⟩) n c) := (World.cell?_of_block (hgr.1 w.heap.size (by omega))).trans hbox
        have hgq := (old hb1 _ _ hbl).trans (c2'.out q hq)
        have hs1 := hgr.lt
        clear hgr hown hbox
        go_wp2
        go_roundw
        case rel => exact ⟨pre ++ [(q : Int)], _, hown', rfl, hp.out.1, by have := hp.out.2; omega, by rw [← hm'.out, ht.out]; simp, hb1, by omega, hbx1⟩
        case measure => simp only [intOf]; rw [ht.out]; simp
      · have ht := hide (anc_neg (T := T) (x := x) (by omega))
        go_wp2
        go_ret2
        have hpe : pre = anc T (par T k) := by rw [← hm'.out, ht.out]; simp
        subst hpe
        obtain ⟨A', c', rfl, hc1, hc2, hI'⟩ := hown.isInts (by omega)
        rw [hr.out, h0'.out]
        exact ⟨A', c', rfl, hI', hc1, hc2, hb⟩
  · have hr : Hid (aboveE T i = []) := if_neg h0
    have hq : (askI T [i] != 0) = true := by simp [h0]
    clear h0 ho
    go_enter Try.func73, Try.ntmps73
    go_wp2_with fail
    refine (ocheck_ok _ _ _ T _ _ (hT.out.below hB0)).mono ?_
    rintro e w1 ⟨rfl, hb1⟩
    have hbox1 := cell_later hb1 hbox0
    have hB1 := Below.on hB0 hb1
    go_wp2
    go_ret2
    rw [hr.out]
    exact madeIntsE_nil hB1

theorem cmp_parts {T : List ANode} {i k : Int} (hi : askI T [i] = 0) (hk : askI T [k] = 0) : cmpE T i k = (if topF T i = topF T k then 0 else 6) := by
  unfold cmpE; rw [if_pos hi, if_pos hk]
theorem topE_ok {T : List ANode} {i : Int} (hi : askI T [i] = 0) : topE T i = topF T i := if_pos hi
theorem listE_ok {T : List ANode} {i : Int} (hi : askI T [i] = 0) : listE T i = preT T i := if_pos hi

theorem topF_ok (A : Option Addr) (n c : Nat) (T : List ANode) (i : Int) (w : World) (h : IsTree w A n T) (h0 : askI T [i] = 0) :
    Calls Try.prog 63 #[.agg #[.slice A n c], .int .i64 i] w fun e w' => e = .returned (.tuple #[.int .i64 (topF T i), .int .i64 0]) ∧ Below w.heap.size w w' := by
  have := top_ok A n c T i w h
  rw [topE_ok h0, h0] at this
  exact this
theorem listF_ok (A : Option Addr) (n c : Nat) (T : List ANode) (i : Int) (w : World) (h : IsTree w A n T) (h0 : askI T [i] = 0) :
    Calls Try.prog 64 #[.agg #[.slice A n c], .int .i64 i] w (MadeIntsE w (preT T i) 0) := by
  have := list_ok A n c T i w h
  rw [listE_ok h0, h0] at this
  exact this

set_option maxRecDepth 100000 in
set_option maxHeartbeats 1000000 in
theorem compare_ok (A : Option Addr) (n c : Nat) (T : List ANode) (i k : Int) (w : World) (h : IsTree w A n T) :
    Calls Try.prog 42 #[.agg #[.slice A n c], .int .i64 i, .int .i64 k] w fun e w' => e = .returned (.tuple #[.int .i64 (cmpV T i k), .int .i64 (cmpE T i k)]) ∧ Below w.heap.size w w' := by
  have hT := hide h
  have hl := h.1
  clear h
  have hB0 := below_alloc (Below.refl w.heap.size w) (.cells #[.slice A n c] 24)
  have hbox0 : (w.alloc (.cells #[.slice A n c] 24)).cell? ⟨w.heap.size, 0, none⟩ = some (.slice A n c) := by go_simp
  by_cases h0 : askI T [i] = 0
  · by_cases h1 : askI T [k] = 0
    · have e3 := hide (cmp_parts h0 h1)
      obtain ⟨hg, hir⟩ := askI_zero.1 h0
      have hir := hir i (by simp)
      have h0' := hide h0
      have h1' := hide h1
      have hto : topF T i < n ∧ 0 ≤ topF T i := by
        obtain ⟨k', rfl⟩ := Int.eq_ofNat_of_zero_le hir.1
        have := topF_range hg (i := k') (by omega)
        omega
      have h4 := hide (askI_ok hg (l := [topF T i]) (by simp; omega))
      have hpl := hide (preT_len hg (k := (topF T i).toNat) (by omega))
      by_cases h2 : topF T i = topF T k
      · have e5 : Hid (cmpE T i k = 0) := by show _ = _; rw [e3.out, if_pos h2]
        have e6 : Hid (cmpV T i k = sgn (posn (preT T (topF T i)) i) (posn (preT T (topF T i)) k)) := by show _ = _; unfold cmpV; rw [if_pos e5.out]; unfold cmpF; rw [h2]
        have h2' : (topF T i != topF T k) = false := by simp [h2]
        clear h2 hir hg hto h0 h1
        go_enter Try.func42, Try.ntmps42
        go_wp2_with fail
        refine (topF_ok _ _ _ T _ _ (hT.out.below hB0) h0'.out).mono ?_
        rintro e w1 ⟨rfl, hb1⟩
        have hbox1 := cell_later hb1 hbox0
        have hB1 := Below.on hB0 hb1
        go_wp2_with fail
        refine (topF_ok _ _ _ T _ _ (hT.out.below hB1) h1'.out).mono ?_
        rintro e w2 ⟨rfl, hb2⟩
        have hbox2 := cell_later hb2 hbox1
        have hB2 := Below.on hB1 hb2
        go_wp2_with fail
        refine (listF_ok _ _ _ T _ _ (hT.out.below hB2) h4.out).mono ?_
        rintro e w3 ⟨A3, c3, rfl, hI3, q1, q2, hb3⟩
        have hB3 := Below.on hB2 hb3
        have hI3' := hide hI3
        clear hI3
        go_wp2_with fail
        refine (index_ok _ _ _ _ _ _ hI3'.out).mono ?_
        rintro e w4 ⟨rfl, rfl⟩
        go_wp2_with fail
        refine (index_ok _ _ _ _ _ _ hI3'.out).mono ?_
        rintro e w4 ⟨rfl, rfl⟩
        generalize posn (preT T (topF T i)) i = a at *
        generalize posn (preT T (topF T i)) k = b at *
        by_cases hab : a < b
        · have e7 : Hid (sgn a b = -1) := if_pos hab
          go_wp2
          go_ret2
          exact ⟨ret_two (by rw [e6.out, e7.out]) e5.out.symm, hB3⟩
        · by_cases hba : b < a
          · have e7 : Hid (sgn a b = 1) := by show _ = _; unfold sgn; rw [if_neg hab, if_pos hba]
            go_wp2
            go_ret2
            exact ⟨ret_two (by rw [e6.out, e7.out]) e5.out.symm, hB3⟩
          · have e7 : Hid (sgn a b = 0) := by show _ = _; unfold sgn; rw [if_neg hab, if_neg hba]
            go_wp2
            go_ret2
            exact ⟨ret_two (by rw [e6.out, e7.out]) e5.out.symm, hB3⟩
      · have e5 : Hid (cmpE T i k = 6) := by show _ = _; rw [e3.out, if_neg h2]
        have e6 : Hid (cmpV T i k = 0) := by show _ = _; unfold cmpV; rw [if_neg (by rw [e5.out]; decide)]
        have h2' : (topF T i != topF T k) = true := by simp [h2]
        clear h2 hir hg hto h0 h1
        go_enter Try.func42, Try.ntmps42
        go_wp2_with fail
        refine (topF_ok _ _ _ T _ _ (hT.out.below hB0) h0'.out).mono ?_
        rintro e w1 ⟨rfl, hb1⟩
        have hbox1 := cell_later hb1 hbox0
        have hB1 := Below.on hB0 hb1
        go_wp2_with fail
        refine (topF_ok _ _ _ T _ _ (hT.out.below hB1) h1'.out).mono ?_
        rintro e w2 ⟨rfl, hb2⟩
        have hbox2 := cell_later hb2 hbox1
        have hB2 := Below.on hB1 hb2
        go_wp2
        go_ret2
        exact ⟨ret_two e6.out.symm e5.out.symm, hB2⟩
    · have e5 : Hid (cmpE T i k = askI T [k]) := by show _ = _; unfold cmpE; rw [if_pos h0, if_neg h1]
      have e6 : Hid (cmpV T i k = 0) := by show _ = _; unfold cmpV; rw [if_neg (by rw [e5.out]; exact h1)]
      have hq : (askI T [k] != 0) = true := by simp [h1]
      have h0' := hide h0
      clear h1 h0
      go_enter Try.func42, Try.ntmps42
      go_wp2_with fail
      refine (topF_ok _ _ _ T _ _ (hT.out.below hB0) h0'.out).mono ?_
      rintro e w1 ⟨rfl, hb1⟩
      have hbox1 := cell_later hb1 hbox0
      have hB1 := Below.on hB0 hb1
      go_wp2_with fail
      refine (top_ok _ _ _ T _ _ (hT.out.below hB1)).mono ?_
      rintro e w2 ⟨rfl, hb2⟩
      have hbox2 := cell_later hb2 hbox1
      have hB2 := Below.on hB1 hb2
      go_wp2
      go_ret2
      exact ⟨ret_two e6.out.symm e5.out.symm, hB2⟩
  · have e5 : Hid (cmpE T i k = askI T [i]) := by show _ = _; unfold cmpE; rw [if_neg h0]
    have e6 : Hid (cmpV T i k = 0) := by show _ = _; unfold cmpV; rw [if_neg (by rw [e5.out]; exact h0)]
    have hq : (askI T [i] != 0) = true := by simp [h0]
    clear h0
    go_enter Try.func42, Try.ntmps42
    go_wp2_with fail
    refine (top_ok _ _ _ T _ _ (hT.out.below hB0)).mono ?_
    rintro e w1 ⟨rfl, hb1⟩
    have hbox1 := cell_later hb1 hbox0
    have hB1 := Below.on hB0 hb1
    go_wp2
    go_ret2
    exact ⟨ret_two e6.out.symm e5.out.symm, hB1⟩
end Go.Proofs.Ytaliekkdamghbaa
