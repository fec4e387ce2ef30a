/- Walks: what is above an element, the comparison of two elements, by the program. No condition. -/
import Derived.Test.YtfiiikbbiimdiaaOc
namespace Go.Proofs.Ytfiiikbbiimdiaa
open Go.RowKit

set_option maxRecDepth 100000 in
set_option maxHeartbeats 1000000 in
theorem above_ok (A : Option Addr) (n c : Nat) (T : List ANode) (i : Int) (w : World) (h : IsTree w A n T) :
    Calls Try.prog 36 #[.agg #[.slice A n c], .int .i64 i] w (MadeIntsE w (aboveE T i) (askI T [i])) := by
  have ho := hide h.2.2.2
  have hT := hide h
  have hl := h.1
  clear h
  have hB0 := below_alloc (Below.refl w.heap.size w) (.cells #[.slice A n c] 24)
  have hbox0 : (w.alloc (.cells #[.slice A n c] 24)).cell? ⟨w.heap.size, 0, none⟩ = some (.slice A n c) := by go_simp
  by_cases h0 : askI T [i] = 0
  · obtain ⟨hg, hir⟩ := askI_zero.1 h0
    have hir := hir i (by simp)
    obtain ⟨k, rfl⟩ := Int.eq_ofNat_of_zero_le hir.1
    have hk : k < n := by omega
    obtain ⟨b, off, aA, cA, aC, cC, rfl, hbl, -, -, c2, -, -, -⟩ := ho.out (by omega)
    have c2' := hide c2
    have hr : Hid (aboveE T k = anc T (par T k)) := if_pos h0
    have hg' := hide hg
    have h0' := hide h0
    have hle : (anc T (par T k)).length ≤ n := by have := anc_le hg (good_par hg (by omega : k < T.length)).2; omega
    have hpk' := hide (good_par hg (by omega : k < T.length))
    have hn64 : n ≤ 64 := by have := ((goodB_iff T).1 hg).2.1; omega
    have hq0 : (askI T [(k : Int)] != 0) = false := by simp [h0]
    clear hir hg c2 ho h0
    go_enter Try.func36, Try.ntmps36
    go_wp2_with fail
    refine (ocheck_ok _ _ _ T _ _ (hT.out.below hB0)).mono ?_
    rintro e w1 ⟨rfl, hb1⟩
    have hbox1 := cell_later hb1 hbox0
    have hB1 := Below.on hB0 hb1
    have hlt1 : w.heap.size < w1.heap.size := cell_in hbox1
    have gk := (old hB1 _ _ hbl).trans (c2'.out k hk)
    go_wp2
    clear gk hbox0 hb1 hB0
    go_loopw [7, 8] (fun v q wr => ∃ (pre : List Int) (x : Int), OwnI wr (w.heap.size + 1) v pre ∧ q = .int .i64 x ∧ -1 ≤ x ∧ x < n ∧ pre ++ anc T x = anc T (par T k) ∧ Below w.heap.size w wr ∧ w.heap.size + 1 ≤ wr.heap.size ∧ wr.cell? ⟨w.heap.size, 0, none⟩ = some (.slice (some ⟨b, off, none⟩) n c)) (fun _ q _ => (anc T (intOf q)).length)
    case atStart => exact ⟨[], _, OwnI.nil _ _, rfl, hpk'.out.1, by have := hpk'.out.2; omega, rfl, hB1, hlt1, hbox1⟩
    case round =>
      clear hB1 hbox1 hlt1
      obtain ⟨pre, x, hown, rfl, hx1, hx2, hm, hb, hsz, hbox⟩ := hrel
      have hm' := hide hm
      have hml : pre.length ≤ n := by have := congrArg List.length hm; simp at this; omega
      clear hm
      by_cases hx : 0 ≤ x
      · obtain ⟨q, rfl⟩ := Int.eq_ofNat_of_zero_le hx
        have hq : q < n := by omega
        have ht := hide (anc_cons hg'.out (by omega : q < T.length))
        have hp := hide (good_par hg'.out (by omega : q < T.length))
        go_wp2_with (at_builtin; refine wpList_pushI rfl _ _ rfl hown q _ rfl rfl (by omega) hsz ?_)
        intro A' c' w1 hown' hgr
        have hb1 := hgr.below (by omega) hb
        have hbx1 : w1.cell? ⟨w.heap.size, 0, none⟩ = some (.slice (some ⟨b, off, none⟩) n c) := (World.cell?_of_block (hgr.1 w.heap.size (by omega))).trans hbox
        have hgq := (old hb1 _ _ hbl).trans (c2'.out q hq)
        have hs1 := hgr.lt
        clear hgr hown hbox
        go_wp2
        go_roundw
        case rel => exact ⟨pre ++ [(q : Int)], _, hown', rfl, hp.out.1, by have := hp.out.2; omega, by rw [← hm'.out, ht.out]; simp, hb1, by omega, hbx1⟩
        case measure => simp only [intOf]; rw [ht.out]; simp
      · have ht := hide (anc_neg (T := T) (x := x) (by omega))
        go_wp2
        go_ret2
        have hpe : pre = anc T (par T k) := by rw [← hm'.out, ht.out]; simp
        subst hpe
        obtain ⟨A', c', rfl, hc1, hc2, hI'⟩ := hown.isInts (by omega)
        rw [hr.out, h0'.out]
        exact ⟨A', c', rfl, hI', hc1, hc2, hb⟩
  · have hr : Hid (aboveE T i = []) := if_neg h0
    have hq : (askI T [i] != 0) = true := by simp [h0]
    clear h0 ho
    go_enter Try.func36, Try.ntmps36
    go_wp2_with fail
    refine (ocheck_ok _ _ _ T _ _ (hT.out.below hB0)).mono ?_
    rintro e w1 ⟨rfl, hb1⟩
    have hbox1 := cell_later hb1 hbox0
    have hB1 := Below.on hB0 hb1
    go_wp2
    go_ret2
    rw [hr.out]
    exact madeIntsE_nil hB1

theorem cmp_parts {T : List ANode} {i k : Int} (hi : askI T [i] = 0) (hk : askI T [k] = 0) : cmpE T i k = (if topF T i = topF T k then 0 else 6) := by
  unfold cmpE; rw [if_pos hi, if_pos hk]
theorem topE_ok {T : List ANode} {i : Int} (hi : askI T [i] = 0) : topE T i = topF T i := if_pos hi
theorem listE_ok {T : List ANode} {i : Int} (hi : askI T [i] = 0) : listE T i = preT T i := if_pos hi

theorem listF_ok (A : Option Addr) (n c : Nat) (T : List ANode) (i : Int) (w : World) (h : IsTree w A n T) (h0 : askI T [i] = 0) :
    Calls Try.prog 64 #[.agg #[.slice A n c], .int .i64 i] w (MadeIntsE w (preT T i) 0) := by
  have := list_ok A n c T i w h
  rw [listE_ok h0, h0] at this
  exact this

end Go.Proofs.Ytfiiikbbiimdiaa
