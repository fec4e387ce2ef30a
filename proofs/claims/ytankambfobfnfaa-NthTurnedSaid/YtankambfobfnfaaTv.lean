/- Walk: the tree whose children are turned around. Condition: the tree is good. -/
import Derived.Test.YtankambfobfnfaaTu
import Derived.BigRegion
import Derived.RegionTactic
namespace Go.Proofs.Ytankambfobfnfaa
open Go.RowKit

theorem good_fits' {T : List ANode} (hg : goodB T = true) : Fits T := by
  intro x hx
  obtain ⟨i, hi, rfl⟩ := List.getElem_of_mem hx
  have hnd : nd T i = T[i] := by unfold nd; rw [List.getD_eq_getElem?_getD, List.getElem?_eq_getElem hi]; rfl
  have h1 := (goodB_iff T).1 hg
  have h2 := h1.2.2.1 i hi
  have h3 := ((good_ref T).1 hg).2.2.2.1 i hi
  rw [hnd] at h2
  have hk : (T[i]).children.length ≤ T.length := by have := h3.1.2.2.2.2; simpa only [kids, hnd] using this
  have ha := h2.2.1
  simp only [attrsB, Bool.and_eq_true, decide_eq_true_eq] at ha
  have hn := (namedB_iff _).1 h2.1
  refine ⟨by omega, by omega, by omega, fun y hy => ?_⟩
  obtain ⟨j, hj, rfl⟩ := List.getElem_of_mem hy
  have h4 := ha.2 j hj
  simp only [attrOk, nm, vl, List.getD_eq_getElem?_getD, List.getElem?_eq_getElem hj, Option.getD_some] at h4
  have h5 := (namedB_iff _).1 h4.1
  exact ⟨by omega, by omega⟩
def MadeTurned (w : World) (n : Nat) (T : List ANode) (e : Ending) (w' : World) : Prop :=
  ∃ (A : Option Addr) (c : Nat), e = .returned (.agg #[.slice A n c]) ∧ IsTree w' A n T ∧ Below w.heap.size w w'
theorem turnT_fits {T : List ANode} (m : Nat) (h : Fits T) : Fits (turnT T m) := by
  intro x hx
  obtain ⟨i, hi, rfl⟩ := List.getElem_of_mem hx
  rw [turnT_len] at hi
  have e : (turnT T m)[i]'(by rw [turnT_len]; exact hi) = nd (turnT T m) i := by unfold nd; rw [List.getD_eq_getElem?_getD, List.getElem?_eq_getElem (by rw [turnT_len]; exact hi)]; rfl
  have h1 := h (nd T i) (by unfold nd; rw [List.getD_eq_getElem?_getD, List.getElem?_eq_getElem hi]; exact List.getElem_mem _)
  rw [e, turnT_nd]
  split
  · refine ⟨h1.1, h1.2.1, ?_, h1.2.2.2⟩
    show (turnN (nd T i)).children.length ≤ 70
    unfold turnN
    rw [List.length_reverse]
    exact h1.2.2.1
  · exact h1
theorem turnT_zero (T : List ANode) (j : Nat) : nd (turnT T 0) j = nd T j := by rw [turnT_nd, if_neg (by omega)]

set_option maxRecDepth 100000 in
set_option maxHeartbeats 4000000 in
theorem turned_ok (A : Option Addr) (n c : Nat) (T : List ANode) (w : World) (h : IsTree w A n T) (hg : goodB T = true) :
    Calls Try.prog 45 #[.agg #[.slice A n c]] w (MadeTurned w n (turnT T T.length)) := by
  have hl := h.1
  have hT := hide h
  have hf' := hide (good_fits' hg)
  have hn1 := ((goodB_iff T).1 hg).1
  have hn2 := ((goodB_iff T).1 hg).2.1
  have hk64 : Hid (∀ i, i < n → (kids T i).length ≤ 64) := fun i hi => by
    have := (((good_ref T).1 hg).2.2.2.1 i (by omega)).1.2.2.2.2
    omega
  have hB0 := below_alloc (below_alloc (Below.refl w.heap.size w) (.cells #[.slice A n c] 24)) (.cells #[.slice none 0 0] 24)
  have k0 : ((w.alloc (.cells #[.slice A n c] 24)).alloc (.cells #[.slice none 0 0] 24)).heap[w.heap.size + 1]? = some (.cells #[.slice none 0 0] 24 (0, 0)) := blk_at _ _ _ _ (by simp)
  clear h hg
  go_enter Try.func45, Try.ntmps45
  go_wp2_with fail
  refine (twin_ok _ _ _ T _ (hT.out.below hB0) (by omega) hf'.out).mono ?_
  rintro e w1 ⟨A1, c1, rfl, hO1, -, hb1⟩
  have hB1 := Below.on hB0 hb1
  have k1 := (hb1.block _ (blk_lt k0)).trans k0
  obtain ⟨g, cap, _, _, _, _, hN0⟩ := hO1.node (i := 0) (by omega) hl
  have hv0 := hN0.val
  injection hv0 with e1 e2 e3
  subst e1 e3
  clear hN0 k0
  have hO1' := hide (hO1.congr fun j _ => (turnT_zero T j).symm)
  clear hO1
  go_wp2
  go_loopw [4] (fun s wr => ∃ i : Nat, i ≤ n ∧ s = .int .i64 i ∧ Below w.heap.size w wr ∧ wr.heap[w.heap.size + 1]? = some (.cells #[.slice none 0 0] 24 (0, 0)) ∧ wr.heap[w1.heap.size]? = some (.cells #[.slice (some ⟨g, 0, none⟩) n c1] 24 (0, 0)) ∧ OwnTree wr (w.heap.size + 2) (.slice (some ⟨g, 0, none⟩) n c1) n (turnT T i)) (fun s _ => n - (intOf s).toNat)
  case atStart =>
    exact ⟨0, Nat.zero_le _, rfl, below_alloc hB1 _, blk_alloc k1 _, blk_at _ _ _ _ rfl, (hO1'.out.base (by simp)).below (below_alloc (Below.refl _ _) _)⟩
  case round =>
    obtain ⟨i, hi, rfl, hb, hk1, hk3, hO⟩ := hrel
    have f3 : wr.cell? ⟨w1.heap.size, 0, none⟩ = some (.slice (some ⟨g, 0, none⟩) n c1) := by rw [blk_cell hk3]; rfl
    have hlt3 : w1.heap.size < wr.heap.size := blk_lt hk3
    have hlt1 : w.heap.size + 1 < w1.heap.size := blk_lt k1
    by_cases hlt : i < n
    · obtain ⟨g', cap', A', ac, C, cc, hN⟩ := hO.node hlt (by rw [turnT_len]; exact hl)
      have hv := hN.val
      injection hv with e1 e2 e3
      injection e1 with e1
      injection e1 with e1
      subst e1 e3
      have c3 := hN.c3
      have hbg := hN.low
      have hgl := hN.lt
      have hcap := hN.room
      have hcap2 := hN.cap63
      have hkk : kids (turnT T i) i = kids T i := by rw [turnT_kids, if_neg (by omega)]
      rw [hkk] at c3
      have hm64 := hk64.out i hlt
      have hOk := hide (hO.congr (T' := setK (turnT T i) i (swp (kids T i) 0)) fun j _ => by
        rw [nd_setK (by rw [turnT_len]; omega), swp_zero]
        split
        · rename_i hj; subst hj; rw [← hkk]; rfl
        · rfl)
      have hend : Hid (∀ k W v, (kids T i).length ≤ 2 * k + 1 → OwnTree W (w.heap.size + 2) v n (setK (turnT T i) i (swp (kids T i) k)) → OwnTree W (w.heap.size + 2) v n (turnT T (i + 1))) := fun k W v hk hW => hW.congr fun j _ => by
        rw [nd_setK (by rw [turnT_len]; omega), swp_end _ hk, turnT_nd T (i + 1)]
        by_cases hj : j = i
        · subst hj; rw [if_pos rfl, if_pos (by omega), turnT_nd, if_neg (by omega)]; rfl
        · rw [if_neg hj, turnT_nd]
          by_cases hji : j < i
          · rw [if_pos hji, if_pos (by omega)]
          · rw [if_neg hji, if_neg (by omega)]
      generalize kids T i = l at *
      obtain ⟨m, hm⟩ : ∃ m, l.length = m := ⟨_, rfl⟩
      rw [hm] at c3 hm64 hend
      have hm' := hide hm
      clear hm hN hkk hO
      generalize wr = wo at *
      go_wp2
      go_loopw [6] (fun s wq => ∃ k : Nat, k ≤ m ∧ s = .int .i64 k ∧ Below w.heap.size w wq ∧ wq.heap[w.heap.size + 1]? = some (.cells #[.slice none 0 0] 24 (0, 0)) ∧ wq.heap[w1.heap.size]? = some (.cells #[.slice (some ⟨g, 0, none⟩) n c1] 24 (0, 0)) ∧ OwnTree wq (w.heap.size + 2) (.slice (some ⟨g, 0, none⟩) n c1) n (setK (turnT T i) i (swp l k)) ∧ wq.cell? ⟨g, i * 4 + 3, none⟩ = some (.slice C m cc)) (fun s _ => m - (intOf s).toNat)
      case atStart => exact ⟨0, Nat.zero_le _, rfl, hb, hk1, hk3, hOk.out, c3⟩
      case round =>
        obtain ⟨k, hk, rfl, hbq, hq1, hq3, hOq, hcq⟩ := hrel
        clear f3
        by_cases hlk : 2 * k + 1 < m
        · have hdk : decide (2 * (k : Int) < (m : Int) - 1) = true := by rw [decide_eq_true_eq]; omega
          obtain ⟨e, he⟩ : ∃ e, m - 1 - k = e := ⟨_, rfl⟩
          have hme : (m : Int) - 1 - (k : Int) = (e : Int) := by omega
          obtain ⟨gk, hC, hmc, hcc, hbk, ⟨cs, hgk⟩, hne, hcell, hfz, hsw⟩ := hOq.swap (by rw [turnT_len]; exact hl) hlt (m := m) (by rw [swp_len, hm'.out]) hcq (a := k) (b := e) (by omega) (by omega)
          have q1 := hcell k (by omega)
          have q2 := hcell e (by omega)
          have q3 := hfz k
          have q4 := hfz e
          have hgkl := blk_lt hgk
          have hke : ¬ k = e := by omega
          have hek : ¬ e = k := by omega
          have he1 : (e : Int) < (m : Int) := by omega
          have hk1' : (k : Int) < (m : Int) := by omega
          have hOn := hide (hsw (ix (swp l k) e) (ix (swp l k) k))
          have hstep := swp_succ l (k := k) (e := e) (by rw [hm'.out]; exact hlk) (by rw [hm'.out]; omega)
          rw [hstep] at hOn
          have hq1n := hide (blk_far (blk_far hq1 (p := ⟨gk, k, none⟩) (by show w.heap.size + 1 ≠ gk; omega) (.int .i64 (ix (swp l k) e))) (p := ⟨gk, e, none⟩) (by show w.heap.size + 1 ≠ gk; omega) (.int .i64 (ix (swp l k) k)))
          have hg3 : w1.heap.size ≠ gk := fun e => by
            rw [← e, hq3] at hgk
            injection hgk with h1
            injection h1 with _ h2
            revert h2
            decide
          have hq3n := hide (blk_far (blk_far hq3 (p := ⟨gk, k, none⟩) hg3 (.int .i64 (ix (swp l k) e))) (p := ⟨gk, e, none⟩) hg3 (.int .i64 (ix (swp l k) k)))
          have hcn : Hid (((wr.setCell ⟨gk, k, none⟩ (.int .i64 (ix (swp l k) e))).setCell ⟨gk, e, none⟩ (.int .i64 (ix (swp l k) k))).cell? ⟨g, i * 4 + 3, none⟩ = some (.slice C m cc)) := by
            show _ = _
            rw [World.cell?_setCell_far _ _ _ _ hne, World.cell?_setCell_far _ _ _ _ hne]
            exact hcq
          have hbn := hide ((hbq.setCell (p := ⟨gk, k, none⟩) (by show w.heap.size ≤ gk; omega) (.int .i64 (ix (swp l k) e))).setCell (p := ⟨gk, e, none⟩) (by show w.heap.size ≤ gk; omega) (.int .i64 (ix (swp l k) k)))
          generalize ix (swp l k) e = y at *
          generalize ix (swp l k) k = x at *
          subst hC
          clear hstep hsw hcell hfz hOq hq1 hq3 hbq hgk hcq he
          go_wp2
          go_region
          go_wp2
          go_roundw
          case rel => exact ⟨k + 1, by omega, by go_num, hbn.out.drew, hq1n.out, hq3n.out, hOn.out.below (Below.refl _ _).drew, hcn.out⟩
          case measure => simp [intOf]; omega
        · have hdk : decide (2 * (k : Int) < (m : Int) - 1) = false := by rw [decide_eq_false_iff_not]; omega
          have hOe := hend.out k _ _ (by omega) hOq
          go_wp2
          go_roundw
          case rel => exact ⟨i + 1, by omega, by go_num, hbq, hq1, hq3, hOe⟩
          case measure => simp [intOf]; omega
    · obtain rfl : i = n := by omega
      have ff : wr.frozen? ⟨w.heap.size + 1, 0, none⟩ = false := blk_frozen hk1 0
      have f1 : wr.cell? ⟨w.heap.size + 1, 0, none⟩ = some (.slice none 0 0) := by rw [blk_cell hk1]; rfl
      have hres : (wr.setCell ⟨w.heap.size + 1, 0, none⟩ (.slice (some ⟨g, 0, none⟩) i c1)).cell? ⟨w.heap.size + 1, 0, none⟩ = some (.slice (some ⟨g, 0, none⟩) i c1) := by go_simp
      have hO2 := hO.set (p := ⟨w.heap.size + 1, 0, none⟩) (by simp) (.slice (some ⟨g, 0, none⟩) i c1)
      obtain ⟨A2, c2, hv, _, _, hT3⟩ := isTree_of_own hO2 (by rw [turnT_len]; exact hl) (by omega) (turnT_fits _ hf'.out)
      injection hv with e1 e2 e3
      subst e1 e3
      have hT3' := hide hT3
      clear hO hO2 hT3
      go_wp2
      refine bodyPost_ret (v := .agg #[.slice (some ⟨g, 0, none⟩) i c1]) (by simp [results, Try.results45, go_sem, hres]) rfl ?_
      exact ⟨_, _, rfl, hT3'.out, hb.setCell (by simp) _⟩
end Go.Proofs.Ytankambfobfnfaa
