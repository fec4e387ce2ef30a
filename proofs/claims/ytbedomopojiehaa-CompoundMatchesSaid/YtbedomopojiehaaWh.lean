/- Walks: is a tree greater than the statements consider. No condition. -/
import Derived.Test.YtbedomopojiehaaWg
namespace Go.Proofs.Ytbedomopojiehaa
open Go.RowKit

def smallN (T : List ANode) (i : Nat) : Prop :=
  (kids T i).length ≤ 70 ∧ (nd T i).attrs.length ≤ 20 ∧ (nd T i).tag.size ≤ 500 ∧ ∀ j, j < (nd T i).attrs.length → (nm (nd T i).attrs j).size ≤ 500 ∧ (vl (nd T i).attrs j).size ≤ 500
instance (T : List ANode) (i : Nat) : Decidable (smallN T i) := by unfold smallN; infer_instance
def smallTB (T : List ANode) : Bool := decide (T.length ≤ 70) && decide (∀ i, i < T.length → smallN T i)
theorem smallTB_iff (T : List ANode) : smallTB T = true ↔ T.length ≤ 70 ∧ ∀ i, i < T.length → smallN T i := by simp only [smallTB, Bool.and_eq_true, decide_eq_true_eq]
theorem small_no {T : List ANode} {i : Nat} (hi : i < T.length) (h : ¬ smallN T i) : smallTB T = false := by
  rw [Bool.eq_false_iff]; intro hc; exact h (((smallTB_iff T).1 hc).2 i hi)

set_option maxHeartbeats 2000000 in
theorem great_ok (A : Option Addr) (n c : Nat) (T : List ANode) (w : World) (h : IsTree w A n T) :
    Calls Try.prog 24 #[.agg #[.slice A n c]] w fun e w' => e = .returned (.bool (!smallTB T)) ∧ Below w.heap.size w w' := by
  obtain ⟨hl, hn, hs, ho⟩ := h
  have ho' := hide ho
  have hs' := hide hs
  clear ho hs
  go_enter Try.func24, Try.ntmps24
  go_wp2
  go_loopw [3] (fun s wr => ∃ k : Nat, k ≤ n ∧ k ≤ 71 ∧ s = .int .i64 k ∧ Below w.heap.size w wr ∧ wr.cell? ⟨w.heap.size, 0, none⟩ = some (.slice A n c) ∧ ∀ i, i < k → smallN T i) (fun s _ => n - (intOf s).toNat)
  case atStart => exact ⟨0, Nat.zero_le _, by omega, rfl, below_alloc (Below.refl _ _) _, by go_simp, fun j hj => absurd hj (by omega)⟩
  case round =>
    obtain ⟨k, hk, hk71, rfl, hb, hbox, hne⟩ := hrel
    have hne' := hide hne
    clear hne
    have hbw : w.heap.size < wr.heap.size := cell_in hbox
    by_cases hlt : k < n
    · by_cases h70 : k ≤ 70
      · obtain ⟨b, off, aA, cA, aC, cC, rfl, hbl, c0, c1, c2, c3, hA, hC⟩ := ho'.out (by omega)
        have g0 := (old hb _ _ hbl).trans (c0 k hlt)
        have g1 := (old hb _ _ hbl).trans (c1 k hlt)
        have g2 := (old hb _ _ hbl).trans (c2 k hlt)
        have g3 := (old hb _ _ hbl).trans (c3 k hlt)
        have hgA := hide (hA k hlt).1
        have hbr : b < wr.heap.size := Nat.lt_of_lt_of_le hbl hb.size
        generalize aA k = AA at g1 hgA
        have hsz1 : (nd T k).tag.size ≤ 9223372036854775807 := 
          hs'.out (nd T k) (by unfold nd; rw [List.getD_eq_getElem?_getD, List.getElem?_eq_getElem (by omega)]; exact List.getElem_mem _)
        have hkn : (kids T k).length ≤ 9223372036854775807 := (hC k hlt).1.2.1
        have han : (nd T k).attrs.length ≤ 9223372036854775807 := hgA.out.2.1
        have hno : Hid (¬ smallN T k → (!smallTB T) = true) := fun hx => by rw [small_no (by omega) hx]; rfl
        clear c0 c1 c2 c3 hA hC
        by_cases hq : (kids T k).length ≤ 70 ∧ (nd T k).attrs.length ≤ 20 ∧ (nd T k).tag.size ≤ 500
        · obtain ⟨hq1, hq2, hq3⟩ := hq
          have hB : Hid (∀ o, Below w.heap.size w (wr.alloc o)) := fun o => below_alloc hb o
          go_wp2
          go_loop [5] (fun s => ∃ j : Nat, j ≤ (nd T k).attrs.length ∧ s = .int .i64 j ∧ ∀ i, i < j → (nm (nd T k).attrs i).size ≤ 500 ∧ (vl (nd T k).attrs i).size ≤ 500) (fun s => (nd T k).attrs.length - (intOf s).toNat)
          case atStart => exact ⟨0, Nat.zero_le _, rfl, fun j hj => absurd hj (by omega)⟩
          case round =>
            obtain ⟨j, hj, rfl, hje⟩ := hrel
            have hje' := hide hje
            clear hje
            by_cases hltj : j < (nd T k).attrs.length
            · obtain ⟨b', off', rfl, hb', hcn, hcv⟩ := hgA.out.2.2.2 (by omega)
              have gn := (old hb _ _ hb').trans (hcn j hltj)
              have gv := (old hb _ _ hb').trans (hcv j hltj)
              have hbr' : b' < wr.heap.size := Nat.lt_of_lt_of_le hb' hb.size
              have hszz : (nm (nd T k).attrs j).size ≤ 9223372036854775807 ∧ (vl (nd T k).attrs j).size ≤ 9223372036854775807 := hgA.out.2.2.1 ((nd T k).attrs.getD j default) (by rw [List.getD_eq_getElem?_getD, List.getElem?_eq_getElem (by omega)]; exact List.getElem_mem _)
              obtain ⟨hz1, hz2⟩ := hszz
              clear hcn hcv
              by_cases hx : (nm (nd T k).attrs j).size ≤ 500 ∧ (vl (nd T k).attrs j).size ≤ 500
              · obtain ⟨hx1, hx2⟩ := hx
                go_wp2
                go_round
                case rel => exact ⟨j + 1, by omega, by go_num, fun i hi => by
                  by_cases h : i = j
                  · subst h; exact ⟨hx1, hx2⟩
                  · exact hje'.out i (by omega)⟩
                case measure => simp [intOf]; omega
              · have hr := hide (hno.out fun hh => hx (hh.2.2.2 j hltj))
                have hx' : 500 < (nm (nd T k).attrs j).size ∨ ((nm (nd T k).attrs j).size ≤ 500 ∧ 500 < (vl (nd T k).attrs j).size) := by omega
                clear hx hno
                rcases hx' with h | ⟨h, h'⟩
                all_goals
                  go_wp2
                  go_ret
                  exact ⟨ret_bool hr.out.symm, hB.out _⟩
            · clear hno
              go_wp2
              go_roundw
              case rel => exact ⟨k + 1, by omega, by omega, by go_num, hB.out _, by go_simp, fun i hi => by
                by_cases h : i = k
                · subst h; exact ⟨hq1, hq2, hq3, fun j' hj' => hje'.out j' (by omega)⟩
                · exact hne'.out i (by omega)⟩
              case measure => simp [intOf]; omega
        · have hr := hide (hno.out fun hx => hq ⟨hx.1, hx.2.1, hx.2.2.1⟩)
          have hq' : 70 < (kids T k).length ∨ ((kids T k).length ≤ 70 ∧ 20 < (nd T k).attrs.length) ∨ ((kids T k).length ≤ 70 ∧ (nd T k).attrs.length ≤ 20 ∧ 500 < (nd T k).tag.size) := by omega
          clear hq hno
          rcases hq' with h | ⟨h, h'⟩ | ⟨h, h', h''⟩
          all_goals
            go_wp2
            go_ret
            exact ⟨ret_bool hr.out.symm, below_alloc hb _⟩
      · have hr : Hid ((!smallTB T) = true) := by
          show (!smallTB T) = true
          have : smallTB T = false := by rw [Bool.eq_false_iff]; intro hc; have := ((smallTB_iff T).1 hc).1; omega
          rw [this]; rfl
        go_wp2
        go_ret
        exact ⟨ret_bool (by rw [hr.out]; try simp; try omega), hb⟩
    · have hr : Hid ((!smallTB T) = decide (70 < n)) := by
        show (!smallTB T) = decide (70 < n)
        by_cases h : 70 < n
        · have : smallTB T = false := by rw [Bool.eq_false_iff]; intro hc; have := ((smallTB_iff T).1 hc).1; omega
          simp [this, h]
        · have : smallTB T = true := (smallTB_iff T).2 ⟨by omega, fun i hi => hne'.out i (by omega)⟩
          simp [this]; omega
      go_wp2
      go_ret
      exact ⟨ret_bool (by rw [hr.out]; try simp; try omega), hb⟩
end Go.Proofs.Ytbedomopojiehaa
