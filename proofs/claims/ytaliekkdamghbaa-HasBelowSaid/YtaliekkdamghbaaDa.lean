/- Walks: what is greater than the statements of chapter 21 consider. No condition. -/
import Derived.Test.YtaliekkdamghbaaCw
import Derived.Test.YtaliekkdamghbaaWh
namespace Go.Proofs.Ytaliekkdamghbaa
open Go.RowKit

def small21 (T : List ANode) (cs : List Int) (H : List (List Bool)) : Bool :=
  smallTB T && decide (¬ (20 < T.length ∧ goodB T = true)) && decide (¬ (5 < H.length ∧ H.length ≤ 64)) && decide (H.length ≤ 70) && decide (cs.length ≤ 100) && decide (∀ j, j < H.length → (rowB H j).length ≤ 80)
theorem small21_iff {T : List ANode} {cs : List Int} {H : List (List Bool)} : small21 T cs H = true ↔ smallTB T = true ∧ ¬ (20 < T.length ∧ goodB T = true) ∧ ¬ (5 < H.length ∧ H.length ≤ 64) ∧ H.length ≤ 70 ∧ cs.length ≤ 100 ∧ ∀ j, j < H.length → (rowB H j).length ≤ 80 := by
  simp only [small21, Bool.and_eq_true, decide_eq_true_eq, and_assoc]
theorem great_no {T : List ANode} {cs : List Int} {H : List (List Bool)} (h : ¬ (smallTB T = true ∧ ¬ (20 < T.length ∧ goodB T = true) ∧ ¬ (5 < H.length ∧ H.length ≤ 64) ∧ H.length ≤ 70 ∧ cs.length ≤ 100 ∧ ∀ j, j < H.length → (rowB H j).length ≤ 80)) : (!small21 T cs H) = true := by
  cases hs : small21 T cs H
  · rfl
  · exact absurd (small21_iff.1 hs) h

set_option maxRecDepth 100000 in
set_option maxHeartbeats 2000000 in
theorem great21_ok (A B C : Option Addr) (n c m d k e : Nat) (T : List ANode) (cs : List Int) (H : List (List Bool)) (w : World) (h : IsTree w A n T) (hcs : IsU8 w B m cs) (hH : IsBB w C k H) :
    Calls Try.prog 16 #[.agg #[.slice A n c], .slice B m d, .slice C k e] w fun r w' => r = .returned (.bool (!small21 T cs H)) ∧ Below w.heap.size w w' := by
  have hn63 : n ≤ 9223372036854775807 := h.2.1
  have hm63 : m ≤ 9223372036854775807 := hcs.2.1
  have hk63 : k ≤ 9223372036854775807 := hH.2.1
  have hml := hcs.1
  have hkl := hH.1
  have hH' := hide hH
  clear hcs hH
  have hT := hide h
  have hl := h.1
  clear h
  have hB0 := below_alloc (Below.refl w.heap.size w) (.cells #[.slice A n c] 24)
  have hbox0 : (w.alloc (.cells #[.slice A n c] 24)).cell? ⟨w.heap.size, 0, none⟩ = some (.slice A n c) := by go_simp
  cases hs : smallTB T
  · have hr := hide (great_no (T := T) (cs := cs) (H := H) (fun h => by rw [hs] at h; exact absurd h.1 (by decide)))
    have hs' := hide hs
    clear hs
    go_enter Try.func16, Try.ntmps16
    go_wp2_with fail
    have hx := great_ok _ _ c T _ (hT.out.below hB0)
    rw [hs'.out] at hx
    refine hx.mono ?_
    clear hx
    rintro e1 w1 ⟨rfl, hb1⟩
    have hB1 := Below.on hB0 hb1
    go_wp2
    go_ret
    exact ⟨ret_bool hr.out.symm, hB1⟩
  · have hs' := hide hs
    clear hs
    by_cases h20 : 20 < n
    · by_cases hg : goodB T = true
      · have hr := hide (great_no (T := T) (cs := cs) (H := H) (fun h => h.2.1 ⟨by omega, hg⟩))
        have hc0 : chk T = 0 := chk_ok hg
        clear hg
        go_enter Try.func16, Try.ntmps16
        go_wp2_with fail
        have hx := great_ok _ _ c T _ (hT.out.below hB0)
        rw [hs'.out] at hx
        refine hx.mono ?_
        clear hx
        rintro e1 w1 ⟨rfl, hb1⟩
        have hbox1 := cell_later hb1 hbox0
        have hB1 := Below.on hB0 hb1
        go_wp2_with fail
        refine (rcheck_ok _ _ _ T _ (hT.out.below hB1)).mono ?_
        rintro e w2 ⟨rfl, hb2⟩
        have hbox2 := cell_later hb2 hbox1
        have hB2 := Below.on hB1 hb2
        go_wp2
        go_ret
        exact ⟨ret_bool hr.out.symm, hB2⟩
      · have hc0 : chk T = 8 := chk_bad hg
        have ht20 : Hid (¬ (20 < T.length ∧ goodB T = true)) := fun h => hg h.2
        clear hg
        go_enter Try.func16, Try.ntmps16
        go_wp2_with fail
        have hx := great_ok _ _ c T _ (hT.out.below hB0)
        rw [hs'.out] at hx
        refine hx.mono ?_
        clear hx
        rintro e1 w1 ⟨rfl, hb1⟩
        have hbox1 := cell_later hb1 hbox0
        have hB1 := Below.on hB0 hb1
        go_wp2_with fail
        refine (rcheck_ok _ _ _ T _ (hT.out.below hB1)).mono ?_
        rintro e w2 ⟨rfl, hb2⟩
        have hbox2 := cell_later hb2 hbox1
        have hB2 := Below.on hB1 hb2
        by_cases h5 : 5 < k ∧ k ≤ 64
        · have hr := hide (great_no (T := T) (cs := cs) (H := H) (fun h => h.2.2.1 (by omega)))
          obtain ⟨h51, h52⟩ := h5
          go_wp2
          go_ret
          exact ⟨ret_bool hr.out.symm, hB2⟩
        · by_cases h70 : 70 < k
          · have hr := hide (great_no (T := T) (cs := cs) (H := H) (fun h => by have := h.2.2.2.1; omega))
            have h51 : 5 < k := by omega
            have h52 : 64 < k := by omega
            clear h5
            go_wp2
            go_ret
            exact ⟨ret_bool hr.out.symm, hB2⟩
          · by_cases h100 : 100 < m
            · have hr := hide (great_no (T := T) (cs := cs) (H := H) (fun h => by have := h.2.2.2.2.1; omega))
              rcases (by omega : k ≤ 5 ∨ (5 < k ∧ 64 < k)) with h51 | ⟨h51, h52⟩
              all_goals
                clear h5
                go_wp2
                go_ret
                exact ⟨ret_bool hr.out.symm, hB2⟩
            · rcases (by omega : k ≤ 5 ∨ (5 < k ∧ 64 < k)) with h51 | ⟨h51, h52⟩
              all_goals
                clear h5
                go_wp2
                go_loop [7] (fun s => ∃ q : Nat, q ≤ k ∧ s = .int .i64 q ∧ ∀ j, j < q → (rowB H j).length ≤ 80) (fun s => k - (intOf s).toNat)
                case atStart => exact ⟨0, Nat.zero_le _, rfl, fun j hj => absurd hj (by omega)⟩
                case round =>
                  obtain ⟨q, hq, rfl, hall⟩ := hrel
                  have hall' := hide hall
                  clear hall
                  by_cases hlt : q < k
                  · obtain ⟨b, off, hA, hC, rfl, hbl, hck, hrr⟩ := hH'.out.2.2 (by omega)
                    have gk := (old hB2 _ _ hbl).trans (hck q hlt)
                    have hbr : b < w2.heap.size := Nat.lt_of_lt_of_le hbl (hB2).size
                    have hrl : (rowB H q).length ≤ 9223372036854775807 := (hrr q hlt).1.2.1
                    obtain ⟨y, hy⟩ : ∃ y, (rowB H q).length = y := ⟨_, rfl⟩
                    rw [hy] at gk hrl
                    have hy' := hide hy
                    clear hck hy hrr
                    by_cases hyn : y ≤ 80
                    · have hnew : Hid (∀ j, j < q + 1 → (rowB H j).length ≤ 80) := fun j hj => by
                        by_cases h : j = q
                        · subst h; rw [hy'.out]; exact hyn
                        · exact hall'.out j (by omega)
                      go_wp2
                      go_round
                      case rel => exact ⟨q + 1, by omega, by go_num, hnew.out⟩
                      case measure => simp [intOf]; omega
                    · have hr := hide (great_no (T := T) (cs := cs) (H := H) (fun h => by have := h.2.2.2.2.2 q (by omega); have := hy'.out; omega))
                      go_wp2
                      go_ret
                      exact ⟨ret_bool hr.out.symm, hB2⟩
                  · have hr : Hid ((!small21 T cs H) = false) := by
                      show _ = _
                      rw [Bool.not_eq_false', small21_iff]
                      exact ⟨hs'.out, ht20.out, by omega, by omega, by omega, fun j hj => hall'.out j (by omega)⟩
                    go_wp2
                    go_ret
                    exact ⟨ret_bool hr.out.symm, hB2⟩
    · have ht20 : Hid (¬ (20 < T.length ∧ goodB T = true)) := fun h => by have := h.1; omega
      go_enter Try.func16, Try.ntmps16
      go_wp2_with fail
      have hx := great_ok _ _ c T _ (hT.out.below hB0)
      rw [hs'.out] at hx
      refine hx.mono ?_
      clear hx
      rintro e1 w1 ⟨rfl, hb1⟩
      have hbox1 := cell_later hb1 hbox0
      have hB1 := Below.on hB0 hb1
      by_cases h5 : 5 < k ∧ k ≤ 64
      · have hr := hide (great_no (T := T) (cs := cs) (H := H) (fun h => h.2.2.1 (by omega)))
        obtain ⟨h51, h52⟩ := h5
        go_wp2
        go_ret
        exact ⟨ret_bool hr.out.symm, hB1⟩
      · by_cases h70 : 70 < k
        · have hr := hide (great_no (T := T) (cs := cs) (H := H) (fun h => by have := h.2.2.2.1; omega))
          have h51 : 5 < k := by omega
          have h52 : 64 < k := by omega
          clear h5
          go_wp2
          go_ret
          exact ⟨ret_bool hr.out.symm, hB1⟩
        · by_cases h100 : 100 < m
          · have hr := hide (great_no (T := T) (cs := cs) (H := H) (fun h => by have := h.2.2.2.2.1; omega))
            rcases (by omega : k ≤ 5 ∨ (5 < k ∧ 64 < k)) with h51 | ⟨h51, h52⟩
            all_goals
              clear h5
              go_wp2
              go_ret
              exact ⟨ret_bool hr.out.symm, hB1⟩
          · rcases (by omega : k ≤ 5 ∨ (5 < k ∧ 64 < k)) with h51 | ⟨h51, h52⟩
            all_goals
              clear h5
              go_wp2
              go_loop [7] (fun s => ∃ q : Nat, q ≤ k ∧ s = .int .i64 q ∧ ∀ j, j < q → (rowB H j).length ≤ 80) (fun s => k - (intOf s).toNat)
              case atStart => exact ⟨0, Nat.zero_le _, rfl, fun j hj => absurd hj (by omega)⟩
              case round =>
                obtain ⟨q, hq, rfl, hall⟩ := hrel
                have hall' := hide hall
                clear hall
                by_cases hlt : q < k
                · obtain ⟨b, off, hA, hC, rfl, hbl, hck, hrr⟩ := hH'.out.2.2 (by omega)
                  have gk := (old hB1 _ _ hbl).trans (hck q hlt)
                  have hbr : b < w1.heap.size := Nat.lt_of_lt_of_le hbl (hB1).size
                  have hrl : (rowB H q).length ≤ 9223372036854775807 := (hrr q hlt).1.2.1
                  obtain ⟨y, hy⟩ : ∃ y, (rowB H q).length = y := ⟨_, rfl⟩
                  rw [hy] at gk hrl
                  have hy' := hide hy
                  clear hck hy hrr
                  by_cases hyn : y ≤ 80
                  · have hnew : Hid (∀ j, j < q + 1 → (rowB H j).length ≤ 80) := fun j hj => by
                      by_cases h : j = q
                      · subst h; rw [hy'.out]; exact hyn
                      · exact hall'.out j (by omega)
                    go_wp2
                    go_round
                    case rel => exact ⟨q + 1, by omega, by go_num, hnew.out⟩
                    case measure => simp [intOf]; omega
                  · have hr := hide (great_no (T := T) (cs := cs) (H := H) (fun h => by have := h.2.2.2.2.2 q (by omega); have := hy'.out; omega))
                    go_wp2
                    go_ret
                    exact ⟨ret_bool hr.out.symm, hB1⟩
                · have hr : Hid ((!small21 T cs H) = false) := by
                    show _ = _
                    rw [Bool.not_eq_false', small21_iff]
                    exact ⟨hs'.out, ht20.out, by omega, by omega, by omega, fun j hj => hall'.out j (by omega)⟩
                  go_wp2
                  go_ret
                  exact ⟨ret_bool hr.out.symm, hB1⟩
end Go.Proofs.Ytaliekkdamghbaa
