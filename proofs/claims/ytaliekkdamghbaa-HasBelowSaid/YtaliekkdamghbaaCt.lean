/- Walks: the errors of what is told, by the reference. No condition. -/
import Derived.Test.YtaliekkdamghbaaCw
import Derived.Deep.QuietTactic
import Derived.BigQuiet
namespace Go.Proofs.Ytaliekkdamghbaa
open Go.RowKit

set_option maxRecDepth 100000 in
set_option maxHeartbeats 2000000 in
theorem rccheck_ok (A B C : Option Addr) (n c m d k e : Nat) (T : List ANode) (cs : List Int) (H : List (List Bool)) (w : World) (h : IsTree w A n T) (hcs : IsU8 w B m cs) (hH : IsBB w C k H) :
    Calls Try.prog 17 #[.agg #[.slice A n c], .slice B m d, .slice C k e] w fun r w' => r = .returned (.int .i64 (cchk T cs H)) ∧ Below w.heap.size w w' := by
  have hn63 : n ≤ 9223372036854775807 := h.2.1
  have hm63 : m ≤ 9223372036854775807 := hcs.2.1
  have hk63 : k ≤ 9223372036854775807 := hH.2.1
  have hml := hcs.1
  have hkl := hH.1
  have hcs' := hide hcs
  have hH' := hide hH
  clear hcs hH
  have hT := hide h
  have hl := h.1
  clear h
  have hB0 := below_alloc (Below.refl w.heap.size w) (.cells #[.slice A n c] 24)
  have hbox0 : (w.alloc (.cells #[.slice A n c] 24)).cell? ⟨w.heap.size, 0, none⟩ = some (.slice A n c) := by go_simp
  by_cases hg : goodB T = true
  · by_cases hk : 1 ≤ k ∧ k ≤ 64
    · obtain ⟨hk1, hk2⟩ := hk
      have k0 : ((k : Int) == 0) = false := by simp; omega
      by_cases hmk : k = m + 1
      · have hc0 : chk T = 0 := chk_ok hg
        have hg' := hide hg
        have j1 : ((k : Int) != (m : Int) + 1) = false := by simp; omega
        have hmk' := hide hmk
        have hm64 : m ≤ 63 := by omega
        clear hg hmk
        go_enter Try.func17, Try.ntmps17
        go_wp2_with fail
        refine (rcheck_ok _ _ _ T _ (hT.out.below hB0)).mono ?_
        rintro e w1 ⟨rfl, hb1⟩
        have hbox1 := cell_later hb1 hbox0
        have hB1 := Below.on hB0 hb1
        go_wp2
        go_loopw [7] (fun s wr => ∃ q : Nat, q ≤ k ∧ s = .int .i64 q ∧ (∃ z, wr = w1.drewN z) ∧ ∀ j, j < q → (rowB H j).length = n ∧ (0 < j → 1 ≤ ix cs (j - 1) ∧ ix cs (j - 1) ≤ 4)) (fun s _ => k - (intOf s).toNat)
        case atStart => exact ⟨0, Nat.zero_le _, rfl, ⟨0, rfl⟩, fun j hj => absurd hj (by omega)⟩
        case round =>
          obtain ⟨q, hq, rfl, ⟨z, rfl⟩, hall⟩ := hrel
          have hall' := hide hall
          clear hall
          by_cases hlt : q < k
          · obtain ⟨b, off, hA, hC, rfl, hbl, hck, hrr⟩ := hH'.out.2.2 (by omega)
            have gk := (old hB1 _ _ hbl).trans (hck q hlt)
            have hbr : b < w1.heap.size := Nat.lt_of_lt_of_le hbl hB1.size
            have hrl : (rowB H q).length ≤ 9223372036854775807 := (hrr q hlt).1.2.1
            obtain ⟨y, hy⟩ : ∃ y, (rowB H q).length = y := ⟨_, rfl⟩
            rw [hy] at gk hrl
            have hy' := hide hy
            clear hck hy hrr
            by_cases hyn : y = n
            · have hyn' : ((y : Int) != (n : Int)) = false := by simp [hyn]
              rcases Nat.eq_zero_or_pos q with rfl | hq0
              · have h0' : Hid (∀ j, j < 0 + 1 → (rowB H j).length = n ∧ (0 < j → 1 ≤ ix cs (j - 1) ∧ ix cs (j - 1) ≤ 4)) := fun j hj => by
                  obtain rfl : j = 0 := by omega
                  exact ⟨by rw [hy'.out, hyn], fun h => absurd h (by omega)⟩
                simp only [Nat.add_zero] at gk
                clear hyn
                go_wp2
                go_quiet (fail)
                go_wp2
                go_roundw
                case rel => exact ⟨0 + 1, by omega, by go_num, ⟨_, rfl⟩, h0'.out⟩
                case measure => simp [intOf]; omega
              · obtain ⟨p, rfl⟩ : ∃ p, q = p + 1 := ⟨q - 1, by omega⟩
                have hpm : p < m := by have := hmk'.out; omega
                obtain ⟨bc, oc, rfl, hbc, hcc⟩ := hcs'.out.2.2.2 (by omega)
                have gc := (old hB1 _ _ hbc).trans (hcc p hpm)
                have hbcr : bc < w1.heap.size := Nat.lt_of_lt_of_le hbc hB1.size
                have hzr := hcs'.out.2.2.1 (ix cs p) (ix_mem (by omega))
                obtain ⟨v, hv⟩ : ∃ v, ix cs p = v := ⟨_, rfl⟩
                rw [hv] at gc hzr
                have hv' := hide hv
                have ep : ((p + 1 : Nat) : Int) - 1 = (p : Int) := by omega
                have hq1 : decide (0 < ((p : Int) + 1)) = true := decide_eq_true (by omega)
                have hbadz : Hid (¬ (1 ≤ v ∧ v ≤ 4) → cchk T cs H = 2) := fun hx => by
                  unfold cchk
                  rw [if_pos hg'.out, if_neg]
                  intro ht
                  have := ((toldB_iff _ _ _).1 ht).2.2.2.1 p (by omega)
                  rw [hv'.out] at this
                  exact hx this
                rcases (by omega : v = 0 ∨ (1 ≤ v ∧ v ≤ 4) ∨ 4 < v) with hz | ⟨hz1, hz2⟩ | hz
                · have hr := hide (hbadz.out (by omega))
                  have z1 : (v == 0) = true := by simp [hz]
                  clear hyn hcc hv hbadz hz
                  go_wp2
                  go_quiet (fail)
                  go_wp2
                  go_ret
                  exact ⟨ret_int hr.out.symm, below_drewN (below_drewN hB1 _) _⟩
                · have z1 : (v == 0) = false := by simp; omega
                  have z2 : decide (4 < v) = false := decide_eq_false (by omega)
                  have h0' : Hid (∀ j, j < p + 1 + 1 → (rowB H j).length = n ∧ (0 < j → 1 ≤ ix cs (j - 1) ∧ ix cs (j - 1) ≤ 4)) := fun j hj => by
                    by_cases h : j = p + 1
                    · subst h; exact ⟨by rw [hy'.out, hyn], fun _ => by rw [Nat.add_sub_cancel, hv'.out]; exact ⟨hz1, hz2⟩⟩
                    · exact hall'.out j (by omega)
                  clear hyn hcc hv hbadz
                  go_wp2
                  go_quiet (fail)
                  go_wp2
                  go_roundw
                  case rel => exact ⟨p + 1 + 1, by omega, by go_num, ⟨_, rfl⟩, h0'.out⟩
                  case measure => simp [intOf]; omega
                · have hr := hide (hbadz.out (by omega))
                  have z1 : (v == 0) = false := by simp; omega
                  have z2 : decide (4 < v) = true := decide_eq_true hz
                  clear hyn hcc hv hbadz
                  go_wp2
                  go_quiet (fail)
                  go_wp2
                  go_ret
                  exact ⟨ret_int hr.out.symm, below_drewN (below_drewN hB1 _) _⟩
            · have hyn' : ((y : Int) != (n : Int)) = true := by simp; omega
              have hr : Hid (cchk T cs H = 2) := by
                show _ = _
                unfold cchk
                rw [if_pos hg'.out, if_neg]
                intro ht
                have := ((toldB_iff _ _ _).1 ht).2.2.2.2 q (by omega)
                have h2 := hy'.out
                omega
              clear hyn
              go_wp2
              go_quiet (fail)
              go_wp2
              go_ret
              exact ⟨ret_int hr.out.symm, below_drewN (below_drewN hB1 _) _⟩
          · have hr : Hid (cchk T cs H = 0) := by
              show _ = _
              rw [cchk_zero]
              refine ⟨hg'.out, ?_⟩
              rw [toldB_iff]
              have := hmk'.out
              exact ⟨by omega, by omega, by omega, fun j hj => (hall'.out (j + 1) (by omega)).2 (by omega), fun j hj => by rw [(hall'.out j (by omega)).1, hl]⟩
            go_wp2
            go_ret
            exact ⟨ret_int hr.out.symm, below_drewN hB1 _⟩
      · have hbad : ¬ toldB T.length cs H = true := fun ht => by have := ((toldB_iff _ _ _).1 ht).2.2.1; omega
        have hq : Hid (cchk T cs H = 2) := by show _ = _; unfold cchk; rw [if_pos hg, if_neg hbad]
        have hc0 : chk T = 0 := chk_ok hg
        have j1 : ((k : Int) != (m : Int) + 1) = true := by simp; omega
        have hm64 : m ≤ 9223372036854775806 ∨ m = 9223372036854775807 := by omega
        clear hg hbad
        rcases hm64 with hm64 | rfl
        · go_enter Try.func17, Try.ntmps17
          go_wp2_with fail
          refine (rcheck_ok _ _ _ T _ (hT.out.below hB0)).mono ?_
          rintro e w1 ⟨rfl, hb1⟩
          have hbox1 := cell_later hb1 hbox0
          have hB1 := Below.on hB0 hb1
          go_wp2
          go_ret
          exact ⟨ret_int hq.out.symm, hB1⟩
        · have j2 : ((k : Int) != wrap64 9223372036854775808) = true := by
            have : wrap64 9223372036854775808 = -9223372036854775808 := by decide +kernel
            rw [this, bne_iff_ne]; omega
          clear j1
          go_enter Try.func17, Try.ntmps17
          go_wp2_with fail
          refine (rcheck_ok _ _ _ T _ (hT.out.below hB0)).mono ?_
          rintro e w1 ⟨rfl, hb1⟩
          have hbox1 := cell_later hb1 hbox0
          have hB1 := Below.on hB0 hb1
          go_wp2
          go_ret
          exact ⟨ret_int hq.out.symm, hB1⟩
    · have hbad : ¬ toldB T.length cs H = true := fun ht => by have := (toldB_iff _ _ _).1 ht; omega
      have hq : Hid (cchk T cs H = 2) := by show _ = _; unfold cchk; rw [if_pos hg, if_neg hbad]
      have hc0 : chk T = 0 := chk_ok hg
      rcases (by omega : k = 0 ∨ (1 ≤ k ∧ 64 < k)) with h1 | ⟨h1, h2⟩
      · have k0 : ((k : Int) == 0) = true := by simp [h1]
        clear hg hbad hk h1
        go_enter Try.func17, Try.ntmps17
        go_wp2_with fail
        refine (rcheck_ok _ _ _ T _ (hT.out.below hB0)).mono ?_
        rintro e w1 ⟨rfl, hb1⟩
        have hbox1 := cell_later hb1 hbox0
        have hB1 := Below.on hB0 hb1
        go_wp2
        go_ret
        exact ⟨ret_int hq.out.symm, hB1⟩
      · have k0 : ((k : Int) == 0) = false := by simp; omega
        clear hg hbad hk
        go_enter Try.func17, Try.ntmps17
        go_wp2_with fail
        refine (rcheck_ok _ _ _ T _ (hT.out.below hB0)).mono ?_
        rintro e w1 ⟨rfl, hb1⟩
        have hbox1 := cell_later hb1 hbox0
        have hB1 := Below.on hB0 hb1
        go_wp2
        go_ret
        exact ⟨ret_int hq.out.symm, hB1⟩
  · have hc0 : chk T = 8 := chk_bad hg
    have hq : Hid (cchk T cs H = 8) := if_neg hg
    clear hg
    go_enter Try.func17, Try.ntmps17
    go_wp2_with fail
    refine (rcheck_ok _ _ _ T _ (hT.out.below hB0)).mono ?_
    rintro e w1 ⟨rfl, hb1⟩
    have hbox1 := cell_later hb1 hbox0
    have hB1 := Below.on hB0 hb1
    go_wp2_with fail
    refine (rcheck_ok _ _ _ T _ (hT.out.below hB1)).mono ?_
    rintro e w2 ⟨rfl, hb2⟩
    have hbox2 := cell_later hb2 hbox1
    have hB2 := Below.on hB1 hb2
    go_wp2
    go_ret
    exact ⟨ret_int hq.out.symm, hB2⟩
end Go.Proofs.Ytaliekkdamghbaa
