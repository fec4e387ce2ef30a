/- Words on memory: lists of bytes, lists of lists of truth values; what is told. No condition. -/
import Derived.Test.YtaliekkdamghbaaPush
import Derived.Test.YtaliekkdamghbaaOa
namespace Go.Proofs.Ytaliekkdamghbaa
open Go.RowKit

def rowB (H : List (List Bool)) (j : Nat) : List Bool := H.getD j []
def IsU8 (w : World) (A : Option Addr) (n : Nat) (xs : List Int) : Prop :=
  xs.length = n ∧ n ≤ 9223372036854775807 ∧ (∀ x ∈ xs, 0 ≤ x ∧ x ≤ 255) ∧ (0 < n → ∃ b off, A = some ⟨b, off, none⟩ ∧ b < w.heap.size ∧ ∀ j, j < n → w.cell? ⟨b, off + j, none⟩ = some (.int .u8 (ix xs j)))
def IsBB (w : World) (A : Option Addr) (n : Nat) (H : List (List Bool)) : Prop :=
  H.length = n ∧ n ≤ 9223372036854775807 ∧ (0 < n → ∃ (b off : Nat) (hA : Nat → Option Addr) (hC : Nat → Nat), A = some ⟨b, off, none⟩ ∧ b < w.heap.size ∧
    (∀ j, j < n → w.cell? ⟨b, off + j, none⟩ = some (.slice (hA j) (rowB H j).length (hC j))) ∧
    (∀ j, j < n → IsBools w (hA j) (rowB H j).length (rowB H j) ∧ (rowB H j).length ≤ hC j ∧ hC j ≤ 9223372036854775807))
section
variable {w w' : World} {A : Option Addr} {n : Nat}
theorem IsU8.below {xs : List Int} (h : IsU8 w A n xs) (hb : Below w.heap.size w w') : IsU8 w' A n xs := by
  obtain ⟨h1, h2, h2', h3⟩ := h
  refine ⟨h1, h2, h2', fun hn => ?_⟩
  obtain ⟨b, off, ha, hbl, hc⟩ := h3 hn
  exact ⟨b, off, ha, Nat.lt_of_lt_of_le hbl hb.size, fun j hj => (old hb _ _ hbl).trans (hc j hj)⟩
theorem IsBB.below {H : List (List Bool)} (h : IsBB w A n H) (hb : Below w.heap.size w w') : IsBB w' A n H := by
  obtain ⟨h1, h2, h3⟩ := h
  refine ⟨h1, h2, fun hn => ?_⟩
  obtain ⟨b, off, hA, hC, ha, hbl, hc, hr⟩ := h3 hn
  exact ⟨b, off, hA, hC, ha, Nat.lt_of_lt_of_le hbl hb.size, fun j hj => (old hb _ _ hbl).trans (hc j hj), fun j hj => ⟨(hr j hj).1.below hb, (hr j hj).2⟩⟩
end

/-- What is told is right, for a tree of so many elements. -/
def toldB (n : Nat) (cs : List Int) (H : List (List Bool)) : Bool :=
  decide (1 ≤ H.length) && decide (H.length ≤ 64) && decide (H.length = cs.length + 1) && decide (∀ j, j < cs.length → 1 ≤ ix cs j ∧ ix cs j ≤ 4) && decide (∀ j, j < H.length → (rowB H j).length = n)
theorem toldB_iff (n : Nat) (cs : List Int) (H : List (List Bool)) : toldB n cs H = true ↔ 1 ≤ H.length ∧ H.length ≤ 64 ∧ H.length = cs.length + 1 ∧ (∀ j, j < cs.length → 1 ≤ ix cs j ∧ ix cs j ≤ 4) ∧ ∀ j, j < H.length → (rowB H j).length = n := by
  simp only [toldB, Bool.and_eq_true, decide_eq_true_eq, and_assoc]
/-- The error of a tree and of what is told. -/
def cchk (T : List ANode) (cs : List Int) (H : List (List Bool)) : Int := if goodB T = true then (if toldB T.length cs H = true then 0 else 2) else 8
/-- The error of a tree, an element and what is told. -/
def cask (T : List ANode) (i : Int) (cs : List Int) (H : List (List Bool)) : Int := if askI T [i] = 0 then cchk T cs H else askI T [i]
theorem cchk_zero {T : List ANode} {cs : List Int} {H : List (List Bool)} : cchk T cs H = 0 ↔ goodB T = true ∧ toldB T.length cs H = true := by
  unfold cchk
  by_cases h : goodB T = true
  · rw [if_pos h]; by_cases h2 : toldB T.length cs H = true
    · rw [if_pos h2]; simp [h, h2]
    · rw [if_neg h2]; simp [h2]
  · rw [if_neg h]; simp [h]
theorem cask_zero {T : List ANode} {i : Int} {cs : List Int} {H : List (List Bool)} : cask T i cs H = 0 ↔ goodB T = true ∧ (0 ≤ i ∧ i < T.length) ∧ toldB T.length cs H = true := by
  unfold cask
  by_cases h : askI T [i] = 0
  · rw [if_pos h, cchk_zero]
    have := (askI_zero.1 h).2 i (by simp)
    have hg := (askI_zero.1 h).1
    constructor
    · rintro ⟨h1, h2⟩; exact ⟨h1, this, h2⟩
    · rintro ⟨h1, _, h2⟩; exact ⟨h1, h2⟩
  · rw [if_neg h]
    constructor
    · intro h'; exact absurd h' h
    · rintro ⟨h1, h2, -⟩; exact absurd (askI_ok h1 (by simpa using h2)) h

/-! ## The check, by the program -/
set_option maxRecDepth 100000 in
set_option maxHeartbeats 2000000 in
theorem ccheck_ok (A B C : Option Addr) (n c m d k e : Nat) (T : List ANode) (cs : List Int) (H : List (List Bool)) (w : World) (h : IsTree w A n T) (hcs : IsU8 w B m cs) (hH : IsBB w C k H) :
    Calls Try.prog 26 #[.agg #[.slice A n c], .slice B m d, .slice C k e] w fun r w' => r = .returned (.int .i64 (cchk T cs H)) ∧ Below w.heap.size w w' := by
  have hn63 : n ≤ 9223372036854775807 := h.2.1
  have hm63 : m ≤ 9223372036854775807 := hcs.2.1
  have hk63 : k ≤ 9223372036854775807 := hH.2.1
  have hml := hcs.1
  have hkl := hH.1
  have hcs' := hide hcs
  have hH' := hide hH
  clear hcs hH
  have hT := hide h
  have hl := h.1
  clear h
  have hB0 := below_alloc (Below.refl w.heap.size w) (.cells #[.slice A n c] 24)
  have hbox0 : (w.alloc (.cells #[.slice A n c] 24)).cell? ⟨w.heap.size, 0, none⟩ = some (.slice A n c) := by go_simp
  by_cases hg : goodB T = true
  · by_cases hk : 1 ≤ k ∧ k ≤ 64
    · obtain ⟨hk1, hk2⟩ := hk
      by_cases hmk : k = m + 1
      · have hc0 : chk T = 0 := chk_ok hg
        have hg' := hide hg
        clear hg
        have j1 : ((m : Int) != (k : Int) - 1) = false := by simp; omega
        subst hmk
        go_enter Try.func26, Try.ntmps26
        go_wp2_with fail
        refine (check_ok _ _ _ T _ (hT.out.below hB0)).mono ?_
        rintro e w1 ⟨rfl, hb1⟩
        have hbox1 := cell_later hb1 hbox0
        have hB1 := Below.on hB0 hb1
        go_wp2
        go_loop [9, 35] (fun _ s => ∃ q : Nat, q ≤ m ∧ s = .int .i64 q ∧ ∀ j, j < q → 1 ≤ ix cs j ∧ ix cs j ≤ 4) (fun _ s => m - (intOf s).toNat)
        case atStart => exact ⟨0, Nat.zero_le _, rfl, fun j hj => absurd hj (by omega)⟩
        case round =>
          obtain ⟨q, hq, rfl, hall⟩ := hrel
          have hall' := hide hall
          clear hall
          by_cases hlt : q < m
          · obtain ⟨b, off, rfl, hbl, hck⟩ := hcs'.out.2.2.2 (by omega)
            have gk := (old hB1 _ _ hbl).trans (hck q hlt)
            have hbr : b < w1.heap.size := Nat.lt_of_lt_of_le hbl hB1.size
            have hix := hide (rfl : ix cs q = ix cs q)
            obtain ⟨y, hy⟩ : ∃ y, ix cs q = y := ⟨_, rfl⟩
            rw [hy] at gk
            have hy' := hide hy
            clear hck hy hix
            by_cases hyr : 1 ≤ y ∧ y ≤ 4
            · obtain ⟨hy1, hy2⟩ := hyr
              go_wp2
              go_round
              case rel => exact ⟨q + 1, by omega, by go_num, fun j hj => by
                by_cases h : j = q
                · subst h; rw [hy'.out]; exact ⟨hy1, hy2⟩
                · exact hall'.out j (by omega)⟩
              case measure => simp [intOf]; omega
            · have hr : Hid (cchk T cs H = 2) := by
                show _ = _
                unfold cchk
                rw [if_pos hg'.out, if_neg]
                intro ht
                have := ((toldB_iff _ _ _).1 ht).2.2.2.1 q (by omega)
                rw [hy'.out] at this
                exact hyr this
              rcases (by omega : y < 1 ∨ (1 ≤ y ∧ 4 < y)) with h1 | ⟨h1, h2⟩
              all_goals
                clear hyr
                go_wp2
                go_ret
                exact ⟨ret_int hr.out.symm, hB1⟩
          · have hcall : Hid (∀ j, j < cs.length → 1 ≤ ix cs j ∧ ix cs j ≤ 4) := fun j hj => hall'.out j (by omega)
            clear hall'
            go_wp2
            go_loop [11, 48] (fun _ s => ∃ q : Nat, q ≤ m + 1 ∧ s = .int .i64 q ∧ ∀ j, j < q → (rowB H j).length = n) (fun _ s => m + 1 - (intOf s).toNat)
            case atStart => exact ⟨0, Nat.zero_le _, rfl, fun j hj => absurd hj (by omega)⟩
            case round =>
              obtain ⟨q', hq', rfl, hall⟩ := hrel
              have hall' := hide hall
              clear hall
              by_cases hlt2 : q' < m + 1
              · obtain ⟨b, off, hA, hC, rfl, hbl, hck, hrr⟩ := hH'.out.2.2 (by omega)
                have gk := (old hB1 _ _ hbl).trans (hck q' hlt2)
                have hbr : b < w1.heap.size := Nat.lt_of_lt_of_le hbl hB1.size
                have hrl : (rowB H q').length ≤ 9223372036854775807 := (hrr q' hlt2).1.2.1
                obtain ⟨y, hy⟩ : ∃ y, (rowB H q').length = y := ⟨_, rfl⟩
                rw [hy] at gk hrl
                have hy' := hide hy
                clear hck hy hrr
                by_cases hyn : y = n
                · have hyn' : ((y : Int) != (n : Int)) = false := by simp [hyn]
                  have hyq : Hid ((rowB H q').length = n) := by show _ = _; rw [hy'.out, hyn]
                  clear hyn
                  go_wp2
                  go_round
                  case rel => exact ⟨q' + 1, by omega, by go_num, fun j hj => by
                    by_cases h : j = q'
                    · subst h; exact hyq.out
                    · exact hall'.out j (by omega)⟩
                  case measure => simp [intOf]; omega
                · have hyn' : ((y : Int) != (n : Int)) = true := by simp; omega
                  have hr : Hid (cchk T cs H = 2) := by
                    show _ = _
                    unfold cchk
                    rw [if_pos hg'.out, if_neg]
                    intro ht
                    have := ((toldB_iff _ _ _).1 ht).2.2.2.2 q' (by omega)
                    have h2 := hy'.out
                    omega
                  clear hyn
                  go_wp2
                  go_ret
                  exact ⟨ret_int hr.out.symm, hB1⟩
              · have hr : Hid (cchk T cs H = 0) := by
                  show _ = _
                  rw [cchk_zero]
                  refine ⟨hg'.out, ?_⟩
                  rw [toldB_iff]
                  exact ⟨by omega, by omega, by omega, hcall.out, fun j hj => by rw [hall'.out j (by omega), hl]⟩
                go_wp2
                go_ret
                exact ⟨ret_int hr.out.symm, hB1⟩
      · have hbad : ¬ toldB T.length cs H = true := fun ht => by have := ((toldB_iff _ _ _).1 ht).2.2.1; omega
        have hq : Hid (cchk T cs H = 2) := by show _ = _; unfold cchk; rw [if_pos hg, if_neg hbad]
        have hc0 : chk T = 0 := chk_ok hg
        have j1 : ((m : Int) != (k : Int) - 1) = true := by simp; omega
        clear hg hbad
        go_enter Try.func26, Try.ntmps26
        go_wp2_with fail
        refine (check_ok _ _ _ T _ (hT.out.below hB0)).mono ?_
        rintro e w1 ⟨rfl, hb1⟩
        have hbox1 := cell_later hb1 hbox0
        have hB1 := Below.on hB0 hb1
        go_wp2
        go_ret
        exact ⟨ret_int hq.out.symm, hB1⟩
    · have hbad : ¬ toldB T.length cs H = true := fun ht => by have := (toldB_iff _ _ _).1 ht; omega
      have hq : Hid (cchk T cs H = 2) := by show _ = _; unfold cchk; rw [if_pos hg, if_neg hbad]
      have hc0 : chk T = 0 := chk_ok hg
      rcases (by omega : k < 1 ∨ (1 ≤ k ∧ 64 < k)) with h1 | ⟨h1, h2⟩
      all_goals
        clear hg hbad hk
        go_enter Try.func26, Try.ntmps26
        go_wp2_with fail
        refine (check_ok _ _ _ T _ (hT.out.below hB0)).mono ?_
        rintro e w1 ⟨rfl, hb1⟩
        have hbox1 := cell_later hb1 hbox0
        have hB1 := Below.on hB0 hb1
        go_wp2
        go_ret
        exact ⟨ret_int hq.out.symm, hB1⟩
  · have hc0 : chk T = 8 := chk_bad hg
    have hq : Hid (cchk T cs H = 8) := if_neg hg
    clear hg
    go_enter Try.func26, Try.ntmps26
    go_wp2_with fail
    refine (check_ok _ _ _ T _ (hT.out.below hB0)).mono ?_
    rintro e w1 ⟨rfl, hb1⟩
    have hbox1 := cell_later hb1 hbox0
    have hB1 := Below.on hB0 hb1
    go_wp2
    go_ret
    exact ⟨ret_int hq.out.symm, hB1⟩
end Go.Proofs.Ytaliekkdamghbaa
