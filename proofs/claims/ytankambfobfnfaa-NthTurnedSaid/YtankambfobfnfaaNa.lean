/- Walks: progressions, by the program and by the reference. Condition: a place is at most a hundred, and not below zero. -/
import Derived.Test.YtankambfobfnfaaOe
import Derived.Deep.QuietTactic
import Derived.BigQuiet
import Derived.IntWalk
namespace Go.Proofs.Ytankambfobfnfaa
open Go.RowKit

def anbB (a b : Int) : Bool := decide (-1000000000 ≤ a) && decide (a ≤ 1000000000) && decide (-1000000000 ≤ b) && decide (b ≤ 1000000000)
def anbE (a b : Int) : Int := if anbB a b = true then 0 else 8
theorem anbB_iff (a b : Int) : anbB a b = true ↔ -1000000000 ≤ a ∧ a ≤ 1000000000 ∧ -1000000000 ≤ b ∧ b ≤ 1000000000 := by simp [anbB, and_assoc]
/-- Whether a place is in a progression. -/
def hasB (a b n : Int) : Bool := if 0 < a then decide (0 ≤ n - b) && ((n - b) % a == 0) else if a < 0 then decide (n - b ≤ 0) && ((n - b) % a == 0) else (n - b == 0)
theorem tm0 (x a : Int) : (x.tmod a == 0) = (x % a == 0) := by
  rw [Bool.eq_iff_iff, beq_iff_eq, beq_iff_eq]
  exact ⟨fun h => Int.emod_eq_zero_of_dvd (Int.dvd_of_tmod_eq_zero h), fun h => Int.tmod_eq_zero_of_dvd (Int.dvd_of_emod_eq_zero h)⟩
def I64 (a : Int) : Prop := -9223372036854775808 ≤ a ∧ a ≤ 9223372036854775807

theorem within_ok (a : Int) (w : World) : Calls Try.prog 74 #[.int .i64 a] w fun e w' => e = .returned (.bool (decide (-1000000000 ≤ a) && decide (a ≤ 1000000000))) ∧ w = w' := by
  by_cases h : -1000000000 ≤ a
  · go_enter Try.func74, Try.ntmps74
    go_wp2
    go_ret
    exact ⟨ret_bool (by simp [h]), rfl⟩
  · have h' : decide (-1000000000 ≤ a) = false := by simpa using h
    rw [h']
    clear h'
    go_enter Try.func74, Try.ntmps74
    go_wp2
    go_ret
    exact ⟨ret_bool (by rfl), rfl⟩

theorem anbCheck_ok (a b : Int) (w : World) : Calls Try.prog 61 #[.agg #[.int .i64 a, .int .i64 b]] w fun e w' => e = .returned (.int .i64 (anbE a b)) ∧ Below w.heap.size w w' := by
  have hB0 := below_alloc (Below.refl w.heap.size w) (.cells #[.int .i64 a, .int .i64 b] 57)
  generalize hx : (decide (-1000000000 ≤ a) && decide (a ≤ 1000000000)) = x
  generalize hy : (decide (-1000000000 ≤ b) && decide (b ≤ 1000000000)) = y
  have hr : Hid (anbE a b = if x && y then 0 else 8) := by
    show _ = _
    rw [← hx, ← hy]; unfold anbE anbB
    simp [Bool.and_assoc]
  have hx' := hide hx
  have hy' := hide hy
  clear hx hy
  cases x
  · go_enter Try.func61, Try.ntmps61
    go_wp2_with (go_at_call 74; refine (within_ok a _).mono ?_; rw [hx'.out]; rintro e w1 ⟨rfl, rfl⟩)
    go_ret
    exact ⟨ret_int (by rw [hr.out]; rfl), hB0⟩
  · cases y
    all_goals
      go_enter Try.func61, Try.ntmps61
      go_wp2_with fail
      refine (within_ok a _).mono ?_
      rw [hx'.out]
      rintro e w1 ⟨rfl, rfl⟩
      go_wp2_with fail
      refine (within_ok b _).mono ?_
      rw [hy'.out]
      rintro e w1 ⟨rfl, rfl⟩
      go_wp2
      go_ret
      exact ⟨ret_int (by rw [hr.out]; rfl), hB0⟩

theorem anbHas_ok (a b n : Int) (w : World) (h : anbB a b = true) (h0 : 0 ≤ n) (h1 : n ≤ 100) : Calls Try.prog 69 #[.agg #[.int .i64 a, .int .i64 b], .int .i64 n] w fun e w' => e = .returned (.bool (hasB a b n)) ∧ Below w.heap.size w w' := by
  obtain ⟨a1, a2, b1, b2⟩ := (anbB_iff a b).1 h
  clear h
  have hB0 := below_alloc (Below.refl w.heap.size w) (.cells #[.int .i64 a, .int .i64 b] 57)
  by_cases ha : 0 < a
  · by_cases hl : 0 ≤ n - b
    · have hr : Hid (hasB a b n = ((n - b) % a == 0)) := by show _ = _; unfold hasB; rw [if_pos ha, decide_eq_true hl]; rfl
      go_enter Try.func69, Try.ntmps69
      go_wp2
      go_ret
      exact ⟨ret_bool hr.out.symm, hB0⟩
    · have hr : Hid (hasB a b n = false) := by show _ = _; unfold hasB; rw [if_pos ha, decide_eq_false hl]; rfl
      go_enter Try.func69, Try.ntmps69
      go_wp2
      go_ret
      exact ⟨ret_bool hr.out.symm, hB0⟩
  · by_cases hn : a < 0
    · by_cases hl : n - b ≤ 0
      · have hr : Hid (hasB a b n = ((n - b).tmod a == 0)) := by show _ = _; unfold hasB; rw [if_neg ha, if_pos hn, decide_eq_true hl, tm0]; rfl
        go_enter Try.func69, Try.ntmps69
        go_wp2
        go_ret
        exact ⟨ret_bool hr.out.symm, hB0⟩
      · have hr : Hid (hasB a b n = false) := by show _ = _; unfold hasB; rw [if_neg ha, if_pos hn, decide_eq_false hl]; rfl
        go_enter Try.func69, Try.ntmps69
        go_wp2
        go_ret
        exact ⟨ret_bool hr.out.symm, hB0⟩
    · have hr : Hid (hasB a b n = (n - b == 0)) := by show _ = _; unfold hasB; rw [if_neg ha, if_neg hn]
      obtain rfl : a = 0 := by omega
      go_enter Try.func69, Try.ntmps69
      go_wp2
      go_ret
      exact ⟨ret_bool hr.out.symm, hB0⟩

/-- What In answers. -/
def inB (a b n : Int) : Bool := if anbB a b = true then (if 1 ≤ n then hasB a b n else false) else false
def inE (a b n : Int) : Int := if anbB a b = true then (if 1 ≤ n then 0 else 2) else 8

theorem anbIn_ok (a b n : Int) (w : World) (h0 : 0 ≤ n) (h1 : n ≤ 100) : Calls Try.prog 46 #[.agg #[.int .i64 a, .int .i64 b], .int .i64 n] w fun e w' => e = .returned (.tuple #[.bool (inB a b n), .int .i64 (inE a b n)]) ∧ Below w.heap.size w w' := by
  have hB0 := below_alloc (Below.refl w.heap.size w) (.cells #[.int .i64 a, .int .i64 b] 57)
  have hc0 : (w.alloc (.cells #[.int .i64 a, .int .i64 b] 57)).cell? ⟨w.heap.size, 0, none⟩ = some (.int .i64 a) := by go_simp
  have hc1 : (w.alloc (.cells #[.int .i64 a, .int .i64 b] 57)).cell? ⟨w.heap.size, 1, none⟩ = some (.int .i64 b) := by go_simp
  by_cases hv : anbB a b = true
  · have he : anbE a b = 0 := if_pos hv
    have hv' := hide hv
    by_cases hn : 1 ≤ n
    · have r1 : Hid (inB a b n = hasB a b n) := by show _ = _; unfold inB; rw [if_pos hv, if_pos hn]
      have r2 : Hid (inE a b n = 0) := by show _ = _; unfold inE; rw [if_pos hv, if_pos hn]
      clear hv
      go_enter Try.func46, Try.ntmps46
      go_wp2_with fail
      refine (anbCheck_ok a b _).mono ?_
      rintro e w1 ⟨rfl, hb1⟩
      have hd0 := cell_later hb1 hc0
      have hd1 := cell_later hb1 hc1
      go_wp2_with fail
      refine (anbHas_ok a b n _ hv'.out h0 h1).mono ?_
      rintro e w2 ⟨rfl, hb2⟩
      go_wp2
      go_ret2
      exact ⟨ret_bi r1.out.symm r2.out.symm, Below.on (Below.on hB0 hb1) hb2⟩
    · have r1 : Hid (inB a b n = false) := by show _ = _; unfold inB; rw [if_pos hv, if_neg hn]
      have r2 : Hid (inE a b n = 2) := by show _ = _; unfold inE; rw [if_pos hv, if_neg hn]
      clear hv
      go_enter Try.func46, Try.ntmps46
      go_wp2_with fail
      refine (anbCheck_ok a b _).mono ?_
      rintro e w1 ⟨rfl, hb1⟩
      go_wp2
      go_ret2
      exact ⟨ret_bi r1.out.symm r2.out.symm, Below.on hB0 hb1⟩
  · have he : anbE a b = 8 := if_neg hv
    have r1 : Hid (inB a b n = false) := if_neg hv
    have r2 : Hid (inE a b n = 8) := if_neg hv
    clear hv
    go_enter Try.func46, Try.ntmps46
    go_wp2_with fail
    refine (anbCheck_ok a b _).mono ?_
    rintro e w1 ⟨rfl, hb1⟩
    go_wp2
    go_ret2
    exact ⟨ret_bi r1.out.symm r2.out.symm, Below.on hB0 hb1⟩

theorem rvalid_ok (a b : Int) (w : World) : Calls Try.prog 67 #[.agg #[.int .i64 a, .int .i64 b]] w fun e w' => e = .returned (.bool (anbB a b)) ∧ Below w.heap.size w w' := by
  have hB0 := below_alloc (Below.refl w.heap.size w) (.cells #[.int .i64 a, .int .i64 b] 57)
  by_cases h1 : -1000000000 ≤ a
  · by_cases h2 : a ≤ 1000000000
    · by_cases h3 : -1000000000 ≤ b
      · by_cases h4 : b ≤ 1000000000
        · have hr : Hid (anbB a b = true) := (anbB_iff a b).2 ⟨h1, h2, h3, h4⟩
          go_enter Try.func67, Try.ntmps67
          go_wp2
          go_ret
          exact ⟨ret_bool hr.out.symm, hB0⟩
        · have hr : Hid (anbB a b = false) := by show _ = _; rw [Bool.eq_false_iff]; intro h; exact h4 ((anbB_iff a b).1 h).2.2.2
          go_enter Try.func67, Try.ntmps67
          go_wp2
          go_ret
          exact ⟨ret_bool hr.out.symm, hB0⟩
      · have hr : Hid (anbB a b = false) := by show _ = _; rw [Bool.eq_false_iff]; intro h; exact h3 ((anbB_iff a b).1 h).2.2.1
        go_enter Try.func67, Try.ntmps67
        go_wp2
        go_ret
        exact ⟨ret_bool hr.out.symm, hB0⟩
    · have hr : Hid (anbB a b = false) := by show _ = _; rw [Bool.eq_false_iff]; intro h; exact h2 ((anbB_iff a b).1 h).2.1
      go_enter Try.func67, Try.ntmps67
      go_wp2
      go_ret
      exact ⟨ret_bool hr.out.symm, hB0⟩
  · have hr : Hid (anbB a b = false) := by show _ = _; rw [Bool.eq_false_iff]; intro h; exact h1 ((anbB_iff a b).1 h).1
    go_enter Try.func67, Try.ntmps67
    go_wp2
    go_ret
    exact ⟨ret_bool hr.out.symm, hB0⟩

theorem ranbCheck_ok (a b : Int) (w : World) : Calls Try.prog 44 #[.agg #[.int .i64 a, .int .i64 b]] w fun e w' => e = .returned (.int .i64 (anbE a b)) ∧ Below w.heap.size w w' := by
  have hB0 := below_alloc (Below.refl w.heap.size w) (.cells #[.int .i64 a, .int .i64 b] 57)
  by_cases hv : anbB a b = true
  · have he : Hid (anbE a b = 0) := if_pos hv
    go_enter Try.func44, Try.ntmps44
    go_wp2_with fail
    refine (rvalid_ok a b _).mono ?_
    rintro e w1 ⟨rfl, hb1⟩
    go_wp2
    go_ret
    exact ⟨ret_int he.out.symm, Below.on hB0 hb1⟩
  · have he : Hid (anbE a b = 8) := if_neg hv
    have hv' : anbB a b = false := by simpa using hv
    clear hv
    go_enter Try.func44, Try.ntmps44
    go_wp2_with fail
    refine (rvalid_ok a b _).mono ?_
    rintro e w1 ⟨rfl, hb1⟩
    go_wp2
    go_ret
    exact ⟨ret_int he.out.symm, Below.on hB0 hb1⟩

theorem has_ref {a b n : Int} (ha : a ≠ 0) : hasB a b n = (((n - b).tmod a == 0) && decide (0 ≤ (n - b).tdiv a)) := by
  rw [tm0]
  by_cases hd : (n - b) % a = 0
  · obtain ⟨q, hq⟩ := Int.dvd_of_emod_eq_zero hd
    have hqd : (n - b).tdiv a = q := by rw [hq, Int.mul_tdiv_cancel_left _ ha]
    rw [hqd, show ((n - b) % a == 0) = true by simpa using hd]
    unfold hasB
    rw [show ((n - b) % a == 0) = true by simpa using hd]
    simp only [Bool.and_true, Bool.true_and]
    by_cases hp : 0 < a
    · rw [if_pos hp, Bool.eq_iff_iff]
      simp only [decide_eq_true_eq]
      rw [hq]
      constructor
      · intro h
        exact Int.not_lt.1 fun h2 => by have := Int.mul_neg_of_pos_of_neg hp h2; omega
      · intro h
        exact Int.mul_nonneg (by omega) h
    · have hn : a < 0 := by omega
      rw [if_neg hp, if_pos hn, Bool.eq_iff_iff]
      simp only [decide_eq_true_eq]
      rw [hq]
      constructor
      · intro h
        exact Int.not_lt.1 fun h2 => by have := Int.mul_pos_of_neg_of_neg hn h2; omega
      · intro h
        exact Int.mul_nonpos_of_nonpos_of_nonneg (by omega) h
  · have hf : ((n - b) % a == 0) = false := by simpa using hd
    rw [hf]
    unfold hasB
    rw [hf]
    simp only [Bool.and_false, Bool.false_and]
    split
    · rfl
    · rw [if_pos (by omega)]

theorem rhas_ok (a b n : Int) (w : World) (h : anbB a b = true) (h0 : 0 ≤ n) (h1 : n ≤ 100) : Calls Try.prog 76 #[.agg #[.int .i64 a, .int .i64 b], .int .i64 n] w fun e w' => e = .returned (.bool (hasB a b n)) ∧ Below w.heap.size w w' := by
  obtain ⟨a1, a2, b1, b2⟩ := (anbB_iff a b).1 h
  clear h
  have hB0 := below_alloc (Below.refl w.heap.size w) (.cells #[.int .i64 a, .int .i64 b] 57)
  by_cases ha : a = 0
  · subst ha
    have hr : Hid (hasB 0 b n = (n - b == 0)) := by show _ = _; unfold hasB; rw [if_neg (by omega), if_neg (by omega)]
    go_enter Try.func76, Try.ntmps76
    go_wp2
    go_ret
    exact ⟨ret_bool hr.out.symm, hB0⟩
  · have hr := hide (has_ref (b := b) (n := n) ha)
    have ha' : (a == 0) = false := by simpa using ha
    have hx : -1000000000 ≤ n - b ∧ n - b ≤ 1000000100 := by omega
    have hq := Int.natAbs_tdiv_le_natAbs (n - b) a
    generalize hxx : n - b = x at *
    have hw : wrap64 (x.tdiv a) = x.tdiv a := IntWalk.wrap64_in _ (by omega)
    by_cases hm : x.tmod a = 0
    · have hr' : Hid (hasB a b n = decide (0 ≤ x.tdiv a)) := by show _ = _; rw [hr.out, hm]; rfl
      go_enter Try.func76, Try.ntmps76
      go_wp2
      go_ret
      exact ⟨ret_bool hr'.out.symm, hB0⟩
    · have hr' : Hid (hasB a b n = false) := by show _ = _; rw [hr.out, show (x.tmod a == 0) = false by simpa using hm]; rfl
      go_enter Try.func76, Try.ntmps76
      go_wp2
      go_ret
      exact ⟨ret_bool hr'.out.symm, hB0⟩
end Go.Proofs.Ytankambfobfnfaa
