/- Walks: progressions, by the program and by the reference. Condition: a place is at most a hundred, and not below zero. -/
import Derived.Test.YtljloicgjgbplaaGreatG13
import Derived.Deep.QuietTactic
import Derived.BigQuiet
import Derived.IntWalk
import Derived.Test.YtljloicgjgbplaaGreatG07
import Derived.Test.YtljloicgjgbplaaGreatG09
import Derived.Test.YtljloicgjgbplaaGreatG12
namespace Go.Proofs.YtljloicgjgbplaaGreat
open Go.RowKit

def anbB (a b : Int) : Bool := decide (-1000000000 ≤ a) && decide (a ≤ 1000000000) && decide (-1000000000 ≤ b) && decide (b ≤ 1000000000)
def anbE (a b : Int) : Int := if anbB a b = true then 0 else 8
theorem anbB_iff (a b : Int) : anbB a b = true ↔ -1000000000 ≤ a ∧ a ≤ 1000000000 ∧ -1000000000 ≤ b ∧ b ≤ 1000000000 := by simp [anbB, and_assoc]
/-- Whether a place is in a progression. -/
def hasB (a b n : Int) : Bool := if 0 < a then decide (0 ≤ n - b) && ((n - b) % a == 0) else if a < 0 then decide (n - b ≤ 0) && ((n - b) % a == 0) else (n - b == 0)
theorem tm0 (x a : Int) : (x.tmod a == 0) = (x % a == 0) := by
  rw [Bool.eq_iff_iff, beq_iff_eq, beq_iff_eq]
  exact ⟨fun h => Int.emod_eq_zero_of_dvd (Int.dvd_of_tmod_eq_zero h), fun h => Int.tmod_eq_zero_of_dvd (Int.dvd_of_emod_eq_zero h)⟩
theorem within_ok (a : Int) (w : World) : Calls Tryz.prog 147 #[.int .i64 a] w fun e w' => e = .returned (.bool (decide (-1000000000 ≤ a) && decide (a ≤ 1000000000))) ∧ w = w' := by
  by_cases h : -1000000000 ≤ a
  · go_enter Tryz.func147, Tryz.ntmps147
    go_wp2
    go_ret
    exact ⟨ret_bool (by simp [h]), rfl⟩
  · have h' : decide (-1000000000 ≤ a) = false := by simpa using h
    rw [h']
    clear h'
    go_enter Tryz.func147, Tryz.ntmps147
    go_wp2
    go_ret
    exact ⟨ret_bool (by rfl), rfl⟩

theorem anbCheck_ok (a b : Int) (w : World) : Calls Tryz.prog 113 #[.agg #[.int .i64 a, .int .i64 b]] w fun e w' => e = .returned (.int .i64 (anbE a b)) ∧ Below w.heap.size w w' := by
  have hB0 := below_alloc (Below.refl w.heap.size w) (.cells #[.int .i64 a, .int .i64 b] 39)
  generalize hx : (decide (-1000000000 ≤ a) && decide (a ≤ 1000000000)) = x
  generalize hy : (decide (-1000000000 ≤ b) && decide (b ≤ 1000000000)) = y
  have hr : Hid (anbE a b = if x && y then 0 else 8) := by
    show _ = _
    rw [← hx, ← hy]; unfold anbE anbB
    simp [Bool.and_assoc]
  have hx' := hide hx
  have hy' := hide hy
  clear hx hy
  cases x
  · go_enter Tryz.func113, Tryz.ntmps113
    go_wp2_with (go_at_call 147; refine (within_ok a _).mono ?_; rw [hx'.out]; rintro e w1 ⟨rfl, rfl⟩)
    go_ret
    exact ⟨ret_int (by rw [hr.out]; rfl), hB0⟩
  · cases y
    all_goals
      go_enter Tryz.func113, Tryz.ntmps113
      go_wp2_with fail
      refine (within_ok a _).mono ?_
      rw [hx'.out]
      rintro e w1 ⟨rfl, rfl⟩
      go_wp2_with fail
      refine (within_ok b _).mono ?_
      rw [hy'.out]
      rintro e w1 ⟨rfl, rfl⟩
      go_wp2
      go_ret
      exact ⟨ret_int (by rw [hr.out]; rfl), hB0⟩

theorem anbHas_ok (a b n : Int) (w : World) (h : anbB a b = true) (h0 : 0 ≤ n) (h1 : n ≤ 100) : Calls Tryz.prog 173 #[.agg #[.int .i64 a, .int .i64 b], .int .i64 n] w fun e w' => e = .returned (.bool (hasB a b n)) ∧ Below w.heap.size w w' := by
  obtain ⟨a1, a2, b1, b2⟩ := (anbB_iff a b).1 h
  clear h
  have hB0 := below_alloc (Below.refl w.heap.size w) (.cells #[.int .i64 a, .int .i64 b] 39)
  by_cases ha : 0 < a
  · by_cases hl : 0 ≤ n - b
    · have hr : Hid (hasB a b n = ((n - b) % a == 0)) := by show _ = _; unfold hasB; rw [if_pos ha, decide_eq_true hl]; rfl
      go_enter Tryz.func173, Tryz.ntmps173
      go_wp2
      go_ret
      exact ⟨ret_bool hr.out.symm, hB0⟩
    · have hr : Hid (hasB a b n = false) := by show _ = _; unfold hasB; rw [if_pos ha, decide_eq_false hl]; rfl
      go_enter Tryz.func173, Tryz.ntmps173
      go_wp2
      go_ret
      exact ⟨ret_bool hr.out.symm, hB0⟩
  · by_cases hn : a < 0
    · by_cases hl : n - b ≤ 0
      · have hr : Hid (hasB a b n = ((n - b).tmod a == 0)) := by show _ = _; unfold hasB; rw [if_neg ha, if_pos hn, decide_eq_true hl, tm0]; rfl
        go_enter Tryz.func173, Tryz.ntmps173
        go_wp2
        go_ret
        exact ⟨ret_bool hr.out.symm, hB0⟩
      · have hr : Hid (hasB a b n = false) := by show _ = _; unfold hasB; rw [if_neg ha, if_pos hn, decide_eq_false hl]; rfl
        go_enter Tryz.func173, Tryz.ntmps173
        go_wp2
        go_ret
        exact ⟨ret_bool hr.out.symm, hB0⟩
    · have hr : Hid (hasB a b n = (n - b == 0)) := by show _ = _; unfold hasB; rw [if_neg ha, if_neg hn]
      obtain rfl : a = 0 := by omega
      go_enter Tryz.func173, Tryz.ntmps173
      go_wp2
      go_ret
      exact ⟨ret_bool hr.out.symm, hB0⟩

/-- What In answers. -/
def inB (a b n : Int) : Bool := if anbB a b = true then (if 1 ≤ n then hasB a b n else false) else false
def inE (a b n : Int) : Int := if anbB a b = true then (if 1 ≤ n then 0 else 2) else 8

theorem anbIn_ok (a b n : Int) (w : World) (h0 : 0 ≤ n) (h1 : n ≤ 100) : Calls Tryz.prog 156 #[.agg #[.int .i64 a, .int .i64 b], .int .i64 n] w fun e w' => e = .returned (.tuple #[.bool (inB a b n), .int .i64 (inE a b n)]) ∧ Below w.heap.size w w' := by
  have hB0 := below_alloc (Below.refl w.heap.size w) (.cells #[.int .i64 a, .int .i64 b] 39)
  have hc0 : (w.alloc (.cells #[.int .i64 a, .int .i64 b] 39)).cell? ⟨w.heap.size, 0, none⟩ = some (.int .i64 a) := by go_simp
  have hc1 : (w.alloc (.cells #[.int .i64 a, .int .i64 b] 39)).cell? ⟨w.heap.size, 1, none⟩ = some (.int .i64 b) := by go_simp
  by_cases hv : anbB a b = true
  · have he : anbE a b = 0 := if_pos hv
    have hv' := hide hv
    by_cases hn : 1 ≤ n
    · have r1 : Hid (inB a b n = hasB a b n) := by show _ = _; unfold inB; rw [if_pos hv, if_pos hn]
      have r2 : Hid (inE a b n = 0) := by show _ = _; unfold inE; rw [if_pos hv, if_pos hn]
      clear hv
      go_enter Tryz.func156, Tryz.ntmps156
      go_wp2_with fail
      refine (anbCheck_ok a b _).mono ?_
      rintro e w1 ⟨rfl, hb1⟩
      have hd0 := cell_later hb1 hc0
      have hd1 := cell_later hb1 hc1
      go_wp2_with fail
      refine (anbHas_ok a b n _ hv'.out h0 h1).mono ?_
      rintro e w2 ⟨rfl, hb2⟩
      go_wp2
      go_ret2
      exact ⟨ret_bi r1.out.symm r2.out.symm, Below.on (Below.on hB0 hb1) hb2⟩
    · have r1 : Hid (inB a b n = false) := by show _ = _; unfold inB; rw [if_pos hv, if_neg hn]
      have r2 : Hid (inE a b n = 2) := by show _ = _; unfold inE; rw [if_pos hv, if_neg hn]
      clear hv
      go_enter Tryz.func156, Tryz.ntmps156
      go_wp2_with fail
      refine (anbCheck_ok a b _).mono ?_
      rintro e w1 ⟨rfl, hb1⟩
      go_wp2
      go_ret2
      exact ⟨ret_bi r1.out.symm r2.out.symm, Below.on hB0 hb1⟩
  · have he : anbE a b = 8 := if_neg hv
    have r1 : Hid (inB a b n = false) := if_neg hv
    have r2 : Hid (inE a b n = 8) := if_neg hv
    clear hv
    go_enter Tryz.func156, Tryz.ntmps156
    go_wp2_with fail
    refine (anbCheck_ok a b _).mono ?_
    rintro e w1 ⟨rfl, hb1⟩
    go_wp2
    go_ret2
    exact ⟨ret_bi r1.out.symm r2.out.symm, Below.on hB0 hb1⟩

theorem rvalid_ok (a b : Int) (w : World) : Calls Tryz.prog 144 #[.agg #[.int .i64 a, .int .i64 b]] w fun e w' => e = .returned (.bool (anbB a b)) ∧ Below w.heap.size w w' := by
  have hB0 := below_alloc (Below.refl w.heap.size w) (.cells #[.int .i64 a, .int .i64 b] 39)
  by_cases h1 : -1000000000 ≤ a
  · by_cases h2 : a ≤ 1000000000
    · by_cases h3 : -1000000000 ≤ b
      · by_cases h4 : b ≤ 1000000000
        · have hr : Hid (anbB a b = true) := (anbB_iff a b).2 ⟨h1, h2, h3, h4⟩
          go_enter Tryz.func144, Tryz.ntmps144
          go_wp2
          go_ret
          exact ⟨ret_bool hr.out.symm, hB0⟩
        · have hr : Hid (anbB a b = false) := by show _ = _; rw [Bool.eq_false_iff]; intro h; exact h4 ((anbB_iff a b).1 h).2.2.2
          go_enter Tryz.func144, Tryz.ntmps144
          go_wp2
          go_ret
          exact ⟨ret_bool hr.out.symm, hB0⟩
      · have hr : Hid (anbB a b = false) := by show _ = _; rw [Bool.eq_false_iff]; intro h; exact h3 ((anbB_iff a b).1 h).2.2.1
        go_enter Tryz.func144, Tryz.ntmps144
        go_wp2
        go_ret
        exact ⟨ret_bool hr.out.symm, hB0⟩
    · have hr : Hid (anbB a b = false) := by show _ = _; rw [Bool.eq_false_iff]; intro h; exact h2 ((anbB_iff a b).1 h).2.1
      go_enter Tryz.func144, Tryz.ntmps144
      go_wp2
      go_ret
      exact ⟨ret_bool hr.out.symm, hB0⟩
  · have hr : Hid (anbB a b = false) := by show _ = _; rw [Bool.eq_false_iff]; intro h; exact h1 ((anbB_iff a b).1 h).1
    go_enter Tryz.func144, Tryz.ntmps144
    go_wp2
    go_ret
    exact ⟨ret_bool hr.out.symm, hB0⟩

theorem has_ref {a b n : Int} (ha : a ≠ 0) : hasB a b n = (((n - b).tmod a == 0) && decide (0 ≤ (n - b).tdiv a)) := by
  rw [tm0]
  by_cases hd : (n - b) % a = 0
  · obtain ⟨q, hq⟩ := Int.dvd_of_emod_eq_zero hd
    have hqd : (n - b).tdiv a = q := by rw [hq, Int.mul_tdiv_cancel_left _ ha]
    rw [hqd, show ((n - b) % a == 0) = true by simpa using hd]
    unfold hasB
    rw [show ((n - b) % a == 0) = true by simpa using hd]
    simp only [Bool.and_true, Bool.true_and]
    by_cases hp : 0 < a
    · rw [if_pos hp, Bool.eq_iff_iff]
      simp only [decide_eq_true_eq]
      rw [hq]
      constructor
      · intro h
        exact Int.not_lt.1 fun h2 => by have := Int.mul_neg_of_pos_of_neg hp h2; omega
      · intro h
        exact Int.mul_nonneg (by omega) h
    · have hn : a < 0 := by omega
      rw [if_neg hp, if_pos hn, Bool.eq_iff_iff]
      simp only [decide_eq_true_eq]
      rw [hq]
      constructor
      · intro h
        exact Int.not_lt.1 fun h2 => by have := Int.mul_pos_of_neg_of_neg hn h2; omega
      · intro h
        exact Int.mul_nonpos_of_nonpos_of_nonneg (by omega) h
  · have hf : ((n - b) % a == 0) = false := by simpa using hd
    rw [hf]
    unfold hasB
    rw [hf]
    simp only [Bool.and_false, Bool.false_and]
    split
    · rfl
    · rw [if_pos (by omega)]

theorem rhas_ok (a b n : Int) (w : World) (h : anbB a b = true) (h0 : 0 ≤ n) (h1 : n ≤ 100) : Calls Tryz.prog 149 #[.agg #[.int .i64 a, .int .i64 b], .int .i64 n] w fun e w' => e = .returned (.bool (hasB a b n)) ∧ Below w.heap.size w w' := by
  obtain ⟨a1, a2, b1, b2⟩ := (anbB_iff a b).1 h
  clear h
  have hB0 := below_alloc (Below.refl w.heap.size w) (.cells #[.int .i64 a, .int .i64 b] 39)
  by_cases ha : a = 0
  · subst ha
    have hr : Hid (hasB 0 b n = (n - b == 0)) := by show _ = _; unfold hasB; rw [if_neg (by omega), if_neg (by omega)]
    go_enter Tryz.func149, Tryz.ntmps149
    go_wp2
    go_ret
    exact ⟨ret_bool hr.out.symm, hB0⟩
  · have hr := hide (has_ref (b := b) (n := n) ha)
    have ha' : (a == 0) = false := by simpa using ha
    have hx : -1000000000 ≤ n - b ∧ n - b ≤ 1000000100 := by omega
    have hq := Int.natAbs_tdiv_le_natAbs (n - b) a
    generalize hxx : n - b = x at *
    have hw : wrap64 (x.tdiv a) = x.tdiv a := IntWalk.wrap64_in _ (by omega)
    by_cases hm : x.tmod a = 0
    · have hr' : Hid (hasB a b n = decide (0 ≤ x.tdiv a)) := by show _ = _; rw [hr.out, hm]; rfl
      go_enter Tryz.func149, Tryz.ntmps149
      go_wp2
      go_ret
      exact ⟨ret_bool hr'.out.symm, hB0⟩
    · have hr' : Hid (hasB a b n = false) := by show _ = _; rw [hr.out, show (x.tmod a == 0) = false by simpa using hm]; rfl
      go_enter Tryz.func149, Tryz.ntmps149
      go_wp2
      go_ret
      exact ⟨ret_bool hr'.out.symm, hB0⟩
end Go.Proofs.YtljloicgjgbplaaGreat
/- Plain laws on siblings. Condition: the tree is good. -/
namespace Go.Proofs.YtljloicgjgbplaaGreat
open Go.RowKit

section
variable {T : List ANode} (hg : goodB T = true)
include hg
theorem sibs_nodup {i : Nat} (hi : i < T.length) : (sibs T i).Nodup := by
  unfold sibs
  split
  · simp
  · obtain ⟨p, hp⟩ := Int.eq_ofNat_of_zero_le (show 0 ≤ par T i by omega)
    have := (good_par hg hi).2
    rw [hp]
    exact kids_nodup hg (by simp; omega)
theorem sibs_self {i : Nat} (hi : i < T.length) : (i : Int) ∈ sibs T i := by
  unfold sibs
  split
  · simp
  · exact par_kid hg hi (by omega)
theorem sibs_mem {i : Nat} (hi : i < T.length) {x : Int} (hx : x ∈ sibs T i) : ∃ q : Nat, x = (q : Int) ∧ q < T.length ∧ sibs T q = sibs T i ∧ par T q = par T i := by
  by_cases h : par T i < 0
  · unfold sibs at hx
    rw [if_pos h] at hx
    simp at hx
    exact ⟨i, hx, hi, rfl, rfl⟩
  · obtain ⟨p, hp⟩ := Int.eq_ofNat_of_zero_le (show 0 ≤ par T i by omega)
    have hpl := (good_par hg hi).2
    have hx' := hx
    unfold sibs at hx'
    rw [if_neg h, hp] at hx'
    obtain ⟨q, h1, h2, h3⟩ := good_kid hg (by omega : p < T.length) hx'
    refine ⟨q, h1, h2, ?_, by rw [h3, hp]⟩
    unfold sibs
    rw [h3, if_neg (by omega), if_neg h, hp]
theorem sibs_posn {i : Nat} (hi : i < T.length) {j : Nat} (hj : j < (sibs T i).length) : posn (sibs T i) (ix (sibs T i) j) = j := by
  refine posn_at hj rfl fun k hk he => ?_
  have := nodup_take (sibs_nodup hg hi) j hj
  rw [← he, ix_get (by omega)] at this
  exact this (List.mem_take_iff_getElem.2 ⟨k, by omega, rfl⟩)
theorem sibs_pos {i : Nat} (hi : i < T.length) : ∃ j, j < (sibs T i).length ∧ ix (sibs T i) j = i ∧ posn (sibs T i) i = j := by
  obtain ⟨j, hj, he⟩ := mem_ix (sibs_self hg hi)
  refine ⟨j, hj, he, ?_⟩
  have := sibs_posn hg hi hj
  rwa [he] at this
theorem bes_prev {i : Nat} (hi : i < T.length) {j : Nat} (hj : j + 1 < (sibs T i).length) : besE T (ix (sibs T i) (j + 1)) (-1) = ix (sibs T i) j := by
  obtain ⟨q, h1, h2, h3, -⟩ := sibs_mem hg hi (ix_mem hj)
  have hp := sibs_posn hg hi hj
  have ha : askI T [ix (sibs T i) (j + 1)] = 0 := by rw [h1]; exact askI_ok hg (by simp; omega)
  unfold besE
  rw [if_pos ha, h1]
  unfold besF
  rw [Int.toNat_natCast, h3, ← h1, hp, if_neg (by omega)]
  congr 1
  omega
theorem bes_first {i : Nat} (hi : i < T.length) (h0 : 0 < (sibs T i).length) : besE T (ix (sibs T i) 0) (-1) = -1 := by
  obtain ⟨q, h1, h2, h3, -⟩ := sibs_mem hg hi (ix_mem h0)
  have hp := sibs_posn hg hi h0
  have ha : askI T [ix (sibs T i) 0] = 0 := by rw [h1]; exact askI_ok hg (by simp; omega)
  unfold besE
  rw [if_pos ha, h1]
  unfold besF
  rw [Int.toNat_natCast, h3, ← h1, hp, if_pos (by omega)]
end
end Go.Proofs.YtljloicgjgbplaaGreat
/- Plain laws on counted places. Condition: the tree is good. -/
namespace Go.Proofs.YtljloicgjgbplaaGreat
open Go.RowKit

/-- The siblings that count, and how many of the first ones do. -/
def inb (B : List Bool) (x : Int) : Bool := bx B x.toNat
def pfx (B : List Bool) (l : List Int) (k : Nat) : Nat := ((l.take k).filter (inb B)).length
/-- The counted place of an element, or 0. -/
def atF (T : List ANode) (i : Nat) (last : Bool) (B : List Bool) : Int :=
  if inb B i then (if last then ((pfx B (sibs T i) (sibs T i).length : Nat) : Int) - pfx B (sibs T i) (posn (sibs T i) i).toNat else (pfx B (sibs T i) (posn (sibs T i) i).toNat : Int) + 1) else 0

theorem pfx_succ (B : List Bool) (l : List Int) (k : Nat) (h : k < l.length) : pfx B l (k + 1) = pfx B l k + (if inb B (ix l k) then 1 else 0) := by
  unfold pfx
  rw [take_snoc' l k h, ← ix_get h, List.filter_append, List.length_append]
  congr 1
  by_cases hb : inb B (ix l k) = true
  · rw [if_pos hb, List.filter_cons, if_pos hb]; rfl
  · rw [if_neg hb, List.filter_cons, if_neg hb]; rfl
theorem pfx_zero (B : List Bool) (l : List Int) : pfx B l 0 = 0 := by simp [pfx]
theorem pfx_le (B : List Bool) (l : List Int) (k : Nat) : pfx B l k ≤ k := Nat.le_trans (List.length_filter_le _ _) (List.length_take_le _ _)
theorem pfx_mono (B : List Bool) (l : List Int) {a b : Nat} (h : a ≤ b) : pfx B l a ≤ pfx B l b := by
  unfold pfx
  have h1 : l.take a = (l.take b).take a := by rw [List.take_take, Nat.min_eq_left h]
  rw [h1]
  exact ((List.take_sublist _ _).filter _).length_le
theorem nodup_ix {l : List Int} (hn : l.Nodup) {a b : Nat} (ha : a < l.length) (hb : b < l.length) (h : ix l a = ix l b) : a = b := by
  rw [ix_get ha, ix_get hb] at h
  have hp := List.pairwise_iff_getElem.1 (List.nodup_iff_pairwise_ne.1 hn)
  rcases Nat.lt_trichotomy a b with hab | hab | hab
  · exact absurd h (hp a b ha hb hab)
  · exact hab
  · exact absurd h.symm (hp b a hb ha hab)
section
variable {T : List ANode} (hg : goodB T = true)
include hg
theorem atF_bd {i : Nat} (hi : i < T.length) (last : Bool) (B : List Bool) : 0 ≤ atF T i last B ∧ atF T i last B ≤ 64 ∧ (1 ≤ atF T i last B ↔ inb B i = true) := by
  obtain ⟨j, hj, he, hp⟩ := sibs_pos hg hi
  have h1 := pfx_le B (sibs T i) j
  have h2 := pfx_le B (sibs T i) (sibs T i).length
  have h3 := sibs_len hg hi
  have h4 := pfx_mono B (sibs T i) (show j + 1 ≤ (sibs T i).length by omega)
  have h5 := pfx_succ B (sibs T i) j hj
  rw [he] at h5
  unfold atF
  rw [hp, Int.toNat_natCast]
  by_cases hb : inb B i = true
  · rw [if_pos hb] at h5 ⊢
    cases last
    · rw [if_neg (by decide)]
      exact ⟨by omega, by omega, fun _ => hb, fun _ => by omega⟩
    · rw [if_pos rfl]
      exact ⟨by omega, by omega, fun _ => hb, fun _ => by omega⟩
  · rw [if_neg hb]
    simp [hb]
end
end Go.Proofs.YtljloicgjgbplaaGreat
/- Plain laws on what matches behind one compound: one step up, one step back. Condition: the tree is good. -/
namespace Go.Proofs.YtljloicgjgbplaaGreat
open Go.RowKit

theorem prevL_at (T : List ANode) (i : Nat) : prevL T i = ((sibs T i).take (posn (sibs T i) i).toNat).reverse := by
  unfold prevL
  by_cases h : par T i < 0
  · rw [if_pos h]
    have e : sibs T i = [(i : Int)] := if_pos h
    rw [e]; simp [posn]
  · rw [if_neg h]
    have e : sibs T i = kids T (par T i).toNat := if_neg h
    rw [e]
/-- The previous siblings are the one just before, and its own. -/
theorem prevL_cons {T : List ANode} (hg : goodB T = true) {i : Nat} (hi : i < T.length) : (besE T i (-1) < 0 ∧ prevL T i = []) ∨ ∃ q : Nat, besE T i (-1) = q ∧ q < T.length ∧ prevL T i = (q : Int) :: prevL T q := by
  obtain ⟨x, hx, hxi, hp⟩ := sibs_pos hg hi
  rw [← hxi]
  cases x with
  | zero =>
    refine .inl ⟨by rw [bes_first hg hi hx]; decide, ?_⟩
    rw [prevL_at T, hp]; rfl
  | succ x =>
    obtain ⟨q, hq, hql, hqs, -⟩ := sibs_mem hg hi (ix_mem (l := sibs T i) (j := x) (by omega))
    refine .inr ⟨q, by rw [bes_prev hg hi hx, hq], hql, ?_⟩
    have hpq := sibs_posn hg hi (j := x) (by omega)
    rw [hq] at hpq
    rw [prevL_at T, prevL_at T, hp, hqs, hpq, Int.toNat_natCast, Int.toNat_natCast, take_snoc' _ _ (by omega), List.reverse_append, ← ix_get (by omega), hq]
    rfl
end Go.Proofs.YtljloicgjgbplaaGreat
/- Plain laws on partners and on the nearest way. Condition: the tree is good. -/
namespace Go.Proofs.YtljloicgjgbplaaGreat
open Go.RowKit

theorem idx_le (x : Int) : ∀ (l : List Int) (j : Nat), j < l.length → ix l j = x → l.idxOf x ≤ j
  | [], _, hj, _ => absurd hj (by simp)
  | y :: ys, 0, _, hx => by
    have : y = x := hx
    subst this
    simp
  | y :: ys, j + 1, hj, hx => by
    have h1 := idx_le x ys j (by simpa using hj) (by simpa [ix] using hx)
    rw [List.idxOf_cons]
    cases h2 : (y == x)
    · simpa using h1
    · simp
theorem mem_take_posn {l : List Int} {x : Int} (hx : x ∈ l) (k : Nat) : x ∈ l.take k ↔ posn l x < k := by
  have h1 : l.idxOf x < l.length := List.idxOf_lt_length_iff.2 hx
  have h2 : posn l x = (l.idxOf x : Nat) := by unfold posn; rw [if_pos h1]
  rw [h2]
  constructor
  · intro h
    obtain ⟨j, hj, hjx⟩ := mem_ix h
    rw [List.length_take] at hj
    have hjx' : ix l j = x := by
      rw [← hjx]
      unfold ix
      rw [List.getD_eq_getElem?_getD, List.getD_eq_getElem?_getD, List.getElem?_take, if_pos (by omega)]
    have h3 := idx_le x l j (by omega) hjx'
    omega
  · intro h
    have h4 : ix (l.take k) (l.idxOf x) = x := by
      unfold ix
      rw [List.getD_eq_getElem?_getD, List.getElem?_take, if_pos (by omega), List.getElem?_eq_getElem h1]
      exact List.getElem_idxOf h1
    rw [← h4]
    exact ix_mem (by rw [List.length_take]; omega)
section
variable {T : List ANode} (hg : goodB T = true) {i p : Nat} (hi : i < T.length) (hp : p < T.length)
include hg hi
theorem prt_two (hp0 : 0 ≤ par T i) : prtF T i 2 = [par T i] := by
  obtain ⟨q, hq⟩ := Int.eq_ofNat_of_zero_le hp0
  have := (good_par hg hi).2
  show (anc T (par T i)).take 1 = _
  rw [hq, anc_cons hg (by omega)]
  rfl
theorem prt2_iff : decide ((p : Int) ∈ prtF T i 2) = decide (par T i = p) := by
  rw [decide_eq_decide]
  by_cases h0 : 0 ≤ par T i
  · rw [prt_two hg hi h0, List.mem_singleton]
    exact ⟨fun h => h.symm, fun h => h.symm⟩
  · have e : prtF T i 2 = [] := by show (anc T (par T i)).take 1 = _; rw [anc_neg (by omega)]; rfl
    rw [e]
    constructor
    · intro h; simp at h
    · intro h; omega
theorem prt3_iff : decide ((p : Int) ∈ prtF T i 3) = decide (besE T i (-1) = p) := by
  rw [decide_eq_decide]
  show (p : Int) ∈ (prevL T i).take 1 ↔ _
  rcases prevL_cons hg hi with ⟨h1, h2⟩ | ⟨q, h1, h2, h3⟩
  · rw [h2]
    constructor
    · intro h; simp at h
    · intro h; omega
  · rw [h3, h1]
    show (p : Int) ∈ [(q : Int)] ↔ _
    rw [List.mem_singleton]
    exact ⟨fun h => h.symm, fun h => h.symm⟩
include hp in
theorem prt4_iff : decide ((p : Int) ∈ prtF T i 4) = (decide (0 ≤ par T i) && decide (par T i = par T p) && decide (placeE T p < placeE T i)) := by
  have e1 : placeE T p = posn (sibs T p) p := by unfold placeE; rw [if_pos (askI_ok hg (by simp; omega)), Int.toNat_natCast]
  have e2 : placeE T i = posn (sibs T i) i := by unfold placeE; rw [if_pos (askI_ok hg (by simp; omega)), Int.toNat_natCast]
  rw [e1, e2, Bool.eq_iff_iff]
  simp only [Bool.and_eq_true, decide_eq_true_eq]
  show (p : Int) ∈ prevL T i ↔ _
  rw [prevL_at, List.mem_reverse]
  obtain ⟨x, hx, hxi, hxp⟩ := sibs_pos hg hi
  rw [hxp, Int.toNat_natCast]
  constructor
  · intro h
    have hm := List.mem_of_mem_take h
    obtain ⟨q, h1, h2, h3, h4⟩ := sibs_mem hg hi hm
    obtain rfl : p = q := by omega
    rw [mem_take_posn hm] at h
    rw [h3]
    refine ⟨⟨?_, h4.symm⟩, h⟩
    rcases (by omega : par T i < 0 ∨ 0 ≤ par T i) with h0 | h0
    · exfalso
      have e : sibs T i = [(i : Int)] := if_pos h0
      rw [e] at h hxp
      have : posn [(i : Int)] i = 0 := by simp [posn]
      have := (posn_lt [(i : Int)] p).1
      rw [e] at hm
      simp at hm
      have : p = i := by omega
      subst this
      omega
    · exact h0
  · rintro ⟨⟨h0, h1⟩, h2⟩
    have es : sibs T p = sibs T i := by unfold sibs; rw [if_neg (by omega), if_neg (by omega), h1]
    have hm : (p : Int) ∈ sibs T i := by rw [← es]; exact sibs_self hg hp
    rw [mem_take_posn hm, ← es]
    exact h2
end
theorem rch_hit {T : List ANode} {cs : List Int} {H : List (List Bool)} {q i : Nat} (h : rchF T cs H q i = true) : bx (rowB H q) i = true := by
  cases q with
  | zero => exact h
  | succ q =>
    have h2 : (bx (rowB H (q + 1)) i && _) = true := h
    rw [Bool.and_eq_true] at h2
    exact h2.1
end Go.Proofs.YtljloicgjgbplaaGreat
