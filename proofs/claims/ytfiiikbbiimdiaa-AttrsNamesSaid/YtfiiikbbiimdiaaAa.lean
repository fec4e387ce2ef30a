/- Walks: where an attribute is, by the program. Condition: the attributes are in order. -/
import Derived.Test.YtfiiikbbiimdiaaAp
import Derived.Test.YtfiiikbbiimdiaaWg
import Derived.WalkLawsBesides
namespace Go.Proofs.Ytfiiikbbiimdiaa
open Go.RowKit

theorem ret_ib {k : IntKind} {a b : Int} {c d : Bool} (h : a = b) (h' : c = d) : Ending.returned (.tuple #[.int k a, .bool c]) = .returned (.tuple #[.int k b, .bool d]) := by rw [h, h']

set_option maxRecDepth 100000 in
theorem strcmp_ok (a b : ByteArray) (w : World) : Calls Try.prog 83 #[.string a, .string b] w fun e w' => e = .returned (.int .i64 (cmpS a b)) ∧ w = w' := by
  go_enter Try.func83, Try.ntmps83
  go_wp2
  rw [run_callFunc_extern Try.func101 (by kernel_rfl) (by kernel_rfl) (by kernel_rfl) (e := Extern.BytealgCompare.compare) (by kernel_rfl), Lib.run_compareString]
  simp only [Result.andThen]
  rw [Oper.upon_value]
  go_wp2
  go_ret
  exact ⟨rfl, rfl⟩

theorem findcmp_ok (a v s : ByteArray) (w : World) : Calls Try.prog 82 #[.agg #[.string a, .string v], .string s] w fun e w' => e = .returned (.int .i64 (cmpS a s)) ∧ Below w.heap.size w w' := by
  have hB0 := below_alloc (Below.refl w.heap.size w) (.cells #[.string a, .string v] 83)
  go_enter Try.func82, Try.ntmps82
  go_wp2_with fail
  refine (strcmp_ok _ _ _).mono ?_
  rintro e w1 ⟨rfl, rfl⟩
  go_wp2
  go_ret
  exact ⟨rfl, hB0⟩

set_option maxRecDepth 100000 in
set_option maxHeartbeats 1000000 in
theorem bsearch_ok (A : Option Addr) (n c : Nat) (l : List (ByteArray × ByteArray)) (s : ByteArray) (w : World) (h : IsAttrs w A n l) (hs : Sorted l) (hn : n ≤ 1000) :
    Calls Try.prog 81 #[.slice A n c, .string s, .func (.func 82) #[] #[]] w fun e w' => e = .returned (.tuple #[.int .i64 (lowA l s : Nat), .bool (hasA l s)]) ∧ Below w.heap.size w w' := by
  have hl := h.1
  have ho := hide h.2.2.2
  obtain ⟨q1, q2, q3⟩ := low_split hs s
  have hha : Hid (hasA l s = (decide (lowA l s < n) && decide (nm l (lowA l s) = s))) := by show _ = _; unfold hasA; rw [hl]
  generalize lowA l s = m at *
  have q2' := hide q2
  have q3' := hide q3
  clear h q2 q3
  go_enter Try.func81, Try.ntmps81
  go_wp2
  go_loopw [9, 10] (fun x y wr => ∃ i j : Nat, i ≤ m ∧ m ≤ j ∧ j ≤ n ∧ x = .int .i64 i ∧ y = .int .i64 j ∧ Below w.heap.size w wr) (fun x y _ => (intOf y - intOf x).toNat)
  case atStart => exact ⟨0, n, Nat.zero_le _, by omega, Nat.le_refl _, rfl, rfl, Below.refl _ _⟩
  case round =>
    obtain ⟨i, j, hi, hj, hjn, rfl, rfl, hb⟩ := hrel
    by_cases hlt : i < j
    · obtain ⟨h, hh⟩ : ∃ h : Nat, h = (i + j) / 2 := ⟨_, rfl⟩
      have e1 : ((i : Int) + (j : Int)) / 2 = (h : Int) := by omega
      have h1 : i ≤ h := by omega
      have h2 : h < j := by omega
      have h3 : h < n := by omega
      clear hh
      obtain ⟨b, off, rfl, hbl, c0, c1⟩ := ho.out (by omega)
      have g0 := (old hb _ _ hbl).trans (c0 h h3)
      have g1 := (old hb _ _ hbl).trans (c1 h h3)
      clear c0 c1
      go_wp2_with fail
      refine (findcmp_ok (nm l h) (vl l h) s _).mono ?_
      rintro e w1 ⟨rfl, hb1⟩
      have hb2 := Below.on hb hb1
      by_cases hlo : h < m
      · have hc : cmpS (nm l h) s < 0 := (cmpS_neg _ _).2 (q2'.out h hlo)
        go_wp2
        go_roundw
        case rel => exact ⟨h + 1, j, by omega, hj, hjn, by go_num, rfl, hb2⟩
        case measure => simp [intOf]; omega
      · have hc : ¬ cmpS (nm l h) s < 0 := fun hc => by
          have := (cmpS_neg _ _).1 hc
          rw [q3'.out h (by omega) (by omega)] at this; cases this
        go_wp2
        go_roundw
        case rel => exact ⟨i, h, hi, by omega, by omega, rfl, rfl, hb2⟩
        case measure => simp [intOf]; omega
    · obtain rfl : i = j := by omega
      obtain rfl : m = i := by omega
      by_cases hmn : m < n
      · obtain ⟨b, off, rfl, hbl, c0, c1⟩ := ho.out (by omega)
        have g0 := (old hb _ _ hbl).trans (c0 m hmn)
        have g1 := (old hb _ _ hbl).trans (c1 m hmn)
        have hr : Hid (hasA l s = (cmpS (nm l m) s == 0)) := by
          show _ = _
          rw [hha.out, decide_eq_true hmn, Bool.true_and, Bool.eq_iff_iff, beq_iff_eq, decide_eq_true_eq, cmpS_zero]
        clear c0 c1
        go_wp2_with fail
        refine (findcmp_ok (nm l m) (vl l m) s _).mono ?_
        rintro e w1 ⟨rfl, hb1⟩
        go_wp2
        go_ret2
        exact ⟨ret_ib rfl hr.out.symm, Below.on hb hb1⟩
      · have hr : Hid (hasA l s = false) := by show _ = _; rw [hha.out, decide_eq_false hmn]; rfl
        go_wp2
        go_ret2
        exact ⟨ret_ib rfl hr.out.symm, hb⟩

theorem find_ok (A : Option Addr) (n c : Nat) (l : List (ByteArray × ByteArray)) (s : ByteArray) (w : World) (h : IsAttrs w A n l) (hs : Sorted l) (hn : n ≤ 1000) :
    Calls Try.prog 56 #[.slice A n c, .string s] w fun e w' => e = .returned (.tuple #[.int .i64 (lowA l s : Nat), .bool (hasA l s)]) ∧ Below w.heap.size w w' := by
  have h' := hide h
  clear h
  go_enter Try.func56, Try.ntmps56
  go_wp2_with fail
  refine (bsearch_ok A n c l s _ h'.out hs hn).mono ?_
  rintro e w1 ⟨rfl, hb1⟩
  go_wp2
  go_ret2
  exact ⟨rfl, hb1⟩
end Go.Proofs.Ytfiiikbbiimdiaa
