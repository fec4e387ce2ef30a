/- Walks: the first of some elements that is reached, by the program's function values. Condition: what they have taken in lies in memory. -/
import Derived.Test.YtaliekkdamghbaaCp
namespace Go.Proofs.Ytaliekkdamghbaa
open Go.RowKit

def hitB (B : List Bool) (y : Int) : Bool := bx B y.toNat
/-- The index of the first one that is hit, or -1. -/
def fstB (B : List Bool) (xs : List Int) : Int := if xs.findIdx (hitB B) < xs.length then (xs.findIdx (hitB B) : Nat) else -1
theorem fst_at {B : List Bool} {xs : List Int} {k : Nat} (hk : k < xs.length) (h : hitB B (ix xs k) = true) (hb : ∀ j, j < k → hitB B (ix xs j) = false) : fstB B xs = k := by
  have e : xs.findIdx (hitB B) = k := by
    rw [List.findIdx_eq hk]
    refine ⟨by rw [← ix_get hk]; exact h, fun j hj => ?_⟩
    rw [← ix_get (by omega)]; exact hb j hj
  unfold fstB; rw [e, if_pos hk]
theorem fst_no {B : List Bool} {xs : List Int} (hb : ∀ j, j < xs.length → hitB B (ix xs j) = false) : fstB B xs = -1 := by
  unfold fstB
  rw [if_neg]
  intro h
  have := List.findIdx_getElem (w := h)
  rw [← ix_get h, hb _ h] at this
  cases this
theorem fst_nonneg (B : List Bool) (xs : List Int) : decide (0 ≤ fstB B xs) = xs.any (hitB B) := by
  cases ha : xs.any (hitB B)
  · rw [decide_eq_false_iff_not, fst_no fun j hj => ?_]
    · omega
    · rw [List.any_eq_false] at ha
      rw [ix_get hj]
      have := ha _ (List.getElem_mem hj)
      simpa using this
  · rw [decide_eq_true_eq]
    unfold fstB
    rw [List.any_eq_true] at ha
    rw [if_pos (List.findIdx_lt_length.2 ha)]
    omega
/-- What the function values have taken in: the list of lists, the index of one of them. -/
structure Taken (w : World) (po pk : Nat) (k : Nat) (B : List Bool) : Prop where
  pk : w.cell? ⟨pk, 0, none⟩ = some (.int .i64 k)
  po : ∃ (g off m c : Nat) (R : Option Addr) (rl rc : Nat), w.cell? ⟨po, 0, none⟩ = some (.slice (some ⟨g, off, none⟩) m c) ∧ k < m ∧ m ≤ 9223372036854775807 ∧ w.cell? ⟨g, off + k, none⟩ = some (.slice R rl rc) ∧ IsBools w R rl B

theorem reached1_ok (y : Nat) (po pk k : Nat) (B : List Bool) (w : World) (h : Taken w po pk k B) (hy : y < B.length) :
    Calls Try.prog 72 #[.int .i64 y, .pointer (some ⟨po, 0, none⟩), .pointer (some ⟨pk, 0, none⟩)] w fun e w' => e = .returned (.bool (hitB B y)) ∧ w = w' := by
  obtain ⟨hk, g, off, m, c, R, rl, rc, h1, h2, h3, h4, h5⟩ := h
  obtain ⟨hl, hr, ho⟩ := h5
  obtain ⟨b, o, rfl, hb, hc⟩ := ho (by omega)
  have gy := hc y (by omega)
  have hyl : y < rl := by omega
  have e : hitB B y = bx B y := by unfold hitB; rw [Int.toNat_natCast]
  have e' := hide e
  clear hc ho e
  go_enter Try.func72, Try.ntmps72
  go_wp2
  go_ret
  exact ⟨ret_bool e'.out.symm, rfl⟩
set_option maxHeartbeats 1000000 in
theorem reached1_index (A : Option Addr) (n c : Nat) (xs : List Int) (po pk k : Nat) (B : List Bool) (w : World) (h : IsInts w A n xs) (hT : Taken w po pk k B) (hy : ∀ x ∈ xs, 0 ≤ x ∧ x < B.length) :
    Calls Try.prog 50 #[.slice A n c, .func (.func 72) #[] #[.pointer (some ⟨po, 0, none⟩), .pointer (some ⟨pk, 0, none⟩)]] w fun e w' => e = .returned (.int .i64 (fstB B xs)) ∧ w = w' := by
  obtain ⟨hl, hn, ho⟩ := h
  have hT' := hide hT
  have hy' := hide hy
  clear hT hy
  go_enter Try.func50, Try.ntmps50
  go_wp2
  go_loop [5, 8] (fun _ i => ∃ k : Nat, k ≤ n ∧ i = .int .i64 k ∧ Hid (∀ j, j < k → hitB B (ix xs j) = false)) (fun _ i => n - (intOf i).toNat)
  case atStart => exact ⟨0, Nat.zero_le _, rfl, fun j hj => absurd hj (by omega)⟩
  case round =>
    obtain ⟨q, hq, rfl, hne⟩ := hrel
    by_cases hlt : q < n
    · obtain ⟨b, off, rfl, hbl, hc⟩ := ho (by omega)
      have hck := hc q hlt
      clear hc
      have hyr := hy'.out (ix xs q) (ix_mem (by omega))
      obtain ⟨y, hye⟩ := Int.eq_ofNat_of_zero_le hyr.1
      have hcl := hide (reached1_ok y po pk k B w hT'.out (by omega))
      cases hh : hitB B (ix xs q)
      · have hh2 := hide hh
        rw [hye] at hck hh
        have hh3 := hide hh
        rw [hh] at hcl
        clear hh hye hyr
        go_wp2_with (go_at_call 72; refine hcl.out.mono ?_; rintro e w1 ⟨rfl, rfl⟩)
        go_round
        case rel => exact ⟨q + 1, by omega, by go_num, fun j hj => by
          by_cases h : j = q
          · subst h; exact hh2.out
          · exact hne.out j (by omega)⟩
        case measure => simp [intOf]; omega
      · have hq' := hide (fst_at (by omega) hh hne.out)
        rw [hye] at hck hh
        rw [hh] at hcl
        clear hh hye hyr hne
        go_wp2_with (go_at_call 72; refine hcl.out.mono ?_; rintro e w1 ⟨rfl, rfl⟩)
        go_ret
        exact ⟨ret_int hq'.out.symm, rfl⟩
    · have hq' := hide (fst_no (B := B) (xs := xs) (fun j hj => hne.out j (by omega)))
      clear hne
      go_wp2
      go_ret
      exact ⟨ret_int hq'.out.symm, rfl⟩
theorem ways1_ok (y : Nat) (po pk k : Nat) (B : List Bool) (w : World) (h : Taken w po pk k B) (hy : y < B.length) :
    Calls Try.prog 51 #[.int .i64 y, .pointer (some ⟨po, 0, none⟩), .pointer (some ⟨pk, 0, none⟩)] w fun e w' => e = .returned (.bool (hitB B y)) ∧ w = w' := by
  obtain ⟨hk, g, off, m, c, R, rl, rc, h1, h2, h3, h4, h5⟩ := h
  obtain ⟨hl, hr, ho⟩ := h5
  obtain ⟨b, o, rfl, hb, hc⟩ := ho (by omega)
  have gy := hc y (by omega)
  have hyl : y < rl := by omega
  have e : hitB B y = bx B y := by unfold hitB; rw [Int.toNat_natCast]
  have e' := hide e
  clear hc ho e
  go_enter Try.func51, Try.ntmps51
  go_wp2
  go_ret
  exact ⟨ret_bool e'.out.symm, rfl⟩
set_option maxHeartbeats 1000000 in
theorem ways1_index (A : Option Addr) (n c : Nat) (xs : List Int) (po pk k : Nat) (B : List Bool) (w : World) (h : IsInts w A n xs) (hT : Taken w po pk k B) (hy : ∀ x ∈ xs, 0 ≤ x ∧ x < B.length) :
    Calls Try.prog 50 #[.slice A n c, .func (.func 51) #[] #[.pointer (some ⟨po, 0, none⟩), .pointer (some ⟨pk, 0, none⟩)]] w fun e w' => e = .returned (.int .i64 (fstB B xs)) ∧ w = w' := by
  obtain ⟨hl, hn, ho⟩ := h
  have hT' := hide hT
  have hy' := hide hy
  clear hT hy
  go_enter Try.func50, Try.ntmps50
  go_wp2
  go_loop [5, 8] (fun _ i => ∃ k : Nat, k ≤ n ∧ i = .int .i64 k ∧ Hid (∀ j, j < k → hitB B (ix xs j) = false)) (fun _ i => n - (intOf i).toNat)
  case atStart => exact ⟨0, Nat.zero_le _, rfl, fun j hj => absurd hj (by omega)⟩
  case round =>
    obtain ⟨q, hq, rfl, hne⟩ := hrel
    by_cases hlt : q < n
    · obtain ⟨b, off, rfl, hbl, hc⟩ := ho (by omega)
      have hck := hc q hlt
      clear hc
      have hyr := hy'.out (ix xs q) (ix_mem (by omega))
      obtain ⟨y, hye⟩ := Int.eq_ofNat_of_zero_le hyr.1
      have hcl := hide (ways1_ok y po pk k B w hT'.out (by omega))
      cases hh : hitB B (ix xs q)
      · have hh2 := hide hh
        rw [hye] at hck hh
        have hh3 := hide hh
        rw [hh] at hcl
        clear hh hye hyr
        go_wp2_with (go_at_call 51; refine hcl.out.mono ?_; rintro e w1 ⟨rfl, rfl⟩)
        go_round
        case rel => exact ⟨q + 1, by omega, by go_num, fun j hj => by
          by_cases h : j = q
          · subst h; exact hh2.out
          · exact hne.out j (by omega)⟩
        case measure => simp [intOf]; omega
      · have hq' := hide (fst_at (by omega) hh hne.out)
        rw [hye] at hck hh
        rw [hh] at hcl
        clear hh hye hyr hne
        go_wp2_with (go_at_call 51; refine hcl.out.mono ?_; rintro e w1 ⟨rfl, rfl⟩)
        go_ret
        exact ⟨ret_int hq'.out.symm, rfl⟩
    · have hq' := hide (fst_no (B := B) (xs := xs) (fun j hj => hne.out j (by omega)))
      clear hne
      go_wp2
      go_ret
      exact ⟨ret_int hq'.out.symm, rfl⟩
theorem reached1_any (A : Option Addr) (n c : Nat) (xs : List Int) (po pk k : Nat) (B : List Bool) (w : World) (h : IsInts w A n xs) (hT : Taken w po pk k B) (hy : ∀ x ∈ xs, 0 ≤ x ∧ x < B.length) :
    Calls Try.prog 71 #[.slice A n c, .func (.func 72) #[] #[.pointer (some ⟨po, 0, none⟩), .pointer (some ⟨pk, 0, none⟩)]] w fun e w' => e = .returned (.bool (xs.any (hitB B))) ∧ w = w' := by
  have hx := hide (reached1_index A n c xs po pk k B w h hT hy)
  have hn := hide (fst_nonneg B xs)
  clear h hT hy
  go_enter Try.func71, Try.ntmps71
  go_wp2_with fail
  refine hx.out.mono ?_
  rintro e w1 ⟨rfl, rfl⟩
  go_wp2
  go_ret
  exact ⟨ret_bool (by rw [← hn.out]), rfl⟩
end Go.Proofs.Ytaliekkdamghbaa
