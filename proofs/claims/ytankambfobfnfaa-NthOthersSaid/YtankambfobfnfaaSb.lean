/- Walks: comparing lists of truth values, by the reference. No condition. -/
import Derived.Test.YtankambfobfnfaaPush
import Derived.Deep.QuietTactic
import Derived.BigQuiet
namespace Go.Proofs.Ytankambfobfnfaa
open Go.RowKit

theorem bx_get {xs : List Bool} {j : Nat} (h : j < xs.length) : bx xs j = xs[j] := by
  unfold bx
  rw [List.getD_eq_getElem?_getD, List.getElem?_eq_getElem h]
  rfl

set_option maxRecDepth 100000 in
set_option maxHeartbeats 1000000 in
theorem sameBools_ok (A B : Option Addr) (n m c d : Nat) (xs ys : List Bool) (w : World) (h : IsBools w A n xs) (h' : IsBools w B m ys) :
    Calls Try.prog 37 #[.slice A n c, .slice B m d] w fun e w' => e = .returned (.bool (decide (xs = ys))) ∧ ∃ q, w' = w.drewN q := by
  obtain ⟨hl, hn, ho⟩ := h
  obtain ⟨hl', hn', ho'⟩ := h'
  go_enter Try.func37, Try.ntmps37
  by_cases hnm : n = m
  · subst hnm
    go_wp2
    go_loopw [5] (fun i wr => ∃ k : Nat, k ≤ n ∧ i = .int .i64 k ∧ (∃ q, wr = w.drewN q) ∧ ∀ j, j < k → bx xs j = bx ys j) (fun i _ => n - (intOf i).toNat)
    case atStart => exact ⟨0, Nat.zero_le _, rfl, ⟨0, rfl⟩, fun j hj => absurd hj (by omega)⟩
    case round =>
      obtain ⟨k, hk, rfl, ⟨q, rfl⟩, hne⟩ := hrel
      have hne' := hide hne
      clear hne
      by_cases hlt : k < n
      · obtain ⟨b, off, rfl, hbl, hc⟩ := ho (by omega)
        obtain ⟨b', off', rfl, hbl', hc'⟩ := ho' (by omega)
        have hck := hc k hlt
        have hck' := hc' k hlt
        clear hc hc'
        have hfin : Hid (bx xs k ≠ bx ys k → decide (xs = ys) = false) := by
          show _ → _
          intro he; simp; rintro rfl; exact he rfl
        clear ho ho'
        cases hx : bx xs k <;> cases hy : bx ys k
        all_goals
          rw [hx] at hck
          rw [hy] at hck'
          have hx' := hide hx
          have hy' := hide hy
          clear hx hy
        · have heq : Hid (bx xs k = bx ys k) := by show _ = _; rw [hx'.out, hy'.out]
          go_wp2
          go_quiet (fail)
          go_wp2
          go_roundw
          case rel => exact ⟨k + 1, by omega, by go_num, ⟨_, rfl⟩, fun j hj => by
            by_cases h : j = k
            · subst h; exact heq.out
            · exact hne'.out j (by omega)⟩
          case measure => simp [intOf]; omega
        · have hp := hide (hfin.out (by rw [hx'.out, hy'.out]; decide))
          go_wp2
          go_quiet (fail)
          go_wp2
          go_ret
          exact ⟨ret_bool hp.out.symm, _, World.drewN_drewN _ _ _⟩
        · have hp := hide (hfin.out (by rw [hx'.out, hy'.out]; decide))
          go_wp2
          go_quiet (fail)
          go_wp2
          go_ret
          exact ⟨ret_bool hp.out.symm, _, World.drewN_drewN _ _ _⟩
        · have heq : Hid (bx xs k = bx ys k) := by show _ = _; rw [hx'.out, hy'.out]
          go_wp2
          go_quiet (fail)
          go_wp2
          go_roundw
          case rel => exact ⟨k + 1, by omega, by go_num, ⟨_, rfl⟩, fun j hj => by
            by_cases h : j = k
            · subst h; exact heq.out
            · exact hne'.out j (by omega)⟩
          case measure => simp [intOf]; omega
      · have hp : Hid (decide (xs = ys) = true) := by
          show decide (xs = ys) = true
          simp
          refine List.ext_getElem (by omega) fun i h1 h2 => ?_
          have := hne'.out i (by omega)
          rwa [bx_get h1, bx_get h2] at this
        go_wp2
        go_ret
        exact ⟨ret_bool hp.out.symm, _, rfl⟩
  · have hp : Hid (decide (xs = ys) = false) := by
      show decide (xs = ys) = false
      simp; rintro rfl; omega
    go_wp2
    go_ret
    exact ⟨ret_bool hp.out.symm, 0, rfl⟩


theorem sameBools_yes (A B : Option Addr) (n m c d : Nat) (xs : List Bool) (w : World) (h : IsBools w A n xs) (h' : IsBools w B m xs) :
    Calls Try.prog 37 #[.slice A n c, .slice B m d] w fun e w' => e = .returned (.bool true) ∧ Below w.heap.size w w' := by
  refine (sameBools_ok A B n m c d xs xs w h h').mono ?_
  rintro e w' ⟨rfl, q, rfl⟩
  exact ⟨by simp, below_drewN (Below.refl _ _) q⟩
end Go.Proofs.Ytankambfobfnfaa
