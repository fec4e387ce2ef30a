/- Walks: comparing lists of texts. No condition. -/
import Derived.Test.YtfiiikbbiimdiaaStrs
import Derived.Test.YtfiiikbbiimdiaaAp
import Derived.Deep.QuietTactic
import Derived.BigQuiet
namespace Go.Proofs.Ytfiiikbbiimdiaa
open Go.RowKit

set_option maxRecDepth 100000 in
set_option maxHeartbeats 1000000 in
theorem rsameS_ok (A B : Option Addr) (n m c d : Nat) (xs ys : List ByteArray) (w : World) (h : IsStrs w A n xs) (h' : IsStrs w B m ys) :
    Calls Try.prog 21 #[.slice A n c, .slice B m d] w fun e w' => e = .returned (.bool (decide (xs = ys))) ∧ ∃ q, w' = w.drewN q := by
  obtain ⟨hl, hn, ho⟩ := h
  obtain ⟨hl', hn', ho'⟩ := h'
  go_enter Try.func21, Try.ntmps21
  by_cases hnm : n = m
  · subst hnm
    go_wp2
    go_loopw [5] (fun i wr => ∃ k : Nat, k ≤ n ∧ i = .int .i64 k ∧ (∃ q, wr = w.drewN q) ∧ ∀ j, j < k → sx xs j = sx ys j) (fun i _ => n - (intOf i).toNat)
    case atStart => exact ⟨0, Nat.zero_le _, rfl, ⟨0, rfl⟩, fun j hj => absurd hj (by omega)⟩
    case round =>
      obtain ⟨k, hk, rfl, ⟨q, rfl⟩, hne⟩ := hrel
      have hne' := hide hne
      clear hne
      by_cases hlt : k < n
      · obtain ⟨b, off, rfl, hbl, hc⟩ := ho (by omega)
        obtain ⟨b', off', rfl, hbl', hc'⟩ := ho' (by omega)
        have hck := hc k hlt
        have hck' := hc' k hlt
        clear hc hc'
        by_cases he : sx xs k = sx ys k
        · have he' : ((sx xs k).toList == (sx ys k).toList) = true := by simp [he]
          have he2 := hide he
          clear he ho ho'
          go_wp2
          go_quiet (fail)
          go_wp2
          go_roundw
          case rel => exact ⟨k + 1, by omega, by go_num, ⟨_, rfl⟩, fun j hj => by
            by_cases h : j = k
            · subst h; exact he2.out
            · exact hne'.out j (by omega)⟩
          case measure => simp [intOf]; omega
        · have he' : ((sx xs k).toList == (sx ys k).toList) = false := by
            rw [Bool.eq_false_iff]; intro h; exact he (toList_inj (by simpa using h))
          have hp : Hid (decide (xs = ys) = false) := by
            show decide (xs = ys) = false
            simp; rintro rfl; exact he rfl
          have he2 := hide he
          clear he ho ho'
          go_wp2
          go_quiet (fail)
          go_wp2
          go_ret
          exact ⟨ret_bool hp.out.symm, _, World.drewN_drewN _ _ _⟩
      · have hp : Hid (decide (xs = ys) = true) := by
          show decide (xs = ys) = true
          simp
          refine List.ext_getElem (by omega) fun i h1 h2 => ?_
          have := hne'.out i (by omega)
          rwa [sx_get h1, sx_get h2] at this
        go_wp2
        go_ret
        exact ⟨ret_bool hp.out.symm, _, rfl⟩
  · have hp : Hid (decide (xs = ys) = false) := by
      show decide (xs = ys) = false
      simp; rintro rfl; omega
    go_wp2
    go_ret
    exact ⟨ret_bool hp.out.symm, 0, rfl⟩


end Go.Proofs.Ytfiiikbbiimdiaa
