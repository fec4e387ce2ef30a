/- Walks: the small functions on texts and lists of numbers. No condition. -/
import Derived.Test.YtbedomopojiehaaProg
import Derived.Test.YtbedomopojiehaaBase
namespace Go.Proofs.Ytbedomopojiehaa
open Go.RowKit

theorem small_ok (x : Int) (w : World) : Calls Try.prog 111 #[.int .u8 x] w fun e w' => e = .returned (.bool (smallI x)) ∧ w = w' := by
  go_enter Try.func111, Try.ntmps111
  go_wp2
  all_goals (go_ret; exact ⟨ret_bool (by rw [Bool.eq_iff_iff]; simp [smallI] <;> omega), rfl⟩)

theorem named_no (s : ByteArray) (k : Nat) (hk : k < s.size) (h : smallI (byt s k) = false) : namedB s = false := by
  rw [Bool.eq_false_iff]; intro hc; rw [namedB_iff] at hc; have := hc.2.2.2.2 k hk; rw [h] at this; cases this

theorem named_ok (s : ByteArray) (w : World) (hs : s.size ≤ 9223372036854775807) : Calls Try.prog 97 #[.string s] w fun e w' => e = .returned (.bool (namedB s)) ∧ w = w' := by
  have hb := byt_get s
  by_cases h1 : 1 ≤ s.size ∧ s.size ≤ 64 ∧ 97 ≤ byt s 0 ∧ byt s 0 ≤ 122
  · obtain ⟨h1, h2, h3, h4⟩ := h1
    go_enter Try.func97, Try.ntmps97
    go_wp2
    go_loop [24] (fun i => ∃ k : Nat, k ≤ s.size ∧ i = .int .i64 k ∧ ∀ j, j < k → smallI (byt s j) = true) (fun i => s.size - (intOf i).toNat)
    case atStart => exact ⟨0, Nat.zero_le _, rfl, fun j hj => absurd hj (by omega)⟩
    case round =>
      obtain ⟨k, hk, rfl, hne⟩ := hrel
      have hne' := hide hne
      clear hne
      by_cases hlt : k < s.size
      · cases hsm : smallI (byt s k)
        · have hp := hide (named_no s k hlt hsm)
          go_wp2_with (go_at_call 111; refine (small_ok _ _).mono ?_; rintro e w1 ⟨rfl, rfl⟩)
          go_ret
          exact ⟨ret_bool hp.out.symm, rfl⟩
        · go_wp2_with (go_at_call 111; refine (small_ok _ _).mono ?_; rintro e w1 ⟨rfl, rfl⟩)
          go_round
          case rel => exact ⟨k + 1, by omega, by go_num, fun j hj => by
            by_cases h : j = k
            · subst h; exact hsm
            · exact hne'.out j (by omega)⟩
          case measure => simp [intOf]; omega
      · have hp : Hid (namedB s = true) := (namedB_iff s).2 ⟨h1, h2, h3, h4, fun j hj => hne'.out j (by omega)⟩
        go_wp2
        go_ret
        exact ⟨ret_bool hp.out.symm, rfl⟩
  · have hp : Hid (namedB s = false) := by
      show namedB s = false
      rw [Bool.eq_false_iff]; intro hc; rw [namedB_iff] at hc; exact h1 ⟨hc.1, hc.2.1, hc.2.2.1, hc.2.2.2.1⟩
    go_enter Try.func97, Try.ntmps97
    go_wp2
    all_goals first | (go_ret; exact ⟨ret_bool hp.out.symm, rfl⟩) | (exfalso; apply h1; simp at *; omega)

theorem named_no' (s : ByteArray) (k : Nat) (hk : k < s.size) (h : smallI (byt s k) = false ∨ (k = 0 ∧ ¬ (97 ≤ byt s k ∧ byt s k ≤ 122))) : namedB s = false := by
  rw [Bool.eq_false_iff]; intro hc; rw [namedB_iff] at hc
  rcases h with h | ⟨rfl, h⟩
  · have := hc.2.2.2.2 k hk; rw [h] at this; cases this
  · exact h ⟨hc.2.2.1, hc.2.2.2.1⟩

set_option maxHeartbeats 1000000 in
theorem rnamed_ok (s : ByteArray) (w : World) (hs : s.size ≤ 9223372036854775807) : Calls Try.prog 50 #[.string s] w fun e w' => e = .returned (.bool (namedB s)) ∧ w = w' := by
  have hb := byt_get s
  go_enter Try.func50, Try.ntmps50
  go_wp2
  go_loop [3] (fun i => ∃ k : Nat, k ≤ s.size ∧ i = .int .i64 k ∧ ∀ j, j < k → smallI (byt s j) = true ∧ (j = 0 → 97 ≤ byt s 0 ∧ byt s 0 ≤ 122)) (fun i => s.size - (intOf i).toNat)
  case atStart => exact ⟨0, Nat.zero_le _, rfl, fun j hj => absurd hj (by omega)⟩
  case round =>
    obtain ⟨k, hk, rfl, hne⟩ := hrel
    have hne' := hide hne
    clear hne
    by_cases hlt : k < s.size
    · have hp := named_no' s k hlt
      have hp' := hide hp
      clear hp
      rcases Nat.eq_zero_or_pos k with rfl | hpos
      all_goals
        go_wp2
        all_goals first
          | (go_round
             case rel => exact ⟨k + 1, by omega, by go_num, fun j hj => by
               by_cases h : j = k
               · subst h; refine ⟨?_, ?_⟩ <;> (clear hne' hp' ; simp [smallI] at *; first | done | omega | (exfalso; simp_all; done))
               · exact hne'.out j (by omega)⟩
             case measure => simp [intOf]; omega)
          | (go_round
             case rel => exact ⟨0 + 1, by omega, rfl, fun j hj => by
               obtain rfl : j = 0 := by omega
               refine ⟨?_, ?_⟩ <;> (clear hne' hp' ; simp [smallI] at *; first | done | omega | (exfalso; simp_all; done))⟩
             case measure => simp [intOf]; omega)
          | (go_ret; exact ⟨ret_bool (hp'.out (by clear hne' hp'; simp [smallI] at *; first | done | omega | (exfalso; simp_all; done))).symm, rfl⟩)
    · by_cases hsz : 1 ≤ s.size ∧ s.size ≤ 64
      · have h0 := hne'.out 0 (by omega)
        have hp : Hid (namedB s = true) := (namedB_iff s).2 ⟨hsz.1, hsz.2, (h0.2 rfl).1, (h0.2 rfl).2, fun j hj => (hne'.out j (by omega)).1⟩
        obtain ⟨hs1, hs2⟩ := hsz
        clear h0
        go_wp2
        go_ret
        exact ⟨ret_bool (by rw [hp.out]; simp; try omega), rfl⟩
      · have hp : Hid (namedB s = false) := by
          show namedB s = false
          rw [Bool.eq_false_iff]; intro hc; rw [namedB_iff] at hc; exact hsz ⟨hc.1, hc.2.1⟩
        go_wp2
        all_goals (go_ret; exact ⟨ret_bool (by rw [hp.out] <;> simp <;> omega), rfl⟩)

theorem index_ok (A : Option Addr) (n c : Nat) (xs : List Int) (x : Int) (w : World) (h : IsInts w A n xs) :
    Calls Try.prog 122 #[.slice A n c, .int .i64 x] w fun e w' => e = .returned (.int .i64 (posn xs x)) ∧ w = w' := by
  obtain ⟨hl, hn, ho⟩ := h
  go_enter Try.func122, Try.ntmps122
  go_wp2
  go_loop [5, 8, 10, 11, 12, 13, 14, 15, 16, 17, 18] (fun _ i _ _ _ _ _ _ _ _ _ => ∃ k : Nat, k ≤ n ∧ i = .int .i64 k ∧ ∀ j, j < k → ix xs j ≠ x) (fun _ i _ _ _ _ _ _ _ _ _ => n - (intOf i).toNat)
  case atStart => exact ⟨0, Nat.zero_le _, rfl, fun j hj => absurd hj (by omega)⟩
  case round =>
    obtain ⟨k, hk, rfl, hne⟩ := hrel
    by_cases hlt : k < n
    · obtain ⟨b, off, rfl, hbl, hc⟩ := ho (by omega)
      have hck := hc k hlt
      clear hc
      by_cases he : ix xs k = x
      · have hp := hide (posn_at (by omega) he hne)
        have he' : (x == ix xs k) = true := by simp [he]
        clear he hne
        go_wp2
        go_ret
        exact ⟨ret_int hp.out.symm, rfl⟩
      · have he' : (x == ix xs k) = false := by simpa using fun h => he h.symm
        clear ho
        have hne' := hide hne
        clear hne
        go_wp2
        go_round
        case rel => exact ⟨k + 1, by omega, by go_num, fun j hj => by
          by_cases h : j = k
          · subst h; exact he
          · exact hne'.out j (by omega)⟩
        case measure => simp [intOf]; omega
    · have hp := hide (posn_no (xs := xs) (x := x) (fun j hj => hne j (by omega)))
      clear hne
      go_wp2
      go_ret
      exact ⟨ret_int hp.out.symm, rfl⟩

theorem contains_ok (A : Option Addr) (n c : Nat) (xs : List Int) (x : Int) (w : World) (h : IsInts w A n xs) :
    Calls Try.prog 115 #[.slice A n c, .int .i64 x] w fun e w' => e = .returned (.bool (decide (x ∈ xs))) ∧ w = w' := by
  go_enter Try.func115, Try.ntmps115
  go_wp2_with fail
  refine (index_ok A n c xs x _ h).mono ?_
  rintro e w1 ⟨rfl, rfl⟩
  go_wp2
  go_ret
  exact ⟨ret_bool (by rw [Bool.eq_iff_iff]; simp [posn_neg]), rfl⟩

theorem times_ok (A : Option Addr) (n c : Nat) (xs : List Int) (x : Int) (w : World) (h : IsInts w A n xs) :
    Calls Try.prog 62 #[.slice A n c, .int .i64 x] w fun e w' => e = .returned (.int .i64 (xs.count x)) ∧ w = w' := by
  obtain ⟨hl, hn, ho⟩ := h
  go_enter Try.func62, Try.ntmps62
  go_wp2
  go_loop [5, 6] (fun m i => ∃ k : Nat, k ≤ n ∧ i = .int .i64 k ∧ m = .int .i64 (((xs.take k).count x : Nat) : Int)) (fun _ i => n - (intOf i).toNat)
  case atStart => exact ⟨0, Nat.zero_le _, rfl, rfl⟩
  case round =>
    obtain ⟨k, hk, rfl, rfl⟩ := hrel
    have hle := count_le xs x k
    by_cases hlt : k < n
    · obtain ⟨b, off, rfl, hbl, hc⟩ := ho (by omega)
      have hck := hc k hlt
      have hs := hide (count_snoc (xs := xs) (k := k) (by omega) x)
      clear hc
      by_cases he : ix xs k = x
      · have he' : (ix xs k == x) = true := by simp [he]
        have he2 := hide he
        clear he ho
        go_wp2
        go_round
        case rel => exact ⟨k + 1, by omega, by go_num, by rw [hs.out, if_pos he2.out]; go_num⟩
        case measure => simp [intOf]; omega
      · have he' : (ix xs k == x) = false := by simpa using he
        clear ho
        go_wp2
        go_round
        case rel => exact ⟨k + 1, by omega, by go_num, by rw [hs.out, if_neg he]; go_num⟩
        case measure => simp [intOf]; omega
    · have hp : Hid (xs.take k = xs) := List.take_of_length_le (by omega)
      go_wp2
      go_ret
      exact ⟨ret_int (by rw [hp.out]), rfl⟩
end Go.Proofs.Ytbedomopojiehaa
