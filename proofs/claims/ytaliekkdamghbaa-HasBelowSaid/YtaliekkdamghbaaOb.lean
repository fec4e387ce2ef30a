/- Walks: the sibling before and behind, by the program and by the reference; the reference's places. No condition. -/
import Derived.Test.YtaliekkdamghbaaOa
namespace Go.Proofs.Ytaliekkdamghbaa
open Go.RowKit

theorem previous_ok (A : Option Addr) (n c : Nat) (T : List ANode) (i : Int) (w : World) (h : IsTree w A n T) :
    Calls Try.prog 30 #[.agg #[.slice A n c], .int .i64 i] w fun e w' => e = .returned (.tuple #[.int .i64 (besE T i (-1)), .int .i64 (askI T [i])]) ∧ Below w.heap.size w w' := by
  have hT := hide h
  clear h
  have hB0 := below_alloc (Below.refl w.heap.size w) (.cells #[.slice A n c] 24)
  go_enter Try.func30, Try.ntmps30
  go_wp2_with fail
  refine (beside_ok _ _ _ T _ _ _ (hT.out.below hB0) (by decide)).mono ?_
  rintro e w1 ⟨rfl, hb1⟩
  go_wp2
  go_ret2
  exact ⟨rfl, Below.on hB0 hb1⟩

theorem next_ok (A : Option Addr) (n c : Nat) (T : List ANode) (i : Int) (w : World) (h : IsTree w A n T) :
    Calls Try.prog 41 #[.agg #[.slice A n c], .int .i64 i] w fun e w' => e = .returned (.tuple #[.int .i64 (besE T i 1), .int .i64 (askI T [i])]) ∧ Below w.heap.size w w' := by
  have hT := hide h
  clear h
  have hB0 := below_alloc (Below.refl w.heap.size w) (.cells #[.slice A n c] 24)
  go_enter Try.func41, Try.ntmps41
  go_wp2_with fail
  refine (beside_ok _ _ _ T _ _ _ (hT.out.below hB0) (by decide)).mono ?_
  rintro e w1 ⟨rfl, hb1⟩
  go_wp2
  go_ret2
  exact ⟨rfl, Below.on hB0 hb1⟩

theorem rat_ok (A : Option Addr) (n c : Nat) (xs : List Int) (x : Int) (w : World) (h : IsInts w A n xs) :
    Calls Try.prog 83 #[.slice A n c, .int .i64 x] w fun e w' => e = .returned (.int .i64 (posn xs x)) ∧ w = w' := by
  obtain ⟨hl, hn, ho⟩ := h
  go_enter Try.func83, Try.ntmps83
  go_wp2
  go_loop [5] (fun i => ∃ k : Nat, k ≤ n ∧ i = .int .i64 k ∧ ∀ j, j < k → ix xs j ≠ x) (fun i => n - (intOf i).toNat)
  case atStart => exact ⟨0, Nat.zero_le _, rfl, fun j hj => absurd hj (by omega)⟩
  case round =>
    obtain ⟨k, hk, rfl, hne⟩ := hrel
    by_cases hlt : k < n
    · obtain ⟨b, off, rfl, hbl, hc⟩ := ho (by omega)
      have hck := hc k hlt
      clear hc
      by_cases he : ix xs k = x
      · have hp := hide (posn_at (by omega) he hne)
        have he' : (ix xs k == x) = true := by simp [he]
        clear he hne
        go_wp2
        go_ret
        exact ⟨ret_int hp.out.symm, rfl⟩
      · have he' : (ix xs k == x) = false := by simpa using he
        clear ho
        have hne' := hide hne
        clear hne
        go_wp2
        go_round
        case rel => exact ⟨k + 1, by omega, by go_num, fun j hj => by
          by_cases h : j = k
          · subst h; exact he
          · exact hne'.out j (by omega)⟩
        case measure => simp [intOf]; omega
    · have hp := hide (posn_no (xs := xs) (x := x) (fun j hj => hne j (by omega)))
      clear hne
      go_wp2
      go_ret
      exact ⟨ret_int hp.out.symm, rfl⟩

theorem rsiblings_ok (A : Option Addr) (n c : Nat) (T : List ANode) (i : Nat) (w : World) (h : IsTree w A n T) (hi : i < n) (hg : goodB T = true) :
    Calls Try.prog 88 #[.agg #[.slice A n c], .int .i64 i] w (MadeInts0 w (sibs T i)) := by
  obtain ⟨hl, hn, -, ho⟩ := h
  obtain ⟨b, off, aA, cA, aC, cC, rfl, hbl, -, -, c2, c3, -, hC⟩ := ho (by omega)
  have g2 := c2 i hi
  have hp := good_par hg (by omega : i < T.length)
  by_cases hneg : par T i < 0
  · have hs : sibs T i = [(i : Int)] := if_pos hneg
    rw [hs]
    clear c2 c3 hC ho hg hs
    go_enter Try.func88, Try.ntmps88
    go_wp2
    go_ret
    exact ⟨_, _, rfl, isInts_build1 _ _ _ _ (by simp), below_alloc (below_alloc (Below.refl _ _) _) _⟩
  · obtain ⟨p, hpe⟩ := Int.eq_ofNat_of_zero_le (show 0 ≤ par T i by omega)
    have hpn : p < n := by omega
    have hs : sibs T i = kids T p := by unfold sibs; rw [if_neg hneg, hpe]; rfl
    have g3 := c3 p hpn
    have hK := hide (hC p hpn).1
    generalize cA p = CA at g3 hK
    generalize cC p = cc at g3
    rw [hs]
    clear c2 c3 hC ho hg hs hp
    go_enter Try.func88, Try.ntmps88
    go_wp2
    go_quiet (fail)
    go_wp2
    go_ret
    exact ⟨_, _, rfl, hK.out.below (below_drewN (below_alloc (Below.refl _ _) _) _), below_drewN (below_alloc (Below.refl _ _) _) _⟩

end Go.Proofs.Ytaliekkdamghbaa
