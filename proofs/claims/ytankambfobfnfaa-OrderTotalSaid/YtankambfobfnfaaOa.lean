/- Walks: siblings and places, by the program and by the reference. No condition. -/
import Derived.Test.YtankambfobfnfaaWg
namespace Go.Proofs.Ytankambfobfnfaa
open Go.RowKit

/-- The siblings of an element of a good tree, itself among them. -/
def sibs (T : List ANode) (i : Nat) : List Int := if par T i < 0 then [(i : Int)] else kids T (par T i).toNat
def placeE (T : List ANode) (i : Int) : Int := if askI T [i] = 0 then posn (sibs T i.toNat) i else 0
def besF (T : List ANode) (i : Nat) (d : Int) : Int :=
  if posn (sibs T i) i + d < 0 ∨ (sibs T i).length ≤ posn (sibs T i) i + d then -1 else ix (sibs T i) (posn (sibs T i) i + d).toNat
def besE (T : List ANode) (i d : Int) : Int := if askI T [i] = 0 then besF T i.toNat d else 0

theorem kids_len {T : List ANode} (hg : goodB T = true) {p : Nat} (hp : p < T.length) : (kids T p).length ≤ 64 := by
  have h1 := ((good_ref T).1 hg).2.2.2.1 p hp
  have h2 := ((goodB_iff T).1 hg).2.1
  omega
theorem sibs_len {T : List ANode} (hg : goodB T = true) {i : Nat} (hi : i < T.length) : (sibs T i).length ≤ 64 := by
  unfold sibs
  split
  · simp
  · have := (good_par hg hi).2
    exact kids_len hg (by omega)

theorem ocheck_ok (A : Option Addr) (n c : Nat) (T : List ANode) (i : Int) (w : World) (h : IsTree w A n T) :
    Calls Try.prog 47 #[.agg #[.slice A n c], .int .i64 i] w fun e w' => e = .returned (.int .i64 (askI T [i])) ∧ Below w.heap.size w w' := by
  have hT := hide h
  clear h
  have hB0 := below_alloc (Below.refl w.heap.size w) (.cells #[.slice A n c] 24)
  go_enter Try.func47, Try.ntmps47
  go_wp2_with fail
  refine (depth_ok _ _ _ T _ _ (hT.out.below hB0)).mono ?_
  rintro e w1 ⟨rfl, hb1⟩
  have hB1 := Below.on hB0 hb1
  go_wp2
  go_ret
  exact ⟨rfl, hB1⟩

/-- The siblings and the place, as they come back. -/
def MadeSib (w : World) (xs : List Int) (p : Int) (e : Ending) (w' : World) : Prop :=
  ∃ (A : Option Addr) (c : Nat), e = .returned (.tuple #[.slice A xs.length c, .int .i64 p]) ∧ IsInts w' A xs.length xs ∧ Below w.heap.size w w'
def MadeInts0 (w : World) (xs : List Int) (e : Ending) (w' : World) : Prop :=
  ∃ (A : Option Addr) (c : Nat), e = .returned (.slice A xs.length c) ∧ IsInts w' A xs.length xs ∧ Below w.heap.size w w'

theorem siblings_ok (A : Option Addr) (n c : Nat) (T : List ANode) (i : Nat) (w : World) (h : IsTree w A n T) (hi : i < n) (hg : goodB T = true) :
    Calls Try.prog 48 #[.agg #[.slice A n c], .int .i64 i] w (MadeSib w (sibs T i) (posn (sibs T i) i)) := by
  obtain ⟨hl, hn, -, ho⟩ := h
  obtain ⟨b, off, aA, cA, aC, cC, rfl, hbl, -, -, c2, c3, -, hC⟩ := ho (by omega)
  have g2 := c2 i hi
  have hp := good_par hg (by omega : i < T.length)
  by_cases hneg : par T i < 0
  · have hs : sibs T i = [(i : Int)] := if_pos hneg
    rw [hs]
    have hpo : posn [(i : Int)] i = 0 := by simp [posn]
    rw [hpo]
    clear c2 c3 hC ho hg hs hpo
    go_enter Try.func48, Try.ntmps48
    go_wp2
    go_ret2
    exact ⟨_, _, rfl, isInts_build1 _ _ _ _ (by simp), below_alloc (below_alloc (Below.refl _ _) _) _⟩
  · obtain ⟨p, hpe⟩ := Int.eq_ofNat_of_zero_le (show 0 ≤ par T i by omega)
    have hpn : p < n := by omega
    have hs : sibs T i = kids T p := by unfold sibs; rw [if_neg hneg, hpe]; rfl
    have g3 := c3 p hpn
    have hK := hide (hC p hpn).1
    generalize cA p = CA at g3 hK
    generalize cC p = cc at g3
    rw [hs]
    clear c2 c3 hC ho hg hs hp
    go_enter Try.func48, Try.ntmps48
    go_wp2
    go_quiet (fail)
    go_wp2_with (go_at_call 56; refine (index_ok _ _ _ (kids T p) _ _ (hK.out.below (below_drewN (below_alloc (Below.refl _ _) _) _))).mono ?_; rintro e w1 ⟨rfl, rfl⟩)
    go_ret2
    exact ⟨_, _, rfl, hK.out.below (below_drewN (below_alloc (Below.refl _ _) _) _), below_drewN (below_alloc (Below.refl _ _) _) _⟩

theorem place_ok (A : Option Addr) (n c : Nat) (T : List ANode) (i : Int) (w : World) (h : IsTree w A n T) :
    Calls Try.prog 16 #[.agg #[.slice A n c], .int .i64 i] w fun e w' => e = .returned (.tuple #[.int .i64 (placeE T i), .int .i64 (askI T [i])]) ∧ Below w.heap.size w w' := by
  have hT := hide h
  have hl := h.1
  clear h
  have hB0 := below_alloc (Below.refl w.heap.size w) (.cells #[.slice A n c] 24)
  have hbox0 : (w.alloc (.cells #[.slice A n c] 24)).cell? ⟨w.heap.size, 0, none⟩ = some (.slice A n c) := by go_simp
  by_cases h0 : askI T [i] = 0
  · obtain ⟨hg, hir⟩ := askI_zero.1 h0
    have hir := hir i (by simp)
    obtain ⟨k, rfl⟩ := Int.eq_ofNat_of_zero_le hir.1
    have hk : k < n := by omega
    have hr : Hid (placeE T k = posn (sibs T k) k) := by show _ = _; simp [placeE, h0]
    have hg' := hide hg
    clear hir hg
    go_enter Try.func16, Try.ntmps16
    go_wp2_with fail
    refine (ocheck_ok _ _ _ T _ _ (hT.out.below hB0)).mono ?_
    rintro e w1 ⟨rfl, hb1⟩
    have hbox1 := cell_later hb1 hbox0
    have hB1 := Below.on hB0 hb1
    go_wp2_with fail
    refine (siblings_ok _ _ _ T k _ (hT.out.below hB1) hk hg'.out).mono ?_
    rintro e w2 ⟨A2, c2, rfl, hI2, hb2⟩
    go_wp2
    go_ret2
    exact ⟨ret_two hr.out.symm h0.symm, Below.on hB1 hb2⟩
  · have hr : Hid (placeE T i = 0) := if_neg h0
    have hq : (askI T [i] != 0) = true := by simp [h0]
    clear h0
    go_enter Try.func16, Try.ntmps16
    go_wp2_with fail
    refine (ocheck_ok _ _ _ T _ _ (hT.out.below hB0)).mono ?_
    rintro e w1 ⟨rfl, hb1⟩
    have hbox1 := cell_later hb1 hbox0
    have hB1 := Below.on hB0 hb1
    go_wp2
    go_ret2
    exact ⟨ret_two hr.out.symm rfl, hB1⟩

theorem beside_ok (A : Option Addr) (n c : Nat) (T : List ANode) (i d : Int) (w : World) (h : IsTree w A n T) (hd : d = 1 ∨ d = -1) :
    Calls Try.prog 51 #[.agg #[.slice A n c], .int .i64 i, .int .i64 d] w fun e w' => e = .returned (.tuple #[.int .i64 (besE T i d), .int .i64 (askI T [i])]) ∧ Below w.heap.size w w' := by
  have hT := hide h
  have hl := h.1
  clear h
  have hd1 : -1 ≤ d ∧ d ≤ 1 := by omega
  obtain ⟨hd1, hd2⟩ := hd1
  clear hd
  have hB0 := below_alloc (Below.refl w.heap.size w) (.cells #[.slice A n c] 24)
  have hbox0 : (w.alloc (.cells #[.slice A n c] 24)).cell? ⟨w.heap.size, 0, none⟩ = some (.slice A n c) := by go_simp
  by_cases h0 : askI T [i] = 0
  · obtain ⟨hg, hir⟩ := askI_zero.1 h0
    have hir := hir i (by simp)
    obtain ⟨k, rfl⟩ := Int.eq_ofNat_of_zero_le hir.1
    have hk : k < n := by omega
    have hr : Hid (besE T k d = besF T k d) := by show _ = _; simp [besE, h0]
    have hlen := sibs_len hg (by omega : k < T.length)
    have hpo := posn_lt (sibs T k) k
    have hbes : Hid (∀ q, posn (sibs T k) k = q → besF T k d = if q + d < 0 ∨ (sibs T k).length ≤ q + d then -1 else ix (sibs T k) (q + d).toNat) := fun q hq => by rw [← hq]; rfl
    have hg' := hide hg
    clear hir hg
    go_enter Try.func51, Try.ntmps51
    go_wp2_with fail
    refine (ocheck_ok _ _ _ T _ _ (hT.out.below hB0)).mono ?_
    rintro e w1 ⟨rfl, hb1⟩
    have hbox1 := cell_later hb1 hbox0
    have hB1 := Below.on hB0 hb1
    go_wp2_with fail
    refine (siblings_ok _ _ _ T k _ (hT.out.below hB1) hk hg'.out).mono ?_
    rintro e w2 ⟨A2, c2, rfl, hI2, hb2⟩
    have hB2 := Below.on hB1 hb2
    have hI := hide hI2
    clear hI2 hb2 hb1 hbox1 hbox0 hB0 hB1
    generalize posn (sibs T k) k = q at *
    generalize (sibs T k).length = m at *
    have hval := hide (hbes.out q rfl)
    clear hbes
    by_cases hin : 0 ≤ q + d ∧ q + d < m
    · obtain ⟨x, hx⟩ := Int.eq_ofNat_of_zero_le hin.1
      obtain ⟨b, off, rfl, hbl, hc⟩ := hI.out.2.2 (by omega)
      have gx := hc x (by omega)
      have hx1 : 0 ≤ q + d := hin.1
      have hx2 : q + d < m := hin.2
      have hvx : Hid (besF T k d = ix (sibs T k) x) := by
        show _ = _
        rw [hval.out, if_neg (by omega), hx]; rfl
      clear hin hc
      go_wp2
      go_ret2
      exact ⟨ret_two (by rw [hr.out, hvx.out]) h0.symm, hB2⟩
    · have hvx : Hid (besF T k d = -1) := by
        show _ = _
        rw [hval.out, if_pos (by omega)]
      have hin' : q + d < 0 ∨ (0 ≤ q + d ∧ (m : Int) ≤ q + d) := by omega
      clear hin
      rcases hin' with h | ⟨h, h'⟩
      all_goals
        go_wp2
        go_ret2
        exact ⟨ret_two (by rw [hr.out, hvx.out]) h0.symm, hB2⟩
  · have hr : Hid (besE T i d = 0) := if_neg h0
    have hq : (askI T [i] != 0) = true := by simp [h0]
    clear h0
    go_enter Try.func51, Try.ntmps51
    go_wp2_with fail
    refine (ocheck_ok _ _ _ T _ _ (hT.out.below hB0)).mono ?_
    rintro e w1 ⟨rfl, hb1⟩
    have hbox1 := cell_later hb1 hbox0
    have hB1 := Below.on hB0 hb1
    go_wp2
    go_ret2
    exact ⟨ret_two hr.out.symm rfl, hB1⟩
end Go.Proofs.Ytankambfobfnfaa
/- Walks: the sibling before and behind, by the program and by the reference; the reference's places. No condition. -/
namespace Go.Proofs.Ytankambfobfnfaa
open Go.RowKit

theorem previous_ok (A : Option Addr) (n c : Nat) (T : List ANode) (i : Int) (w : World) (h : IsTree w A n T) :
    Calls Try.prog 18 #[.agg #[.slice A n c], .int .i64 i] w fun e w' => e = .returned (.tuple #[.int .i64 (besE T i (-1)), .int .i64 (askI T [i])]) ∧ Below w.heap.size w w' := by
  have hT := hide h
  clear h
  have hB0 := below_alloc (Below.refl w.heap.size w) (.cells #[.slice A n c] 24)
  go_enter Try.func18, Try.ntmps18
  go_wp2_with fail
  refine (beside_ok _ _ _ T _ _ _ (hT.out.below hB0) (by decide)).mono ?_
  rintro e w1 ⟨rfl, hb1⟩
  go_wp2
  go_ret2
  exact ⟨rfl, Below.on hB0 hb1⟩

theorem next_ok (A : Option Addr) (n c : Nat) (T : List ANode) (i : Int) (w : World) (h : IsTree w A n T) :
    Calls Try.prog 20 #[.agg #[.slice A n c], .int .i64 i] w fun e w' => e = .returned (.tuple #[.int .i64 (besE T i 1), .int .i64 (askI T [i])]) ∧ Below w.heap.size w w' := by
  have hT := hide h
  clear h
  have hB0 := below_alloc (Below.refl w.heap.size w) (.cells #[.slice A n c] 24)
  go_enter Try.func20, Try.ntmps20
  go_wp2_with fail
  refine (beside_ok _ _ _ T _ _ _ (hT.out.below hB0) (by decide)).mono ?_
  rintro e w1 ⟨rfl, hb1⟩
  go_wp2
  go_ret2
  exact ⟨rfl, Below.on hB0 hb1⟩

theorem rat_ok (A : Option Addr) (n c : Nat) (xs : List Int) (x : Int) (w : World) (h : IsInts w A n xs) :
    Calls Try.prog 49 #[.slice A n c, .int .i64 x] w fun e w' => e = .returned (.int .i64 (posn xs x)) ∧ w = w' := by
  obtain ⟨hl, hn, ho⟩ := h
  go_enter Try.func49, Try.ntmps49
  go_wp2
  go_loop [5] (fun i => ∃ k : Nat, k ≤ n ∧ i = .int .i64 k ∧ ∀ j, j < k → ix xs j ≠ x) (fun i => n - (intOf i).toNat)
  case atStart => exact ⟨0, Nat.zero_le _, rfl, fun j hj => absurd hj (by omega)⟩
  case round =>
    obtain ⟨k, hk, rfl, hne⟩ := hrel
    by_cases hlt : k < n
    · obtain ⟨b, off, rfl, hbl, hc⟩ := ho (by omega)
      have hck := hc k hlt
      clear hc
      by_cases he : ix xs k = x
      · have hp := hide (posn_at (by omega) he hne)
        have he' : (ix xs k == x) = true := by simp [he]
        clear he hne
        go_wp2
        go_ret
        exact ⟨ret_int hp.out.symm, rfl⟩
      · have he' : (ix xs k == x) = false := by simpa using he
        clear ho
        have hne' := hide hne
        clear hne
        go_wp2
        go_round
        case rel => exact ⟨k + 1, by omega, by go_num, fun j hj => by
          by_cases h : j = k
          · subst h; exact he
          · exact hne'.out j (by omega)⟩
        case measure => simp [intOf]; omega
    · have hp := hide (posn_no (xs := xs) (x := x) (fun j hj => hne j (by omega)))
      clear hne
      go_wp2
      go_ret
      exact ⟨ret_int hp.out.symm, rfl⟩

theorem rsiblings_ok (A : Option Addr) (n c : Nat) (T : List ANode) (i : Nat) (w : World) (h : IsTree w A n T) (hi : i < n) (hg : goodB T = true) :
    Calls Try.prog 50 #[.agg #[.slice A n c], .int .i64 i] w (MadeInts0 w (sibs T i)) := by
  obtain ⟨hl, hn, -, ho⟩ := h
  obtain ⟨b, off, aA, cA, aC, cC, rfl, hbl, -, -, c2, c3, -, hC⟩ := ho (by omega)
  have g2 := c2 i hi
  have hp := good_par hg (by omega : i < T.length)
  by_cases hneg : par T i < 0
  · have hs : sibs T i = [(i : Int)] := if_pos hneg
    rw [hs]
    clear c2 c3 hC ho hg hs
    go_enter Try.func50, Try.ntmps50
    go_wp2
    go_ret
    exact ⟨_, _, rfl, isInts_build1 _ _ _ _ (by simp), below_alloc (below_alloc (Below.refl _ _) _) _⟩
  · obtain ⟨p, hpe⟩ := Int.eq_ofNat_of_zero_le (show 0 ≤ par T i by omega)
    have hpn : p < n := by omega
    have hs : sibs T i = kids T p := by unfold sibs; rw [if_neg hneg, hpe]; rfl
    have g3 := c3 p hpn
    have hK := hide (hC p hpn).1
    generalize cA p = CA at g3 hK
    generalize cC p = cc at g3
    rw [hs]
    clear c2 c3 hC ho hg hs hp
    go_enter Try.func50, Try.ntmps50
    go_wp2
    go_quiet (fail)
    go_wp2
    go_ret
    exact ⟨_, _, rfl, hK.out.below (below_drewN (below_alloc (Below.refl _ _) _) _), below_drewN (below_alloc (Below.refl _ _) _) _⟩

theorem rplace_ok (A : Option Addr) (n c : Nat) (T : List ANode) (i : Int) (w : World) (h : IsTree w A n T) :
    Calls Try.prog 17 #[.agg #[.slice A n c], .int .i64 i] w fun e w' => e = .returned (.tuple #[.int .i64 (placeE T i), .int .i64 (askI T [i])]) ∧ Below w.heap.size w w' := by
  have hT := hide h
  have hl := h.1
  clear h
  have hB0 := below_alloc (Below.refl w.heap.size w) (.cells #[.slice A n c] 24)
  have hbox0 : (w.alloc (.cells #[.slice A n c] 24)).cell? ⟨w.heap.size, 0, none⟩ = some (.slice A n c) := by go_simp
  by_cases h0 : askI T [i] = 0
  · obtain ⟨hg, hir⟩ := askI_zero.1 h0
    have hir := hir i (by simp)
    obtain ⟨k, rfl⟩ := Int.eq_ofNat_of_zero_le hir.1
    have hk : k < n := by omega
    have hr : Hid (placeE T k = posn (sibs T k) k) := by show _ = _; simp [placeE, h0]
    have hg' := hide hg
    clear hir hg
    go_enter Try.func17, Try.ntmps17
    go_wp2_with fail
    refine (rasked_ok _ _ _ T _ _ (hT.out.below hB0)).mono ?_
    rintro e w1 ⟨rfl, hb1⟩
    have hbox1 := cell_later hb1 hbox0
    have hB1 := Below.on hB0 hb1
    go_wp2_with fail
    refine (rsiblings_ok _ _ _ T k _ (hT.out.below hB1) hk hg'.out).mono ?_
    rintro e w2 ⟨A2, c2, rfl, hI2, hb2⟩
    go_wp2_with fail
    refine (rat_ok _ _ _ (sibs T k) _ _ hI2).mono ?_
    rintro e w3 ⟨rfl, rfl⟩
    go_wp2
    go_ret2
    exact ⟨ret_two hr.out.symm h0.symm, Below.on hB1 hb2⟩
  · have hr : Hid (placeE T i = 0) := if_neg h0
    have hq : (askI T [i] != 0) = true := by simp [h0]
    clear h0
    go_enter Try.func17, Try.ntmps17
    go_wp2_with fail
    refine (rasked_ok _ _ _ T _ _ (hT.out.below hB0)).mono ?_
    rintro e w1 ⟨rfl, hb1⟩
    have hbox1 := cell_later hb1 hbox0
    have hB1 := Below.on hB0 hb1
    go_wp2_with fail
    refine (rasked_ok _ _ _ T _ _ (hT.out.below hB1)).mono ?_
    rintro e w2 ⟨rfl, hb2⟩
    have hbox2 := cell_later hb2 hbox1
    have hB2 := Below.on hB1 hb2
    go_wp2
    go_ret2
    exact ⟨ret_two hr.out.symm rfl, hB2⟩

theorem rbeside_ok (A : Option Addr) (n c : Nat) (T : List ANode) (k : Nat) (d : Int) (w : World) (h : IsTree w A n T) (hk : k < n) (hg : goodB T = true) (hd : d = 1 ∨ d = -1) :
    Calls Try.prog 52 #[.agg #[.slice A n c], .int .i64 k, .int .i64 d] w fun e w' => e = .returned (.int .i64 (besF T k d)) ∧ Below w.heap.size w w' := by
  have hT := hide h
  have hl := h.1
  clear h
  have hd1 : -1 ≤ d ∧ d ≤ 1 := by omega
  obtain ⟨hd1, hd2⟩ := hd1
  clear hd
  have hB0 := below_alloc (Below.refl w.heap.size w) (.cells #[.slice A n c] 24)
  have hlen := sibs_len hg (by omega : k < T.length)
  have hpo := posn_lt (sibs T k) k
  have hbes : Hid (∀ q, posn (sibs T k) k = q → besF T k d = if q + d < 0 ∨ (sibs T k).length ≤ q + d then -1 else ix (sibs T k) (q + d).toNat) := fun q hq => by rw [← hq]; rfl
  have hg' := hide hg
  clear hg
  go_enter Try.func52, Try.ntmps52
  go_wp2_with fail
  refine (rsiblings_ok _ _ _ T k _ (hT.out.below hB0) hk hg'.out).mono ?_
  rintro e w2 ⟨A2, c2, rfl, hI2, hb2⟩
  have hB2 := Below.on hB0 hb2
  have hI := hide hI2
  clear hI2 hb2 hB0
  go_wp2_with fail
  refine (rat_ok _ _ _ (sibs T k) _ _ hI.out).mono ?_
  rintro e w3 ⟨rfl, rfl⟩
  generalize posn (sibs T k) k = q at *
  generalize (sibs T k).length = m at *
  have hval := hide (hbes.out q rfl)
  clear hbes
  by_cases hin : 0 ≤ q + d ∧ q + d < m
  · obtain ⟨x, hx⟩ := Int.eq_ofNat_of_zero_le hin.1
    obtain ⟨b, off, rfl, hbl, hc⟩ := hI.out.2.2 (by omega)
    have gx := hc x (by omega)
    have hx1 : 0 ≤ q + d := hin.1
    have hx2 : q + d < m := hin.2
    have hvx : Hid (besF T k d = ix (sibs T k) x) := by
      show _ = _
      rw [hval.out, if_neg (by omega), hx]; rfl
    clear hin hc
    go_wp2
    go_ret
    exact ⟨ret_int hvx.out.symm, hB2⟩
  · have hvx : Hid (besF T k d = -1) := by
      show _ = _
      rw [hval.out, if_pos (by omega)]
    have hin' : q + d < 0 ∨ (0 ≤ q + d ∧ (m : Int) ≤ q + d) := by omega
    clear hin
    rcases hin' with h | ⟨h, h'⟩
    all_goals
      go_wp2
      go_ret
      exact ⟨ret_int hvx.out.symm, hB2⟩

theorem rprevious_ok (A : Option Addr) (n c : Nat) (T : List ANode) (i : Int) (w : World) (h : IsTree w A n T) :
    Calls Try.prog 19 #[.agg #[.slice A n c], .int .i64 i] w fun e w' => e = .returned (.tuple #[.int .i64 (besE T i (-1)), .int .i64 (askI T [i])]) ∧ Below w.heap.size w w' := by
  have hT := hide h
  have hl := h.1
  clear h
  have hB0 := below_alloc (Below.refl w.heap.size w) (.cells #[.slice A n c] 24)
  have hbox0 : (w.alloc (.cells #[.slice A n c] 24)).cell? ⟨w.heap.size, 0, none⟩ = some (.slice A n c) := by go_simp
  by_cases h0 : askI T [i] = 0
  · obtain ⟨hg, hir⟩ := askI_zero.1 h0
    have hir := hir i (by simp)
    obtain ⟨k, rfl⟩ := Int.eq_ofNat_of_zero_le hir.1
    have hk : k < n := by omega
    have hr : Hid (besE T k (-1) = besF T k (-1)) := by show _ = _; simp [besE, h0]
    have hg' := hide hg
    clear hir hg
    go_enter Try.func19, Try.ntmps19
    go_wp2_with fail
    refine (rasked_ok _ _ _ T _ _ (hT.out.below hB0)).mono ?_
    rintro e w1 ⟨rfl, hb1⟩
    have hbox1 := cell_later hb1 hbox0
    have hB1 := Below.on hB0 hb1
    go_wp2_with fail
    refine (rbeside_ok _ _ _ T k _ _ (hT.out.below hB1) hk hg'.out (by decide)).mono ?_
    rintro e w2 ⟨rfl, hb2⟩
    go_wp2
    go_ret2
    exact ⟨ret_two hr.out.symm h0.symm, Below.on hB1 hb2⟩
  · have hr : Hid (besE T i (-1) = 0) := if_neg h0
    have hq : (askI T [i] != 0) = true := by simp [h0]
    clear h0
    go_enter Try.func19, Try.ntmps19
    go_wp2_with fail
    refine (rasked_ok _ _ _ T _ _ (hT.out.below hB0)).mono ?_
    rintro e w1 ⟨rfl, hb1⟩
    have hbox1 := cell_later hb1 hbox0
    have hB1 := Below.on hB0 hb1
    go_wp2_with fail
    refine (rasked_ok _ _ _ T _ _ (hT.out.below hB1)).mono ?_
    rintro e w2 ⟨rfl, hb2⟩
    have hbox2 := cell_later hb2 hbox1
    have hB2 := Below.on hB1 hb2
    go_wp2
    go_ret2
    exact ⟨ret_two hr.out.symm rfl, hB2⟩

theorem rnext_ok (A : Option Addr) (n c : Nat) (T : List ANode) (i : Int) (w : World) (h : IsTree w A n T) :
    Calls Try.prog 21 #[.agg #[.slice A n c], .int .i64 i] w fun e w' => e = .returned (.tuple #[.int .i64 (besE T i 1), .int .i64 (askI T [i])]) ∧ Below w.heap.size w w' := by
  have hT := hide h
  have hl := h.1
  clear h
  have hB0 := below_alloc (Below.refl w.heap.size w) (.cells #[.slice A n c] 24)
  have hbox0 : (w.alloc (.cells #[.slice A n c] 24)).cell? ⟨w.heap.size, 0, none⟩ = some (.slice A n c) := by go_simp
  by_cases h0 : askI T [i] = 0
  · obtain ⟨hg, hir⟩ := askI_zero.1 h0
    have hir := hir i (by simp)
    obtain ⟨k, rfl⟩ := Int.eq_ofNat_of_zero_le hir.1
    have hk : k < n := by omega
    have hr : Hid (besE T k 1 = besF T k 1) := by show _ = _; simp [besE, h0]
    have hg' := hide hg
    clear hir hg
    go_enter Try.func21, Try.ntmps21
    go_wp2_with fail
    refine (rasked_ok _ _ _ T _ _ (hT.out.below hB0)).mono ?_
    rintro e w1 ⟨rfl, hb1⟩
    have hbox1 := cell_later hb1 hbox0
    have hB1 := Below.on hB0 hb1
    go_wp2_with fail
    refine (rbeside_ok _ _ _ T k _ _ (hT.out.below hB1) hk hg'.out (by decide)).mono ?_
    rintro e w2 ⟨rfl, hb2⟩
    go_wp2
    go_ret2
    exact ⟨ret_two hr.out.symm h0.symm, Below.on hB1 hb2⟩
  · have hr : Hid (besE T i 1 = 0) := if_neg h0
    have hq : (askI T [i] != 0) = true := by simp [h0]
    clear h0
    go_enter Try.func21, Try.ntmps21
    go_wp2_with fail
    refine (rasked_ok _ _ _ T _ _ (hT.out.below hB0)).mono ?_
    rintro e w1 ⟨rfl, hb1⟩
    have hbox1 := cell_later hb1 hbox0
    have hB1 := Below.on hB0 hb1
    go_wp2_with fail
    refine (rasked_ok _ _ _ T _ _ (hT.out.below hB1)).mono ?_
    rintro e w2 ⟨rfl, hb2⟩
    have hbox2 := cell_later hb2 hbox1
    have hB2 := Below.on hB1 hb2
    go_wp2
    go_ret2
    exact ⟨ret_two hr.out.symm rfl, hB2⟩

end Go.Proofs.Ytankambfobfnfaa
