/- For every valid tree and two of its elements: moving and taking out change the number of tops just as the statement says. No condition. -/
import Derived.Test.YtkimjpcmcfnmkaaOpen
import Derived.Test.YtkimjpcmcfnmkaaEx15
import Derived.Test.YtkimjpcmcfnmkaaPlo
namespace Go.Proofs.Ytkimjpcmcfnmkaa.mutateTops
open Go.ChangeShapes Go.WideShapes Go.ChangeAt Go.RowKit

def cntN (f : Nat → Bool) : Nat → Nat
  | 0 => 0
  | n + 1 => cntN f n + if f n = true then 1 else 0
theorem cnt_le (f : Nat → Bool) : ∀ n, cntN f n ≤ n
  | 0 => Nat.le_refl _
  | n + 1 => by have := cnt_le f n; unfold cntN; split <;> omega
theorem cnt_same {f g : Nat → Bool} : ∀ n, (∀ j, j < n → f j = g j) → cntN f n = cntN g n
  | 0, _ => rfl
  | n + 1, h => by unfold cntN; rw [cnt_same n (fun j hj => h j (by omega)), h n (by omega)]
theorem cnt_diff {f g : Nat → Bool} {k : Nat} : ∀ n, k < n → (∀ j, j < n → j ≠ k → f j = g j) → cntN f n + (if g k = true then 1 else 0) = cntN g n + if f k = true then 1 else 0
  | 0, h, _ => by omega
  | n + 1, h, hs => by
    unfold cntN
    by_cases hk : k = n
    · subst hk
      rw [cnt_same k (fun j hj => hs j (by omega) (by omega))]
      omega
    · have := cnt_diff n (by omega) (fun j hj => hs j (by omega))
      rw [hs n (by omega) (by omega)]
      omega
def topP (T : List ANode) (j : Nat) : Bool := decide (par T j < 0)
def topsN (T : List ANode) : Nat := cntN (topP T) T.length
theorem top_iff {T : List ANode} (hg : goodB T = true) {i : Nat} (hi : i < T.length) : (topE T i == (i : Int)) = topP T i := by
  unfold topP
  rw [topE_eq hg hi]
  by_cases h : par T i < 0
  · rw [topF_top hg hi h, decide_eq_true h]; simp
  · rw [decide_eq_false h]
    have := (topF_range hg hi).2.2
    rw [beq_eq_false_iff_ne]
    intro e
    rw [e, Int.toNat_natCast] at this
    omega
theorem topsN_put {T : List ANode} {p k : Nat} (hp : p < T.length) (hk : k < T.length) (nx : Int) : topsN (putT T p k nx) + (if par T k < 0 then 1 else 0) = topsN T := by
  have := cnt_diff (f := topP (putT T p k nx)) (g := topP T) T.length hk (fun j _ hne => by unfold topP; rw [par_put hp hk, if_neg hne])
  unfold topsN
  rw [putT_len]
  have e1 : topP (putT T p k nx) k = false := by unfold topP; rw [par_put hp hk, if_pos rfl]; exact decide_eq_false (by omega)
  have e2 : topP T k = decide (par T k < 0) := rfl
  rw [e1, e2] at this
  simpa using this
theorem topsN_taken {T : List ANode} {k : Nat} (hk : k < T.length) : topsN (takenT T k) + (if par T k < 0 then 1 else 0) = topsN T + 1 := by
  have := cnt_diff (f := topP (takenT T k)) (g := topP T) T.length hk (fun j _ hne => by unfold topP; rw [par_taken hk, if_neg hne])
  unfold topsN
  rw [takenT_len]
  have e1 : topP (takenT T k) k = true := by unfold topP; rw [par_taken hk, if_pos rfl]; rfl
  have e2 : topP T k = decide (par T k < 0) := rfl
  rw [e1, e2] at this
  simpa using this

set_option maxRecDepth 100000 in
set_option maxHeartbeats 1000000 in
theorem tops_ok (A : Option Addr) (n c : Nat) (T : List ANode) (v : Int) (w : World) (h : IsTree w A n T) (hg : goodB T = true) (hv : (topsN T : Int) = v) :
    Calls Try.prog 26 #[.agg #[.slice A n c]] w fun e w' => e = .returned (.int .i64 v) ∧ Below w.heap.size w w' := by
  have hT := hide h
  have hl := h.1
  clear h
  have hB0 := below_alloc (Below.refl w.heap.size w) (.cells #[.slice A n c] 24)
  have hbox0 : (w.alloc (.cells #[.slice A n c] 24)).cell? ⟨w.heap.size, 0, none⟩ = some (.slice A n c) := by go_simp
  have hn64 : n ≤ 64 := by have := ((goodB_iff T).1 hg).2.1; omega
  have hg' := hide hg
  have hv' := hide hv
  clear hg hv
  go_enter Try.func26, Try.ntmps26
  go_wp2
  go_loopw [3, 4] (fun m i wr => ∃ (q : Nat), q ≤ n ∧ i = .int .i64 q ∧ m = .int .i64 (cntN (topP T) q) ∧ Below w.heap.size w wr ∧ wr.cell? ⟨w.heap.size, 0, none⟩ = some (.slice A n c)) (fun _ i _ => n - (intOf i).toNat)
  case atStart => exact ⟨0, Nat.zero_le _, rfl, rfl, hB0, hbox0⟩
  case round =>
    obtain ⟨q, hq, rfl, rfl, hb, hbox⟩ := hrel
    have hcl := cnt_le (topP T) q
    by_cases hlt : q < n
    · have hs : Hid (cntN (topP T) (q + 1) = cntN (topP T) q + if topP T q = true then 1 else 0) := rfl
      have ha : askI T [(q : Int)] = 0 := askI_ok hg'.out (by simp; omega)
      have ht := top_iff hg'.out (by omega : q < T.length)
      have ha' := hide ha
      clear ha
      have hbw : w.heap.size < wr.heap.size := cell_in hbox
      cases htp : topP T q
      · have hs' : Hid (cntN (topP T) (q + 1) = cntN (topP T) q) := by show _ = _; rw [hs.out, htp]; rfl
        rw [htp] at ht
        clear hs htp
        go_wp2_with fail
        have hx := top_ok _ _ c T q _ (hT.out.below hb)
        rw [ha'.out] at hx
        refine hx.mono ?_
        clear hx
        rintro e w1 ⟨rfl, hb1⟩
        have hbox1 := cell_later hb1 hbox
        have hB1 := Below.on hb hb1
        go_wp2
        go_roundw
        case rel => exact ⟨q + 1, by omega, by go_num, by rw [hs'.out], hB1, hbox1⟩
        case measure => simp [intOf]; omega
      · have hs' : Hid (cntN (topP T) (q + 1) = cntN (topP T) q + 1) := by show _ = _; rw [hs.out, htp]; rfl
        rw [htp] at ht
        clear hs htp
        go_wp2_with fail
        have hx := top_ok _ _ c T q _ (hT.out.below hb)
        rw [ha'.out] at hx
        refine hx.mono ?_
        clear hx
        rintro e w1 ⟨rfl, hb1⟩
        have hbox1 := cell_later hb1 hbox
        have hB1 := Below.on hb hb1
        go_wp2
        go_roundw
        case rel => exact ⟨q + 1, by omega, by go_num, by rw [hs'.out]; go_num, hB1, hbox1⟩
        case measure => simp [intOf]; omega
    · obtain rfl : n = q := by omega
      have hvq : Hid ((cntN (topP T) n : Int) = v) := by show _ = _; rw [← hv'.out]; unfold topsN; rw [hl]
      go_wp2
      go_ret
      exact ⟨ret_int hvq.out, hb⟩

/-- What is known of a tree that a move made: no error and so many tops, or an error. -/
def Tell (e : Int) (X : List ANode) (N : Int) : Prop := (e = 0 ∧ goodB X = true ∧ (topsN X : Int) = N) ∨ (e == 0) = false
theorem tell_of {e : Int} {X : List ANode} {N : Int} (h : e = 0 → goodB X = true ∧ (topsN X : Int) = N) : Tell e X N := by
  by_cases he : e = 0
  · exact .inl ⟨he, h he⟩
  · exact .inr (by simpa using he)

set_option maxRecDepth 100000 in
set_option maxHeartbeats 4000000 in
theorem walk (A : Option Addr) (n c : Nat) (T : List ANode) (i j : Int) (w : World) (h : IsTree w A n T) :
    Calls Try.prog 8 #[.agg #[.slice A n c], .int .i64 i, .int .i64 j] w fun e w' => e = .returned (.bool true) ∧ Below w.heap.size w w' := by
  have ho := hide h.2.2.2
  have hT := hide h
  have hl := h.1
  clear h
  have hB0 := below_alloc (Below.refl w.heap.size w) (.cells #[.slice A n c] 24)
  have hbox0 : (w.alloc (.cells #[.slice A n c] 24)).cell? ⟨w.heap.size, 0, none⟩ = some (.slice A n c) := by go_simp
  by_cases h0 : moveI T i j = 0
  · obtain ⟨hg, hir, hjr⟩ := moveI_zero h0
    obtain ⟨k, rfl⟩ := Int.eq_ofNat_of_zero_le (by omega : 0 ≤ i)
    obtain ⟨m, rfl⟩ := Int.eq_ofNat_of_zero_le hjr.1
    have hk : k < T.length := by omega
    have hm : m < T.length := by omega
    have hkn : k < n := by omega
    have hq0 : (moveI T k m != 0) = false := by simp [h0]
    have hg' := hide hg
    obtain ⟨b, off, aA, cA, aC, cC, rfl, hbl, -, -, c2, -, -, -⟩ := ho.out (by omega)
    have c2' := hide (c2 k hkn)
    have hn64 : n ≤ 64 := by have := ((goodB_iff T).1 hg).2.1; omega
    obtain ⟨N, hN⟩ : ∃ N : Int, (topsN T : Int) = N := ⟨_, rfl⟩
    have hN' := hide hN
    have hNb : 0 ≤ N ∧ N ≤ 64 := by have := cnt_le (topP T) T.length; unfold topsN at hN; omega
    obtain ⟨hN0, hN1⟩ := hNb
    have hXt : Tell (appE T m k) (appT T m k) (if par T k < 0 then N - 1 else N) := tell_of fun he => by
      obtain ⟨-, hx, hgx⟩ := app_zero h0 he
      rw [hx]
      have := topsN_put (k := k) hm hk (-1)
      exact ⟨hgx, by split at this <;> split <;> omega⟩
    have hYt : Tell (befE T k m) (befT T k m) (if par T k < 0 then N - 1 else N) := tell_of fun he => by
      obtain ⟨p, -, hp, -, -, hx, hgx⟩ := bef_zero h0 he
      rw [hx]
      have := topsN_put (k := k) hp hk m
      exact ⟨hgx, by split at this <;> split <;> omega⟩
    have hkk := move_self h0
    have hZt := fun hp => (tak_zero hkk hp).1
    have hZx : ¬ par T k < 0 → goodB (takeT T k) = true ∧ (topsN (takeT T k) : Int) = N + 1 := fun hp => by
      obtain ⟨-, hx, hgx⟩ := tak_zero hkk hp
      rw [hx]
      have := topsN_taken hk
      rw [if_neg hp] at this
      exact ⟨hgx, by omega⟩
    have hZ6 := fun hp => (tak_six hkk hp).1
    obtain ⟨X, hX0⟩ : ∃ X, appT T m k = X := ⟨_, rfl⟩
    obtain ⟨Y, hY0⟩ : ∃ Y, befT T k m = Y := ⟨_, rfl⟩
    obtain ⟨Z, hZ0⟩ : ∃ Z, takeT T k = Z := ⟨_, rfl⟩
    obtain ⟨e1, he1⟩ : ∃ e, appE T m k = e := ⟨_, rfl⟩
    obtain ⟨e2, he2⟩ : ∃ e, befE T k m = e := ⟨_, rfl⟩
    obtain ⟨p, hp⟩ : ∃ p, X.length = p := ⟨_, rfl⟩
    obtain ⟨q, hq⟩ : ∃ q, Y.length = q := ⟨_, rfl⟩
    obtain ⟨r, hr⟩ : ∃ r, Z.length = r := ⟨_, rfl⟩
    rw [hX0, he1] at hXt
    rw [hY0, he2] at hYt
    rw [hZ0] at hZx
    have hX := hide hX0
    have hY := hide hY0
    have hZ := hide hZ0
    have hE1 := hide he1
    have hE2 := hide he2
    have hp' := hide hp
    have hq' := hide hq
    have hr' := hide hr
    by_cases htop : par T k < 0
    · rw [if_pos htop] at hXt hYt
      have hE3 := hide (hZ6 htop)
      clear hZt hZx hZ6 c2 ho hX0 hY0 hZ0 he1 he2 hp hq hr hN h0 hg hir hjr hkk
      rcases hXt with ⟨rfl, hgx, hnx⟩ | hx
      · have hgx' := hide hgx
        have hnx' := hide hnx
        clear hgx hnx
        rcases hYt with ⟨rfl, hgy, hny⟩ | hy
        · have hgy' := hide hgy
          have hny' := hide hny
          clear hgy hny
          go_enter Try.func8, Try.ntmps8
          go_wp2_with fail
          refine (alive15_ok _).mono ?_
          rintro e w1 ⟨rfl, hb1⟩
          have hbox1 := cell_later hb1 hbox0
          have hB1 := Below.on hB0 hb1
          go_wp2_with fail
          refine (rmask_ok _ _ _ T _ _ _ (hT.out.below hB1)).mono ?_
          rintro e w2 ⟨rfl, hb2⟩
          have hbox2 := cell_later hb2 hbox1
          have hB2 := Below.on hB1 hb2
          go_wp2_with fail
          refine (tops_ok _ _ c T N _ (hT.out.below hB2) hg'.out hN'.out).mono ?_
          rintro e w3 ⟨rfl, hz3⟩
          have hbox3 := cell_later hz3 hbox2
          have hB3 := Below.on hB2 hz3
          clear hz3 hbox2 hB2
          have g3 := (old hB3 _ _ hbl).trans c2'.out
          go_wp2_with fail
          have hx := append_ok _ _ c T m k _ (hT.out.below hB3)
          rw [hX.out, hE1.out] at hx
          refine hx.mono ?_
          clear hx
          rintro e w4 ⟨A4, c4, rfl, -, hR, hb4⟩
          rw [hp'.out] at hR ⊢
          have hz4 := below_alloc hb4 (.cells #[.slice A4 p c4] 24)
          have hbox4 := cell_later hz4 hbox3
          have hB4 := Below.on hB3 hz4
          have b_a4 : (w4.alloc (.cells #[.slice A4 p c4] 24)).cell? ⟨w4.heap.size, 0, none⟩ = some (.slice A4 p c4) := by clear hbox4; go_simp
          have t_a4 := hide (hR.below (below_alloc (Below.refl _ _) (.cells #[.slice A4 p c4] 24)))
          clear hz4 hbox3 hB3 hR hb4
          go_wp2_with fail
          have hx := before_ok _ _ c T k m _ (hT.out.below hB4)
          rw [hY.out, hE2.out] at hx
          refine hx.mono ?_
          clear hx
          rintro e w5 ⟨A5, c5, rfl, -, hR, hb5⟩
          rw [hq'.out] at hR ⊢
          have hz5 := below_alloc hb5 (.cells #[.slice A5 q c5] 24)
          have hbox5 := cell_later hz5 hbox4
          have hB5 := Below.on hB4 hz5
          have b_a5 := cell_later hz5 b_a4
          have t_a5 := hide (t_a4.out.below hz5)
          have b_b5 : (w5.alloc (.cells #[.slice A5 q c5] 24)).cell? ⟨w5.heap.size, 0, none⟩ = some (.slice A5 q c5) := by clear hbox5 b_a5; go_simp
          have t_b5 := hide (hR.below (below_alloc (Below.refl _ _) (.cells #[.slice A5 q c5] 24)))
          clear hz5 hbox4 hB4 b_a4 t_a4 hR hb5
          go_wp2_with fail
          have hx := take_ok _ _ c T k _ (hT.out.below hB5)
          rw [hZ.out, hE3.out] at hx
          refine hx.mono ?_
          clear hx
          rintro e w6 ⟨A6, c6, rfl, -, hR, hb6⟩
          rw [hr'.out] at hR ⊢
          have hz6 := below_alloc hb6 (.cells #[.slice A6 r c6] 24)
          have hbox6 := cell_later hz6 hbox5
          have hB6 := Below.on hB5 hz6
          have b_a6 := cell_later hz6 b_a5
          have t_a6 := hide (t_a5.out.below hz6)
          have b_b6 := cell_later hz6 b_b5
          have t_b6 := hide (t_b5.out.below hz6)
          have b_z6 : (w6.alloc (.cells #[.slice A6 r c6] 24)).cell? ⟨w6.heap.size, 0, none⟩ = some (.slice A6 r c6) := by clear hbox6 b_a6 b_b6; go_simp
          have t_z6 := hide (hR.below (below_alloc (Below.refl _ _) (.cells #[.slice A6 r c6] 24)))
          clear hz6 hbox5 hB5 b_a5 t_a5 b_b5 t_b5 hR hb6
          go_wp2_with fail
          refine (tops_ok _ _ _ X _ _ t_a6.out hgx'.out hnx'.out).mono ?_
          rintro e w7 ⟨rfl, hz7⟩
          have hbox7 := cell_later hz7 hbox6
          have hB7 := Below.on hB6 hz7
          have b_a7 := cell_later hz7 b_a6
          have t_a7 := hide (t_a6.out.below hz7)
          have b_b7 := cell_later hz7 b_b6
          have t_b7 := hide (t_b6.out.below hz7)
          have b_z7 := cell_later hz7 b_z6
          have t_z7 := hide (t_z6.out.below hz7)
          clear hz7 hbox6 hB6 b_a6 t_a6 b_b6 t_b6 b_z6 t_z6
          go_wp2_with fail
          refine (tops_ok _ _ _ Y _ _ t_b7.out hgy'.out hny'.out).mono ?_
          rintro e w8 ⟨rfl, hz8⟩
          have hbox8 := cell_later hz8 hbox7
          have hB8 := Below.on hB7 hz8
          have b_a8 := cell_later hz8 b_a7
          have t_a8 := hide (t_a7.out.below hz8)
          have b_b8 := cell_later hz8 b_b7
          have t_b8 := hide (t_b7.out.below hz8)
          have b_z8 := cell_later hz8 b_z7
          have t_z8 := hide (t_z7.out.below hz8)
          clear hz8 hbox7 hB7 b_a7 t_a7 b_b7 t_b7 b_z7 t_z7
          go_wp2
          go_ret
          exact ⟨rfl, hB8⟩
        · go_enter Try.func8, Try.ntmps8
          go_wp2_with fail
          refine (alive15_ok _).mono ?_
          rintro e w1 ⟨rfl, hb1⟩
          have hbox1 := cell_later hb1 hbox0
          have hB1 := Below.on hB0 hb1
          go_wp2_with fail
          refine (rmask_ok _ _ _ T _ _ _ (hT.out.below hB1)).mono ?_
          rintro e w2 ⟨rfl, hb2⟩
          have hbox2 := cell_later hb2 hbox1
          have hB2 := Below.on hB1 hb2
          go_wp2_with fail
          refine (tops_ok _ _ c T N _ (hT.out.below hB2) hg'.out hN'.out).mono ?_
          rintro e w3 ⟨rfl, hz3⟩
          have hbox3 := cell_later hz3 hbox2
          have hB3 := Below.on hB2 hz3
          clear hz3 hbox2 hB2
          have g3 := (old hB3 _ _ hbl).trans c2'.out
          go_wp2_with fail
          have hx := append_ok _ _ c T m k _ (hT.out.below hB3)
          rw [hX.out, hE1.out] at hx
          refine hx.mono ?_
          clear hx
          rintro e w4 ⟨A4, c4, rfl, -, hR, hb4⟩
          rw [hp'.out] at hR ⊢
          have hz4 := below_alloc hb4 (.cells #[.slice A4 p c4] 24)
          have hbox4 := cell_later hz4 hbox3
          have hB4 := Below.on hB3 hz4
          have b_a4 : (w4.alloc (.cells #[.slice A4 p c4] 24)).cell? ⟨w4.heap.size, 0, none⟩ = some (.slice A4 p c4) := by clear hbox4; go_simp
          have t_a4 := hide (hR.below (below_alloc (Below.refl _ _) (.cells #[.slice A4 p c4] 24)))
          clear hz4 hbox3 hB3 hR hb4
          go_wp2_with fail
          have hx := before_ok _ _ c T k m _ (hT.out.below hB4)
          rw [hY.out, hE2.out] at hx
          refine hx.mono ?_
          clear hx
          rintro e w5 ⟨A5, c5, rfl, -, hR, hb5⟩
          rw [hq'.out] at hR ⊢
          have hz5 := below_alloc hb5 (.cells #[.slice A5 q c5] 24)
          have hbox5 := cell_later hz5 hbox4
          have hB5 := Below.on hB4 hz5
          have b_a5 := cell_later hz5 b_a4
          have t_a5 := hide (t_a4.out.below hz5)
          have b_b5 : (w5.alloc (.cells #[.slice A5 q c5] 24)).cell? ⟨w5.heap.size, 0, none⟩ = some (.slice A5 q c5) := by clear hbox5 b_a5; go_simp
          have t_b5 := hide (hR.below (below_alloc (Below.refl _ _) (.cells #[.slice A5 q c5] 24)))
          clear hz5 hbox4 hB4 b_a4 t_a4 hR hb5
          go_wp2_with fail
          have hx := take_ok _ _ c T k _ (hT.out.below hB5)
          rw [hZ.out, hE3.out] at hx
          refine hx.mono ?_
          clear hx
          rintro e w6 ⟨A6, c6, rfl, -, hR, hb6⟩
          rw [hr'.out] at hR ⊢
          have hz6 := below_alloc hb6 (.cells #[.slice A6 r c6] 24)
          have hbox6 := cell_later hz6 hbox5
          have hB6 := Below.on hB5 hz6
          have b_a6 := cell_later hz6 b_a5
          have t_a6 := hide (t_a5.out.below hz6)
          have b_b6 := cell_later hz6 b_b5
          have t_b6 := hide (t_b5.out.below hz6)
          have b_z6 : (w6.alloc (.cells #[.slice A6 r c6] 24)).cell? ⟨w6.heap.size, 0, none⟩ = some (.slice A6 r c6) := by clear hbox6 b_a6 b_b6; go_simp
          have t_z6 := hide (hR.below (below_alloc (Below.refl _ _) (.cells #[.slice A6 r c6] 24)))
          clear hz6 hbox5 hB5 b_a5 t_a5 b_b5 t_b5 hR hb6
          go_wp2_with fail
          refine (tops_ok _ _ _ X _ _ t_a6.out hgx'.out hnx'.out).mono ?_
          rintro e w7 ⟨rfl, hz7⟩
          have hbox7 := cell_later hz7 hbox6
          have hB7 := Below.on hB6 hz7
          have b_a7 := cell_later hz7 b_a6
          have t_a7 := hide (t_a6.out.below hz7)
          have b_b7 := cell_later hz7 b_b6
          have t_b7 := hide (t_b6.out.below hz7)
          have b_z7 := cell_later hz7 b_z6
          have t_z7 := hide (t_z6.out.below hz7)
          clear hz7 hbox6 hB6 b_a6 t_a6 b_b6 t_b6 b_z6 t_z6
          go_wp2
          go_ret
          exact ⟨rfl, hB7⟩
      · rcases hYt with ⟨rfl, hgy, hny⟩ | hy
        · have hgy' := hide hgy
          have hny' := hide hny
          clear hgy hny
          go_enter Try.func8, Try.ntmps8
          go_wp2_with fail
          refine (alive15_ok _).mono ?_
          rintro e w1 ⟨rfl, hb1⟩
          have hbox1 := cell_later hb1 hbox0
          have hB1 := Below.on hB0 hb1
          go_wp2_with fail
          refine (rmask_ok _ _ _ T _ _ _ (hT.out.below hB1)).mono ?_
          rintro e w2 ⟨rfl, hb2⟩
          have hbox2 := cell_later hb2 hbox1
          have hB2 := Below.on hB1 hb2
          go_wp2_with fail
          refine (tops_ok _ _ c T N _ (hT.out.below hB2) hg'.out hN'.out).mono ?_
          rintro e w3 ⟨rfl, hz3⟩
          have hbox3 := cell_later hz3 hbox2
          have hB3 := Below.on hB2 hz3
          clear hz3 hbox2 hB2
          have g3 := (old hB3 _ _ hbl).trans c2'.out
          go_wp2_with fail
          have hx := append_ok _ _ c T m k _ (hT.out.below hB3)
          rw [hX.out, hE1.out] at hx
          refine hx.mono ?_
          clear hx
          rintro e w4 ⟨A4, c4, rfl, -, hR, hb4⟩
          rw [hp'.out] at hR ⊢
          have hz4 := below_alloc hb4 (.cells #[.slice A4 p c4] 24)
          have hbox4 := cell_later hz4 hbox3
          have hB4 := Below.on hB3 hz4
          have b_a4 : (w4.alloc (.cells #[.slice A4 p c4] 24)).cell? ⟨w4.heap.size, 0, none⟩ = some (.slice A4 p c4) := by clear hbox4; go_simp
          have t_a4 := hide (hR.below (below_alloc (Below.refl _ _) (.cells #[.slice A4 p c4] 24)))
          clear hz4 hbox3 hB3 hR hb4
          go_wp2_with fail
          have hx := before_ok _ _ c T k m _ (hT.out.below hB4)
          rw [hY.out, hE2.out] at hx
          refine hx.mono ?_
          clear hx
          rintro e w5 ⟨A5, c5, rfl, -, hR, hb5⟩
          rw [hq'.out] at hR ⊢
          have hz5 := below_alloc hb5 (.cells #[.slice A5 q c5] 24)
          have hbox5 := cell_later hz5 hbox4
          have hB5 := Below.on hB4 hz5
          have b_a5 := cell_later hz5 b_a4
          have t_a5 := hide (t_a4.out.below hz5)
          have b_b5 : (w5.alloc (.cells #[.slice A5 q c5] 24)).cell? ⟨w5.heap.size, 0, none⟩ = some (.slice A5 q c5) := by clear hbox5 b_a5; go_simp
          have t_b5 := hide (hR.below (below_alloc (Below.refl _ _) (.cells #[.slice A5 q c5] 24)))
          clear hz5 hbox4 hB4 b_a4 t_a4 hR hb5
          go_wp2_with fail
          have hx := take_ok _ _ c T k _ (hT.out.below hB5)
          rw [hZ.out, hE3.out] at hx
          refine hx.mono ?_
          clear hx
          rintro e w6 ⟨A6, c6, rfl, -, hR, hb6⟩
          rw [hr'.out] at hR ⊢
          have hz6 := below_alloc hb6 (.cells #[.slice A6 r c6] 24)
          have hbox6 := cell_later hz6 hbox5
          have hB6 := Below.on hB5 hz6
          have b_a6 := cell_later hz6 b_a5
          have t_a6 := hide (t_a5.out.below hz6)
          have b_b6 := cell_later hz6 b_b5
          have t_b6 := hide (t_b5.out.below hz6)
          have b_z6 : (w6.alloc (.cells #[.slice A6 r c6] 24)).cell? ⟨w6.heap.size, 0, none⟩ = some (.slice A6 r c6) := by clear hbox6 b_a6 b_b6; go_simp
          have t_z6 := hide (hR.below (below_alloc (Below.refl _ _) (.cells #[.slice A6 r c6] 24)))
          clear hz6 hbox5 hB5 b_a5 t_a5 b_b5 t_b5 hR hb6
          go_wp2_with fail
          refine (tops_ok _ _ _ Y _ _ t_b6.out hgy'.out hny'.out).mono ?_
          rintro e w7 ⟨rfl, hz7⟩
          have hbox7 := cell_later hz7 hbox6
          have hB7 := Below.on hB6 hz7
          have b_a7 := cell_later hz7 b_a6
          have t_a7 := hide (t_a6.out.below hz7)
          have b_b7 := cell_later hz7 b_b6
          have t_b7 := hide (t_b6.out.below hz7)
          have b_z7 := cell_later hz7 b_z6
          have t_z7 := hide (t_z6.out.below hz7)
          clear hz7 hbox6 hB6 b_a6 t_a6 b_b6 t_b6 b_z6 t_z6
          go_wp2
          go_ret
          exact ⟨rfl, hB7⟩
        · go_enter Try.func8, Try.ntmps8
          go_wp2_with fail
          refine (alive15_ok _).mono ?_
          rintro e w1 ⟨rfl, hb1⟩
          have hbox1 := cell_later hb1 hbox0
          have hB1 := Below.on hB0 hb1
          go_wp2_with fail
          refine (rmask_ok _ _ _ T _ _ _ (hT.out.below hB1)).mono ?_
          rintro e w2 ⟨rfl, hb2⟩
          have hbox2 := cell_later hb2 hbox1
          have hB2 := Below.on hB1 hb2
          go_wp2_with fail
          refine (tops_ok _ _ c T N _ (hT.out.below hB2) hg'.out hN'.out).mono ?_
          rintro e w3 ⟨rfl, hz3⟩
          have hbox3 := cell_later hz3 hbox2
          have hB3 := Below.on hB2 hz3
          clear hz3 hbox2 hB2
          have g3 := (old hB3 _ _ hbl).trans c2'.out
          go_wp2_with fail
          have hx := append_ok _ _ c T m k _ (hT.out.below hB3)
          rw [hX.out, hE1.out] at hx
          refine hx.mono ?_
          clear hx
          rintro e w4 ⟨A4, c4, rfl, -, hR, hb4⟩
          rw [hp'.out] at hR ⊢
          have hz4 := below_alloc hb4 (.cells #[.slice A4 p c4] 24)
          have hbox4 := cell_later hz4 hbox3
          have hB4 := Below.on hB3 hz4
          have b_a4 : (w4.alloc (.cells #[.slice A4 p c4] 24)).cell? ⟨w4.heap.size, 0, none⟩ = some (.slice A4 p c4) := by clear hbox4; go_simp
          have t_a4 := hide (hR.below (below_alloc (Below.refl _ _) (.cells #[.slice A4 p c4] 24)))
          clear hz4 hbox3 hB3 hR hb4
          go_wp2_with fail
          have hx := before_ok _ _ c T k m _ (hT.out.below hB4)
          rw [hY.out, hE2.out] at hx
          refine hx.mono ?_
          clear hx
          rintro e w5 ⟨A5, c5, rfl, -, hR, hb5⟩
          rw [hq'.out] at hR ⊢
          have hz5 := below_alloc hb5 (.cells #[.slice A5 q c5] 24)
          have hbox5 := cell_later hz5 hbox4
          have hB5 := Below.on hB4 hz5
          have b_a5 := cell_later hz5 b_a4
          have t_a5 := hide (t_a4.out.below hz5)
          have b_b5 : (w5.alloc (.cells #[.slice A5 q c5] 24)).cell? ⟨w5.heap.size, 0, none⟩ = some (.slice A5 q c5) := by clear hbox5 b_a5; go_simp
          have t_b5 := hide (hR.below (below_alloc (Below.refl _ _) (.cells #[.slice A5 q c5] 24)))
          clear hz5 hbox4 hB4 b_a4 t_a4 hR hb5
          go_wp2_with fail
          have hx := take_ok _ _ c T k _ (hT.out.below hB5)
          rw [hZ.out, hE3.out] at hx
          refine hx.mono ?_
          clear hx
          rintro e w6 ⟨A6, c6, rfl, -, hR, hb6⟩
          rw [hr'.out] at hR ⊢
          have hz6 := below_alloc hb6 (.cells #[.slice A6 r c6] 24)
          have hbox6 := cell_later hz6 hbox5
          have hB6 := Below.on hB5 hz6
          have b_a6 := cell_later hz6 b_a5
          have t_a6 := hide (t_a5.out.below hz6)
          have b_b6 := cell_later hz6 b_b5
          have t_b6 := hide (t_b5.out.below hz6)
          have b_z6 : (w6.alloc (.cells #[.slice A6 r c6] 24)).cell? ⟨w6.heap.size, 0, none⟩ = some (.slice A6 r c6) := by clear hbox6 b_a6 b_b6; go_simp
          have t_z6 := hide (hR.below (below_alloc (Below.refl _ _) (.cells #[.slice A6 r c6] 24)))
          clear hz6 hbox5 hB5 b_a5 t_a5 b_b5 t_b5 hR hb6
          go_wp2
          go_ret
          exact ⟨rfl, hB6⟩
    · rw [if_neg htop] at hXt hYt
      have hE3 := hide (hZt htop)
      have hgz' := hide (hZx htop).1
      have hnz' := hide (hZx htop).2
      clear hZt hZx hZ6 c2 ho hX0 hY0 hZ0 he1 he2 hp hq hr hN h0 hg hir hjr hkk
      rcases hXt with ⟨rfl, hgx, hnx⟩ | hx
      · have hgx' := hide hgx
        have hnx' := hide hnx
        clear hgx hnx
        rcases hYt with ⟨rfl, hgy, hny⟩ | hy
        · have hgy' := hide hgy
          have hny' := hide hny
          clear hgy hny
          go_enter Try.func8, Try.ntmps8
          go_wp2_with fail
          refine (alive15_ok _).mono ?_
          rintro e w1 ⟨rfl, hb1⟩
          have hbox1 := cell_later hb1 hbox0
          have hB1 := Below.on hB0 hb1
          go_wp2_with fail
          refine (rmask_ok _ _ _ T _ _ _ (hT.out.below hB1)).mono ?_
          rintro e w2 ⟨rfl, hb2⟩
          have hbox2 := cell_later hb2 hbox1
          have hB2 := Below.on hB1 hb2
          go_wp2_with fail
          refine (tops_ok _ _ c T N _ (hT.out.below hB2) hg'.out hN'.out).mono ?_
          rintro e w3 ⟨rfl, hz3⟩
          have hbox3 := cell_later hz3 hbox2
          have hB3 := Below.on hB2 hz3
          clear hz3 hbox2 hB2
          have g3 := (old hB3 _ _ hbl).trans c2'.out
          go_wp2_with fail
          have hx := append_ok _ _ c T m k _ (hT.out.below hB3)
          rw [hX.out, hE1.out] at hx
          refine hx.mono ?_
          clear hx
          rintro e w4 ⟨A4, c4, rfl, -, hR, hb4⟩
          rw [hp'.out] at hR ⊢
          have hz4 := below_alloc hb4 (.cells #[.slice A4 p c4] 24)
          have hbox4 := cell_later hz4 hbox3
          have hB4 := Below.on hB3 hz4
          have b_a4 : (w4.alloc (.cells #[.slice A4 p c4] 24)).cell? ⟨w4.heap.size, 0, none⟩ = some (.slice A4 p c4) := by clear hbox4; go_simp
          have t_a4 := hide (hR.below (below_alloc (Below.refl _ _) (.cells #[.slice A4 p c4] 24)))
          clear hz4 hbox3 hB3 hR hb4
          go_wp2_with fail
          have hx := before_ok _ _ c T k m _ (hT.out.below hB4)
          rw [hY.out, hE2.out] at hx
          refine hx.mono ?_
          clear hx
          rintro e w5 ⟨A5, c5, rfl, -, hR, hb5⟩
          rw [hq'.out] at hR ⊢
          have hz5 := below_alloc hb5 (.cells #[.slice A5 q c5] 24)
          have hbox5 := cell_later hz5 hbox4
          have hB5 := Below.on hB4 hz5
          have b_a5 := cell_later hz5 b_a4
          have t_a5 := hide (t_a4.out.below hz5)
          have b_b5 : (w5.alloc (.cells #[.slice A5 q c5] 24)).cell? ⟨w5.heap.size, 0, none⟩ = some (.slice A5 q c5) := by clear hbox5 b_a5; go_simp
          have t_b5 := hide (hR.below (below_alloc (Below.refl _ _) (.cells #[.slice A5 q c5] 24)))
          clear hz5 hbox4 hB4 b_a4 t_a4 hR hb5
          go_wp2_with fail
          have hx := take_ok _ _ c T k _ (hT.out.below hB5)
          rw [hZ.out, hE3.out] at hx
          refine hx.mono ?_
          clear hx
          rintro e w6 ⟨A6, c6, rfl, -, hR, hb6⟩
          rw [hr'.out] at hR ⊢
          have hz6 := below_alloc hb6 (.cells #[.slice A6 r c6] 24)
          have hbox6 := cell_later hz6 hbox5
          have hB6 := Below.on hB5 hz6
          have b_a6 := cell_later hz6 b_a5
          have t_a6 := hide (t_a5.out.below hz6)
          have b_b6 := cell_later hz6 b_b5
          have t_b6 := hide (t_b5.out.below hz6)
          have b_z6 : (w6.alloc (.cells #[.slice A6 r c6] 24)).cell? ⟨w6.heap.size, 0, none⟩ = some (.slice A6 r c6) := by clear hbox6 b_a6 b_b6; go_simp
          have t_z6 := hide (hR.below (below_alloc (Below.refl _ _) (.cells #[.slice A6 r c6] 24)))
          clear hz6 hbox5 hB5 b_a5 t_a5 b_b5 t_b5 hR hb6
          go_wp2_with fail
          refine (tops_ok _ _ _ X _ _ t_a6.out hgx'.out hnx'.out).mono ?_
          rintro e w7 ⟨rfl, hz7⟩
          have hbox7 := cell_later hz7 hbox6
          have hB7 := Below.on hB6 hz7
          have b_a7 := cell_later hz7 b_a6
          have t_a7 := hide (t_a6.out.below hz7)
          have b_b7 := cell_later hz7 b_b6
          have t_b7 := hide (t_b6.out.below hz7)
          have b_z7 := cell_later hz7 b_z6
          have t_z7 := hide (t_z6.out.below hz7)
          clear hz7 hbox6 hB6 b_a6 t_a6 b_b6 t_b6 b_z6 t_z6
          go_wp2_with fail
          refine (tops_ok _ _ _ Y _ _ t_b7.out hgy'.out hny'.out).mono ?_
          rintro e w8 ⟨rfl, hz8⟩
          have hbox8 := cell_later hz8 hbox7
          have hB8 := Below.on hB7 hz8
          have b_a8 := cell_later hz8 b_a7
          have t_a8 := hide (t_a7.out.below hz8)
          have b_b8 := cell_later hz8 b_b7
          have t_b8 := hide (t_b7.out.below hz8)
          have b_z8 := cell_later hz8 b_z7
          have t_z8 := hide (t_z7.out.below hz8)
          clear hz8 hbox7 hB7 b_a7 t_a7 b_b7 t_b7 b_z7 t_z7
          go_wp2_with fail
          refine (tops_ok _ _ _ Z _ _ t_z8.out hgz'.out hnz'.out).mono ?_
          rintro e w9 ⟨rfl, hz9⟩
          have hbox9 := cell_later hz9 hbox8
          have hB9 := Below.on hB8 hz9
          have b_a9 := cell_later hz9 b_a8
          have t_a9 := hide (t_a8.out.below hz9)
          have b_b9 := cell_later hz9 b_b8
          have t_b9 := hide (t_b8.out.below hz9)
          have b_z9 := cell_later hz9 b_z8
          have t_z9 := hide (t_z8.out.below hz9)
          clear hz9 hbox8 hB8 b_a8 t_a8 b_b8 t_b8 b_z8 t_z8
          go_wp2
          go_ret
          exact ⟨rfl, hB9⟩
        · go_enter Try.func8, Try.ntmps8
          go_wp2_with fail
          refine (alive15_ok _).mono ?_
          rintro e w1 ⟨rfl, hb1⟩
          have hbox1 := cell_later hb1 hbox0
          have hB1 := Below.on hB0 hb1
          go_wp2_with fail
          refine (rmask_ok _ _ _ T _ _ _ (hT.out.below hB1)).mono ?_
          rintro e w2 ⟨rfl, hb2⟩
          have hbox2 := cell_later hb2 hbox1
          have hB2 := Below.on hB1 hb2
          go_wp2_with fail
          refine (tops_ok _ _ c T N _ (hT.out.below hB2) hg'.out hN'.out).mono ?_
          rintro e w3 ⟨rfl, hz3⟩
          have hbox3 := cell_later hz3 hbox2
          have hB3 := Below.on hB2 hz3
          clear hz3 hbox2 hB2
          have g3 := (old hB3 _ _ hbl).trans c2'.out
          go_wp2_with fail
          have hx := append_ok _ _ c T m k _ (hT.out.below hB3)
          rw [hX.out, hE1.out] at hx
          refine hx.mono ?_
          clear hx
          rintro e w4 ⟨A4, c4, rfl, -, hR, hb4⟩
          rw [hp'.out] at hR ⊢
          have hz4 := below_alloc hb4 (.cells #[.slice A4 p c4] 24)
          have hbox4 := cell_later hz4 hbox3
          have hB4 := Below.on hB3 hz4
          have b_a4 : (w4.alloc (.cells #[.slice A4 p c4] 24)).cell? ⟨w4.heap.size, 0, none⟩ = some (.slice A4 p c4) := by clear hbox4; go_simp
          have t_a4 := hide (hR.below (below_alloc (Below.refl _ _) (.cells #[.slice A4 p c4] 24)))
          clear hz4 hbox3 hB3 hR hb4
          go_wp2_with fail
          have hx := before_ok _ _ c T k m _ (hT.out.below hB4)
          rw [hY.out, hE2.out] at hx
          refine hx.mono ?_
          clear hx
          rintro e w5 ⟨A5, c5, rfl, -, hR, hb5⟩
          rw [hq'.out] at hR ⊢
          have hz5 := below_alloc hb5 (.cells #[.slice A5 q c5] 24)
          have hbox5 := cell_later hz5 hbox4
          have hB5 := Below.on hB4 hz5
          have b_a5 := cell_later hz5 b_a4
          have t_a5 := hide (t_a4.out.below hz5)
          have b_b5 : (w5.alloc (.cells #[.slice A5 q c5] 24)).cell? ⟨w5.heap.size, 0, none⟩ = some (.slice A5 q c5) := by clear hbox5 b_a5; go_simp
          have t_b5 := hide (hR.below (below_alloc (Below.refl _ _) (.cells #[.slice A5 q c5] 24)))
          clear hz5 hbox4 hB4 b_a4 t_a4 hR hb5
          go_wp2_with fail
          have hx := take_ok _ _ c T k _ (hT.out.below hB5)
          rw [hZ.out, hE3.out] at hx
          refine hx.mono ?_
          clear hx
          rintro e w6 ⟨A6, c6, rfl, -, hR, hb6⟩
          rw [hr'.out] at hR ⊢
          have hz6 := below_alloc hb6 (.cells #[.slice A6 r c6] 24)
          have hbox6 := cell_later hz6 hbox5
          have hB6 := Below.on hB5 hz6
          have b_a6 := cell_later hz6 b_a5
          have t_a6 := hide (t_a5.out.below hz6)
          have b_b6 := cell_later hz6 b_b5
          have t_b6 := hide (t_b5.out.below hz6)
          have b_z6 : (w6.alloc (.cells #[.slice A6 r c6] 24)).cell? ⟨w6.heap.size, 0, none⟩ = some (.slice A6 r c6) := by clear hbox6 b_a6 b_b6; go_simp
          have t_z6 := hide (hR.below (below_alloc (Below.refl _ _) (.cells #[.slice A6 r c6] 24)))
          clear hz6 hbox5 hB5 b_a5 t_a5 b_b5 t_b5 hR hb6
          go_wp2_with fail
          refine (tops_ok _ _ _ X _ _ t_a6.out hgx'.out hnx'.out).mono ?_
          rintro e w7 ⟨rfl, hz7⟩
          have hbox7 := cell_later hz7 hbox6
          have hB7 := Below.on hB6 hz7
          have b_a7 := cell_later hz7 b_a6
          have t_a7 := hide (t_a6.out.below hz7)
          have b_b7 := cell_later hz7 b_b6
          have t_b7 := hide (t_b6.out.below hz7)
          have b_z7 := cell_later hz7 b_z6
          have t_z7 := hide (t_z6.out.below hz7)
          clear hz7 hbox6 hB6 b_a6 t_a6 b_b6 t_b6 b_z6 t_z6
          go_wp2_with fail
          refine (tops_ok _ _ _ Z _ _ t_z7.out hgz'.out hnz'.out).mono ?_
          rintro e w8 ⟨rfl, hz8⟩
          have hbox8 := cell_later hz8 hbox7
          have hB8 := Below.on hB7 hz8
          have b_a8 := cell_later hz8 b_a7
          have t_a8 := hide (t_a7.out.below hz8)
          have b_b8 := cell_later hz8 b_b7
          have t_b8 := hide (t_b7.out.below hz8)
          have b_z8 := cell_later hz8 b_z7
          have t_z8 := hide (t_z7.out.below hz8)
          clear hz8 hbox7 hB7 b_a7 t_a7 b_b7 t_b7 b_z7 t_z7
          go_wp2
          go_ret
          exact ⟨rfl, hB8⟩
      · rcases hYt with ⟨rfl, hgy, hny⟩ | hy
        · have hgy' := hide hgy
          have hny' := hide hny
          clear hgy hny
          go_enter Try.func8, Try.ntmps8
          go_wp2_with fail
          refine (alive15_ok _).mono ?_
          rintro e w1 ⟨rfl, hb1⟩
          have hbox1 := cell_later hb1 hbox0
          have hB1 := Below.on hB0 hb1
          go_wp2_with fail
          refine (rmask_ok _ _ _ T _ _ _ (hT.out.below hB1)).mono ?_
          rintro e w2 ⟨rfl, hb2⟩
          have hbox2 := cell_later hb2 hbox1
          have hB2 := Below.on hB1 hb2
          go_wp2_with fail
          refine (tops_ok _ _ c T N _ (hT.out.below hB2) hg'.out hN'.out).mono ?_
          rintro e w3 ⟨rfl, hz3⟩
          have hbox3 := cell_later hz3 hbox2
          have hB3 := Below.on hB2 hz3
          clear hz3 hbox2 hB2
          have g3 := (old hB3 _ _ hbl).trans c2'.out
          go_wp2_with fail
          have hx := append_ok _ _ c T m k _ (hT.out.below hB3)
          rw [hX.out, hE1.out] at hx
          refine hx.mono ?_
          clear hx
          rintro e w4 ⟨A4, c4, rfl, -, hR, hb4⟩
          rw [hp'.out] at hR ⊢
          have hz4 := below_alloc hb4 (.cells #[.slice A4 p c4] 24)
          have hbox4 := cell_later hz4 hbox3
          have hB4 := Below.on hB3 hz4
          have b_a4 : (w4.alloc (.cells #[.slice A4 p c4] 24)).cell? ⟨w4.heap.size, 0, none⟩ = some (.slice A4 p c4) := by clear hbox4; go_simp
          have t_a4 := hide (hR.below (below_alloc (Below.refl _ _) (.cells #[.slice A4 p c4] 24)))
          clear hz4 hbox3 hB3 hR hb4
          go_wp2_with fail
          have hx := before_ok _ _ c T k m _ (hT.out.below hB4)
          rw [hY.out, hE2.out] at hx
          refine hx.mono ?_
          clear hx
          rintro e w5 ⟨A5, c5, rfl, -, hR, hb5⟩
          rw [hq'.out] at hR ⊢
          have hz5 := below_alloc hb5 (.cells #[.slice A5 q c5] 24)
          have hbox5 := cell_later hz5 hbox4
          have hB5 := Below.on hB4 hz5
          have b_a5 := cell_later hz5 b_a4
          have t_a5 := hide (t_a4.out.below hz5)
          have b_b5 : (w5.alloc (.cells #[.slice A5 q c5] 24)).cell? ⟨w5.heap.size, 0, none⟩ = some (.slice A5 q c5) := by clear hbox5 b_a5; go_simp
          have t_b5 := hide (hR.below (below_alloc (Below.refl _ _) (.cells #[.slice A5 q c5] 24)))
          clear hz5 hbox4 hB4 b_a4 t_a4 hR hb5
          go_wp2_with fail
          have hx := take_ok _ _ c T k _ (hT.out.below hB5)
          rw [hZ.out, hE3.out] at hx
          refine hx.mono ?_
          clear hx
          rintro e w6 ⟨A6, c6, rfl, -, hR, hb6⟩
          rw [hr'.out] at hR ⊢
          have hz6 := below_alloc hb6 (.cells #[.slice A6 r c6] 24)
          have hbox6 := cell_later hz6 hbox5
          have hB6 := Below.on hB5 hz6
          have b_a6 := cell_later hz6 b_a5
          have t_a6 := hide (t_a5.out.below hz6)
          have b_b6 := cell_later hz6 b_b5
          have t_b6 := hide (t_b5.out.below hz6)
          have b_z6 : (w6.alloc (.cells #[.slice A6 r c6] 24)).cell? ⟨w6.heap.size, 0, none⟩ = some (.slice A6 r c6) := by clear hbox6 b_a6 b_b6; go_simp
          have t_z6 := hide (hR.below (below_alloc (Below.refl _ _) (.cells #[.slice A6 r c6] 24)))
          clear hz6 hbox5 hB5 b_a5 t_a5 b_b5 t_b5 hR hb6
          go_wp2_with fail
          refine (tops_ok _ _ _ Y _ _ t_b6.out hgy'.out hny'.out).mono ?_
          rintro e w7 ⟨rfl, hz7⟩
          have hbox7 := cell_later hz7 hbox6
          have hB7 := Below.on hB6 hz7
          have b_a7 := cell_later hz7 b_a6
          have t_a7 := hide (t_a6.out.below hz7)
          have b_b7 := cell_later hz7 b_b6
          have t_b7 := hide (t_b6.out.below hz7)
          have b_z7 := cell_later hz7 b_z6
          have t_z7 := hide (t_z6.out.below hz7)
          clear hz7 hbox6 hB6 b_a6 t_a6 b_b6 t_b6 b_z6 t_z6
          go_wp2_with fail
          refine (tops_ok _ _ _ Z _ _ t_z7.out hgz'.out hnz'.out).mono ?_
          rintro e w8 ⟨rfl, hz8⟩
          have hbox8 := cell_later hz8 hbox7
          have hB8 := Below.on hB7 hz8
          have b_a8 := cell_later hz8 b_a7
          have t_a8 := hide (t_a7.out.below hz8)
          have b_b8 := cell_later hz8 b_b7
          have t_b8 := hide (t_b7.out.below hz8)
          have b_z8 := cell_later hz8 b_z7
          have t_z8 := hide (t_z7.out.below hz8)
          clear hz8 hbox7 hB7 b_a7 t_a7 b_b7 t_b7 b_z7 t_z7
          go_wp2
          go_ret
          exact ⟨rfl, hB8⟩
        · go_enter Try.func8, Try.ntmps8
          go_wp2_with fail
          refine (alive15_ok _).mono ?_
          rintro e w1 ⟨rfl, hb1⟩
          have hbox1 := cell_later hb1 hbox0
          have hB1 := Below.on hB0 hb1
          go_wp2_with fail
          refine (rmask_ok _ _ _ T _ _ _ (hT.out.below hB1)).mono ?_
          rintro e w2 ⟨rfl, hb2⟩
          have hbox2 := cell_later hb2 hbox1
          have hB2 := Below.on hB1 hb2
          go_wp2_with fail
          refine (tops_ok _ _ c T N _ (hT.out.below hB2) hg'.out hN'.out).mono ?_
          rintro e w3 ⟨rfl, hz3⟩
          have hbox3 := cell_later hz3 hbox2
          have hB3 := Below.on hB2 hz3
          clear hz3 hbox2 hB2
          have g3 := (old hB3 _ _ hbl).trans c2'.out
          go_wp2_with fail
          have hx := append_ok _ _ c T m k _ (hT.out.below hB3)
          rw [hX.out, hE1.out] at hx
          refine hx.mono ?_
          clear hx
          rintro e w4 ⟨A4, c4, rfl, -, hR, hb4⟩
          rw [hp'.out] at hR ⊢
          have hz4 := below_alloc hb4 (.cells #[.slice A4 p c4] 24)
          have hbox4 := cell_later hz4 hbox3
          have hB4 := Below.on hB3 hz4
          have b_a4 : (w4.alloc (.cells #[.slice A4 p c4] 24)).cell? ⟨w4.heap.size, 0, none⟩ = some (.slice A4 p c4) := by clear hbox4; go_simp
          have t_a4 := hide (hR.below (below_alloc (Below.refl _ _) (.cells #[.slice A4 p c4] 24)))
          clear hz4 hbox3 hB3 hR hb4
          go_wp2_with fail
          have hx := before_ok _ _ c T k m _ (hT.out.below hB4)
          rw [hY.out, hE2.out] at hx
          refine hx.mono ?_
          clear hx
          rintro e w5 ⟨A5, c5, rfl, -, hR, hb5⟩
          rw [hq'.out] at hR ⊢
          have hz5 := below_alloc hb5 (.cells #[.slice A5 q c5] 24)
          have hbox5 := cell_later hz5 hbox4
          have hB5 := Below.on hB4 hz5
          have b_a5 := cell_later hz5 b_a4
          have t_a5 := hide (t_a4.out.below hz5)
          have b_b5 : (w5.alloc (.cells #[.slice A5 q c5] 24)).cell? ⟨w5.heap.size, 0, none⟩ = some (.slice A5 q c5) := by clear hbox5 b_a5; go_simp
          have t_b5 := hide (hR.below (below_alloc (Below.refl _ _) (.cells #[.slice A5 q c5] 24)))
          clear hz5 hbox4 hB4 b_a4 t_a4 hR hb5
          go_wp2_with fail
          have hx := take_ok _ _ c T k _ (hT.out.below hB5)
          rw [hZ.out, hE3.out] at hx
          refine hx.mono ?_
          clear hx
          rintro e w6 ⟨A6, c6, rfl, -, hR, hb6⟩
          rw [hr'.out] at hR ⊢
          have hz6 := below_alloc hb6 (.cells #[.slice A6 r c6] 24)
          have hbox6 := cell_later hz6 hbox5
          have hB6 := Below.on hB5 hz6
          have b_a6 := cell_later hz6 b_a5
          have t_a6 := hide (t_a5.out.below hz6)
          have b_b6 := cell_later hz6 b_b5
          have t_b6 := hide (t_b5.out.below hz6)
          have b_z6 : (w6.alloc (.cells #[.slice A6 r c6] 24)).cell? ⟨w6.heap.size, 0, none⟩ = some (.slice A6 r c6) := by clear hbox6 b_a6 b_b6; go_simp
          have t_z6 := hide (hR.below (below_alloc (Below.refl _ _) (.cells #[.slice A6 r c6] 24)))
          clear hz6 hbox5 hB5 b_a5 t_a5 b_b5 t_b5 hR hb6
          go_wp2_with fail
          refine (tops_ok _ _ _ Z _ _ t_z6.out hgz'.out hnz'.out).mono ?_
          rintro e w7 ⟨rfl, hz7⟩
          have hbox7 := cell_later hz7 hbox6
          have hB7 := Below.on hB6 hz7
          have b_a7 := cell_later hz7 b_a6
          have t_a7 := hide (t_a6.out.below hz7)
          have b_b7 := cell_later hz7 b_b6
          have t_b7 := hide (t_b6.out.below hz7)
          have b_z7 := cell_later hz7 b_z6
          have t_z7 := hide (t_z6.out.below hz7)
          clear hz7 hbox6 hB6 b_a6 t_a6 b_b6 t_b6 b_z6 t_z6
          go_wp2
          go_ret
          exact ⟨rfl, hB7⟩
  · have hq0 : (moveI T i j != 0) = true := by simp [h0]
    clear h0
    go_enter Try.func8, Try.ntmps8
    go_wp2_with fail
    refine (alive15_ok _).mono ?_
    rintro e w1 ⟨rfl, hb1⟩
    have hbox1 := cell_later hb1 hbox0
    have hB1 := Below.on hB0 hb1
    go_wp2_with fail
    refine (rmask_ok _ _ _ T _ _ _ (hT.out.below hB1)).mono ?_
    rintro e w2 ⟨rfl, hb2⟩
    have hbox2 := cell_later hb2 hbox1
    have hB2 := Below.on hB1 hb2
    go_wp2
    go_ret
    exact ⟨rfl, hB2⟩

set_option maxRecDepth 100000 in
theorem lifted (os : Os) (started : os.Started) (H : Type) (enc : TypeId × Value → H) :
    ReturnsInHanded {} Try.checked os 8 .any (Rows.mutateTopsSpec.pre6 enc Try.prog Try.f8 Rows.mutateTopsRow.domain false) (Rows.mutateTopsSpec.post enc Try.prog Try.f8 false true false false) := by
  refine returnsInHanded_of_change (C := Try.checked) own started (by kernel_rfl) Try.func8
    (ChangeSpec.witness6 (enc := enc) (C := Try.checked) false ⟨#[], #[.agg #[.slice none 0 0], .int .i64 0, .int .i64 0], []⟩ 8 (by kernel_rfl) (by kernel_rfl) (by kernel_rfl) (by kernel_rfl)) ?_
  intro W base args ds gs before hval0 hW hcnd _
  have hval : ∀ (j : Nat) t v, Try.f8.params[j]? = some t → args[j]? = some v → Value.okWide Try.prog W .any base t v := hval0
  have hW' := hW
  obtain ⟨p, q, hA0, hV, rfl, hfz, hnd⟩ := hW
  have hA : DataW.TrodAll enc Try.prog W 0 (fun _ => true) true Try.f8.params.toList args.toList ds p := hA0
  rw [Try.params8] at hA hval
  obtain ⟨v0, vs0, d0, ds0, p0, q0, hargs, rfl, rfl, h0, r0⟩ := trodAll_cons hA
  obtain ⟨v1, vs1, d1, ds1, p1, q1, rfl, rfl, rfl, h1, r1⟩ := trodAll_cons r0
  obtain ⟨v2, vs2, d2, ds2, p2, q2, rfl, rfl, rfl, h2, r2⟩ := trodAll_cons r1
  obtain ⟨rfl, rfl, rfl⟩ := trodAll_nil r2
  obtain rfl : args = #[v0, v1, v2] := by cases args; simp_all
  obtain ⟨rfl, rfl⟩ := trodVars_none hV
  have lt0 : ∀ x ∈ p0, x.block < W.heap.size := by obtain ⟨m, hm⟩ := h0; exact DataW.trod_lt m _ _ _ hm
  have k0 := h0
  have lt1 : ∀ x ∈ p1, x.block < W.heap.size := by obtain ⟨m, hm⟩ := h1; exact DataW.trod_lt m _ _ _ hm
  have k1 := h1
  have lt2 : ∀ x ∈ p2, x.block < W.heap.size := by obtain ⟨m, hm⟩ := h2; exact DataW.trod_lt m _ _ _ hm
  have k2 := h2
  obtain ⟨A0, n0, c0, T0, rfl, hT0⟩ := tree_open (hval 0 _ v0 rfl rfl) h0
  obtain ⟨a1, rfl, rfl, rfl, w1⟩ := open_int Try.underlying3 (hval 1 _ v1 rfl rfl) h1
  obtain ⟨a2, rfl, rfl, rfl, w2⟩ := open_int Try.underlying3 (hval 2 _ v2 rfl rfl) h2
  clear hA0 hval0
  refine (walk A0 n0 c0 T0 a1 a2 W hT0  ).mono fun e W' ⟨he, bel⟩ => ?_
  subst he
  exact ⟨_, rfl, _, _, _, [], _, [], hW', trodAll_mk1 (shut_bool Try.underlying4 _), (trodAll_cons_mk (Below.trod laidOut (by kernel_rfl) (of_decide_eq_true (by kernel_rfl)) k0 bel lt0) (trodAll_cons_mk (Below.trod laidOut (by kernel_rfl) (of_decide_eq_true (by kernel_rfl)) k1 bel lt1) (trodAll_cons_mk (Below.trod laidOut (by kernel_rfl) (of_decide_eq_true (by kernel_rfl)) k2 bel lt2) trodAll_mk0))), rfl, bel.frame _, fun h => by cases h⟩

theorem proved : Rows.MutateTopsSaid :=
  OpenClaim.holds_of_wide 8 Try.f8 rfl rfl rfl rfl rfl rfl rfl ⟨rfl, rfl, rfl, rfl, rfl⟩ rfl rfl rfl rfl rfl (by kernel_rfl) Try.func8 (by kernel_rfl)
    (of_decide_eq_true (by kernel_rfl)) (by unfold Func.isWrapper; first | (rw [if_pos (by decide +kernel)]; kernel_rfl) | (rw [if_neg (by decide +kernel)]; exact ⟨rfl, rfl⟩))
    (fun os started H enc _ => lifted os started H enc)
#print axioms proved
end Go.Proofs.Ytkimjpcmcfnmkaa.mutateTops
