/- For every tree and all numbers, the order that Compare tells is total, and an element above another one comes before it. No condition. -/
import Derived.Test.YtankambfobfnfaaOpen
import Derived.Test.YtankambfobfnfaaEx16
namespace Go.Proofs.Ytankambfobfnfaa.orderTotal
open Go.ChangeShapes Go.WideShapes Go.ChangeAt Go.RowKit

/-- What the answers can be. -/
def Scen (i k a b c d e g h tI tK : Int) (ab : Bool) : Prop :=
  (e = 6 ∧ (tI == tK) = false) ∨ (e = 0 ∧ (tI == tK) = true ∧ (ab = false ∨ a = -1) ∧ ((a = -1 ∧ b = 1 ∧ (i == k) = false) ∨ (a = 0 ∧ b = 0 ∧ (i == k) = true) ∨ (a = 1 ∧ b = -1 ∧ (i == k) = false)) ∧
    ((g = 6 ∧ h = 6) ∨ (g = 0 ∧ h = 0 ∧ ((c = a ∧ d = a) ∨ ((a != c) = true ∧ (a != 0) = true) ∨ (a = 0 ∧ d = c)))))

theorem scen {T : List ANode} (hg : goodB T = true) {i k m : Nat} (hi : i < T.length) (hk : k < T.length) (hm : m < T.length) :
    Scen i k (cmpV T i k) (cmpV T k i) (cmpV T k m) (cmpV T i m) (cmpE T i k) (cmpE T k m) (cmpE T i m) (topF T i) (topF T k) (belE T k i) ∧ cmpE T k i = cmpE T i k := by
  have ok : ∀ x : Nat, x < T.length → askI T [(x : Int)] = 0 := fun x hx => askI_ok hg (by simp; omega)
  have e1 := cmp_parts (ok i hi) (ok k hk)
  have e2 := cmp_parts (ok k hk) (ok i hi)
  have e3 := cmp_parts (ok k hk) (ok m hm)
  have e4 := cmp_parts (ok i hi) (ok m hm)
  by_cases h1 : topF T i = topF T k
  · rw [if_pos h1] at e1
    rw [if_pos h1.symm] at e2
    refine ⟨?_, by rw [e1, e2]⟩
    have v1 : cmpV T i k = cmpF T i k := if_pos e1
    have v2 : cmpV T k i = -cmpF T i k := by unfold cmpV; rw [if_pos e2, cmpF_turn h1]; omega
    have z1 := cmpF_zero hg (i := i) (k := k) hi
    have b1 : -1 ≤ cmpF T i k ∧ cmpF T i k ≤ 1 := sgn_bd _ _
    have ab : belE T k i = false ∨ cmpF T i k = -1 := by
      cases hb : belE T k i
      · exact .inl rfl
      · exact .inr (cmpF_above hg hi hk hb).2
    refine .inr ⟨e1, by simp [h1], by rw [v1]; exact ab, ?_, ?_⟩
    · rw [v1, v2]
      by_cases h0 : cmpF T i k = 0
      · have := z1.1 h0
        refine .inr (.inl ⟨h0, by omega, by simp; omega⟩)
      · have hne : ¬ i = k := fun h => h0 (z1.2 h)
        have hne' : ((i : Int) == (k : Int)) = false := by simp; omega
        rcases (by omega : cmpF T i k = -1 ∨ cmpF T i k = 1) with h | h
        · exact .inl ⟨h, by omega, hne'⟩
        · exact .inr (.inr ⟨h, by omega, hne'⟩)
    · by_cases h2 : topF T k = topF T m
      · rw [if_pos h2] at e3
        rw [if_pos (h1.trans h2)] at e4
        refine .inr ⟨e3, e4, ?_⟩
        have v3 : cmpV T k m = cmpF T k m := if_pos e3
        have v4 : cmpV T i m = cmpF T i m := if_pos e4
        rw [v1, v3, v4]
        by_cases h0 : cmpF T i k = 0
        · have := z1.1 h0
          subst this
          exact .inr (.inr ⟨h0, rfl⟩)
        · by_cases h3 : cmpF T k m = cmpF T i k
          · exact .inl ⟨h3, cmpF_trans h1 h3.symm h0⟩
          · exact .inr (.inl ⟨by simp; omega, by simp; omega⟩)
      · rw [if_neg h2] at e3
        rw [if_neg (fun h => h2 (h1.symm.trans h))] at e4
        exact .inl ⟨e3, e4⟩
  · rw [if_neg h1] at e1
    rw [if_neg (fun h => h1 h.symm)] at e2
    exact ⟨.inl ⟨e1, by simp [h1]⟩, by rw [e1, e2]⟩

theorem top_at (T : List ANode) (i v : Int) (h0 : askI T [i] = 0) (hl : topF T i = v) (A : Option Addr) (n c : Nat) (w : World) (h : IsTree w A n T) :
    Calls Try.prog 32 #[.agg #[.slice A n c], .int .i64 i] w fun e w' => e = .returned (.tuple #[.int .i64 v, .int .i64 0]) ∧ Below w.heap.size w w' := by
  have := topF_ok A n c T i w h h0
  rw [hl] at this
  exact this
theorem below_at (T : List ANode) (i k : Int) (v : Bool) (h0 : askI T [i, k] = 0) (hl : belE T i k = v) (A : Option Addr) (n c : Nat) (w : World) (h : IsTree w A n T) :
    Calls Try.prog 33 #[.agg #[.slice A n c], .int .i64 i, .int .i64 k] w fun e w' => e = .returned (.tuple #[.bool v, .int .i64 0]) ∧ Below w.heap.size w w' := by
  have := below_ok A n c T i k w h
  rw [hl, h0] at this
  exact this

set_option maxRecDepth 100000 in
set_option maxHeartbeats 4000000 in
theorem walkIn (A : Option Addr) (n c0 : Nat) (T : List ANode) (i k m : Int) (w : World) (h : IsTree w A n T) (a b c d e g h' tI tK : Int) (ab : Bool)
    (q1 : askI T [i] = 0) (q2 : askI T [k] = 0) (q3 : askI T [m] = 0) (q4 : askI T [k, i] = 0) (e1 : Hid (cmpE T i k = e)) (e2 : Hid (cmpE T k i = e)) (e3 : Hid (cmpE T k m = g)) (e4 : Hid (cmpE T i m = h')) (v1 : Hid (cmpV T i k = a)) (v2 : Hid (cmpV T k i = b)) (v3 : Hid (cmpV T k m = c)) (v4 : Hid (cmpV T i m = d))
    (t1 : Hid (topF T i = tI)) (t2 : Hid (topF T k = tK)) (u1 : Hid (belE T k i = ab)) (hs : Hid (Scen i k a b c d e g h' tI tK ab)) :
    Calls Try.prog 7 #[.agg #[.slice A n c0], .int .i64 i, .int .i64 k, .int .i64 m] w fun e w' => e = .returned (.bool true) ∧ Below w.heap.size w w' := by
  have hT := hide h
  clear h
  have hB0 := below_alloc (Below.refl w.heap.size w) (.cells #[.slice A n c0] 24)
  have hbox0 : (w.alloc (.cells #[.slice A n c0] 24)).cell? ⟨w.heap.size, 0, none⟩ = some (.slice A n c0) := by go_simp
  have q1' := hide q1
  have q2' := hide q2
  have q4' := hide q4
  clear q4
  go_enter Try.func7, Try.ntmps7
  go_wp2_with fail
  refine (alive16_ok _).mono ?_
  rintro x w1 ⟨rfl, hb1⟩
  have hbox1 := cell_later hb1 hbox0
  have hB1 := Below.on hB0 hb1
  go_wp2_with fail
  refine (rasked_ok _ _ _ T _ _ (hT.out.below hB1)).mono ?_
  rintro e w2 ⟨rfl, hb2⟩
  have hbox2 := cell_later hb2 hbox1
  have hB2 := Below.on hB1 hb2
  go_wp2_with fail
  refine (rasked_ok _ _ _ T _ _ (hT.out.below hB2)).mono ?_
  rintro e w3 ⟨rfl, hb3⟩
  have hbox3 := cell_later hb3 hbox2
  have hB3 := Below.on hB2 hb3
  go_wp2_with fail
  refine (rasked_ok _ _ _ T _ _ (hT.out.below hB3)).mono ?_
  rintro e w4 ⟨rfl, hb4⟩
  have hbox4 := cell_later hb4 hbox3
  have hB4 := Below.on hB3 hb4
  go_wp2_with fail
  refine (compare_at T i k a e e1.out v1.out _ _ _ _ (hT.out.below hB4)).mono ?_
  rintro e w5 ⟨rfl, hb5⟩
  have hbox5 := cell_later hb5 hbox4
  have hB5 := Below.on hB4 hb5
  clear q1 q2 q3
  go_wp2_with fail
  refine (compare_at T k i b e e2.out v2.out _ _ _ _ (hT.out.below hB5)).mono ?_
  rintro e w6 ⟨rfl, hb6⟩
  have hbox6 := cell_later hb6 hbox5
  have hB6 := Below.on hB5 hb6
  go_wp2_with fail
  refine (compare_at T k m c g e3.out v3.out _ _ _ _ (hT.out.below hB6)).mono ?_
  rintro e w7 ⟨rfl, hb7⟩
  have hbox7 := cell_later hb7 hbox6
  have hB7 := Below.on hB6 hb7
  go_wp2_with fail
  refine (compare_at T i m d h' e4.out v4.out _ _ _ _ (hT.out.below hB7)).mono ?_
  rintro e w8 ⟨rfl, hb8⟩
  have hbox8 := cell_later hb8 hbox7
  have hB8 := Below.on hB7 hb8
  go_wp2_with fail
  refine (top_at T i tI q1'.out t1.out _ _ _ _ (hT.out.below hB8)).mono ?_
  rintro e w9 ⟨rfl, hb9⟩
  have hbox9 := cell_later hb9 hbox8
  have hB9 := Below.on hB8 hb9
  go_wp2_with fail
  refine (top_at T k tK q2'.out t2.out _ _ _ _ (hT.out.below hB9)).mono ?_
  rintro e w10 ⟨rfl, hb10⟩
  have hbox10 := cell_later hb10 hbox9
  have hB10 := Below.on hB9 hb10
  go_wp2_with fail
  refine (below_at T k i ab q4'.out u1.out _ _ _ _ (hT.out.below hB10)).mono ?_
  rintro e w11 ⟨rfl, hb11⟩
  have hbox11 := cell_later hb11 hbox10
  have hB11 := Below.on hB10 hb11
  clear hbox10 hbox9 hbox8 hbox7 hbox6 hbox5 hbox4 hbox3 hbox2 hbox1 hbox0
  rcases hs.out with ⟨rfl, j1⟩ | ⟨rfl, j1, j2, j3, j4⟩
  · go_wp2
    go_ret
    exact ⟨rfl, hB11⟩
  · rcases j3 with ⟨rfl, rfl, j5⟩ | ⟨rfl, rfl, j5⟩ | ⟨rfl, rfl, j5⟩
    all_goals
      rcases j2 with rfl | j9
      all_goals
        first
          | (exfalso; revert j9; decide)
          | (try clear j9
             rcases j4 with ⟨rfl, rfl⟩ | ⟨rfl, rfl, j6⟩
             · go_wp2
               all_goals (go_ret; exact ⟨rfl, hB11⟩)
             · rcases j6 with ⟨rfl, rfl⟩ | ⟨j7, j8⟩ | ⟨j7, rfl⟩
               all_goals
                 first
                   | (exfalso; revert j8; decide)
                   | (exfalso; revert j7; decide)
                   | (go_wp2; all_goals (go_ret; exact ⟨rfl, hB11⟩)))

set_option maxRecDepth 100000 in
set_option maxHeartbeats 1000000 in
theorem walk_out (A : Option Addr) (n c0 : Nat) (T : List ANode) (i k m : Int) (w : World) (h : IsTree w A n T) (hx : askI T [i] ≠ 0 ∨ (askI T [i] = 0 ∧ (askI T [k] ≠ 0 ∨ (askI T [k] = 0 ∧ askI T [m] ≠ 0)))) :
    Calls Try.prog 7 #[.agg #[.slice A n c0], .int .i64 i, .int .i64 k, .int .i64 m] w fun e w' => e = .returned (.bool true) ∧ Below w.heap.size w w' := by
  have hT := hide h
  clear h
  have hB0 := below_alloc (Below.refl w.heap.size w) (.cells #[.slice A n c0] 24)
  have hbox0 : (w.alloc (.cells #[.slice A n c0] 24)).cell? ⟨w.heap.size, 0, none⟩ = some (.slice A n c0) := by go_simp
  rcases hx with q1 | ⟨q1, q2 | ⟨q2, q3⟩⟩
  · have j1 : (askI T [i] != 0) = true := by simp [q1]
    clear q1
    go_enter Try.func7, Try.ntmps7
    go_wp2_with fail
    refine (alive16_ok _).mono ?_
    rintro e w1 ⟨rfl, hb1⟩
    have hbox1 := cell_later hb1 hbox0
    have hB1 := Below.on hB0 hb1
    have hbox1 := cell_later hb1 hbox0
    go_wp2_with fail
    refine (rasked_ok _ _ _ T _ _ (hT.out.below hB1)).mono ?_
    rintro e w2 ⟨rfl, hb2⟩
    have hbox2 := cell_later hb2 hbox1
    have hB2 := Below.on hB1 hb2
    go_wp2
    go_ret
    exact ⟨rfl, hB2⟩
  · have j1 : (askI T [k] != 0) = true := by simp [q2]
    clear q2
    go_enter Try.func7, Try.ntmps7
    go_wp2_with fail
    refine (alive16_ok _).mono ?_
    rintro e w1 ⟨rfl, hb1⟩
    have hbox1 := cell_later hb1 hbox0
    have hB1 := Below.on hB0 hb1
    have hbox1 := cell_later hb1 hbox0
    go_wp2_with fail
    refine (rasked_ok _ _ _ T _ _ (hT.out.below hB1)).mono ?_
    rintro e w2 ⟨rfl, hb2⟩
    have hbox2 := cell_later hb2 hbox1
    have hB2 := Below.on hB1 hb2
    go_wp2_with fail
    refine (rasked_ok _ _ _ T _ _ (hT.out.below hB2)).mono ?_
    rintro e w3 ⟨rfl, hb3⟩
    have hbox3 := cell_later hb3 hbox2
    have hB3 := Below.on hB2 hb3
    go_wp2
    go_ret
    exact ⟨rfl, hB3⟩
  · have j1 : (askI T [m] != 0) = true := by simp [q3]
    clear q3
    go_enter Try.func7, Try.ntmps7
    go_wp2_with fail
    refine (alive16_ok _).mono ?_
    rintro e w1 ⟨rfl, hb1⟩
    have hbox1 := cell_later hb1 hbox0
    have hB1 := Below.on hB0 hb1
    have hbox1 := cell_later hb1 hbox0
    go_wp2_with fail
    refine (rasked_ok _ _ _ T _ _ (hT.out.below hB1)).mono ?_
    rintro e w2 ⟨rfl, hb2⟩
    have hbox2 := cell_later hb2 hbox1
    have hB2 := Below.on hB1 hb2
    go_wp2_with fail
    refine (rasked_ok _ _ _ T _ _ (hT.out.below hB2)).mono ?_
    rintro e w3 ⟨rfl, hb3⟩
    have hbox3 := cell_later hb3 hbox2
    have hB3 := Below.on hB2 hb3
    go_wp2_with fail
    refine (rasked_ok _ _ _ T _ _ (hT.out.below hB3)).mono ?_
    rintro e w4 ⟨rfl, hb4⟩
    have hbox4 := cell_later hb4 hbox3
    have hB4 := Below.on hB3 hb4
    go_wp2
    go_ret
    exact ⟨rfl, hB4⟩

set_option maxRecDepth 100000 in
set_option maxHeartbeats 1000000 in
theorem walk (A : Option Addr) (n c : Nat) (T : List ANode) (i k m : Int) (w : World) (h : IsTree w A n T) :
    Calls Try.prog 7 #[.agg #[.slice A n c], .int .i64 i, .int .i64 k, .int .i64 m] w fun e w' => e = .returned (.bool true) ∧ Below w.heap.size w w' := by
  by_cases q1 : askI T [i] = 0
  · by_cases q2 : askI T [k] = 0
    · by_cases q3 : askI T [m] = 0
      · obtain ⟨hg, hi⟩ := askI_zero.1 q1
        have hk := (askI_zero.1 q2).2 k (by simp)
        have hm := (askI_zero.1 q3).2 m (by simp)
        have hi := hi i (by simp)
        obtain ⟨i, rfl⟩ := Int.eq_ofNat_of_zero_le hi.1
        obtain ⟨k, rfl⟩ := Int.eq_ofNat_of_zero_le hk.1
        obtain ⟨m, rfl⟩ := Int.eq_ofNat_of_zero_le hm.1
        obtain ⟨h1, h2⟩ := scen hg (i := i) (k := k) (m := m) (by omega) (by omega) (by omega)
        exact walkIn A n c T i k m w h _ _ _ _ _ _ _ _ _ _ q1 q2 q3 (askI_ok hg (by simp; omega)) rfl h2 rfl rfl rfl rfl rfl rfl rfl rfl rfl h1
      · exact walk_out A n c T i k m w h (.inr ⟨q1, .inr ⟨q2, q3⟩⟩)
    · exact walk_out A n c T i k m w h (.inr ⟨q1, .inl q2⟩)
  · exact walk_out A n c T i k m w h (.inl q1)

set_option maxRecDepth 100000 in
theorem lifted (os : Os) (started : os.Started) (H : Type) (enc : TypeId × Value → H) :
    ReturnsInHanded {} Try.checked os 7 .any (Rows.orderTotalSpec.pre6 enc Try.prog Try.f7 Rows.orderTotalRow.domain false) (Rows.orderTotalSpec.post enc Try.prog Try.f7 false true false false) := by
  refine returnsInHanded_of_change (C := Try.checked) own started (by kernel_rfl) Try.func7
    (ChangeSpec.witness6 (enc := enc) (C := Try.checked) false ⟨#[], #[.agg #[.slice none 0 0], .int .i64 0, .int .i64 0, .int .i64 0], []⟩ 8 (by kernel_rfl) (by kernel_rfl) (by kernel_rfl) (by kernel_rfl)) ?_
  intro W base args ds gs before hval0 hW hcnd _
  have hval : ∀ (j : Nat) t v, Try.f7.params[j]? = some t → args[j]? = some v → Value.okWide Try.prog W .any base t v := hval0
  have hW' := hW
  obtain ⟨p, q, hA0, hV, rfl, hfz, hnd⟩ := hW
  have hA : DataW.TrodAll enc Try.prog W 0 (fun _ => true) true Try.f7.params.toList args.toList ds p := hA0
  rw [Try.params7] at hA hval
  obtain ⟨v0, vs0, d0, ds0, p0, q0, hargs, rfl, rfl, h0, r0⟩ := trodAll_cons hA
  obtain ⟨v1, vs1, d1, ds1, p1, q1, rfl, rfl, rfl, h1, r1⟩ := trodAll_cons r0
  obtain ⟨v2, vs2, d2, ds2, p2, q2, rfl, rfl, rfl, h2, r2⟩ := trodAll_cons r1
  obtain ⟨v3, vs3, d3, ds3, p3, q3, rfl, rfl, rfl, h3, r3⟩ := trodAll_cons r2
  obtain ⟨rfl, rfl, rfl⟩ := trodAll_nil r3
  obtain rfl : args = #[v0, v1, v2, v3] := by cases args; simp_all
  obtain ⟨rfl, rfl⟩ := trodVars_none hV
  have lt0 : ∀ x ∈ p0, x.block < W.heap.size := by obtain ⟨m, hm⟩ := h0; exact DataW.trod_lt m _ _ _ hm
  have k0 := h0
  have lt1 : ∀ x ∈ p1, x.block < W.heap.size := by obtain ⟨m, hm⟩ := h1; exact DataW.trod_lt m _ _ _ hm
  have k1 := h1
  have lt2 : ∀ x ∈ p2, x.block < W.heap.size := by obtain ⟨m, hm⟩ := h2; exact DataW.trod_lt m _ _ _ hm
  have k2 := h2
  have lt3 : ∀ x ∈ p3, x.block < W.heap.size := by obtain ⟨m, hm⟩ := h3; exact DataW.trod_lt m _ _ _ hm
  have k3 := h3
  obtain ⟨A0, n0, c0, T0, rfl, hT0⟩ := tree_open (hval 0 _ v0 rfl rfl) h0
  obtain ⟨a1, rfl, rfl, rfl, w1⟩ := open_int Try.underlying3 (hval 1 _ v1 rfl rfl) h1
  obtain ⟨a2, rfl, rfl, rfl, w2⟩ := open_int Try.underlying3 (hval 2 _ v2 rfl rfl) h2
  obtain ⟨a3, rfl, rfl, rfl, w3⟩ := open_int Try.underlying3 (hval 3 _ v3 rfl rfl) h3
  clear hA0 hval0
  refine (walk A0 n0 c0 T0 a1 a2 a3 W hT0   ).mono fun e W' ⟨he, bel⟩ => ?_
  subst he
  exact ⟨_, rfl, _, _, _, [], _, [], hW', trodAll_mk1 (shut_bool Try.underlying4 _), (trodAll_cons_mk (Below.trod laidOut (by kernel_rfl) (of_decide_eq_true (by kernel_rfl)) k0 bel lt0) (trodAll_cons_mk (Below.trod laidOut (by kernel_rfl) (of_decide_eq_true (by kernel_rfl)) k1 bel lt1) (trodAll_cons_mk (Below.trod laidOut (by kernel_rfl) (of_decide_eq_true (by kernel_rfl)) k2 bel lt2) (trodAll_cons_mk (Below.trod laidOut (by kernel_rfl) (of_decide_eq_true (by kernel_rfl)) k3 bel lt3) trodAll_mk0)))), rfl, bel.frame _, fun h => by cases h⟩

theorem proved : Rows.OrderTotalSaid :=
  OpenClaim.holds_of_wide 7 Try.f7 rfl rfl rfl rfl rfl rfl rfl ⟨rfl, rfl, rfl, rfl, rfl⟩ rfl rfl rfl rfl rfl (by kernel_rfl) Try.func7 (by kernel_rfl)
    (of_decide_eq_true (by kernel_rfl)) (by unfold Func.isWrapper; first | (rw [if_pos (by decide +kernel)]; kernel_rfl) | (rw [if_neg (by decide +kernel)]; exact ⟨rfl, rfl⟩))
    (fun os started H enc _ => lifted os started H enc)
#print axioms proved
end Go.Proofs.Ytankambfobfnfaa.orderTotal
