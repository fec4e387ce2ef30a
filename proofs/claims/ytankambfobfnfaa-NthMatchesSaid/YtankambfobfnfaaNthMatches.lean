/- For every tree, number, progression and list of truth values, Place, Match and All answer as the reference does, and leave the list as it is, unless the data are greater than the statement considers. No condition. -/
import Derived.Test.YtankambfobfnfaaOpenb
import Derived.Test.YtankambfobfnfaaNf
namespace Go.Proofs.Ytankambfobfnfaa.nthMatches
open Go.ChangeShapes Go.WideShapes Go.ChangeAt Go.RowKit

theorem bools_at {w : World} {A : Option Addr} {n : Nat} {xs : List Bool} (h : IsBools w A n xs) : ∀ ad, A = some ad → ∀ j u, (bools xs)[j]? = some u → w.cell? (ad.add j) = some u := by
  intro ad ha j u hj
  have hjl : j < xs.length := by
    rcases Nat.lt_or_ge j xs.length with h | h
    · exact h
    · rw [List.getElem?_eq_none (by simpa [bools] using h)] at hj; cases hj
  rw [bools_get hjl] at hj
  simp only [Option.some.injEq] at hj
  subst hj
  have hl := h.1
  obtain ⟨b, off, hA, hb, hc⟩ := h.2.2 (by omega)
  rw [hA] at ha
  injection ha with ha
  subst ha
  have := hc j (by omega)
  unfold Addr.add
  split
  · rename_i h0; subst h0; simpa using this
  · exact this
theorem bools_none {w : World} {A : Option Addr} {n : Nat} {xs : List Bool} (h : IsBools w A n xs) (ha : A = none) : n = 0 := by
  rcases Nat.eq_zero_or_pos n with h0 | h0
  · exact h0
  · obtain ⟨b, off, hA, _⟩ := h.2.2 h0
    rw [ha] at hA; cases hA

set_option maxRecDepth 100000 in
set_option maxHeartbeats 1000000 in
theorem walk (A : Option Addr) (n c : Nat) (T : List ANode) (i a b : Int) (last : Bool) (AB : Option Addr) (m cb : Nat) (B : List Bool) (w : World) (h : IsTree w A n T) (_ha : (-9223372036854775808 ≤ a ∧ a ≤ 9223372036854775807) ∧ (-9223372036854775808 ≤ b ∧ b ≤ 9223372036854775807)) (hL : IsBools w AB m B) :
    Calls Try.prog 10 #[.agg #[.slice A n c], .int .i64 i, .agg #[.int .i64 a, .int .i64 b], .bool last, .slice AB m cb] w fun e w' => e = .returned (.bool true) ∧ Below w.heap.size w w' := by
  have hT := hide h
  have hl := h.1
  clear h
  have hB0 := below_alloc (below_alloc (Below.refl w.heap.size w) (.cells #[.slice A n c] 24)) (.cells #[.int .i64 a, .int .i64 b] 57)
  have hbox0 : ((w.alloc (.cells #[.slice A n c] 24)).alloc (.cells #[.int .i64 a, .int .i64 b] 57)).cell? ⟨w.heap.size, 0, none⟩ = some (.slice A n c) := by go_simp
  have hx0 : ((w.alloc (.cells #[.slice A n c] 24)).alloc (.cells #[.int .i64 a, .int .i64 b] 57)).cell? ⟨w.heap.size + 1, 0, none⟩ = some (.int .i64 a) := by go_simp
  have hy0 : ((w.alloc (.cells #[.slice A n c] 24)).alloc (.cells #[.int .i64 a, .int .i64 b] 57)).cell? ⟨w.heap.size + 1, 1, none⟩ = some (.int .i64 b) := by go_simp
  clear _ha
  have hL' := hide hL
  cases hs : smallTB T
  · clear hL
    go_enter Try.func10, Try.ntmps10
    go_wp2_with fail
    refine (great_ok _ _ _ T _ (hT.out.below hB0)).mono ?_
    rintro e w1 ⟨rfl, hb1⟩
    have hbox1 := cell_later hb1 hbox0
    have hB1 := Below.on hB0 hb1
    have hx1 := cell_later hb1 hx0
    have hy1 := cell_later hb1 hy0
    go_wp2
    go_ret
    exact ⟨rfl, hB1⟩
  · by_cases hm : 80 < m
    · clear hL
      go_enter Try.func10, Try.ntmps10
      go_wp2_with fail
      refine (great_ok _ _ _ T _ (hT.out.below hB0)).mono ?_
      rintro e w1 ⟨rfl, hb1⟩
      have hbox1 := cell_later hb1 hbox0
      have hB1 := Below.on hB0 hb1
      have hx1 := cell_later hb1 hx0
      have hy1 := cell_later hb1 hy0
      go_wp2
      go_ret
      exact ⟨rfl, hB1⟩
    · obtain ⟨i0, hI, hz0, hz1, hz2⟩ := info_parts info_bool'
      have hbl := hide (hL.1)
      have hlen : Hid ((bools B).length = m * 1) := by show _ = _; simp [bools, hbl.out]
      clear hL
      go_enter Try.func10, Try.ntmps10
      go_wp2_with fail
      refine (great_ok _ _ _ T _ (hT.out.below hB0)).mono ?_
      rintro e w1 ⟨rfl, hb1⟩
      have hbox1 := cell_later hb1 hbox0
      have hB1 := Below.on hB0 hb1
      have hx1 := cell_later hb1 hx0
      have hy1 := cell_later hb1 hy0
      go_wp2_with (at_builtin; refine wpList_append_from rfl _ _ 52 rfl w1.heap.size 4 i0 (.bool false) 1 1 Try.underlying52 hI hz0 hz1 hz2 rfl (by decide) _ _ _ rfl (World.ownsRow_lit w1 #[] 0 (Nat.le_refl _) (Nat.zero_le _) rfl) AB m cb (bools B) rfl ?c0 ?c1 ?c2 ?c3 ?c4 ?c5 ?c6 ?_)
      case c0 => exact hlen.out
      case c1 => exact bools_none hL'.out
      case c2 => exact bools_at ((hL'.out.below hB1).below (below_alloc (Below.refl _ _) _))
      case c3 => exact bools_one _
      case c4 => unfold maxLen; omega
      case c5 => omega
      case c6 => simp
      · intro v' w2 hown' hgrow
        have hown2 : OwnB w2 w1.heap.size v' B := by unfold OwnB; rw [hbl.out]; simpa using hown'
        have hb2 : Below w1.heap.size w1 w2 := (below_alloc (Below.refl w1.heap.size w1) (.cells #[] 4)).grown hgrow (by simp) (fun k hk => by simp [Value.ownBlock] at hk; omega)
        obtain ⟨Ao, co, rfl, -, -, hO⟩ := hown2.isBools (by rw [hbl.out]; omega)
        rw [hbl.out] at hO ⊢
        have hO2 := hide hO
        have hB2 := Below.on hB1 hb2
        have hbox2 := cell_later hb2 hbox1
        have hx2 := cell_later hb2 hx1
        have hy2 := cell_later hb2 hy1
        clear hown' hgrow hown2 hO
        go_wp2_with fail
        refine (nPlace_ok _ _ _ _ _ _ T B _ _ _ (hT.out.below hB2) hO2.out).mono ?_
        rintro e w3 ⟨rfl, hb3⟩
        have hB3 := Below.on hB2 hb3
        have hbox3 := cell_later hb3 hbox2
        have hx3 := cell_later hb3 hx2
        have hy3 := cell_later hb3 hy2
        have hO3 := hide (hO2.out.below hb3)
        go_wp2_with fail
        refine (rnPlace_ok _ _ _ _ _ _ T B _ _ _ (hT.out.below hB3) (hL'.out.below hB3)).mono ?_
        rintro e w4 ⟨rfl, hb4⟩
        have hB4 := Below.on hB3 hb4
        have hbox4 := cell_later hb4 hbox3
        have hx4 := cell_later hb4 hx3
        have hy4 := cell_later hb4 hy3
        have hO4 := hide (hO3.out.below hb4)
        go_wp2_with fail
        refine (nMatch_ok _ _ _ _ _ _ T B _ _ _ _ _ (hT.out.below hB4) hO4.out).mono ?_
        rintro e w5 ⟨rfl, hb5⟩
        have hB5 := Below.on hB4 hb5
        have hbox5 := cell_later hb5 hbox4
        have hx5 := cell_later hb5 hx4
        have hy5 := cell_later hb5 hy4
        have hO5 := hide (hO4.out.below hb5)
        go_wp2_with fail
        refine (rnMatch_ok _ _ _ _ _ _ T B _ _ _ _ _ (hT.out.below hB5) (hL'.out.below hB5)).mono ?_
        rintro e w6 ⟨rfl, hb6⟩
        have hB6 := Below.on hB5 hb6
        have hbox6 := cell_later hb6 hbox5
        have hx6 := cell_later hb6 hx5
        have hy6 := cell_later hb6 hy5
        have hO6 := hide (hO5.out.below hb6)
        go_wp2_with fail
        refine (nAll_ok _ _ _ _ _ _ T B _ _ _ _ (hT.out.below hB6) hO6.out).mono ?_
        rintro e w7 ⟨A7, c7, rfl, hI7, hb7⟩
        have hB7 := Below.on hB6 hb7
        have hbox7 := cell_later hb7 hbox6
        have hx7 := cell_later hb7 hx6
        have hy7 := cell_later hb7 hy6
        have hO7 := hide (hO6.out.below hb7)
        have hI7' := hide hI7
        clear hI7
        go_wp2_with fail
        refine (rnAll_ok _ _ _ _ _ _ T B _ _ _ _ (hT.out.below hB7) (hL'.out.below hB7)).mono ?_
        rintro e w8 ⟨A8, c8, rfl, hI8, hb8⟩
        have hB8 := Below.on hB7 hb8
        have hI8' := hide hI8
        clear hI8
        go_wp2_with fail
        refine (sameBools_yes _ _ _ _ _ _ (nallV T a b last B) _ (hI7'.out.below hb8) hI8'.out).mono ?_
        rintro e w9 ⟨rfl, hb9⟩
        have hB9 := Below.on hB8 hb9
        go_wp2_with fail
        refine (sameBools_yes _ _ _ _ _ _ B _ ((hO7.out.below hb8).below hb9) (hL'.out.below hB9)).mono ?_
        rintro e w10 ⟨rfl, hb10⟩
        go_wp2
        go_ret
        exact ⟨rfl, Below.on hB9 hb10⟩

set_option maxRecDepth 100000 in
theorem lifted (os : Os) (started : os.Started) (H : Type) (enc : TypeId × Value → H) :
    ReturnsInHanded {} Try.checked os 10 .any (Rows.nthMatchesSpec.pre6 enc Try.prog Try.f10 Rows.nthMatchesRow.domain false) (Rows.nthMatchesSpec.post enc Try.prog Try.f10 false true false false) := by
  refine returnsInHanded_of_change (C := Try.checked) own started (by kernel_rfl) Try.func10
    (ChangeSpec.witness6 (enc := enc) (C := Try.checked) false ⟨#[], #[.agg #[.slice none 0 0], .int .i64 0, .agg #[.int .i64 0, .int .i64 0], .bool false, .slice none 0 0], []⟩ 8 (by kernel_rfl) (by kernel_rfl) (by kernel_rfl) (by kernel_rfl)) ?_
  intro W base args ds gs before hval0 hW hcnd _
  have hval : ∀ (j : Nat) t v, Try.f10.params[j]? = some t → args[j]? = some v → Value.okWide Try.prog W .any base t v := hval0
  have hW' := hW
  obtain ⟨p, q, hA0, hV, rfl, hfz, hnd⟩ := hW
  have hA : DataW.TrodAll enc Try.prog W 0 (fun _ => true) true Try.f10.params.toList args.toList ds p := hA0
  rw [Try.params10] at hA hval
  obtain ⟨v0, vs0, d0, ds0, p0, q0, hargs, rfl, rfl, h0, r0⟩ := trodAll_cons hA
  obtain ⟨v1, vs1, d1, ds1, p1, q1, rfl, rfl, rfl, h1, r1⟩ := trodAll_cons r0
  obtain ⟨v2, vs2, d2, ds2, p2, q2, rfl, rfl, rfl, h2, r2⟩ := trodAll_cons r1
  obtain ⟨v3, vs3, d3, ds3, p3, q3, rfl, rfl, rfl, h3, r3⟩ := trodAll_cons r2
  obtain ⟨v4, vs4, d4, ds4, p4, q4, rfl, rfl, rfl, h4, r4⟩ := trodAll_cons r3
  obtain ⟨rfl, rfl, rfl⟩ := trodAll_nil r4
  obtain rfl : args = #[v0, v1, v2, v3, v4] := by cases args; simp_all
  obtain ⟨rfl, rfl⟩ := trodVars_none hV
  have lt0 : ∀ x ∈ p0, x.block < W.heap.size := by obtain ⟨m, hm⟩ := h0; exact DataW.trod_lt m _ _ _ hm
  have k0 := h0
  have lt1 : ∀ x ∈ p1, x.block < W.heap.size := by obtain ⟨m, hm⟩ := h1; exact DataW.trod_lt m _ _ _ hm
  have k1 := h1
  have lt2 : ∀ x ∈ p2, x.block < W.heap.size := by obtain ⟨m, hm⟩ := h2; exact DataW.trod_lt m _ _ _ hm
  have k2 := h2
  have lt3 : ∀ x ∈ p3, x.block < W.heap.size := by obtain ⟨m, hm⟩ := h3; exact DataW.trod_lt m _ _ _ hm
  have k3 := h3
  have lt4 : ∀ x ∈ p4, x.block < W.heap.size := by obtain ⟨m, hm⟩ := h4; exact DataW.trod_lt m _ _ _ hm
  have k4 := h4
  obtain ⟨A0, n0, c0, T0, rfl, hT0⟩ := tree_open (hval 0 _ v0 rfl rfl) h0
  obtain ⟨a1, rfl, rfl, rfl, w1⟩ := open_int Try.underlying3 (hval 1 _ v1 rfl rfl) h1
  obtain ⟨a2, b2, rfl, w2⟩ := anb_open (hval 2 _ v2 rfl rfl) h2
  obtain ⟨a3, rfl, rfl, rfl⟩ := Go.RowKit.open_bool Try.underlying4 (hval 3 _ v3 rfl rfl) h3
  obtain ⟨A4, n4, c4, xs4, rfl, hL4⟩ := bools_param (hval 4 _ v4 rfl rfl) h4
  clear hA0 hval0
  refine (walk A0 n0 c0 T0 a1 a2 b2 a3 A4 n4 c4 xs4 W hT0  w2  hL4).mono fun e W' ⟨he, bel⟩ => ?_
  subst he
  exact ⟨_, rfl, _, _, _, [], _, [], hW', trodAll_mk1 (shut_bool Try.underlying4 _), (trodAll_cons_mk (Below.trod laidOut (by kernel_rfl) (of_decide_eq_true (by kernel_rfl)) k0 bel lt0) (trodAll_cons_mk (Below.trod laidOut (by kernel_rfl) (of_decide_eq_true (by kernel_rfl)) k1 bel lt1) (trodAll_cons_mk (Below.trod laidOut (by kernel_rfl) (of_decide_eq_true (by kernel_rfl)) k2 bel lt2) (trodAll_cons_mk (Below.trod laidOut (by kernel_rfl) (of_decide_eq_true (by kernel_rfl)) k3 bel lt3) (trodAll_cons_mk (Below.trod laidOut (by kernel_rfl) (of_decide_eq_true (by kernel_rfl)) k4 bel lt4) trodAll_mk0))))), rfl, bel.frame _, fun h => by cases h⟩

theorem proved : Rows.NthMatchesSaid :=
  OpenClaim.holds_of_wide 10 Try.f10 rfl rfl rfl rfl rfl rfl rfl ⟨rfl, rfl, rfl, rfl, rfl⟩ rfl rfl rfl rfl rfl (by kernel_rfl) Try.func10 (by kernel_rfl)
    (of_decide_eq_true (by kernel_rfl)) (by unfold Func.isWrapper; first | (rw [if_pos (by decide +kernel)]; kernel_rfl) | (rw [if_neg (by decide +kernel)]; exact ⟨rfl, rfl⟩))
    (fun os started H enc _ => lifted os started H enc)
#print axioms proved
end Go.Proofs.Ytankambfobfnfaa.nthMatches
