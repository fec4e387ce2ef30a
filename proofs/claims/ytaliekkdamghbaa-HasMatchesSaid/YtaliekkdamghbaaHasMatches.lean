/- For every tree, number, lead and what is told, Reach, Match and All answer as the reference does, unless the data are greater than the statement considers. No condition. -/
import Derived.Test.YtaliekkdamghbaaHe
import Derived.Test.YtaliekkdamghbaaDa
import Derived.Test.YtaliekkdamghbaaDf
import Derived.Test.YtaliekkdamghbaaSb
import Derived.Test.YtaliekkdamghbaaOpen
namespace Go.Proofs.Ytaliekkdamghbaa.hasMatches
open Go.ChangeShapes Go.WideShapes Go.ChangeAt Go.RowKit

set_option maxRecDepth 100000 in
set_option maxHeartbeats 2000000 in
theorem walk (A : Option Addr) (n c : Nat) (T : List ANode) (i ld : Int) (B : Option Addr) (m d : Nat) (cs : List Int) (C : Option Addr) (k e : Nat) (H : List (List Bool)) (w : World) (h : IsTree w A n T) (hcs : IsU8 w B m cs) (he : k ≤ e ∧ e ≤ 9223372036854775807) (hH : IsBB w C k H) :
    Calls Try.prog 9 #[.agg #[.slice A n c], .int .i64 i, .int .u8 ld, .slice B m d, .slice C k e] w fun e w' => e = .returned (.bool true) ∧ Below w.heap.size w w' := by
  obtain ⟨he1, he2⟩ := he
  have hcs' := hide hcs
  have hH' := hide hH
  clear hcs hH
  have hT := hide h
  have hl := h.1
  clear h
  have hB0 := below_alloc (Below.refl w.heap.size w) (.cells #[.slice A n c] 24)
  have hbox0 : (w.alloc (.cells #[.slice A n c] 24)).cell? ⟨w.heap.size, 0, none⟩ = some (.slice A n c) := by go_simp
  cases hs : small21 T cs H
  · have hs' := hide hs
    clear hs
    go_enter Try.func9, Try.ntmps9
    go_wp2_with fail
    have hx := great21_ok _ _ _ _ c _ d _ e T cs H _ (hT.out.below hB0) (hcs'.out.below hB0) (hH'.out.below hB0)
    rw [hs'.out] at hx
    refine hx.mono ?_
    clear hx
    rintro e1 w1 ⟨rfl, hb1⟩
    go_wp2
    go_ret
    exact ⟨rfl, Below.on hB0 hb1⟩
  · have hs' := hide hs
    clear hs
    go_enter Try.func9, Try.ntmps9
    go_wp2_with fail
    have hx := great21_ok _ _ _ _ c _ d _ e T cs H _ (hT.out.below hB0) (hcs'.out.below hB0) (hH'.out.below hB0)
    rw [hs'.out] at hx
    refine hx.mono ?_
    clear hx
    rintro e1 w1 ⟨rfl, hb1⟩
    have hB1 := Below.on hB0 hb1
    have hbox1 := cell_later hb1 hbox0
    clear hb1
    go_wp2_with fail
    refine (hReach_ok _ _ c T i ld _ (hT.out.below hB1)).mono ?_
    rintro e2 w2 ⟨A2, c2, rfl, hI2, hb2⟩
    have hB2 := Below.on hB1 hb2
    have hbox2 := cell_later hb2 hbox1
    have hP2 := hide hI2
    clear hI2 hb2 hbox1
    go_wp2_with fail
    refine (rhReach_ok _ _ c T i ld _ (hT.out.below hB2)).mono ?_
    rintro e3 w3 ⟨A3, c3, rfl, hI3, hb3⟩
    have hB3 := Below.on hB2 hb3
    have hbox3 := cell_later hb3 hbox2
    have hP3 := hide (hP2.out.below hb3)
    have hQ3 := hide hI3
    clear hI3 hb3 hbox2 hP2
    go_wp2_with fail
    refine (hMatch_ok _ _ _ _ c _ d _ e T i ld cs H _ (hT.out.below hB3) (hcs'.out.below hB3) (hH'.out.below hB3) he1 he2).mono ?_
    rintro e4 w4 ⟨rfl, hb4⟩
    have hB4 := Below.on hB3 hb4
    have hbox4 := cell_later hb4 hbox3
    have hP4 := hide (hP3.out.below hb4)
    have hQ4 := hide (hQ3.out.below hb4)
    clear hb4 hbox3 hP3 hQ3
    go_wp2_with fail
    refine (rhMatch_ok _ _ _ _ c _ d _ e T i ld cs H _ (hT.out.below hB4) (hcs'.out.below hB4) (hH'.out.below hB4)).mono ?_
    rintro e5 w5 ⟨rfl, hb5⟩
    have hB5 := Below.on hB4 hb5
    have hbox5 := cell_later hb5 hbox4
    have hP5 := hide (hP4.out.below hb5)
    have hQ5 := hide (hQ4.out.below hb5)
    clear hb5 hbox4 hP4 hQ4
    go_wp2_with fail
    refine (hAll_ok _ _ _ _ c _ d _ e T ld cs H _ (hT.out.below hB5) (hcs'.out.below hB5) (hH'.out.below hB5) he1 he2).mono ?_
    rintro e6 w6 ⟨A6, c6, rfl, hI6, h61, h62, hb6⟩
    have hB6 := Below.on hB5 hb6
    have hbox6 := cell_later hb6 hbox5
    have hP6 := hide (hP5.out.below hb6)
    have hQ6 := hide (hQ5.out.below hb6)
    have hR6 := hide hI6
    clear hb6 hbox5 hP5 hQ5 hI6
    go_wp2_with fail
    refine (rhAll_ok _ _ _ _ c _ d _ e T ld cs H _ (hT.out.below hB6) (hcs'.out.below hB6) (hH'.out.below hB6)).mono ?_
    rintro e7 w7 ⟨A7, c7, rfl, hI7, h71, h72, hb7⟩
    have hB7 := Below.on hB6 hb7
    have hP7 := hide (hP6.out.below hb7)
    have hQ7 := hide (hQ6.out.below hb7)
    have hR7 := hide (hR6.out.below hb7)
    have hS7 := hide hI7
    clear hb7 hbox6 hP6 hQ6 hI7 hR6
    go_wp2_with fail
    refine (sameInts_yes _ _ _ _ c2 c3 (rchX T i ld) _ hP7.out hQ7.out).mono ?_
    rintro e8 w8 ⟨rfl, hb8⟩
    have hB8 := Below.on hB7 hb8
    have hR8 := hide (hR7.out.below hb8)
    have hS8 := hide (hS7.out.below hb8)
    clear hb8 hR7 hS7
    go_wp2_with fail
    refine (sameBools_yes _ _ _ _ c6 c7 (haV T ld cs H) _ hR8.out hS8.out).mono ?_
    rintro e9 w9 ⟨rfl, hb9⟩
    have hB9 := Below.on hB8 hb9
    go_wp2
    go_ret
    exact ⟨rfl, hB9⟩

set_option maxRecDepth 100000 in
theorem lifted (os : Os) (started : os.Started) (H : Type) (enc : TypeId × Value → H) :
    ReturnsInHanded {} Try.checked os 9 .any (Rows.hasMatchesSpec.pre6 enc Try.prog Try.f9 Rows.hasMatchesRow.domain false) (Rows.hasMatchesSpec.post enc Try.prog Try.f9 false true false false) := by
  refine returnsInHanded_of_change (C := Try.checked) own started (by kernel_rfl) Try.func9
    (ChangeSpec.witness6 (enc := enc) (C := Try.checked) false ⟨#[], #[.agg #[.slice none 0 0], .int .i64 0, .int .u8 0, .slice none 0 0, .slice none 0 0], []⟩ 8 (by kernel_rfl) (by kernel_rfl) (by kernel_rfl) (by kernel_rfl)) ?_
  intro W base args ds gs before hval0 hW hcnd _
  have hval : ∀ (j : Nat) t v, Try.f9.params[j]? = some t → args[j]? = some v → Value.okWide Try.prog W .any base t v := hval0
  have hW' := hW
  obtain ⟨p, q, hA0, hV, rfl, hfz, hnd⟩ := hW
  have hA : DataW.TrodAll enc Try.prog W 0 (fun _ => true) true Try.f9.params.toList args.toList ds p := hA0
  rw [Try.params9] at hA hval
  obtain ⟨v0, vs0, d0, ds0, p0, q0, hargs, rfl, rfl, h0, r0⟩ := trodAll_cons hA
  obtain ⟨v1, vs1, d1, ds1, p1, q1, rfl, rfl, rfl, h1, r1⟩ := trodAll_cons r0
  obtain ⟨v2, vs2, d2, ds2, p2, q2, rfl, rfl, rfl, h2, r2⟩ := trodAll_cons r1
  obtain ⟨v3, vs3, d3, ds3, p3, q3, rfl, rfl, rfl, h3, r3⟩ := trodAll_cons r2
  obtain ⟨v4, vs4, d4, ds4, p4, q4, rfl, rfl, rfl, h4, r4⟩ := trodAll_cons r3
  obtain ⟨rfl, rfl, rfl⟩ := trodAll_nil r4
  obtain rfl : args = #[v0, v1, v2, v3, v4] := by cases args; simp_all
  obtain ⟨rfl, rfl⟩ := trodVars_none hV
  have lt0 : ∀ x ∈ p0, x.block < W.heap.size := by obtain ⟨m, hm⟩ := h0; exact DataW.trod_lt m _ _ _ hm
  have k0 := h0
  have lt1 : ∀ x ∈ p1, x.block < W.heap.size := by obtain ⟨m, hm⟩ := h1; exact DataW.trod_lt m _ _ _ hm
  have k1 := h1
  have lt2 : ∀ x ∈ p2, x.block < W.heap.size := by obtain ⟨m, hm⟩ := h2; exact DataW.trod_lt m _ _ _ hm
  have k2 := h2
  have lt3 : ∀ x ∈ p3, x.block < W.heap.size := by obtain ⟨m, hm⟩ := h3; exact DataW.trod_lt m _ _ _ hm
  have k3 := h3
  have lt4 : ∀ x ∈ p4, x.block < W.heap.size := by obtain ⟨m, hm⟩ := h4; exact DataW.trod_lt m _ _ _ hm
  have k4 := h4
  obtain ⟨A0, n0, c0, T0, rfl, hT0⟩ := tree_open (hval 0 _ v0 rfl rfl) h0
  obtain ⟨a1, rfl, rfl, rfl, w1⟩ := open_int Try.underlying3 (hval 1 _ v1 rfl rfl) h1
  obtain ⟨a2, rfl, rfl, rfl, w2⟩ := open_int Try.underlying5 (hval 2 _ v2 rfl rfl) h2
  obtain ⟨A3, n3, c3, xs3, rfl, hU3⟩ := u8s_param (hval 3 _ v3 rfl rfl) h3
  obtain ⟨A4, n4, c4, xs4, rfl, hk4, hM4⟩ := bbs_param2 (hval 4 _ v4 rfl rfl) h4
  clear hA0 hval0
  refine (walk A0 n0 c0 T0 a1 a2 A3 n3 c3 xs3 A4 n4 c4 xs4 W hT0   hU3 hk4 hM4).mono fun e W' ⟨he, bel⟩ => ?_
  subst he
  exact ⟨_, rfl, _, _, _, [], _, [], hW', trodAll_mk1 (shut_bool Try.underlying4 _), (trodAll_cons_mk (Below.trod laidOut (by kernel_rfl) (of_decide_eq_true (by kernel_rfl)) k0 bel lt0) (trodAll_cons_mk (Below.trod laidOut (by kernel_rfl) (of_decide_eq_true (by kernel_rfl)) k1 bel lt1) (trodAll_cons_mk (Below.trod laidOut (by kernel_rfl) (of_decide_eq_true (by kernel_rfl)) k2 bel lt2) (trodAll_cons_mk (Below.trod laidOut (by kernel_rfl) (of_decide_eq_true (by kernel_rfl)) k3 bel lt3) (trodAll_cons_mk (Below.trod laidOut (by kernel_rfl) (of_decide_eq_true (by kernel_rfl)) k4 bel lt4) trodAll_mk0))))), rfl, bel.frame _, fun h => by cases h⟩

theorem proved : Rows.HasMatchesSaid :=
  OpenClaim.holds_of_wide 9 Try.f9 rfl rfl rfl rfl rfl rfl rfl ⟨rfl, rfl, rfl, rfl, rfl⟩ rfl rfl rfl rfl rfl (by kernel_rfl) Try.func9 (by kernel_rfl)
    (of_decide_eq_true (by kernel_rfl)) (by unfold Func.isWrapper; first | (rw [if_pos (by decide +kernel)]; kernel_rfl) | (rw [if_neg (by decide +kernel)]; exact ⟨rfl, rfl⟩))
    (fun os started H enc _ => lifted os started H enc)
#print axioms proved
end Go.Proofs.Ytaliekkdamghbaa.hasMatches
