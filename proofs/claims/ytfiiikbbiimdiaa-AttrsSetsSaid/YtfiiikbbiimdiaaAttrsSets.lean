/- For every tree, every number and every two texts, Get, Set and Unset answer as the reference does and leave the tree as it is, unless the tree or a text is greater than the statement considers. No condition. -/
import Derived.Test.YtfiiikbbiimdiaaOpen
import Derived.Test.YtfiiikbbiimdiaaRuns
import Derived.Test.YtfiiikbbiimdiaaAe
import Derived.Test.YtfiiikbbiimdiaaWl
namespace Go.Proofs.Ytfiiikbbiimdiaa.attrsSets
open Go.ChangeShapes Go.WideShapes Go.ChangeAt Go.RowKit

set_option maxRecDepth 100000 in
set_option maxHeartbeats 1000000 in
theorem rget_ok (A : Option Addr) (n c : Nat) (T : List ANode) (i : Int) (s : ByteArray) (w : World) (h : IsTree w A n T) :
    Calls Try.prog 41 #[.agg #[.slice A n c], .int .i64 i, .string s] w fun e w' => e = .returned (.tuple #[.string (getV T i s), .int .i64 (getE T i s)]) ∧ Below w.heap.size w w' := by
  have hT := hide h
  have hl := h.1
  clear h
  have hB0 := below_alloc (Below.refl w.heap.size w) (.cells #[.slice A n c] 24)
  have hbox0 : (w.alloc (.cells #[.slice A n c] 24)).cell? ⟨w.heap.size, 0, none⟩ = some (.slice A n c) := by go_simp
  by_cases h0 : askI T [i] = 0
  · obtain ⟨hg, hir⟩ := askI_zero.1 h0
    have hir := hir i (by simp)
    obtain ⟨k, rfl⟩ := Int.eq_ofNat_of_zero_le hir.1
    have hk : k < n := by omega
    have hE : getE T k s = if hasA (atl T k) s = true then 0 else 6 := by unfold getE; rw [if_pos h0, Int.toNat_natCast]
    have hV : getE T k s ≠ 0 → getV T k s = .empty := fun h => by unfold getV; rw [if_neg h]
    have hg' := hide hg
    have hq0 : (askI T [(k : Int)] != 0) = false := by simp [h0]
    cases hh : hasA (atl T k) s
    · have hE' : Hid (getE T k s = 6) := by show _ = _; rw [hE, hh]; rfl
      have hV' : Hid (getV T k s = .empty) := hV (by rw [hE'.out]; decide)
      have hh' := hide hh
      clear hE hV hh hg h0 hir
      go_enter Try.func41, Try.ntmps41
      go_wp2_with fail
      refine (rasked_ok _ _ _ T _ _ (hT.out.below hB0)).mono ?_
      rintro e w1 ⟨rfl, hb1⟩
      have hbox1 := cell_later hb1 hbox0
      have hB1 := Below.on hB0 hb1
      go_wp2_with fail
      have hx := rgot_ok _ _ c T k s _ (hT.out.below hB1) hk hg'.out
      rw [hh'.out] at hx
      refine hx.mono ?_
      clear hx
      rintro e w2 ⟨rfl, hb2⟩
      go_wp2
      go_ret2
      exact ⟨ret_si hV'.out.symm hE'.out.symm, Below.on hB1 hb2⟩
    · have hE' : Hid (getE T k s = 0) := by show _ = _; rw [hE, hh]; rfl
      have hh' := hide hh
      clear hE hV hh hg h0 hir
      go_enter Try.func41, Try.ntmps41
      go_wp2_with fail
      refine (rasked_ok _ _ _ T _ _ (hT.out.below hB0)).mono ?_
      rintro e w1 ⟨rfl, hb1⟩
      have hbox1 := cell_later hb1 hbox0
      have hB1 := Below.on hB0 hb1
      go_wp2_with fail
      have hx := rgot_ok _ _ c T k s _ (hT.out.below hB1) hk hg'.out
      rw [hh'.out] at hx
      refine hx.mono ?_
      clear hx
      rintro e w2 ⟨rfl, hb2⟩
      go_wp2
      go_ret2
      exact ⟨ret_si rfl hE'.out.symm, Below.on hB1 hb2⟩
  · have e1 : Hid (getE T i s = askI T [i]) := if_neg h0
    have e2 : Hid (getV T i s = .empty) := by show _ = _; unfold getV; rw [e1.out, if_neg h0]
    have hq : (askI T [i] != 0) = true := by simp [h0]
    clear h0
    go_enter Try.func41, Try.ntmps41
    go_wp2_with fail
    refine (rasked_ok _ _ _ T _ _ (hT.out.below hB0)).mono ?_
    rintro e w1 ⟨rfl, hb1⟩
    have hbox1 := cell_later hb1 hbox0
    have hB1 := Below.on hB0 hb1
    go_wp2_with fail
    refine (rasked_ok _ _ _ T _ _ (hT.out.below hB1)).mono ?_
    rintro e w2 ⟨rfl, hb2⟩
    have hbox2 := cell_later hb2 hbox1
    have hB2 := Below.on hB1 hb2
    go_wp2
    go_ret2
    exact ⟨ret_si e2.out.symm e1.out.symm, hB2⟩

set_option maxRecDepth 100000 in
set_option maxHeartbeats 4000000 in
theorem walk (A : Option Addr) (n c : Nat) (T : List ANode) (i : Int) (s v : ByteArray) (w : World) (h : IsTree w A n T) (hs : s.size ≤ 9223372036854775807) (hv : v.size ≤ 9223372036854775807) :
    Calls Try.prog 9 #[.agg #[.slice A n c], .int .i64 i, .string s, .string v] w fun e w' => e = .returned (.bool true) ∧ Below w.heap.size w w' := by
  have hT := hide h
  have hl := h.1
  clear h
  have hB0 := below_alloc (Below.refl w.heap.size w) (.cells #[.slice A n c] 24)
  have hbox0 : (w.alloc (.cells #[.slice A n c] 24)).cell? ⟨w.heap.size, 0, none⟩ = some (.slice A n c) := by go_simp
  cases hsm : smallTB T
  · go_enter Try.func9, Try.ntmps9
    go_wp2_with fail
    refine (great_ok _ _ _ T _ (hT.out.below hB0)).mono ?_
    rintro e w1 ⟨rfl, hb1⟩
    have hbox1 := cell_later hb1 hbox0
    have hB1 := Below.on hB0 hb1
    go_wp2
    go_ret
    exact ⟨rfl, hB1⟩
  · by_cases h1 : 500 < s.size
    · go_enter Try.func9, Try.ntmps9
      go_wp2_with fail
      refine (great_ok _ _ _ T _ (hT.out.below hB0)).mono ?_
      rintro e w1 ⟨rfl, hb1⟩
      have hbox1 := cell_later hb1 hbox0
      have hB1 := Below.on hB0 hb1
      go_wp2
      go_ret
      exact ⟨rfl, hB1⟩
    · by_cases h2 : 500 < v.size
      · go_enter Try.func9, Try.ntmps9
        go_wp2_with fail
        refine (great_ok _ _ _ T _ (hT.out.below hB0)).mono ?_
        rintro e w1 ⟨rfl, hb1⟩
        have hbox1 := cell_later hb1 hbox0
        have hB1 := Below.on hB0 hb1
        go_wp2
        go_ret
        exact ⟨rfl, hB1⟩
      · obtain ⟨hn70, hfit⟩ := smallT_bounds hsm
        have hfit' := hide hfit
        obtain ⟨X, hX0⟩ : ∃ X, setT T i s v = X := ⟨_, rfl⟩
        obtain ⟨Y, hY0⟩ : ∃ Y, unsT T i s = Y := ⟨_, rfl⟩
        obtain ⟨p, hp⟩ : ∃ p, X.length = p := ⟨_, rfl⟩
        obtain ⟨q, hq⟩ : ∃ q, Y.length = q := ⟨_, rfl⟩
        have hX0' := hide hX0
        have hY0' := hide hY0
        have hp' := hide hp
        have hq' := hide hq
        have hn70' : n ≤ 70 := by omega
        clear hfit hX0 hY0 hp hq
        go_enter Try.func9, Try.ntmps9
        go_wp2_with fail
        refine (great_ok _ _ _ T _ (hT.out.below hB0)).mono ?_
        rintro e w1 ⟨rfl, hb1⟩
        have hbox1 := cell_later hb1 hbox0
        have hB1 := Below.on hB0 hb1
        go_wp2_with fail
        refine (twin_ok _ _ _ T _ (hT.out.below hB1) hn70' hfit'.out).mono ?_
        rintro e w2 ⟨A2, c2, rfl, -, hO, hb2⟩
        have hbox2 := cell_later (below_alloc hb2 (.cells #[.slice A2 n c2] 24)) hbox1
        have hB2 := below_alloc (Below.on hB1 hb2) (.cells #[.slice A2 n c2] 24)
        have hO2 := hide (hO.below (below_alloc (Below.refl _ _) (.cells #[.slice A2 n c2] 24)))
        have ho2 : (w2.alloc (.cells #[.slice A2 n c2] 24)).cell? ⟨w2.heap.size, 0, none⟩ = some (.slice A2 n c2) := by clear hbox2; go_simp
        clear hO hb1 hB1 hbox1 hB0 hbox0
        go_wp2_with fail
        refine (get_ok _ _ c2 T i s _ hO2.out).mono ?_
        rintro e w3 ⟨rfl, hb3⟩
        have hbox3 := cell_later hb3 hbox2
        have ho3 := cell_later hb3 ho2
        have hB3 := Below.on hB2 hb3
        have hO3 := hide (hO2.out.below hb3)
        go_wp2_with fail
        refine (rget_ok _ _ c T i s _ (hT.out.below hB3)).mono ?_
        rintro e w4 ⟨rfl, hb4⟩
        have hbox4 := cell_later hb4 hbox3
        have ho4 := cell_later hb4 ho3
        have hB4 := Below.on hB3 hb4
        have hO4 := hide (hO3.out.below hb4)
        go_wp2_with fail
        have hx := aset_ok _ _ c2 T i s v _ hO4.out hs hv
        rw [hX0'.out] at hx
        refine hx.mono ?_
        clear hx
        rintro e w5 ⟨A5, c5, rfl, -, hR, hb5⟩
        rw [hp'.out] at hR ⊢
        have hz5 := below_alloc hb5 (.cells #[.slice A5 p c5] 24)
        have hbox5 := cell_later hz5 hbox4
        have ho5 := cell_later hz5 ho4
        have hB5 := Below.on hB4 hz5
        have hO5 := hide (hO4.out.below hz5)
        have hx5 : (w5.alloc (.cells #[.slice A5 p c5] 24)).cell? ⟨w5.heap.size, 0, none⟩ = some (.slice A5 p c5) := by clear hbox5 ho5; go_simp
        have hX5 := hide (hR.below (below_alloc (Below.refl _ _) (.cells #[.slice A5 p c5] 24)))
        clear hR hb5 hz5 hb4 hb3 hO4 hO3 hO2 ho4 ho3 ho2 hbox4 hbox3 hbox2
        go_wp2_with fail
        have hx := rset_ok _ _ c T i s v _ (hT.out.below hB5) hs hv
        rw [hX0'.out] at hx
        refine hx.mono ?_
        clear hx
        rintro e w6 ⟨A6, c6, rfl, -, hR, hb6⟩
        rw [hp'.out] at hR ⊢
        have hz6 := below_alloc hb6 (.cells #[.slice A6 p c6] 24)
        have hbox6 := cell_later hz6 hbox5
        have ho6 := cell_later hz6 ho5
        have hx6 := cell_later hz6 hx5
        have hB6 := Below.on hB5 hz6
        have hO6 := hide (hO5.out.below hz6)
        have hX6 := hide (hX5.out.below hz6)
        have hy6 : (w6.alloc (.cells #[.slice A6 p c6] 24)).cell? ⟨w6.heap.size, 0, none⟩ = some (.slice A6 p c6) := by clear hbox6 ho6 hx6; go_simp
        have hY6 := hide (hR.below (below_alloc (Below.refl _ _) (.cells #[.slice A6 p c6] 24)))
        clear hR hb6 hz6 hO5 hX5 ho5 hx5 hbox5
        go_wp2_with fail
        have hx := auns_ok _ _ c2 T i s _ hO6.out
        rw [hY0'.out] at hx
        refine hx.mono ?_
        clear hx
        rintro e w7 ⟨A7, c7, rfl, -, hR, hb7⟩
        rw [hq'.out] at hR ⊢
        have hz7 := below_alloc hb7 (.cells #[.slice A7 q c7] 24)
        have hbox7 := cell_later hz7 hbox6
        have ho7 := cell_later hz7 ho6
        have hx7 := cell_later hz7 hx6
        have hy7 := cell_later hz7 hy6
        have hB7 := Below.on hB6 hz7
        have hO7 := hide (hO6.out.below hz7)
        have hX7 := hide (hX6.out.below hz7)
        have hY7 := hide (hY6.out.below hz7)
        have hp7 : (w7.alloc (.cells #[.slice A7 q c7] 24)).cell? ⟨w7.heap.size, 0, none⟩ = some (.slice A7 q c7) := by clear hbox7 ho7 hx7 hy7; go_simp
        have hP7 := hide (hR.below (below_alloc (Below.refl _ _) (.cells #[.slice A7 q c7] 24)))
        clear hR hb7 hz7 hO6 hX6 hY6 ho6 hx6 hy6 hbox6
        go_wp2_with fail
        have hx := runs_ok _ _ c T i s _ (hT.out.below hB7)
        rw [hY0'.out] at hx
        refine hx.mono ?_
        clear hx
        rintro e w8 ⟨A8, c8, rfl, -, hR, hb8⟩
        rw [hq'.out] at hR ⊢
        have hz8 := below_alloc hb8 (.cells #[.slice A8 q c8] 24)
        have hbox8 := cell_later hz8 hbox7
        have ho8 := cell_later hz8 ho7
        have hx8 := cell_later hz8 hx7
        have hy8 := cell_later hz8 hy7
        have hp8 := cell_later hz8 hp7
        have hB8 := Below.on hB7 hz8
        have hO8 := hide (hO7.out.below hz8)
        have hX8 := hide (hX7.out.below hz8)
        have hY8 := hide (hY7.out.below hz8)
        have hP8 := hide (hP7.out.below hz8)
        have hq8 : (w8.alloc (.cells #[.slice A8 q c8] 24)).cell? ⟨w8.heap.size, 0, none⟩ = some (.slice A8 q c8) := by clear hbox8 ho8 hx8 hy8 hp8; go_simp
        have hQ8 := hide (hR.below (below_alloc (Below.refl _ _) (.cells #[.slice A8 q c8] 24)))
        have hgv := str_eq (a := getV T i s) rfl
        clear hR hb8 hz8 hO7 hX7 hY7 hP7 ho7 hx7 hy7 hp7 hbox7
        go_wp2_with fail
        refine (same_ok _ _ _ _ _ X _ hX8.out hY8.out).mono ?_
        rintro e w9 ⟨rfl, hb9⟩
        have hbox9 := cell_later hb9 hbox8
        have ho9 := cell_later hb9 ho8
        have hp9 := cell_later hb9 hp8
        have hq9 := cell_later hb9 hq8
        have hB9 := Below.on hB8 hb9
        go_wp2_with fail
        refine (same_ok _ _ _ _ _ Y _ (hP8.out.below hb9) (hQ8.out.below hb9)).mono ?_
        rintro e w10 ⟨rfl, hb10⟩
        have hbox10 := cell_later hb10 hbox9
        have ho10 := cell_later hb10 ho9
        have hB10 := Below.on hB9 hb10
        go_wp2_with fail
        refine (same_ok _ _ _ _ _ T _ ((hO8.out.below hb9).below hb10) (hT.out.below hB10)).mono ?_
        rintro e w11 ⟨rfl, hb11⟩
        go_wp2
        go_ret
        exact ⟨rfl, Below.on hB10 hb11⟩

set_option maxRecDepth 100000 in
theorem lifted (os : Os) (started : os.Started) (H : Type) (enc : TypeId × Value → H) :
    ReturnsInHanded {} Try.checked os 9 .any (Rows.attrsSetsSpec.pre6 enc Try.prog Try.f9 Rows.attrsSetsRow.domain false) (Rows.attrsSetsSpec.post enc Try.prog Try.f9 false true false false) := by
  refine returnsInHanded_of_change (C := Try.checked) own started (by kernel_rfl) Try.func9
    (ChangeSpec.witness6 (enc := enc) (C := Try.checked) false ⟨#[], #[.agg #[.slice none 0 0], .int .i64 0, .string .empty, .string .empty], []⟩ 8 (by kernel_rfl) (by kernel_rfl) (by kernel_rfl) (by kernel_rfl)) ?_
  intro W base args ds gs before hval0 hW hcnd _
  have hval : ∀ (j : Nat) t v, Try.f9.params[j]? = some t → args[j]? = some v → Value.okWide Try.prog W .any base t v := hval0
  have hW' := hW
  obtain ⟨p, q, hA0, hV, rfl, hfz, hnd⟩ := hW
  have hA : DataW.TrodAll enc Try.prog W 0 (fun _ => true) true Try.f9.params.toList args.toList ds p := hA0
  rw [Try.params9] at hA hval
  obtain ⟨v0, vs0, d0, ds0, p0, q0, hargs, rfl, rfl, h0, r0⟩ := trodAll_cons hA
  obtain ⟨v1, vs1, d1, ds1, p1, q1, rfl, rfl, rfl, h1, r1⟩ := trodAll_cons r0
  obtain ⟨v2, vs2, d2, ds2, p2, q2, rfl, rfl, rfl, h2, r2⟩ := trodAll_cons r1
  obtain ⟨v3, vs3, d3, ds3, p3, q3, rfl, rfl, rfl, h3, r3⟩ := trodAll_cons r2
  obtain ⟨rfl, rfl, rfl⟩ := trodAll_nil r3
  obtain rfl : args = #[v0, v1, v2, v3] := by cases args; simp_all
  obtain ⟨rfl, rfl⟩ := trodVars_none hV
  have lt0 : ∀ x ∈ p0, x.block < W.heap.size := by obtain ⟨m, hm⟩ := h0; exact DataW.trod_lt m _ _ _ hm
  have k0 := h0
  have lt1 : ∀ x ∈ p1, x.block < W.heap.size := by obtain ⟨m, hm⟩ := h1; exact DataW.trod_lt m _ _ _ hm
  have k1 := h1
  have lt2 : ∀ x ∈ p2, x.block < W.heap.size := by obtain ⟨m, hm⟩ := h2; exact DataW.trod_lt m _ _ _ hm
  have k2 := h2
  have lt3 : ∀ x ∈ p3, x.block < W.heap.size := by obtain ⟨m, hm⟩ := h3; exact DataW.trod_lt m _ _ _ hm
  have k3 := h3
  obtain ⟨A0, n0, c0, T0, rfl, hT0⟩ := tree_open (hval 0 _ v0 rfl rfl) h0
  obtain ⟨a1, rfl, rfl, rfl, w1⟩ := open_int Try.underlying3 (hval 1 _ v1 rfl rfl) h1
  obtain ⟨a2, rfl, rfl, rfl, w2⟩ := Go.ChangeMaps.open_string Try.underlying9 (hval 2 _ v2 rfl rfl) h2
  have w2' : a2.size ≤ 9223372036854775807 := by unfold maxLen at w2; omega
  obtain ⟨a3, rfl, rfl, rfl, w3⟩ := Go.ChangeMaps.open_string Try.underlying9 (hval 3 _ v3 rfl rfl) h3
  have w3' : a3.size ≤ 9223372036854775807 := by unfold maxLen at w3; omega
  clear hA0 hval0
  refine (walk A0 n0 c0 T0 a1 a2 a3 W hT0  w2' w3').mono fun e W' ⟨he, bel⟩ => ?_
  subst he
  exact ⟨_, rfl, _, _, _, [], _, [], hW', trodAll_mk1 (shut_bool Try.underlying4 _), (trodAll_cons_mk (Below.trod laidOut (by kernel_rfl) (of_decide_eq_true (by kernel_rfl)) k0 bel lt0) (trodAll_cons_mk (Below.trod laidOut (by kernel_rfl) (of_decide_eq_true (by kernel_rfl)) k1 bel lt1) (trodAll_cons_mk (Below.trod laidOut (by kernel_rfl) (of_decide_eq_true (by kernel_rfl)) k2 bel lt2) (trodAll_cons_mk (Below.trod laidOut (by kernel_rfl) (of_decide_eq_true (by kernel_rfl)) k3 bel lt3) trodAll_mk0)))), rfl, bel.frame _, fun h => by cases h⟩

theorem proved : Rows.AttrsSetsSaid :=
  OpenClaim.holds_of_wide 9 Try.f9 rfl rfl rfl rfl rfl rfl rfl ⟨rfl, rfl, rfl, rfl, rfl⟩ rfl rfl rfl rfl rfl (by kernel_rfl) Try.func9 (by kernel_rfl)
    (of_decide_eq_true (by kernel_rfl)) (by unfold Func.isWrapper; first | (rw [if_pos (by decide +kernel)]; kernel_rfl) | (rw [if_neg (by decide +kernel)]; exact ⟨rfl, rfl⟩))
    (fun os started H enc _ => lifted os started H enc)
#print axioms proved
end Go.Proofs.Ytfiiikbbiimdiaa.attrsSets
