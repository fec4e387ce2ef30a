/- For every valid tree and two of its elements, being below goes on from one to the next, and the depth of a child is that of its parent and 1. No condition. -/
import Derived.Test.YtfidpmjjddkffaaOpen
import Derived.Test.YtfidpmjjddkffaaLaws
namespace Go.Proofs.Ytfidpmjjddkffaa.treeBelow
open Go.ChangeShapes Go.WideShapes Go.ChangeAt Go.RowKit

set_option maxRecDepth 100000 in
set_option maxHeartbeats 4000000 in
theorem walk (A : Option Addr) (n c : Nat) (T : List ANode) (i k : Int) (w : World) (h : IsTree w A n T) :
    Calls Try.prog 6 #[.agg #[.slice A n c], .int .i64 i, .int .i64 k] w fun e w' => e = .returned (.bool true) ∧ Below w.heap.size w w' := by
  have hT := hide h
  have hl := h.1
  have ho := hide h.2.2.2
  clear h
  have hB0 := below_alloc (Below.refl w.heap.size w) (.cells #[.slice A n c] 24)
  have hbox0 : (w.alloc (.cells #[.slice A n c] 24)).cell? ⟨w.heap.size, 0, none⟩ = some (.slice A n c) := by go_simp
  by_cases h0 : askI T [i] = 0
  · by_cases h1 : askI T [k] = 0
    · obtain ⟨hg, hir⟩ := askI_zero.1 h0
      have hir := hir i (by simp)
      obtain ⟨_, hkr⟩ := askI_zero.1 h1
      have hkr := hkr k (by simp)
      obtain ⟨i, rfl⟩ := Int.eq_ofNat_of_zero_le hir.1
      obtain ⟨k, rfl⟩ := Int.eq_ofNat_of_zero_le hkr.1
      have hi : i < n := by omega
      have hk : k < n := by omega
      obtain ⟨b, off, aA, cA, aC, cC, rfl, hbl, -, -, c2, -, -, -⟩ := ho.out (by omega)
      have gp := c2 i hi
      clear c2
      have q1 : askI T [(i : Int), (i : Int)] = 0 := askI_ok hg (by simp; omega)
      have q2 : askI T [(i : Int), (k : Int)] = 0 := askI_ok hg (by simp; omega)
      have q3 : askI T [(k : Int), (i : Int)] = 0 := askI_ok hg (by simp; omega)
      have q4 := bel_self hg (by omega : i < T.length)
      have hik : Hid (belE T i k = true → depE T k < depE T i) := bel_dep hg (by omega) (by omega)
      have hki : Hid (belE T k i = true → depE T i < depE T k) := bel_dep hg (by omega) (by omega)
      by_cases hp : 0 ≤ par T i
      · obtain ⟨p, hpe⟩ := Int.eq_ofNat_of_zero_le hp
        have hpn := (good_par hg (by omega : i < T.length)).2
        have q5 : askI T [(p : Int), (k : Int)] = 0 := askI_ok hg (by simp; omega)
        have q6 : askI T [(p : Int)] = 0 := askI_ok hg (by simp; omega)
        have hup := hide (bel_up hg (by omega : i < T.length) (by omega : k < T.length) hp)
        have hdp := dep_up hg (by omega : i < T.length) hp
        rw [hpe] at hup hdp
        have hdl : depE T p ≤ 64 := by
          rw [dep_eq hg (by omega : p < T.length)]
          have h1 := anc_le hg (good_par hg (by omega : p < T.length)).2
          have h2 := ((goodB_iff T).1 hg).2.1
          omega
        have hd0 : 0 ≤ depE T p := by rw [dep_eq hg (by omega : p < T.length)]; omega
        have hdp' : depE T i ≤ depE T p + 1 ∧ depE T p + 1 ≤ depE T i := by omega
        obtain ⟨hdp1, hdp2⟩ := hdp'
        clear hir hkr hg hpn hp hdp
        cases his : belE T i k <;> cases htu : belE T k i
        · cases hu : belE T p k
          · have hpk : ((p : Int) == (k : Int)) = false := by have := hup.out; rw [his, hu] at this; simpa using this.symm
            clear hik hki hup
            go_enter Try.func6, Try.ntmps6
            go_wp2_with fail
            refine (alive_ok _).mono ?_
            rintro e w1 ⟨rfl, hb1⟩
            have hbox1 := cell_later hb1 hbox0
            have hB1 := Below.on hB0 hb1
            go_wp2_with fail
            refine (rasked_ok _ _ _ T _ _ (hT.out.below hB1)).mono ?_
            rintro e w2 ⟨rfl, hb2⟩
            have hbox2 := cell_later hb2 hbox1
            have hB2 := Below.on hB1 hb2
            go_wp2_with fail
            refine (rasked_ok _ _ _ T _ _ (hT.out.below hB2)).mono ?_
            rintro e w3 ⟨rfl, hb3⟩
            have hbox3 := cell_later hb3 hbox2
            have hB3 := Below.on hB2 hb3
            go_wp2_with fail
            refine (below_ok _ _ _ T _ _ _ (hT.out.below hB3)).mono ?_
            rintro e w4 ⟨rfl, hb4⟩
            have hbox4 := cell_later hb4 hbox3
            have hB4 := Below.on hB3 hb4
            go_wp2_with fail
            refine (below_ok _ _ _ T _ _ _ (hT.out.below hB4)).mono ?_
            rintro e w5 ⟨rfl, hb5⟩
            have hbox5 := cell_later hb5 hbox4
            have hB5 := Below.on hB4 hb5
            go_wp2_with fail
            refine (below_ok _ _ _ T _ _ _ (hT.out.below hB5)).mono ?_
            rintro e w6 ⟨rfl, hb6⟩
            have hbox6 := cell_later hb6 hbox5
            have hB6 := Below.on hB5 hb6
            go_wp2_with fail
            refine (depth_ok _ _ _ T _ _ (hT.out.below hB6)).mono ?_
            rintro e w7 ⟨rfl, hb7⟩
            have hbox7 := cell_later hb7 hbox6
            have hB7 := Below.on hB6 hb7
            go_wp2_with fail
            refine (depth_ok _ _ _ T _ _ (hT.out.below hB7)).mono ?_
            rintro e w8 ⟨rfl, hb8⟩
            have hbox8 := cell_later hb8 hbox7
            have hB8 := Below.on hB7 hb8
            have gp8 := cell_later hB8 gp
            go_wp2_with fail
            refine (below_ok _ _ _ T _ _ _ (hT.out.below hB8)).mono ?_
            rintro e w9 ⟨rfl, hb9⟩
            have hbox9 := cell_later hb9 hbox8
            have hB9 := Below.on hB8 hb9
            go_wp2_with fail
            refine (depth_ok _ _ _ T _ _ (hT.out.below hB9)).mono ?_
            rintro e w10 ⟨rfl, hb10⟩
            have hbox10 := cell_later hb10 hbox9
            have hB10 := Below.on hB9 hb10
            go_wp2
            go_ret
            exact ⟨rfl, hB10⟩
          · exfalso; have := hup.out; rw [his, hu] at this; simp at this
        · cases hu : belE T p k
          · have hpk : ((p : Int) == (k : Int)) = false := by have := hup.out; rw [his, hu] at this; simpa using this.symm
            have hlt := hki.out htu
            clear hik hki hup
            go_enter Try.func6, Try.ntmps6
            go_wp2_with fail
            refine (alive_ok _).mono ?_
            rintro e w1 ⟨rfl, hb1⟩
            have hbox1 := cell_later hb1 hbox0
            have hB1 := Below.on hB0 hb1
            go_wp2_with fail
            refine (rasked_ok _ _ _ T _ _ (hT.out.below hB1)).mono ?_
            rintro e w2 ⟨rfl, hb2⟩
            have hbox2 := cell_later hb2 hbox1
            have hB2 := Below.on hB1 hb2
            go_wp2_with fail
            refine (rasked_ok _ _ _ T _ _ (hT.out.below hB2)).mono ?_
            rintro e w3 ⟨rfl, hb3⟩
            have hbox3 := cell_later hb3 hbox2
            have hB3 := Below.on hB2 hb3
            go_wp2_with fail
            refine (below_ok _ _ _ T _ _ _ (hT.out.below hB3)).mono ?_
            rintro e w4 ⟨rfl, hb4⟩
            have hbox4 := cell_later hb4 hbox3
            have hB4 := Below.on hB3 hb4
            go_wp2_with fail
            refine (below_ok _ _ _ T _ _ _ (hT.out.below hB4)).mono ?_
            rintro e w5 ⟨rfl, hb5⟩
            have hbox5 := cell_later hb5 hbox4
            have hB5 := Below.on hB4 hb5
            go_wp2_with fail
            refine (below_ok _ _ _ T _ _ _ (hT.out.below hB5)).mono ?_
            rintro e w6 ⟨rfl, hb6⟩
            have hbox6 := cell_later hb6 hbox5
            have hB6 := Below.on hB5 hb6
            go_wp2_with fail
            refine (depth_ok _ _ _ T _ _ (hT.out.below hB6)).mono ?_
            rintro e w7 ⟨rfl, hb7⟩
            have hbox7 := cell_later hb7 hbox6
            have hB7 := Below.on hB6 hb7
            go_wp2_with fail
            refine (depth_ok _ _ _ T _ _ (hT.out.below hB7)).mono ?_
            rintro e w8 ⟨rfl, hb8⟩
            have hbox8 := cell_later hb8 hbox7
            have hB8 := Below.on hB7 hb8
            have gp8 := cell_later hB8 gp
            go_wp2_with fail
            refine (below_ok _ _ _ T _ _ _ (hT.out.below hB8)).mono ?_
            rintro e w9 ⟨rfl, hb9⟩
            have hbox9 := cell_later hb9 hbox8
            have hB9 := Below.on hB8 hb9
            go_wp2_with fail
            refine (depth_ok _ _ _ T _ _ (hT.out.below hB9)).mono ?_
            rintro e w10 ⟨rfl, hb10⟩
            have hbox10 := cell_later hb10 hbox9
            have hB10 := Below.on hB9 hb10
            go_wp2
            go_ret
            exact ⟨rfl, hB10⟩
          · exfalso; have := hup.out; rw [his, hu] at this; simp at this
        · have hlt := hik.out his
          cases hu : belE T p k <;> cases hpk : ((p : Int) == (k : Int))
          · exfalso; have := hup.out; rw [his, hu, hpk] at this; simp at this
          all_goals
            clear hik hki hup
            go_enter Try.func6, Try.ntmps6
            go_wp2_with fail
            refine (alive_ok _).mono ?_
            rintro e w1 ⟨rfl, hb1⟩
            have hbox1 := cell_later hb1 hbox0
            have hB1 := Below.on hB0 hb1
            go_wp2_with fail
            refine (rasked_ok _ _ _ T _ _ (hT.out.below hB1)).mono ?_
            rintro e w2 ⟨rfl, hb2⟩
            have hbox2 := cell_later hb2 hbox1
            have hB2 := Below.on hB1 hb2
            go_wp2_with fail
            refine (rasked_ok _ _ _ T _ _ (hT.out.below hB2)).mono ?_
            rintro e w3 ⟨rfl, hb3⟩
            have hbox3 := cell_later hb3 hbox2
            have hB3 := Below.on hB2 hb3
            go_wp2_with fail
            refine (below_ok _ _ _ T _ _ _ (hT.out.below hB3)).mono ?_
            rintro e w4 ⟨rfl, hb4⟩
            have hbox4 := cell_later hb4 hbox3
            have hB4 := Below.on hB3 hb4
            go_wp2_with fail
            refine (below_ok _ _ _ T _ _ _ (hT.out.below hB4)).mono ?_
            rintro e w5 ⟨rfl, hb5⟩
            have hbox5 := cell_later hb5 hbox4
            have hB5 := Below.on hB4 hb5
            go_wp2_with fail
            refine (below_ok _ _ _ T _ _ _ (hT.out.below hB5)).mono ?_
            rintro e w6 ⟨rfl, hb6⟩
            have hbox6 := cell_later hb6 hbox5
            have hB6 := Below.on hB5 hb6
            go_wp2_with fail
            refine (depth_ok _ _ _ T _ _ (hT.out.below hB6)).mono ?_
            rintro e w7 ⟨rfl, hb7⟩
            have hbox7 := cell_later hb7 hbox6
            have hB7 := Below.on hB6 hb7
            go_wp2_with fail
            refine (depth_ok _ _ _ T _ _ (hT.out.below hB7)).mono ?_
            rintro e w8 ⟨rfl, hb8⟩
            have hbox8 := cell_later hb8 hbox7
            have hB8 := Below.on hB7 hb8
            have gp8 := cell_later hB8 gp
            go_wp2_with fail
            refine (below_ok _ _ _ T _ _ _ (hT.out.below hB8)).mono ?_
            rintro e w9 ⟨rfl, hb9⟩
            have hbox9 := cell_later hb9 hbox8
            have hB9 := Below.on hB8 hb9
            go_wp2_with fail
            refine (depth_ok _ _ _ T _ _ (hT.out.below hB9)).mono ?_
            rintro e w10 ⟨rfl, hb10⟩
            have hbox10 := cell_later hb10 hbox9
            have hB10 := Below.on hB9 hb10
            go_wp2
            go_ret
            exact ⟨rfl, hB10⟩
        · exfalso; have h1 := hik.out his; have h2 := hki.out htu; omega
      · have hpm : par T i < 0 := by omega
        have q7 := bel_top hg (by omega : i < T.length) (by omega : k < T.length) hpm
        have q8 := dep_top hg (by omega : i < T.length) hpm
        rw [q7, q8] at hik
        rw [q8] at hki
        clear hir hkr hg hp
        cases htu : belE T k i
        · clear hik hki
          go_enter Try.func6, Try.ntmps6
          go_wp2_with fail
          refine (alive_ok _).mono ?_
          rintro e w1 ⟨rfl, hb1⟩
          have hbox1 := cell_later hb1 hbox0
          have hB1 := Below.on hB0 hb1
          go_wp2_with fail
          refine (rasked_ok _ _ _ T _ _ (hT.out.below hB1)).mono ?_
          rintro e w2 ⟨rfl, hb2⟩
          have hbox2 := cell_later hb2 hbox1
          have hB2 := Below.on hB1 hb2
          go_wp2_with fail
          refine (rasked_ok _ _ _ T _ _ (hT.out.below hB2)).mono ?_
          rintro e w3 ⟨rfl, hb3⟩
          have hbox3 := cell_later hb3 hbox2
          have hB3 := Below.on hB2 hb3
          go_wp2_with fail
          refine (below_ok _ _ _ T _ _ _ (hT.out.below hB3)).mono ?_
          rintro e w4 ⟨rfl, hb4⟩
          have hbox4 := cell_later hb4 hbox3
          have hB4 := Below.on hB3 hb4
          go_wp2_with fail
          refine (below_ok _ _ _ T _ _ _ (hT.out.below hB4)).mono ?_
          rintro e w5 ⟨rfl, hb5⟩
          have hbox5 := cell_later hb5 hbox4
          have hB5 := Below.on hB4 hb5
          go_wp2_with fail
          refine (below_ok _ _ _ T _ _ _ (hT.out.below hB5)).mono ?_
          rintro e w6 ⟨rfl, hb6⟩
          have hbox6 := cell_later hb6 hbox5
          have hB6 := Below.on hB5 hb6
          go_wp2_with fail
          refine (depth_ok _ _ _ T _ _ (hT.out.below hB6)).mono ?_
          rintro e w7 ⟨rfl, hb7⟩
          have hbox7 := cell_later hb7 hbox6
          have hB7 := Below.on hB6 hb7
          go_wp2_with fail
          refine (depth_ok _ _ _ T _ _ (hT.out.below hB7)).mono ?_
          rintro e w8 ⟨rfl, hb8⟩
          have hbox8 := cell_later hb8 hbox7
          have hB8 := Below.on hB7 hb8
          have gp8 := cell_later hB8 gp
          go_wp2
          go_ret
          exact ⟨rfl, hB8⟩
        · have hlt := hki.out htu
          clear hik hki
          go_enter Try.func6, Try.ntmps6
          go_wp2_with fail
          refine (alive_ok _).mono ?_
          rintro e w1 ⟨rfl, hb1⟩
          have hbox1 := cell_later hb1 hbox0
          have hB1 := Below.on hB0 hb1
          go_wp2_with fail
          refine (rasked_ok _ _ _ T _ _ (hT.out.below hB1)).mono ?_
          rintro e w2 ⟨rfl, hb2⟩
          have hbox2 := cell_later hb2 hbox1
          have hB2 := Below.on hB1 hb2
          go_wp2_with fail
          refine (rasked_ok _ _ _ T _ _ (hT.out.below hB2)).mono ?_
          rintro e w3 ⟨rfl, hb3⟩
          have hbox3 := cell_later hb3 hbox2
          have hB3 := Below.on hB2 hb3
          go_wp2_with fail
          refine (below_ok _ _ _ T _ _ _ (hT.out.below hB3)).mono ?_
          rintro e w4 ⟨rfl, hb4⟩
          have hbox4 := cell_later hb4 hbox3
          have hB4 := Below.on hB3 hb4
          go_wp2_with fail
          refine (below_ok _ _ _ T _ _ _ (hT.out.below hB4)).mono ?_
          rintro e w5 ⟨rfl, hb5⟩
          have hbox5 := cell_later hb5 hbox4
          have hB5 := Below.on hB4 hb5
          go_wp2_with fail
          refine (below_ok _ _ _ T _ _ _ (hT.out.below hB5)).mono ?_
          rintro e w6 ⟨rfl, hb6⟩
          have hbox6 := cell_later hb6 hbox5
          have hB6 := Below.on hB5 hb6
          go_wp2_with fail
          refine (depth_ok _ _ _ T _ _ (hT.out.below hB6)).mono ?_
          rintro e w7 ⟨rfl, hb7⟩
          have hbox7 := cell_later hb7 hbox6
          have hB7 := Below.on hB6 hb7
          go_wp2_with fail
          refine (depth_ok _ _ _ T _ _ (hT.out.below hB7)).mono ?_
          rintro e w8 ⟨rfl, hb8⟩
          have hbox8 := cell_later hb8 hbox7
          have hB8 := Below.on hB7 hb8
          have gp8 := cell_later hB8 gp
          go_wp2
          go_ret
          exact ⟨rfl, hB8⟩
    · have hq : (askI T [k] != 0) = true := by simp [h1]
      clear h1
      go_enter Try.func6, Try.ntmps6
      go_wp2_with fail
      refine (alive_ok _).mono ?_
      rintro e w1 ⟨rfl, hb1⟩
      have hbox1 := cell_later hb1 hbox0
      have hB1 := Below.on hB0 hb1
      go_wp2_with fail
      refine (rasked_ok _ _ _ T _ _ (hT.out.below hB1)).mono ?_
      rintro e w2 ⟨rfl, hb2⟩
      have hbox2 := cell_later hb2 hbox1
      have hB2 := Below.on hB1 hb2
      go_wp2_with fail
      refine (rasked_ok _ _ _ T _ _ (hT.out.below hB2)).mono ?_
      rintro e w3 ⟨rfl, hb3⟩
      have hbox3 := cell_later hb3 hbox2
      have hB3 := Below.on hB2 hb3
      go_wp2
      go_ret
      exact ⟨rfl, hB3⟩
  · have hq : (askI T [i] != 0) = true := by simp [h0]
    clear h0
    go_enter Try.func6, Try.ntmps6
    go_wp2_with fail
    refine (alive_ok _).mono ?_
    rintro e w1 ⟨rfl, hb1⟩
    have hbox1 := cell_later hb1 hbox0
    have hB1 := Below.on hB0 hb1
    go_wp2_with fail
    refine (rasked_ok _ _ _ T _ _ (hT.out.below hB1)).mono ?_
    rintro e w2 ⟨rfl, hb2⟩
    have hbox2 := cell_later hb2 hbox1
    have hB2 := Below.on hB1 hb2
    go_wp2
    go_ret
    exact ⟨rfl, hB2⟩

set_option maxRecDepth 100000 in
theorem lifted (os : Os) (started : os.Started) (H : Type) (enc : TypeId × Value → H) :
    ReturnsInHanded {} Try.checked os 6 .any (Rows.treeBelowSpec.pre6 enc Try.prog Try.f6 Rows.treeBelowRow.domain false) (Rows.treeBelowSpec.post enc Try.prog Try.f6 false true false false) := by
  refine returnsInHanded_of_change (C := Try.checked) own started (by kernel_rfl) Try.func6
    (ChangeSpec.witness6 (enc := enc) (C := Try.checked) false ⟨#[], #[.agg #[.slice none 0 0], .int .i64 0, .int .i64 0], []⟩ 8 (by kernel_rfl) (by kernel_rfl) (by kernel_rfl) (by kernel_rfl)) ?_
  intro W base args ds gs before hval0 hW hcnd _
  have hval : ∀ (j : Nat) t v, Try.f6.params[j]? = some t → args[j]? = some v → Value.okWide Try.prog W .any base t v := hval0
  have hW' := hW
  obtain ⟨p, q, hA0, hV, rfl, hfz, hnd⟩ := hW
  have hA : DataW.TrodAll enc Try.prog W 0 (fun _ => true) true Try.f6.params.toList args.toList ds p := hA0
  rw [Try.params6] at hA hval
  obtain ⟨v0, vs0, d0, ds0, p0, q0, hargs, rfl, rfl, h0, r0⟩ := trodAll_cons hA
  obtain ⟨v1, vs1, d1, ds1, p1, q1, rfl, rfl, rfl, h1, r1⟩ := trodAll_cons r0
  obtain ⟨v2, vs2, d2, ds2, p2, q2, rfl, rfl, rfl, h2, r2⟩ := trodAll_cons r1
  obtain ⟨rfl, rfl, rfl⟩ := trodAll_nil r2
  obtain rfl : args = #[v0, v1, v2] := by cases args; simp_all
  obtain ⟨rfl, rfl⟩ := trodVars_none hV
  have lt0 : ∀ x ∈ p0, x.block < W.heap.size := by obtain ⟨m, hm⟩ := h0; exact DataW.trod_lt m _ _ _ hm
  have k0 := h0
  obtain ⟨A0, n0, c0, T0, rfl, hT0⟩ := tree_open (hval 0 _ v0 rfl rfl) h0
  obtain ⟨a1, rfl, rfl, rfl, w1⟩ := open_int Try.underlying3 (hval 1 _ v1 rfl rfl) h1
  obtain ⟨a2, rfl, rfl, rfl, w2⟩ := open_int Try.underlying3 (hval 2 _ v2 rfl rfl) h2
  clear hA0 hval0
  refine (walk A0 n0 c0 T0 a1 a2 W hT0).mono fun e W' ⟨he, bel⟩ => ?_
  subst he
  exact ⟨_, rfl, _, _, _, [], _, [], hW', trodAll_mk1 (shut_bool Try.underlying4 _), (trodAll_cons_mk (Below.trod laidOut (by kernel_rfl) (of_decide_eq_true (by kernel_rfl)) k0 bel lt0) (trodAll_cons_mk (shut_int Try.underlying3 w1) (trodAll_cons_mk (shut_int Try.underlying3 w2) trodAll_mk0))), rfl, bel.frame _, fun h => by cases h⟩

theorem proved : Rows.TreeBelowSaid :=
  OpenClaim.holds_of_wide 6 Try.f6 rfl rfl rfl rfl rfl rfl rfl ⟨rfl, rfl, rfl, rfl, rfl⟩ rfl rfl rfl rfl rfl (by kernel_rfl) Try.func6 (by kernel_rfl)
    (of_decide_eq_true (by kernel_rfl)) (by unfold Func.isWrapper; first | (rw [if_pos (by decide +kernel)]; kernel_rfl) | (rw [if_neg (by decide +kernel)]; exact ⟨rfl, rfl⟩))
    (fun os started H enc _ => lifted os started H enc)
#print axioms proved
end Go.Proofs.Ytfidpmjjddkffaa.treeBelow
