/- For every tree, every number and every two texts, Words, Class and Fold answer as the reference does, unless the tree or a text is greater than the statement considers. No condition. -/
import Derived.Test.YtfiiikbbiimdiaaOpen
import Derived.Test.YtfiiikbbiimdiaaFg
import Derived.Test.YtfiiikbbiimdiaaFc
import Derived.Test.YtfiiikbbiimdiaaFa
import Derived.Test.YtfiiikbbiimdiaaFh
namespace Go.Proofs.Ytfiiikbbiimdiaa.attrsWords
open Go.ChangeShapes Go.WideShapes Go.ChangeAt Go.RowKit

set_option maxRecDepth 100000 in
set_option maxHeartbeats 1000000 in
theorem walk (A : Option Addr) (n c : Nat) (T : List ANode) (i : Int) (s t : ByteArray) (w : World) (h : IsTree w A n T) (hs : s.size ≤ 9223372036854775807) (ht : t.size ≤ 9223372036854775807) :
    Calls Try.prog 3 #[.agg #[.slice A n c], .int .i64 i, .string s, .string t] w fun e w' => e = .returned (.bool true) ∧ Below w.heap.size w w' := by
  have hT := hide h
  have hl := h.1
  clear h
  have hB0 := below_alloc (Below.refl w.heap.size w) (.cells #[.slice A n c] 24)
  have hbox0 : (w.alloc (.cells #[.slice A n c] 24)).cell? ⟨w.heap.size, 0, none⟩ = some (.slice A n c) := by go_simp
  cases hsm : smallTB T
  · go_enter Try.func3, Try.ntmps3
    go_wp2_with fail
    refine (great_ok _ _ _ T _ (hT.out.below hB0)).mono ?_
    rintro e w1 ⟨rfl, hb1⟩
    have hbox1 := cell_later hb1 hbox0
    have hB1 := Below.on hB0 hb1
    go_wp2
    go_ret
    exact ⟨rfl, hB1⟩
  · by_cases h1 : 500 < s.size
    · go_enter Try.func3, Try.ntmps3
      go_wp2_with fail
      refine (great_ok _ _ _ T _ (hT.out.below hB0)).mono ?_
      rintro e w1 ⟨rfl, hb1⟩
      have hbox1 := cell_later hb1 hbox0
      have hB1 := Below.on hB0 hb1
      go_wp2
      go_ret
      exact ⟨rfl, hB1⟩
    · by_cases h2 : 500 < t.size
      · go_enter Try.func3, Try.ntmps3
        go_wp2_with fail
        refine (great_ok _ _ _ T _ (hT.out.below hB0)).mono ?_
        rintro e w1 ⟨rfl, hb1⟩
        have hbox1 := cell_later hb1 hbox0
        have hB1 := Below.on hB0 hb1
        go_wp2
        go_ret
        exact ⟨rfl, hB1⟩
      · go_enter Try.func3, Try.ntmps3
        go_wp2_with fail
        refine (great_ok _ _ _ T _ (hT.out.below hB0)).mono ?_
        rintro e w1 ⟨rfl, hb1⟩
        have hbox1 := cell_later hb1 hbox0
        have hB1 := Below.on hB0 hb1
        go_wp2_with fail
        refine (Words_ok s _ (by omega)).mono ?_
        rintro e w2 ⟨A2, c2, rfl, hI2, hb2⟩
        have hbox2 := cell_later hb2 hbox1
        have hB2 := Below.on hB1 hb2
        have hI2' := hide hI2
        clear hI2
        go_wp2_with fail
        refine (rWords_ok s _ (by omega)).mono ?_
        rintro e w3 ⟨A3, c3, rfl, hI3, hb3⟩
        have hbox3 := cell_later hb3 hbox2
        have hB3 := Below.on hB2 hb3
        have hI2' := hide (hI2'.out.below hb3)
        have hI3' := hide hI3
        clear hI3
        go_wp2_with fail
        refine (class_ok _ _ _ T _ _ _ (hT.out.below hB3)).mono ?_
        rintro e w4 ⟨rfl, hb4⟩
        have hbox4 := cell_later hb4 hbox3
        have hB4 := Below.on hB3 hb4
        go_wp2_with fail
        refine (rclass_ok _ _ _ T _ _ _ (hT.out.below hB4)).mono ?_
        rintro e w5 ⟨rfl, hb5⟩
        have hbox5 := cell_later hb5 hbox4
        have hB5 := Below.on hB4 hb5
        go_wp2_with fail
        refine (sameS_yes _ _ _ _ _ _ (wordsV s) _ ((hI2'.out.below hb4).below hb5) ((hI3'.out.below hb4).below hb5)).mono ?_
        rintro e w6 ⟨rfl, hb6⟩
        have hB6 := Below.on hB5 hb6
        go_wp2_with fail
        refine (fold_ok s _ (by omega)).mono ?_
        rintro e w7 ⟨rfl, hb7⟩
        have hB7 := Below.on hB6 hb7
        go_wp2_with fail
        refine (rfold_ok s _ (by omega)).mono ?_
        rintro e w8 ⟨rfl, hb8⟩
        have hB8 := Below.on hB7 hb8
        go_wp2
        go_ret
        exact ⟨rfl, hB8⟩

set_option maxRecDepth 100000 in
theorem lifted (os : Os) (started : os.Started) (H : Type) (enc : TypeId × Value → H) :
    ReturnsInHanded {} Try.checked os 3 .any (Rows.attrsWordsSpec.pre6 enc Try.prog Try.f3 Rows.attrsWordsRow.domain false) (Rows.attrsWordsSpec.post enc Try.prog Try.f3 false true false false) := by
  refine returnsInHanded_of_change (C := Try.checked) own started (by kernel_rfl) Try.func3
    (ChangeSpec.witness6 (enc := enc) (C := Try.checked) false ⟨#[], #[.agg #[.slice none 0 0], .int .i64 0, .string .empty, .string .empty], []⟩ 8 (by kernel_rfl) (by kernel_rfl) (by kernel_rfl) (by kernel_rfl)) ?_
  intro W base args ds gs before hval0 hW hcnd _
  have hval : ∀ (j : Nat) t v, Try.f3.params[j]? = some t → args[j]? = some v → Value.okWide Try.prog W .any base t v := hval0
  have hW' := hW
  obtain ⟨p, q, hA0, hV, rfl, hfz, hnd⟩ := hW
  have hA : DataW.TrodAll enc Try.prog W 0 (fun _ => true) true Try.f3.params.toList args.toList ds p := hA0
  rw [Try.params3] at hA hval
  obtain ⟨v0, vs0, d0, ds0, p0, q0, hargs, rfl, rfl, h0, r0⟩ := trodAll_cons hA
  obtain ⟨v1, vs1, d1, ds1, p1, q1, rfl, rfl, rfl, h1, r1⟩ := trodAll_cons r0
  obtain ⟨v2, vs2, d2, ds2, p2, q2, rfl, rfl, rfl, h2, r2⟩ := trodAll_cons r1
  obtain ⟨v3, vs3, d3, ds3, p3, q3, rfl, rfl, rfl, h3, r3⟩ := trodAll_cons r2
  obtain ⟨rfl, rfl, rfl⟩ := trodAll_nil r3
  obtain rfl : args = #[v0, v1, v2, v3] := by cases args; simp_all
  obtain ⟨rfl, rfl⟩ := trodVars_none hV
  have lt0 : ∀ x ∈ p0, x.block < W.heap.size := by obtain ⟨m, hm⟩ := h0; exact DataW.trod_lt m _ _ _ hm
  have k0 := h0
  have lt1 : ∀ x ∈ p1, x.block < W.heap.size := by obtain ⟨m, hm⟩ := h1; exact DataW.trod_lt m _ _ _ hm
  have k1 := h1
  have lt2 : ∀ x ∈ p2, x.block < W.heap.size := by obtain ⟨m, hm⟩ := h2; exact DataW.trod_lt m _ _ _ hm
  have k2 := h2
  have lt3 : ∀ x ∈ p3, x.block < W.heap.size := by obtain ⟨m, hm⟩ := h3; exact DataW.trod_lt m _ _ _ hm
  have k3 := h3
  obtain ⟨A0, n0, c0, T0, rfl, hT0⟩ := tree_open (hval 0 _ v0 rfl rfl) h0
  obtain ⟨a1, rfl, rfl, rfl, w1⟩ := open_int Try.underlying3 (hval 1 _ v1 rfl rfl) h1
  obtain ⟨a2, rfl, rfl, rfl, w2⟩ := Go.ChangeMaps.open_string Try.underlying9 (hval 2 _ v2 rfl rfl) h2
  have w2' : a2.size ≤ 9223372036854775807 := by unfold maxLen at w2; omega
  obtain ⟨a3, rfl, rfl, rfl, w3⟩ := Go.ChangeMaps.open_string Try.underlying9 (hval 3 _ v3 rfl rfl) h3
  have w3' : a3.size ≤ 9223372036854775807 := by unfold maxLen at w3; omega
  clear hA0 hval0
  refine (walk A0 n0 c0 T0 a1 a2 a3 W hT0  w2' w3').mono fun e W' ⟨he, bel⟩ => ?_
  subst he
  exact ⟨_, rfl, _, _, _, [], _, [], hW', trodAll_mk1 (shut_bool Try.underlying4 _), (trodAll_cons_mk (Below.trod laidOut (by kernel_rfl) (of_decide_eq_true (by kernel_rfl)) k0 bel lt0) (trodAll_cons_mk (Below.trod laidOut (by kernel_rfl) (of_decide_eq_true (by kernel_rfl)) k1 bel lt1) (trodAll_cons_mk (Below.trod laidOut (by kernel_rfl) (of_decide_eq_true (by kernel_rfl)) k2 bel lt2) (trodAll_cons_mk (Below.trod laidOut (by kernel_rfl) (of_decide_eq_true (by kernel_rfl)) k3 bel lt3) trodAll_mk0)))), rfl, bel.frame _, fun h => by cases h⟩

theorem proved : Rows.AttrsWordsSaid :=
  OpenClaim.holds_of_wide 3 Try.f3 rfl rfl rfl rfl rfl rfl rfl ⟨rfl, rfl, rfl, rfl, rfl⟩ rfl rfl rfl rfl rfl (by kernel_rfl) Try.func3 (by kernel_rfl)
    (of_decide_eq_true (by kernel_rfl)) (by unfold Func.isWrapper; first | (rw [if_pos (by decide +kernel)]; kernel_rfl) | (rw [if_neg (by decide +kernel)]; exact ⟨rfl, rfl⟩))
    (fun os started H enc _ => lifted os started H enc)
#print axioms proved
end Go.Proofs.Ytfiiikbbiimdiaa.attrsWords
