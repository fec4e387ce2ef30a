/- For every tree and every number, Is, Href, Relevant and All answer as the reference does, unless the tree is greater than the statement considers. No condition. -/
import Derived.Test.YtfiiikbbiimdiaaOpen
import Derived.Test.YtfiiikbbiimdiaaAg
namespace Go.Proofs.Ytfiiikbbiimdiaa.linkFinds
open Go.ChangeShapes Go.WideShapes Go.ChangeAt Go.RowKit

set_option maxRecDepth 100000 in
set_option maxHeartbeats 1000000 in
theorem walk (A : Option Addr) (n c : Nat) (T : List ANode) (i : Int) (w : World) (h : IsTree w A n T) :
    Calls Try.prog 5 #[.agg #[.slice A n c], .int .i64 i] w fun e w' => e = .returned (.bool true) ∧ Below w.heap.size w w' := by
  have hT := hide h
  have hl := h.1
  clear h
  have hB0 := below_alloc (Below.refl w.heap.size w) (.cells #[.slice A n c] 24)
  have hbox0 : (w.alloc (.cells #[.slice A n c] 24)).cell? ⟨w.heap.size, 0, none⟩ = some (.slice A n c) := by go_simp
  cases hs : smallTB T
  · go_enter Try.func5, Try.ntmps5
    go_wp2_with fail
    refine (great_ok _ _ _ T _ (hT.out.below hB0)).mono ?_
    rintro e w1 ⟨rfl, hb1⟩
    have hbox1 := cell_later hb1 hbox0
    have hB1 := Below.on hB0 hb1
    go_wp2
    go_ret
    exact ⟨rfl, hB1⟩
  · go_enter Try.func5, Try.ntmps5
    go_wp2_with fail
    refine (great_ok _ _ _ T _ (hT.out.below hB0)).mono ?_
    rintro e w1 ⟨rfl, hb1⟩
    have hbox1 := cell_later hb1 hbox0
    have hB1 := Below.on hB0 hb1
    go_wp2_with fail
    refine (linkIs_ok _ _ _ T _ _ (hT.out.below hB1)).mono ?_
    rintro e w2 ⟨rfl, hb2⟩
    have hbox2 := cell_later hb2 hbox1
    have hB2 := Below.on hB1 hb2
    go_wp2_with fail
    refine (rlinkIs_ok _ _ _ T _ _ (hT.out.below hB2)).mono ?_
    rintro e w3 ⟨rfl, hb3⟩
    have hbox3 := cell_later hb3 hbox2
    have hB3 := Below.on hB2 hb3
    go_wp2_with fail
    refine (linkHref_ok _ _ _ T _ _ (hT.out.below hB3)).mono ?_
    rintro e w4 ⟨rfl, hb4⟩
    have hbox4 := cell_later hb4 hbox3
    have hB4 := Below.on hB3 hb4
    go_wp2_with fail
    refine (rlinkHref_ok _ _ _ T _ _ (hT.out.below hB4)).mono ?_
    rintro e w5 ⟨rfl, hb5⟩
    have hbox5 := cell_later hb5 hbox4
    have hB5 := Below.on hB4 hb5
    go_wp2_with fail
    refine (linkRel_ok _ _ _ T _ _ (hT.out.below hB5)).mono ?_
    rintro e w6 ⟨rfl, hb6⟩
    have hbox6 := cell_later hb6 hbox5
    have hB6 := Below.on hB5 hb6
    go_wp2_with fail
    refine (rlinkRel_ok _ _ _ T _ _ (hT.out.below hB6)).mono ?_
    rintro e w7 ⟨rfl, hb7⟩
    have hbox7 := cell_later hb7 hbox6
    have hB7 := Below.on hB6 hb7
    go_wp2_with fail
    refine (linkAll_ok _ _ _ T _ _ (hT.out.below hB7)).mono ?_
    rintro e w8 ⟨A8, c8, rfl, hI8, hb8⟩
    have hbox8 := cell_later hb8 hbox7
    have hB8 := Below.on hB7 hb8
    have hI8' := hide hI8
    clear hI8
    go_wp2_with fail
    refine (rlinkAll_ok _ _ _ T _ _ (hT.out.below hB8)).mono ?_
    rintro e w9 ⟨A9, c9, rfl, hI9, hb9⟩
    have hB9 := Below.on hB8 hb9
    have hI9' := hide hI9
    clear hI9
    go_wp2_with fail
    refine (sameInts_yes _ _ _ _ _ _ (linksE T i) _ (hI8'.out.below hb9) hI9'.out).mono ?_
    rintro e w10 ⟨rfl, hb10⟩
    go_wp2
    go_ret
    exact ⟨rfl, Below.on hB9 hb10⟩

set_option maxRecDepth 100000 in
theorem lifted (os : Os) (started : os.Started) (H : Type) (enc : TypeId × Value → H) :
    ReturnsInHanded {} Try.checked os 5 .any (Rows.linkFindsSpec.pre6 enc Try.prog Try.f5 Rows.linkFindsRow.domain false) (Rows.linkFindsSpec.post enc Try.prog Try.f5 false true false false) := by
  refine returnsInHanded_of_change (C := Try.checked) own started (by kernel_rfl) Try.func5
    (ChangeSpec.witness6 (enc := enc) (C := Try.checked) false ⟨#[], #[.agg #[.slice none 0 0], .int .i64 0], []⟩ 8 (by kernel_rfl) (by kernel_rfl) (by kernel_rfl) (by kernel_rfl)) ?_
  intro W base args ds gs before hval0 hW hcnd _
  have hval : ∀ (j : Nat) t v, Try.f5.params[j]? = some t → args[j]? = some v → Value.okWide Try.prog W .any base t v := hval0
  have hW' := hW
  obtain ⟨p, q, hA0, hV, rfl, hfz, hnd⟩ := hW
  have hA : DataW.TrodAll enc Try.prog W 0 (fun _ => true) true Try.f5.params.toList args.toList ds p := hA0
  rw [Try.params5] at hA hval
  obtain ⟨v0, vs0, d0, ds0, p0, q0, hargs, rfl, rfl, h0, r0⟩ := trodAll_cons hA
  obtain ⟨v1, vs1, d1, ds1, p1, q1, rfl, rfl, rfl, h1, r1⟩ := trodAll_cons r0
  obtain ⟨rfl, rfl, rfl⟩ := trodAll_nil r1
  obtain rfl : args = #[v0, v1] := by cases args; simp_all
  obtain ⟨rfl, rfl⟩ := trodVars_none hV
  have lt0 : ∀ x ∈ p0, x.block < W.heap.size := by obtain ⟨m, hm⟩ := h0; exact DataW.trod_lt m _ _ _ hm
  have k0 := h0
  have lt1 : ∀ x ∈ p1, x.block < W.heap.size := by obtain ⟨m, hm⟩ := h1; exact DataW.trod_lt m _ _ _ hm
  have k1 := h1
  obtain ⟨A0, n0, c0, T0, rfl, hT0⟩ := tree_open (hval 0 _ v0 rfl rfl) h0
  obtain ⟨a1, rfl, rfl, rfl, w1⟩ := open_int Try.underlying3 (hval 1 _ v1 rfl rfl) h1
  clear hA0 hval0
  refine (walk A0 n0 c0 T0 a1 W hT0 ).mono fun e W' ⟨he, bel⟩ => ?_
  subst he
  exact ⟨_, rfl, _, _, _, [], _, [], hW', trodAll_mk1 (shut_bool Try.underlying4 _), (trodAll_cons_mk (Below.trod laidOut (by kernel_rfl) (of_decide_eq_true (by kernel_rfl)) k0 bel lt0) (trodAll_cons_mk (Below.trod laidOut (by kernel_rfl) (of_decide_eq_true (by kernel_rfl)) k1 bel lt1) trodAll_mk0)), rfl, bel.frame _, fun h => by cases h⟩

theorem proved : Rows.LinkFindsSaid :=
  OpenClaim.holds_of_wide 5 Try.f5 rfl rfl rfl rfl rfl rfl rfl ⟨rfl, rfl, rfl, rfl, rfl⟩ rfl rfl rfl rfl rfl (by kernel_rfl) Try.func5 (by kernel_rfl)
    (of_decide_eq_true (by kernel_rfl)) (by unfold Func.isWrapper; first | (rw [if_pos (by decide +kernel)]; kernel_rfl) | (rw [if_neg (by decide +kernel)]; exact ⟨rfl, rfl⟩))
    (fun os started H enc _ => lifted os started H enc)
#print axioms proved
end Go.Proofs.Ytfiiikbbiimdiaa.linkFinds
