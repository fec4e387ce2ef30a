/- For every tree, every number and every text: an attribute that was unset isn't there, and setting it again gives back the tree; for a valid tree. No condition. -/
import Derived.Test.YtfiiikbbiimdiaaOpen
import Derived.Test.YtfiiikbbiimdiaaPla
import Derived.Test.YtfiiikbbiimdiaaFh
import Derived.Test.YtfiiikbbiimdiaaWl
namespace Go.Proofs.Ytfiiikbbiimdiaa.attrsBack
open Go.ChangeShapes Go.WideShapes Go.ChangeAt Go.RowKit

set_option maxRecDepth 100000 in
set_option maxHeartbeats 4000000 in
theorem walk (A : Option Addr) (n c : Nat) (T : List ANode) (i : Int) (s : ByteArray) (w : World) (h : IsTree w A n T) (hs : s.size ≤ 9223372036854775807) :
    Calls Try.prog 13 #[.agg #[.slice A n c], .int .i64 i, .string s] w fun e w' => e = .returned (.bool true) ∧ Below w.heap.size w w' := by
  have hT := hide h
  have hl := h.1
  clear h
  have hB0 := below_alloc (Below.refl w.heap.size w) (.cells #[.slice A n c] 24)
  have hbox0 : (w.alloc (.cells #[.slice A n c] 24)).cell? ⟨w.heap.size, 0, none⟩ = some (.slice A n c) := by go_simp
  by_cases h0 : askI T [i] = 0
  · obtain ⟨hg, hir⟩ := askI_zero.1 h0
    have hir := hir i (by simp)
    obtain ⟨k, rfl⟩ := Int.eq_ofNat_of_zero_le hir.1
    have hkT : k < T.length := by omega
    have hq0 : (askI T [(k : Int)] != 0) = false := by simp [h0]
    cases hh : hasA (atl T k) s
    · have hE : getE T k s = 6 := by unfold getE; rw [if_pos h0, Int.toNat_natCast, hh]; rfl
      have ht : unsT T k s = [] := by unfold unsT; rw [hE]; rfl
      have hE' := hide hE
      have ht' := hide ht
      clear hE ht hh h0 hg hir
      go_enter Try.func13, Try.ntmps13
      go_wp2_with fail
      refine (alive14_ok _).mono ?_
      rintro e w1 ⟨rfl, hb1⟩
      have hbox1 := cell_later hb1 hbox0
      have hB1 := Below.on hB0 hb1
      go_wp2_with fail
      refine (rasked_ok _ _ _ T _ _ (hT.out.below hB1)).mono ?_
      rintro e w2 ⟨rfl, hb2⟩
      have hbox2 := cell_later hb2 hbox1
      have hB2 := Below.on hB1 hb2
      go_wp2_with fail
      have hx := get_ok _ _ c T k s _ (hT.out.below hB2)
      rw [hE'.out] at hx
      refine hx.mono ?_
      clear hx
      rintro e w3 ⟨rfl, hb3⟩
      have hbox3 := cell_later hb3 hbox2
      have hB3 := Below.on hB2 hb3
      go_wp2_with fail
      have hx := auns_ok _ _ c T k s _ (hT.out.below hB3)
      rw [hE'.out, ht'.out] at hx
      refine hx.mono ?_
      clear hx
      rintro e w4 ⟨A4, c4, rfl, -, -, hb4⟩
      have hB4 := Below.on hB3 hb4
      go_wp2
      go_ret
      exact ⟨rfl, below_alloc hB4 _⟩
    · have hE : getE T k s = 0 := by unfold getE; rw [if_pos h0, Int.toNat_natCast, hh]; rfl
      have hV : getV T k s = vl (atl T k) (lowA (atl T k) s) := by unfold getV; rw [if_pos hE, Int.toNat_natCast]
      have hU : unsT T k s = setA T k ((atl T k).take (lowA (atl T k) s) ++ (atl T k).drop (lowA (atl T k) s + 1)) := by unfold unsT; rw [if_pos hE, Int.toNat_natCast]
      obtain ⟨u1, u2, u3, u4, u5, u6⟩ := uns_facts (good_atl hg hkT) hh
      obtain ⟨l1, hl1⟩ : ∃ l1, l1 = (atl T k).take (lowA (atl T k) s) ++ (atl T k).drop (lowA (atl T k) s + 1) := ⟨_, rfl⟩
      rw [← hl1] at hU u1 u2 u3 u6
      obtain ⟨v0, hv0⟩ : ∃ v0, v0 = vl (atl T k) (lowA (atl T k) s) := ⟨_, rfl⟩
      rw [← hv0] at hV u5 u6
      have hask1 : askI (setA T k l1) [(k : Int)] = 0 := by rw [askI_setA hg hkT u1]; exact h0
      have hatl1 : atl (setA T k l1) k = l1 := by rw [atl_setA hkT, if_pos rfl]
      have hE1 : getE (setA T k l1) k s = 6 := by unfold getE; rw [if_pos hask1, Int.toNat_natCast, hatl1, u2]; rfl
      have hS1 : setE (setA T k l1) k s v0 = 0 := by unfold setE; rw [if_pos hask1, if_pos u4, if_neg (by omega), if_neg]; rw [Int.toNat_natCast, hatl1]; omega
      have hT1 : setT (setA T k l1) k s v0 = T := by
        unfold setT
        rw [if_pos hS1, Int.toNat_natCast, setA_setA hkT, hatl1, u6, setA_self hkT]
      have hlen : (setA T k l1).length = n := by rw [setA_len]; exact hl
      generalize setA T k l1 = T1 at hU hask1 hE1 hS1 hT1 hlen
      have hE' := hide hE
      have hV' := hide hV
      have hU' := hide hU
      have hE1' := hide hE1
      have hS1' := hide hS1
      have hT1' := hide hT1
      have hlen' := hide hlen
      have hl' := hide hl
      have hv5 : v0.size ≤ 9223372036854775807 := by omega
      clear hE hV hU u1 u2 u3 u4 u5 u6 hl1 hv0 hask1 hatl1 hE1 hS1 hT1 hlen hh h0 hg hir hl hkT
      go_enter Try.func13, Try.ntmps13
      go_wp2_with fail
      refine (alive14_ok _).mono ?_
      rintro e w1 ⟨rfl, hb1⟩
      have hbox1 := cell_later hb1 hbox0
      have hB1 := Below.on hB0 hb1
      go_wp2_with fail
      refine (rasked_ok _ _ _ T _ _ (hT.out.below hB1)).mono ?_
      rintro e w2 ⟨rfl, hb2⟩
      have hbox2 := cell_later hb2 hbox1
      have hB2 := Below.on hB1 hb2
      go_wp2_with fail
      have hx := get_ok _ _ c T k s _ (hT.out.below hB2)
      rw [hE'.out, hV'.out] at hx
      refine hx.mono ?_
      clear hx
      rintro e w3 ⟨rfl, hb3⟩
      have hbox3 := cell_later hb3 hbox2
      have hB3 := Below.on hB2 hb3
      go_wp2_with fail
      have hx := auns_ok _ _ c T k s _ (hT.out.below hB3)
      rw [hE'.out, hU'.out] at hx
      refine hx.mono ?_
      clear hx
      rintro e w4 ⟨A4, c4, rfl, -, hX, hb4⟩
      rw [hlen'.out] at hX ⊢
      have hbox4 := cell_later (below_alloc hb4 (.cells #[.slice A4 n c4] 24)) hbox3
      have hB4 := below_alloc (Below.on hB3 hb4) (.cells #[.slice A4 n c4] 24)
      have hX' := hide (hX.below (below_alloc (Below.refl _ _) (.cells #[.slice A4 n c4] 24)))
      clear hX
      have hy4 : (w4.alloc (.cells #[.slice A4 n c4] 24)).cell? ⟨w4.heap.size, 0, none⟩ = some (.slice A4 n c4) := by clear hbox4; go_simp
      go_wp2_with fail
      have hx := get_ok _ _ c4 T1 k s _ hX'.out
      rw [hE1'.out] at hx
      refine hx.mono ?_
      clear hx
      rintro e w5 ⟨rfl, hb5⟩
      have hbox5 := cell_later hb5 hbox4
      have hy5 := cell_later hb5 hy4
      have hB5 := Below.on hB4 hb5
      go_wp2_with fail
      have hx := aset_ok _ _ c4 T1 k s v0 _ (hX'.out.below hb5) hs hv5
      rw [hS1'.out, hT1'.out] at hx
      refine hx.mono ?_
      clear hx
      rintro e w6 ⟨A6, c6, rfl, -, hY, hb6⟩
      rw [hl'.out] at hY ⊢
      have hbox6 := cell_later (below_alloc hb6 (.cells #[.slice A6 n c6] 24)) hbox5
      have hB6 := below_alloc (Below.on hB5 hb6) (.cells #[.slice A6 n c6] 24)
      have hY' := hide (hY.below (below_alloc (Below.refl _ _) (.cells #[.slice A6 n c6] 24)))
      have hy6 : (w6.alloc (.cells #[.slice A6 n c6] 24)).cell? ⟨w6.heap.size, 0, none⟩ = some (.slice A6 n c6) := by clear hbox6; go_simp
      clear hY
      go_wp2_with fail
      refine (same_ok _ _ _ _ _ T _ hY'.out (hT.out.below hB6)).mono ?_
      rintro e w7 ⟨rfl, hb7⟩
      go_wp2
      go_ret
      exact ⟨rfl, Below.on hB6 hb7⟩
  · have hq0 : (askI T [i] != 0) = true := by simp [h0]
    clear h0
    go_enter Try.func13, Try.ntmps13
    go_wp2_with fail
    refine (alive14_ok _).mono ?_
    rintro e w1 ⟨rfl, hb1⟩
    have hbox1 := cell_later hb1 hbox0
    have hB1 := Below.on hB0 hb1
    go_wp2_with fail
    refine (rasked_ok _ _ _ T _ _ (hT.out.below hB1)).mono ?_
    rintro e w2 ⟨rfl, hb2⟩
    have hbox2 := cell_later hb2 hbox1
    have hB2 := Below.on hB1 hb2
    go_wp2
    go_ret
    exact ⟨rfl, hB2⟩

set_option maxRecDepth 100000 in
theorem lifted (os : Os) (started : os.Started) (H : Type) (enc : TypeId × Value → H) :
    ReturnsInHanded {} Try.checked os 13 .any (Rows.attrsBackSpec.pre6 enc Try.prog Try.f13 Rows.attrsBackRow.domain false) (Rows.attrsBackSpec.post enc Try.prog Try.f13 false true false false) := by
  refine returnsInHanded_of_change (C := Try.checked) own started (by kernel_rfl) Try.func13
    (ChangeSpec.witness6 (enc := enc) (C := Try.checked) false ⟨#[], #[.agg #[.slice none 0 0], .int .i64 0, .string .empty], []⟩ 8 (by kernel_rfl) (by kernel_rfl) (by kernel_rfl) (by kernel_rfl)) ?_
  intro W base args ds gs before hval0 hW hcnd _
  have hval : ∀ (j : Nat) t v, Try.f13.params[j]? = some t → args[j]? = some v → Value.okWide Try.prog W .any base t v := hval0
  have hW' := hW
  obtain ⟨p, q, hA0, hV, rfl, hfz, hnd⟩ := hW
  have hA : DataW.TrodAll enc Try.prog W 0 (fun _ => true) true Try.f13.params.toList args.toList ds p := hA0
  rw [Try.params13] at hA hval
  obtain ⟨v0, vs0, d0, ds0, p0, q0, hargs, rfl, rfl, h0, r0⟩ := trodAll_cons hA
  obtain ⟨v1, vs1, d1, ds1, p1, q1, rfl, rfl, rfl, h1, r1⟩ := trodAll_cons r0
  obtain ⟨v2, vs2, d2, ds2, p2, q2, rfl, rfl, rfl, h2, r2⟩ := trodAll_cons r1
  obtain ⟨rfl, rfl, rfl⟩ := trodAll_nil r2
  obtain rfl : args = #[v0, v1, v2] := by cases args; simp_all
  obtain ⟨rfl, rfl⟩ := trodVars_none hV
  have lt0 : ∀ x ∈ p0, x.block < W.heap.size := by obtain ⟨m, hm⟩ := h0; exact DataW.trod_lt m _ _ _ hm
  have k0 := h0
  have lt1 : ∀ x ∈ p1, x.block < W.heap.size := by obtain ⟨m, hm⟩ := h1; exact DataW.trod_lt m _ _ _ hm
  have k1 := h1
  have lt2 : ∀ x ∈ p2, x.block < W.heap.size := by obtain ⟨m, hm⟩ := h2; exact DataW.trod_lt m _ _ _ hm
  have k2 := h2
  obtain ⟨A0, n0, c0, T0, rfl, hT0⟩ := tree_open (hval 0 _ v0 rfl rfl) h0
  obtain ⟨a1, rfl, rfl, rfl, w1⟩ := open_int Try.underlying3 (hval 1 _ v1 rfl rfl) h1
  obtain ⟨a2, rfl, rfl, rfl, w2⟩ := Go.ChangeMaps.open_string Try.underlying9 (hval 2 _ v2 rfl rfl) h2
  have w2' : a2.size ≤ 9223372036854775807 := by unfold maxLen at w2; omega
  clear hA0 hval0
  refine (walk A0 n0 c0 T0 a1 a2 W hT0  w2').mono fun e W' ⟨he, bel⟩ => ?_
  subst he
  exact ⟨_, rfl, _, _, _, [], _, [], hW', trodAll_mk1 (shut_bool Try.underlying4 _), (trodAll_cons_mk (Below.trod laidOut (by kernel_rfl) (of_decide_eq_true (by kernel_rfl)) k0 bel lt0) (trodAll_cons_mk (Below.trod laidOut (by kernel_rfl) (of_decide_eq_true (by kernel_rfl)) k1 bel lt1) (trodAll_cons_mk (Below.trod laidOut (by kernel_rfl) (of_decide_eq_true (by kernel_rfl)) k2 bel lt2) trodAll_mk0))), rfl, bel.frame _, fun h => by cases h⟩

theorem proved : Rows.AttrsBackSaid :=
  OpenClaim.holds_of_wide 13 Try.f13 rfl rfl rfl rfl rfl rfl rfl ⟨rfl, rfl, rfl, rfl, rfl⟩ rfl rfl rfl rfl rfl (by kernel_rfl) Try.func13 (by kernel_rfl)
    (of_decide_eq_true (by kernel_rfl)) (by unfold Func.isWrapper; first | (rw [if_pos (by decide +kernel)]; kernel_rfl) | (rw [if_neg (by decide +kernel)]; exact ⟨rfl, rfl⟩))
    (fun os started H enc _ => lifted os started H enc)
#print axioms proved
end Go.Proofs.Ytfiiikbbiimdiaa.attrsBack
