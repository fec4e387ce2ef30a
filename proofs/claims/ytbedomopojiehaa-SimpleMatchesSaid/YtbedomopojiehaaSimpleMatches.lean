/- For every tree, number, simple selector and mode, Match and All answer as the reference does, unless the tree or the texts are greater than the statement considers. No condition. -/
import Derived.Test.YtbedomopojiehaaSt
import Derived.Test.YtbedomopojiehaaSz18
import Derived.Test.YtbedomopojiehaaSb
namespace Go.Proofs.Ytbedomopojiehaa.simpleMatches
open Go.ChangeShapes Go.WideShapes Go.ChangeAt Go.RowKit

theorem long_at (k : Int) (nm : ByteArray) (op : Int) (vl : ByteArray) (fo : Bool) (a b : Int) (f : Bool) (LA : Option Addr) (ln lc : Nat) (w : World) (v : Bool) (h : decide (500 < nm.size ∨ 500 < vl.size ∨ 100 < ln) = v) :
    Calls Try.prog 16 #[.agg #[.int .u8 k, .string nm, .int .u8 op, .string vl, .bool fo, .int .i64 a, .int .i64 b, .bool f, .slice LA ln lc]] w fun r w' => r = .returned (.bool v) ∧ Below w.heap.size w w' := by
  have := long_ok k nm op vl fo a b f LA ln lc w
  rw [h] at this
  exact this
set_option maxRecDepth 100000 in
set_option maxHeartbeats 2000000 in
theorem walk (A : Option Addr) (n c : Nat) (T : List ANode) (i : Int) (k : Int) (nm : ByteArray) (op : Int) (vl : ByteArray) (fo : Bool) (a b : Int) (f : Bool) (LA : Option Addr) (ln lc : Nat) (m : Int) (w : World) (h : IsTree w A n T) (_hk : 0 ≤ k ∧ k ≤ 255) (_ho : 0 ≤ op ∧ op ≤ 255) (hm0 : HasMax w) :
    Calls Try.prog 5 #[.agg #[.slice A n c], .int .i64 i, .agg #[.int .u8 k, .string nm, .int .u8 op, .string vl, .bool fo, .int .i64 a, .int .i64 b, .bool f, .slice LA ln lc], .int .i64 m] w fun r w' => r = .returned (.bool true) ∧ Below w.heap.size w w' := by
  have hT := hide h
  have hm := hide hm0
  have hB0 := below_alloc (below_alloc (Below.refl w.heap.size w) (.cells #[.slice A n c] 43)) (.cells #[.int .u8 k, .string nm, .int .u8 op, .string vl, .bool fo, .int .i64 a, .int .i64 b, .bool f, .slice LA ln lc] 26)
  have hbox0 : ((w.alloc (.cells #[.slice A n c] 43)).alloc (.cells #[.int .u8 k, .string nm, .int .u8 op, .string vl, .bool fo, .int .i64 a, .int .i64 b, .bool f, .slice LA ln lc] 26)).cell? ⟨w.heap.size, 0, none⟩ = some (.slice A n c) := by go_simp
  have hS0 := hide (simAt_at (w.alloc (.cells #[.slice A n c] 43)) (w.heap.size + 1) (by simp) k nm op vl fo a b f LA ln lc)
  clear h hm0
  cases hg0 : smallTB T
  · have hgr : Hid ((!smallTB T) = true) := by show _ = _; rw [hg0]; rfl
    clear hg0
    go_enter Try.func5, Try.ntmps5
    go_wp2_with fail
    have hx := great_ok _ _ c T _ (hT.out.below hB0)
    rw [hgr.out] at hx
    refine hx.mono ?_
    clear hx
    rintro e w1 ⟨rfl, hb1⟩
    obtain ⟨s0, s1, s2, s3, s4, s5, s6, s7, s8⟩ := hS0.out
    have hB1 := Below.on hB0 hb1
    have hbox1 := cell_later hb1 hbox0
    have hS1 := hide (hS0.out.later hb1)
    clear hb1 hbox0 s0 s1 s2 s3 s4 s5 s6 s7 s8
    go_wp2
    go_ret
    exact ⟨rfl, hB1⟩
  · have hgr : Hid ((!smallTB T) = false) := by show _ = _; rw [hg0]; rfl
    clear hg0
    obtain ⟨lg, hlg0⟩ : ∃ x, decide (500 < nm.size ∨ 500 < vl.size ∨ 100 < ln) = x := ⟨_, rfl⟩
    have hlg := hide hlg0
    clear hlg0
    cases lg
    · obtain ⟨V, hV0⟩ : ∃ x, smatV T i ⟨k, nm, op, vl, fo, a, b, f, LA, ln, lc⟩ m = x := ⟨_, rfl⟩
      obtain ⟨E, hE0⟩ : ∃ x, smatE T i ⟨k, nm, op, vl, fo, a, b, f, LA, ln, lc⟩ m = x := ⟨_, rfl⟩
      obtain ⟨XL, hX0⟩ : ∃ x, sallV T ⟨k, nm, op, vl, fo, a, b, f, LA, ln, lc⟩ m = x := ⟨_, rfl⟩
      obtain ⟨F, hF0⟩ : ∃ x, smE T ⟨k, nm, op, vl, fo, a, b, f, LA, ln, lc⟩ m = x := ⟨_, rfl⟩
      have h1 := hide (fun (W : World) (hW : IsTree W A n T) (hx : HasMax W) => sMatch_ok A n c T i k nm op vl fo a b f LA ln lc m W hW hx)
      have h2 := hide (fun (W : World) (hW : IsTree W A n T) => rsMatch_ok A n c T i k nm op vl fo a b f LA ln lc m W hW)
      have h3 := hide (fun (W : World) (hW : IsTree W A n T) (hx : HasMax W) => sAll_ok A n c T k nm op vl fo a b f LA ln lc m W hW hx)
      have h4 := hide (fun (W : World) (hW : IsTree W A n T) => rsAll_ok A n c T k nm op vl fo a b f LA ln lc m W hW)
      rw [hV0, hE0] at h1 h2
      rw [hX0, hF0] at h3 h4
      clear hV0 hE0 hX0 hF0
      go_enter Try.func5, Try.ntmps5
      go_wp2_with fail
      have hx := great_ok _ _ c T _ (hT.out.below hB0)
      rw [hgr.out] at hx
      refine hx.mono ?_
      clear hx
      rintro e w1 ⟨rfl, hb1⟩
      obtain ⟨s0, s1, s2, s3, s4, s5, s6, s7, s8⟩ := hS0.out
      have hB1 := Below.on hB0 hb1
      have hbox1 := cell_later hb1 hbox0
      have hS1 := hide (hS0.out.later hb1)
      clear hb1 hbox0 s0 s1 s2 s3 s4 s5 s6 s7 s8
      obtain ⟨s0, s1, s2, s3, s4, s5, s6, s7, s8⟩ := hS1.out
      go_wp2_with fail
      refine (long_at k nm op vl fo a b f LA ln lc _ false hlg.out).mono ?_
      rintro e w2 ⟨rfl, hb2⟩
      have hB2 := Below.on hB1 hb2
      have hbox2 := cell_later hb2 hbox1
      have hS2 := hide (hS1.out.later hb2)
      clear hb2 hbox1 s0 s1 s2 s3 s4 s5 s6 s7 s8
      obtain ⟨s0, s1, s2, s3, s4, s5, s6, s7, s8⟩ := hS2.out
      go_wp2_with fail
      refine (h1.out _ (hT.out.below hB2) (hm.out.below hB2)).mono ?_
      rintro e w3 ⟨rfl, hb3⟩
      have hB3 := Below.on hB2 hb3
      have hbox3 := cell_later hb3 hbox2
      have hS3 := hide (hS2.out.later hb3)
      clear hb3 hbox2 s0 s1 s2 s3 s4 s5 s6 s7 s8
      obtain ⟨s0, s1, s2, s3, s4, s5, s6, s7, s8⟩ := hS3.out
      go_wp2_with fail
      refine (h2.out _ (hT.out.below hB3)).mono ?_
      rintro e w4 ⟨rfl, hb4⟩
      have hB4 := Below.on hB3 hb4
      have hbox4 := cell_later hb4 hbox3
      have hS4 := hide (hS3.out.later hb4)
      clear hb4 hbox3 s0 s1 s2 s3 s4 s5 s6 s7 s8
      obtain ⟨s0, s1, s2, s3, s4, s5, s6, s7, s8⟩ := hS4.out
      go_wp2_with fail
      refine (h3.out _ (hT.out.below hB4) (hm.out.below hB4)).mono ?_
      rintro e w5 ⟨A5, c5, rfl, hI5, -, -, hb5⟩
      have hJ5 := hide hI5
      clear hI5
      have hB5 := Below.on hB4 hb5
      have hbox5 := cell_later hb5 hbox4
      have hS5 := hide (hS4.out.later hb5)
      clear hb5 hbox4 s0 s1 s2 s3 s4 s5 s6 s7 s8
      obtain ⟨s0, s1, s2, s3, s4, s5, s6, s7, s8⟩ := hS5.out
      go_wp2_with fail
      refine (h4.out _ (hT.out.below hB5)).mono ?_
      rintro e w6 ⟨A6, c6, rfl, hI6, -, -, hb6⟩
      have hJ6 := hide (hJ5.out.below hb6)
      have hK6 := hide hI6
      clear hI6 hJ5
      have hB6 := Below.on hB5 hb6
      have hbox6 := cell_later hb6 hbox5
      have hS6 := hide (hS5.out.later hb6)
      clear hb6 hbox5 s0 s1 s2 s3 s4 s5 s6 s7 s8
      go_wp2_with fail
      refine (sameBools_yes _ _ _ _ c5 c6 XL _ hJ6.out hK6.out).mono ?_
      rintro e w7 ⟨rfl, hb7⟩
      have hB7 := Below.on hB6 hb7
      go_wp2
      go_ret
      exact ⟨rfl, hB7⟩
    · go_enter Try.func5, Try.ntmps5
      go_wp2_with fail
      have hx := great_ok _ _ c T _ (hT.out.below hB0)
      rw [hgr.out] at hx
      refine hx.mono ?_
      clear hx
      rintro e w1 ⟨rfl, hb1⟩
      obtain ⟨s0, s1, s2, s3, s4, s5, s6, s7, s8⟩ := hS0.out
      have hB1 := Below.on hB0 hb1
      have hbox1 := cell_later hb1 hbox0
      have hS1 := hide (hS0.out.later hb1)
      clear hb1 hbox0 s0 s1 s2 s3 s4 s5 s6 s7 s8
      obtain ⟨s0, s1, s2, s3, s4, s5, s6, s7, s8⟩ := hS1.out
      go_wp2_with fail
      refine (long_at k nm op vl fo a b f LA ln lc _ true hlg.out).mono ?_
      rintro e w2 ⟨rfl, hb2⟩
      have hB2 := Below.on hB1 hb2
      have hbox2 := cell_later hb2 hbox1
      have hS2 := hide (hS1.out.later hb2)
      clear hb2 hbox1 s0 s1 s2 s3 s4 s5 s6 s7 s8
      go_wp2
      go_ret
      exact ⟨rfl, hB2⟩

set_option maxRecDepth 100000 in
theorem lifted (os : Os) (started : os.Started) (H : Type) (enc : TypeId × Value → H) :
    ReturnsInHanded {} Try.checked os 5 .any (Rows.simpleMatchesSpec.pre6 enc Try.prog Try.f5 Rows.simpleMatchesRow.domain false) (Rows.simpleMatchesSpec.post enc Try.prog Try.f5 false true false false) := by
  refine returnsInHanded_of_change_shaped (C := Try.checked) own started (by kernel_rfl) Try.func5
    (ChangeSpec.witness6 (enc := enc) (C := Try.checked) false ⟨#[], #[.agg #[.slice none 0 0], .int .i64 0, .agg #[.int .u8 0, .string .empty, .int .u8 0, .string .empty, .bool false, .int .i64 0, .int .i64 0, .bool false, .slice none 0 0], .int .i64 0], []⟩ 8 (by kernel_rfl) (by kernel_rfl) (by kernel_rfl) (by kernel_rfl)) ?_
  intro W base args ds gs before hval0 hW hcnd hsz hsh _
  have hval : ∀ (j : Nat) t v, Try.f5.params[j]? = some t → args[j]? = some v → Value.okWide Try.prog W .any base t v := hval0
  have hW' := hW
  obtain ⟨p, q, hA0, hV, rfl, hfz, hnd⟩ := hW
  have hA : DataW.TrodAll enc Try.prog W 0 (fun _ => true) true Try.f5.params.toList args.toList ds p := hA0
  rw [Try.params5] at hA hval hsz
  obtain ⟨v0, vs0, d0, ds0, p0, q0, hargs, rfl, rfl, h0, r0⟩ := trodAll_cons hA
  obtain ⟨v1, vs1, d1, ds1, p1, q1, rfl, rfl, rfl, h1, r1⟩ := trodAll_cons r0
  obtain ⟨v2, vs2, d2, ds2, p2, q2, rfl, rfl, rfl, h2, r2⟩ := trodAll_cons r1
  obtain ⟨v3, vs3, d3, ds3, p3, q3, rfl, rfl, rfl, h3, r3⟩ := trodAll_cons r2
  obtain ⟨rfl, rfl, rfl⟩ := trodAll_nil r3
  obtain rfl : args = #[v0, v1, v2, v3] := by cases args; simp_all
  obtain ⟨rfl, rfl⟩ := trodVars_none hV
  have lt0 : ∀ x ∈ p0, x.block < W.heap.size := by obtain ⟨m, hm⟩ := h0; exact DataW.trod_lt m _ _ _ hm
  have k0 := h0
  have lt1 : ∀ x ∈ p1, x.block < W.heap.size := by obtain ⟨m, hm⟩ := h1; exact DataW.trod_lt m _ _ _ hm
  have k1 := h1
  have lt2 : ∀ x ∈ p2, x.block < W.heap.size := by obtain ⟨m, hm⟩ := h2; exact DataW.trod_lt m _ _ _ hm
  have k2 := h2
  have lt3 : ∀ x ∈ p3, x.block < W.heap.size := by obtain ⟨m, hm⟩ := h3; exact DataW.trod_lt m _ _ _ hm
  have k3 := h3
  obtain ⟨A0, n0, c0, T0, rfl, hT0⟩ := tree_open (hval 0 _ v0 rfl rfl) h0
  obtain ⟨a1, rfl, rfl, rfl, w1⟩ := open_int Try.underlying3 (hval 1 _ v1 rfl rfl) h1
  obtain ⟨s2, hs2, hs2a, hs2b, hs2c, hs2d⟩ := sim_open (hval 2 _ v2 rfl rfl) h2
  obtain ⟨sk2, sn2, so2, sv2, sf2, sa2, sb2, sg2, sl2, sm2, sc2⟩ := s2
  obtain rfl : v2 = .agg #[.int .u8 sk2, .string sn2, .int .u8 so2, .string sv2, .bool sf2, .int .i64 sa2, .int .i64 sb2, .bool sg2, .slice sl2 sm2 sc2] := hs2
  obtain ⟨a3, rfl, rfl, rfl, w3⟩ := open_int Try.underlying3 (hval 3 _ v3 rfl rfl) h3
  clear hA0 hval0
  refine (walk A0 n0 c0 T0 a1 sk2 sn2 so2 sv2 sf2 sa2 sb2 sg2 sl2 sm2 sc2 a3 W hT0  hs2a hs2b  (hasMax_of hsh)).mono fun e W' ⟨he, bel⟩ => ?_
  subst he
  exact ⟨_, rfl, _, _, _, [], _, [], hW', trodAll_mk1 (shut_bool Try.underlying4 _), (trodAll_cons_mk (Below.trod laidOut (by kernel_rfl) (of_decide_eq_true (by kernel_rfl)) k0 bel lt0) (trodAll_cons_mk (Below.trod laidOut (by kernel_rfl) (of_decide_eq_true (by kernel_rfl)) k1 bel lt1) (trodAll_cons_mk (Below.trod laidOut (by kernel_rfl) (of_decide_eq_true (by kernel_rfl)) k2 bel lt2) (trodAll_cons_mk (Below.trod laidOut (by kernel_rfl) (of_decide_eq_true (by kernel_rfl)) k3 bel lt3) trodAll_mk0)))), rfl, bel.frame _, fun h => by cases h⟩

theorem proved : Rows.SimpleMatchesSaid :=
  OpenClaim.holds_of_wide 5 Try.f5 rfl rfl rfl rfl rfl rfl rfl ⟨rfl, rfl, rfl, rfl, rfl⟩ rfl rfl rfl rfl rfl (by kernel_rfl) Try.func5 (by kernel_rfl)
    (of_decide_eq_true (by kernel_rfl)) (by unfold Func.isWrapper; first | (rw [if_pos (by decide +kernel)]; kernel_rfl) | (rw [if_neg (by decide +kernel)]; exact ⟨rfl, rfl⟩))
    (fun os started H enc _ => lifted os started H enc)
#print axioms proved
end Go.Proofs.Ytbedomopojiehaa.simpleMatches
