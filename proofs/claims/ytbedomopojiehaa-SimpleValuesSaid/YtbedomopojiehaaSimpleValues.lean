/- For every simple selector and value, Check and Value answer as the reference does, unless the texts are longer than the statement considers. No condition. -/
import Derived.Test.YtbedomopojiehaaSt
import Derived.Deep.RegionHeld3
namespace Go.Proofs.Ytbedomopojiehaa.simpleValues
open Go.ChangeShapes Go.WideShapes Go.ChangeAt Go.RowKit

theorem long_at (k : Int) (nm : ByteArray) (op : Int) (vl : ByteArray) (fo : Bool) (a b : Int) (f : Bool) (LA : Option Addr) (ln lc : Nat) (w : World) (v : Bool) (h : decide (500 < nm.size ∨ 500 < vl.size ∨ 100 < ln) = v) :
    Calls Try.prog 16 #[.agg #[.int .u8 k, .string nm, .int .u8 op, .string vl, .bool fo, .int .i64 a, .int .i64 b, .bool f, .slice LA ln lc]] w fun r w' => r = .returned (.bool v) ∧ Below w.heap.size w w' := by
  have := long_ok k nm op vl fo a b f LA ln lc w
  rw [h] at this
  exact this
set_option maxRecDepth 100000 in
set_option maxHeartbeats 2000000 in
theorem walk (k : Int) (nm : ByteArray) (op : Int) (vl : ByteArray) (fo : Bool) (a b : Int) (f : Bool) (LA : Option Addr) (ln lc : Nat) (v : ByteArray) (w : World) (hk : 0 ≤ k ∧ k ≤ 255) (ho : 0 ≤ op ∧ op ≤ 255) (hvz : v.size ≤ 9223372036854775807) (hm0 : HasMax w) :
    Calls Try.prog 3 #[.agg #[.int .u8 k, .string nm, .int .u8 op, .string vl, .bool fo, .int .i64 a, .int .i64 b, .bool f, .slice LA ln lc], .string v] w fun r w' => r = .returned (.bool true) ∧ Below w.heap.size w w' := by
  have hm := hide hm0
  have hB0 := below_alloc (Below.refl w.heap.size w) (.cells #[.int .u8 k, .string nm, .int .u8 op, .string vl, .bool fo, .int .i64 a, .int .i64 b, .bool f, .slice LA ln lc] 26)
  have hS0 := hide (simAt_new w k nm op vl fo a b f LA ln lc)
  obtain ⟨lg, hlg0⟩ : ∃ x, decide (500 < nm.size ∨ 500 < vl.size ∨ 100 < ln) = x := ⟨_, rfl⟩
  have hlg := hide hlg0
  clear hm0 hlg0 hk ho
  cases lg
  · by_cases hv : v.size ≤ 500
    · have hvv : decide (500 < (v.size : Int)) = false := by rw [decide_eq_false_iff_not]; omega
      go_enter Try.func3, Try.ntmps3
      go_wp2_with fail
      refine (long_at k nm op vl fo a b f LA ln lc _ _ hlg.out).mono ?_
      rintro e w1 ⟨rfl, hb1⟩
      have hB1 := Below.on hB0 hb1
      obtain ⟨s0, s1, s2, s3, s4, s5, s6, s7, s8⟩ := hS0.out.later hb1
      have hS1 := hide (hS0.out.later hb1)
      clear hb1 hS0
      go_wp2_with fail
      refine (value_ok k nm op vl fo a b f LA ln lc v _ (hm.out.below hB1)).mono ?_
      rintro e w2 ⟨rfl, hb2⟩
      have hB2 := Below.on hB1 hb2
      clear s0 s1 s2 s3 s4 s5 s6 s7 s8
      obtain ⟨s0, s1, s2, s3, s4, s5, s6, s7, s8⟩ := hS1.out.later hb2
      have hS2 := hide (hS1.out.later hb2)
      clear hb2 hS1
      go_wp2_with fail
      refine (rvalue_ok k nm op vl fo a b f LA ln lc v _).mono ?_
      rintro e w3 ⟨rfl, hb3⟩
      have hB3 := Below.on hB2 hb3
      clear s0 s1 s2 s3 s4 s5 s6 s7 s8
      obtain ⟨s0, s1, s2, s3, s4, s5, s6, s7, s8⟩ := hS2.out.later hb3
      have hS3 := hide (hS2.out.later hb3)
      clear hb3 hS2
      obtain ⟨c0, hc0⟩ : ∃ x, chkS ⟨k, nm, op, vl, fo, a, b, f, LA, ln, lc⟩ = x := ⟨_, rfl⟩
      have hkc := hide (fun W => scheck_ok_at k nm op vl fo a b f LA ln lc W c0 hc0)
      have hkr := hide (fun W => rscheck_ok_at k nm op vl fo a b f LA ln lc W c0 hc0)
      clear hc0
      generalize valV ⟨k, nm, op, vl, fo, a, b, f, LA, ln, lc⟩ v = x1
      generalize valE ⟨k, nm, op, vl, fo, a, b, f, LA, ln, lc⟩ v = x2
      go_wp2
      go_region_held3 (fun X => X.cell? ⟨w.heap.size, 0, none⟩ = some (.int .u8 k) ∧ X.cell? ⟨w.heap.size, 1, none⟩ = some (.string nm) ∧ X.cell? ⟨w.heap.size, 2, none⟩ = some (.int .u8 op) ∧ X.cell? ⟨w.heap.size, 3, none⟩ = some (.string vl) ∧ X.cell? ⟨w.heap.size, 4, none⟩ = some (.bool fo) ∧ X.cell? ⟨w.heap.size, 5, none⟩ = some (.int .i64 a) ∧ X.cell? ⟨w.heap.size, 6, none⟩ = some (.int .i64 b) ∧ X.cell? ⟨w.heap.size, 7, none⟩ = some (.bool f) ∧ X.cell? ⟨w.heap.size, 8, none⟩ = some (.slice LA ln lc)) (first | exact ⟨s0, s1, s2, s3, s4, s5, s6, s7, s8⟩ | exact ⟨t0, t1, t2, t3, t4, t5, t6, t7, t8⟩ | exact ⟨r0, r1, r2, r3, r4, r5, r6, r7, r8⟩) (first
        | (go_at_call 19; (with_reducible refine (hkc.out _).mono ?_); rintro e u1 ⟨rfl, hu1⟩; have t0 := cell_later hu1 s0; have t1 := cell_later hu1 s1; have t2 := cell_later hu1 s2; have t3 := cell_later hu1 s3; have t4 := cell_later hu1 s4; have t5 := cell_later hu1 s5; have t6 := cell_later hu1 s6; have t7 := cell_later hu1 s7; have t8 := cell_later hu1 s8)
        | (go_at_call 20; (with_reducible refine (hkr.out _).mono ?_); rintro e u2 ⟨rfl, hu2⟩; have r0 := cell_later hu2 t0; have r1 := cell_later hu2 t1; have r2 := cell_later hu2 t2; have r3 := cell_later hu2 t3; have r4 := cell_later hu2 t4; have r5 := cell_later hu2 t5; have r6 := cell_later hu2 t6; have r7 := cell_later hu2 t7; have r8 := cell_later hu2 t8))
      go_wp2
      go_ret
      exact ⟨rfl, Below.on (Below.on hB3.drew hu1) hu2⟩
    · have hvv : decide (500 < (v.size : Int)) = true := by rw [decide_eq_true_eq]; omega
      go_enter Try.func3, Try.ntmps3
      go_wp2_with fail
      refine (long_at k nm op vl fo a b f LA ln lc _ _ hlg.out).mono ?_
      rintro e w1 ⟨rfl, hb1⟩
      have hB1 := Below.on hB0 hb1
      go_wp2
      go_ret
      exact ⟨rfl, hB1⟩
  · go_enter Try.func3, Try.ntmps3
    go_wp2_with fail
    refine (long_at k nm op vl fo a b f LA ln lc _ _ hlg.out).mono ?_
    rintro e w1 ⟨rfl, hb1⟩
    have hB1 := Below.on hB0 hb1
    go_wp2
    go_ret
    exact ⟨rfl, hB1⟩

set_option maxRecDepth 100000 in
theorem lifted (os : Os) (started : os.Started) (H : Type) (enc : TypeId × Value → H) :
    ReturnsInHanded {} Try.checked os 3 .any (Rows.simpleValuesSpec.pre6 enc Try.prog Try.f3 Rows.simpleValuesRow.domain false) (Rows.simpleValuesSpec.post enc Try.prog Try.f3 false true false false) := by
  refine returnsInHanded_of_change_shaped (C := Try.checked) own started (by kernel_rfl) Try.func3
    (ChangeSpec.witness6 (enc := enc) (C := Try.checked) false ⟨#[], #[.agg #[.int .u8 0, .string .empty, .int .u8 0, .string .empty, .bool false, .int .i64 0, .int .i64 0, .bool false, .slice none 0 0], .string .empty], []⟩ 8 (by kernel_rfl) (by kernel_rfl) (by kernel_rfl) (by kernel_rfl)) ?_
  intro W base args ds gs before hval0 hW hcnd hsz hsh _
  have hval : ∀ (j : Nat) t v, Try.f3.params[j]? = some t → args[j]? = some v → Value.okWide Try.prog W .any base t v := hval0
  have hW' := hW
  obtain ⟨p, q, hA0, hV, rfl, hfz, hnd⟩ := hW
  have hA : DataW.TrodAll enc Try.prog W 0 (fun _ => true) true Try.f3.params.toList args.toList ds p := hA0
  rw [Try.params3] at hA hval hsz
  obtain ⟨v0, vs0, d0, ds0, p0, q0, hargs, rfl, rfl, h0, r0⟩ := trodAll_cons hA
  obtain ⟨v1, vs1, d1, ds1, p1, q1, rfl, rfl, rfl, h1, r1⟩ := trodAll_cons r0
  obtain ⟨rfl, rfl, rfl⟩ := trodAll_nil r1
  obtain rfl : args = #[v0, v1] := by cases args; simp_all
  obtain ⟨rfl, rfl⟩ := trodVars_none hV
  have lt0 : ∀ x ∈ p0, x.block < W.heap.size := by obtain ⟨m, hm⟩ := h0; exact DataW.trod_lt m _ _ _ hm
  have k0 := h0
  have lt1 : ∀ x ∈ p1, x.block < W.heap.size := by obtain ⟨m, hm⟩ := h1; exact DataW.trod_lt m _ _ _ hm
  have k1 := h1
  obtain ⟨s0, hs0, hs0a, hs0b, hs0c, hs0d⟩ := sim_open (hval 0 _ v0 rfl rfl) h0
  obtain ⟨sk0, sn0, so0, sv0, sf0, sa0, sb0, sg0, sl0, sm0, sc0⟩ := s0
  obtain rfl : v0 = .agg #[.int .u8 sk0, .string sn0, .int .u8 so0, .string sv0, .bool sf0, .int .i64 sa0, .int .i64 sb0, .bool sg0, .slice sl0 sm0 sc0] := hs0
  obtain ⟨a1, rfl, rfl, rfl, w1⟩ := Go.ChangeMaps.open_string Try.underlying9 (hval 1 _ v1 rfl rfl) h1
  have w1' : a1.size ≤ 9223372036854775807 := by unfold maxLen at w1; omega
  clear hA0 hval0
  refine (walk sk0 sn0 so0 sv0 sf0 sa0 sb0 sg0 sl0 sm0 sc0 a1 W hs0a hs0b w1' (hasMax_of hsh)).mono fun e W' ⟨he, bel⟩ => ?_
  subst he
  exact ⟨_, rfl, _, _, _, [], _, [], hW', trodAll_mk1 (shut_bool Try.underlying4 _), (trodAll_cons_mk (Below.trod laidOut (by kernel_rfl) (of_decide_eq_true (by kernel_rfl)) k0 bel lt0) (trodAll_cons_mk (Below.trod laidOut (by kernel_rfl) (of_decide_eq_true (by kernel_rfl)) k1 bel lt1) trodAll_mk0)), rfl, bel.frame _, fun h => by cases h⟩

theorem proved : Rows.SimpleValuesSaid :=
  OpenClaim.holds_of_wide 3 Try.f3 rfl rfl rfl rfl rfl rfl rfl ⟨rfl, rfl, rfl, rfl, rfl⟩ rfl rfl rfl rfl rfl (by kernel_rfl) Try.func3 (by kernel_rfl)
    (of_decide_eq_true (by kernel_rfl)) (by unfold Func.isWrapper; first | (rw [if_pos (by decide +kernel)]; kernel_rfl) | (rw [if_neg (by decide +kernel)]; exact ⟨rfl, rfl⟩))
    (fun os started H enc _ => lifted os started H enc)
#print axioms proved
end Go.Proofs.Ytbedomopojiehaa.simpleValues
