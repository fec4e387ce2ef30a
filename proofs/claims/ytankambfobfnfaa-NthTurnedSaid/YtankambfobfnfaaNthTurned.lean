/- For every tree, number, progression and list of truth values: from the front an element matches just if it matches from the end in the tree whose children are turned around. No condition. -/
import Derived.Test.YtankambfobfnfaaOpenb
import Derived.Test.YtankambfobfnfaaTv
import Derived.Deep.QuietTactic
import Derived.BigQuiet
import Derived.Deep.CutRange
import Derived.Deep.RegionHeld3
namespace Go.Proofs.Ytankambfobfnfaa.nthTurned
open Go.ChangeShapes Go.WideShapes Go.ChangeAt Go.RowKit

set_option maxRecDepth 100000 in
set_option maxHeartbeats 1000000 in
theorem walk_out (A : Option Addr) (n c : Nat) (T : List ANode) (i a b : Int) (last : Bool) (AB : Option Addr) (m cb : Nat) (w : World) (h : IsTree w A n T)
    (hx : askI T [i] ≠ 0 ∨ (askI T [i] = 0 ∧ (tolE T m ≠ 0 ∨ (tolE T m = 0 ∧ anbE a b ≠ 0)))) :
    Calls Try.prog 12 #[.agg #[.slice A n c], .int .i64 i, .agg #[.int .i64 a, .int .i64 b], .bool last, .slice AB m cb] w fun e w' => e = .returned (.bool true) ∧ Below w.heap.size w w' := by
  have hT := hide h
  have hl := h.1
  clear h
  have hB0 := below_alloc (below_alloc (Below.refl w.heap.size w) (.cells #[.slice A n c] 24)) (.cells #[.int .i64 a, .int .i64 b] 57)
  have hbox0 : ((w.alloc (.cells #[.slice A n c] 24)).alloc (.cells #[.int .i64 a, .int .i64 b] 57)).cell? ⟨w.heap.size, 0, none⟩ = some (.slice A n c) := by go_simp
  have hx0 : ((w.alloc (.cells #[.slice A n c] 24)).alloc (.cells #[.int .i64 a, .int .i64 b] 57)).cell? ⟨w.heap.size + 1, 0, none⟩ = some (.int .i64 a) := by go_simp
  have hy0 : ((w.alloc (.cells #[.slice A n c] 24)).alloc (.cells #[.int .i64 a, .int .i64 b] 57)).cell? ⟨w.heap.size + 1, 1, none⟩ = some (.int .i64 b) := by go_simp
  rcases hx with q1 | ⟨q1, q3 | ⟨q3, q4⟩⟩
  · have j1 : (askI T [i] != 0) = true := by simp [q1]
    clear q1
    go_enter Try.func12, Try.ntmps12
    go_wp2_with fail
    refine (alive20_ok _).mono ?_
    rintro e w1 ⟨rfl, hb1⟩
    have hbox1 := cell_later hb1 hbox0
    have hB1 := Below.on hB0 hb1
    have hbox1 := cell_later hb1 hbox0
    go_wp2_with fail
    refine (rasked_ok _ _ _ T _ _ (hT.out.below hB1)).mono ?_
    rintro e w2 ⟨rfl, hb2⟩
    have hbox2 := cell_later hb2 hbox1
    have hB2 := Below.on hB1 hb2
    go_wp2
    go_ret
    exact ⟨rfl, hB2⟩
  · have j1 : (tolE T m != 0) = true := by simp [q3]
    clear q3
    go_enter Try.func12, Try.ntmps12
    go_wp2_with fail
    refine (alive20_ok _).mono ?_
    rintro e w1 ⟨rfl, hb1⟩
    have hbox1 := cell_later hb1 hbox0
    have hB1 := Below.on hB0 hb1
    have hbox1 := cell_later hb1 hbox0
    go_wp2_with fail
    refine (rasked_ok _ _ _ T _ _ (hT.out.below hB1)).mono ?_
    rintro e w2 ⟨rfl, hb2⟩
    have hbox2 := cell_later hb2 hbox1
    have hB2 := Below.on hB1 hb2
    go_wp2_with fail
    refine (rntol_ok _ _ _ _ _ _ T _ (hT.out.below hB2)).mono ?_
    rintro e w3 ⟨rfl, hb3⟩
    have hbox3 := cell_later hb3 hbox2
    have hB3 := Below.on hB2 hb3
    go_wp2
    go_ret
    exact ⟨rfl, hB3⟩
  · have j1 : (anbE a b != 0) = true := by simp [q4]
    clear q4
    go_enter Try.func12, Try.ntmps12
    go_wp2_with fail
    refine (alive20_ok _).mono ?_
    rintro e w1 ⟨rfl, hb1⟩
    have hbox1 := cell_later hb1 hbox0
    have hB1 := Below.on hB0 hb1
    have hbox1 := cell_later hb1 hbox0
    have hx1 := cell_later hb1 hx0
    have hy1 := cell_later hb1 hy0
    go_wp2_with fail
    refine (rasked_ok _ _ _ T _ _ (hT.out.below hB1)).mono ?_
    rintro e w2 ⟨rfl, hb2⟩
    have hbox2 := cell_later hb2 hbox1
    have hB2 := Below.on hB1 hb2
    have hx2 := cell_later hb2 hx1
    have hy2 := cell_later hb2 hy1
    go_wp2_with fail
    refine (rntol_ok _ _ _ _ _ _ T _ (hT.out.below hB2)).mono ?_
    rintro e w3 ⟨rfl, hb3⟩
    have hbox3 := cell_later hb3 hbox2
    have hB3 := Below.on hB2 hb3
    have hx3 := cell_later hb3 hx2
    have hy3 := cell_later hb3 hy2
    go_wp2_with fail
    refine (ranbCheck_ok a b _).mono ?_
    rintro e w4 ⟨rfl, hb4⟩
    have hbox4 := cell_later hb4 hbox3
    have hB4 := Below.on hB3 hb4
    have hx4 := cell_later hb4 hx3
    have hy4 := cell_later hb4 hy3
    go_wp2
    go_ret
    exact ⟨rfl, hB4⟩

set_option maxRecDepth 100000 in
set_option maxHeartbeats 10000000 in
theorem walkIn (A : Option Addr) (n c : Nat) (T : List ANode) (i : Nat) (a b : Int) (last : Bool) (AB : Option Addr) (cb : Nat) (B : List Bool) (w : World) (h : IsTree w A n T) (hL : IsBools w AB n B)
    (hg : goodB T = true) (hi : i < n) (hv : anbB a b = true) :
    Calls Try.prog 12 #[.agg #[.slice A n c], .int .i64 i, .agg #[.int .i64 a, .int .i64 b], .bool last, .slice AB n cb] w fun e w' => e = .returned (.bool true) ∧ Below w.heap.size w w' := by
  have hT := hide h
  have hl := h.1
  clear h
  have hB0 := below_alloc (below_alloc (Below.refl w.heap.size w) (.cells #[.slice A n c] 24)) (.cells #[.int .i64 a, .int .i64 b] 57)
  have hbox0 : ((w.alloc (.cells #[.slice A n c] 24)).alloc (.cells #[.int .i64 a, .int .i64 b] 57)).cell? ⟨w.heap.size, 0, none⟩ = some (.slice A n c) := by go_simp
  have hx0 : ((w.alloc (.cells #[.slice A n c] 24)).alloc (.cells #[.int .i64 a, .int .i64 b] 57)).cell? ⟨w.heap.size + 1, 0, none⟩ = some (.int .i64 a) := by go_simp
  have hy0 : ((w.alloc (.cells #[.slice A n c] 24)).alloc (.cells #[.int .i64 a, .int .i64 b] 57)).cell? ⟨w.heap.size + 1, 1, none⟩ = some (.int .i64 b) := by go_simp
  have hn64 : n ≤ 64 := by have := ((goodB_iff T).1 hg).2.1; omega
  have q1 : askI T [(i : Int)] = 0 := askI_ok hg (by simp; omega)
  have q3 : tolE T n = 0 := tolE_zero.2 ⟨hg, by omega⟩
  have q4 : anbE a b = 0 := if_pos hv
  have hBl := hide hL.1
  have hL' := hide hL
  have hg' := hide hg
  have hv' := hide hv
  have m1 : Hid (nmatE T i a b n = 0) := by show _ = _; unfold nmatE; rw [show nmE T i n = 0 from nmE_zero.2 ⟨q1, q3⟩, if_pos rfl, q4]
  have q3' := hide q3
  have v1 : Hid (nmatV T i a b last B = nmatF T i a b last B) := by show _ = _; unfold nmatV; rw [hBl.out, if_pos m1.out, Int.toNat_natCast]
  have qt : Hid (tolE (turnT T T.length) n = 0) := by show _ = _; exact tolE_zero.2 ⟨turnT_good _ hg, by rw [turnT_len]; omega⟩
  have hsame : Hid ((List.range n).map (fun j => nmatF (turnT T T.length) j a b (!last) B) = (List.range n).map (fun j => nmatF T j a b last B)) := by
    show _ = _
    refine List.map_congr_left fun j hj => ?_
    have := List.mem_range.1 hj
    exact turnT_nmat hg (by omega) a b last B
  clear hL hg hv
  go_enter Try.func12, Try.ntmps12
  go_wp2_with fail
  refine (alive20_ok _).mono ?_
  rintro e w1 ⟨rfl, hb1⟩
  have hbox1 := cell_later hb1 hbox0
  have hB1 := Below.on hB0 hb1
  have hx1 := cell_later hb1 hx0
  have hy1 := cell_later hb1 hy0
  have hbox1 := cell_later hb1 hbox0
  have hx1 := cell_later hb1 hx0
  have hy1 := cell_later hb1 hy0
  go_wp2_with fail
  refine (rasked_ok _ _ _ T _ _ (hT.out.below hB1)).mono ?_
  rintro e w2 ⟨rfl, hb2⟩
  have hbox2 := cell_later hb2 hbox1
  have hB2 := Below.on hB1 hb2
  have hx2 := cell_later hb2 hx1
  have hy2 := cell_later hb2 hy1
  go_wp2_with fail
  refine (rntol_ok _ _ _ _ _ _ T _ (hT.out.below hB2)).mono ?_
  rintro e w3 ⟨rfl, hb3⟩
  have hbox3 := cell_later hb3 hbox2
  have hB3 := Below.on hB2 hb3
  have hx3 := cell_later hb3 hx2
  have hy3 := cell_later hb3 hy2
  go_wp2_with fail
  refine (ranbCheck_ok a b _).mono ?_
  rintro e w4 ⟨rfl, hb4⟩
  have hbox4 := cell_later hb4 hbox3
  have hB4 := Below.on hB3 hb4
  have hx4 := cell_later hb4 hx3
  have hy4 := cell_later hb4 hy3
  clear hbox0 hbox1 hbox2 hbox3 hx0 hx1 hx2 hx3 hy0 hy1 hy2 hy3 hb1 hb2 hb3 hb4 hB0 hB1 hB2 hB3
  go_wp2_with fail
  refine (nallM T B a b last n q3'.out hv'.out _ _ _ _ _ _ (hT.out.below hB4) (hL'.out.below hB4)).mono ?_
  rintro e w5 ⟨A5, c5, rfl, hI5, hb5⟩
  have hB5 := Below.on hB4 hb5
  have hbox5 := cell_later hb5 hbox4
  have hx5 := cell_later hb5 hx4
  have hy5 := cell_later hb5 hy4
  have hI5' := hide hI5
  clear hI5 hbox4 hx4 hy4
  have hk1 := hide (fun (W : World) (hW : Below w5.heap.size w5 W) => turned_ok A n c T W (hT.out.below (Below.on hB5 hW)) hg'.out)
  have hk2 := hide (fun (W : World) (A6 : Option Addr) (c6 : Nat) (h6 : IsTree W A6 n (turnT T T.length)) (hW : Below w5.heap.size w5 W) => nallM (turnT T T.length) B a b (!last) n qt.out hv'.out A6 AB n c6 cb W h6 (hL'.out.below (Below.on hB5 hW)))
  have hz0 := (Below.refl w5.heap.size w5).drew
  go_upto_region 5 with fail
  go_region_held3 (fun X => X.cell? ⟨w.heap.size, 0, none⟩ = some (.slice A n c) ∧ X.cell? ⟨w.heap.size + 1, 0, none⟩ = some (.int .i64 a) ∧ X.cell? ⟨w.heap.size + 1, 1, none⟩ = some (.int .i64 b)) (first | exact ⟨hbox5, hx5, hy5⟩ | exact ⟨d0, d1, d2⟩ | exact ⟨e0, e1, e2⟩) (first
    | (go_at_call 45; (with_reducible refine (hk1.out _ hz0).mono ?_); rintro e u1 ⟨A6, c6, rfl, hT6, hu1⟩; have d0 := cell_later hu1 hbox5; have d1 := cell_later hu1 hx5; have d2 := cell_later hu1 hy5; have hz1 := Below.on hz0 hu1)
    | (go_at_call 36; (with_reducible refine (hk2.out _ _ _ hT6 hz1).mono ?_); rintro e u2 ⟨A7, c7, rfl, hI7, hu2⟩; have e0 := cell_later hu2 d0; have e1 := cell_later hu2 d1; have e2 := cell_later hu2 d2; have hz2 := Below.on hz1 hu2))
  rw [hsame.out] at hI7
  have hB7 := Below.on hB5 hz2
  have hbox7 := e0
  have hx7 := e1
  have hy7 := e2
  have hI7' := hide hI7
  have hI5' := hide (hI5'.out.below hz2)
  clear hI7 d0 d1 d2 e0 e1 e2 hz0 hz1 hT6 hbox5 hx5 hy5 hk1 hk2
  generalize u2 = w7 at *
  go_wp2_with fail
  refine (nmatch_at T B i a b _ 0 last n m1.out v1.out _ _ _ _ _ _ (hT.out.below hB7) (hL'.out.below hB7)).mono ?_
  rintro e w8 ⟨rfl, hb8⟩
  have hB8 := Below.on hB7 hb8
  have hbox8 := cell_later hb8 hbox7
  have hI5' := hide (hI5'.out.below hb8)
  have hI7' := hide (hI7'.out.below hb8)
  clear hbox7 hx7 hy7
  go_wp2_with fail
  refine (sameBools_yes _ _ _ _ _ _ _ _ hI5'.out hI7'.out).mono ?_
  rintro e w9 ⟨rfl, hb9⟩
  have hB9 := Below.on hB8 hb9
  have hbox9 := cell_later hb9 hbox8
  have hI5' := hide (hI5'.out.below hb9)
  obtain ⟨b5, o5, rfl, hb5l, hc5⟩ := hI5'.out.2.2 (by omega)
  have g5 := hc5 i hi
  rw [bx_map hi] at g5
  clear hc5 hI5' hI7' hbox8
  go_wp2
  go_ret
  exact ⟨rfl, hB9⟩

theorem walk (A : Option Addr) (n c : Nat) (T : List ANode) (i a b : Int) (last : Bool) (AB : Option Addr) (m cb : Nat) (B : List Bool) (w : World) (h : IsTree w A n T) (_ha : (-9223372036854775808 ≤ a ∧ a ≤ 9223372036854775807) ∧ (-9223372036854775808 ≤ b ∧ b ≤ 9223372036854775807)) (hL : IsBools w AB m B) :
    Calls Try.prog 12 #[.agg #[.slice A n c], .int .i64 i, .agg #[.int .i64 a, .int .i64 b], .bool last, .slice AB m cb] w fun e w' => e = .returned (.bool true) ∧ Below w.heap.size w w' := by
  by_cases q1 : askI T [i] = 0
  · by_cases q3 : tolE T m = 0
    · by_cases q4 : anbE a b = 0
      · obtain ⟨hg, hi⟩ := askI_zero.1 q1
        have hi := hi i (by simp)
        have hl := h.1
        have hm := (tolE_zero.1 q3).2
        obtain ⟨i, rfl⟩ := Int.eq_ofNat_of_zero_le hi.1
        obtain rfl : m = n := by omega
        refine walkIn A m c T i a b last AB cb B w h hL hg (by omega) ?_
        unfold anbE at q4
        by_cases hv : anbB a b = true
        · exact hv
        · rw [if_neg hv] at q4; omega
      · exact walk_out A n c T i a b last AB m cb w h (.inr ⟨q1, .inr ⟨q3, q4⟩⟩)
    · exact walk_out A n c T i a b last AB m cb w h (.inr ⟨q1, .inl q3⟩)
  · exact walk_out A n c T i a b last AB m cb w h (.inl q1)

set_option maxRecDepth 100000 in
theorem lifted (os : Os) (started : os.Started) (H : Type) (enc : TypeId × Value → H) :
    ReturnsInHanded {} Try.checked os 12 .any (Rows.nthTurnedSpec.pre6 enc Try.prog Try.f12 Rows.nthTurnedRow.domain false) (Rows.nthTurnedSpec.post enc Try.prog Try.f12 false true false false) := by
  refine returnsInHanded_of_change (C := Try.checked) own started (by kernel_rfl) Try.func12
    (ChangeSpec.witness6 (enc := enc) (C := Try.checked) false ⟨#[], #[.agg #[.slice none 0 0], .int .i64 0, .agg #[.int .i64 0, .int .i64 0], .bool false, .slice none 0 0], []⟩ 8 (by kernel_rfl) (by kernel_rfl) (by kernel_rfl) (by kernel_rfl)) ?_
  intro W base args ds gs before hval0 hW hcnd _
  have hval : ∀ (j : Nat) t v, Try.f12.params[j]? = some t → args[j]? = some v → Value.okWide Try.prog W .any base t v := hval0
  have hW' := hW
  obtain ⟨p, q, hA0, hV, rfl, hfz, hnd⟩ := hW
  have hA : DataW.TrodAll enc Try.prog W 0 (fun _ => true) true Try.f12.params.toList args.toList ds p := hA0
  rw [Try.params12] at hA hval
  obtain ⟨v0, vs0, d0, ds0, p0, q0, hargs, rfl, rfl, h0, r0⟩ := trodAll_cons hA
  obtain ⟨v1, vs1, d1, ds1, p1, q1, rfl, rfl, rfl, h1, r1⟩ := trodAll_cons r0
  obtain ⟨v2, vs2, d2, ds2, p2, q2, rfl, rfl, rfl, h2, r2⟩ := trodAll_cons r1
  obtain ⟨v3, vs3, d3, ds3, p3, q3, rfl, rfl, rfl, h3, r3⟩ := trodAll_cons r2
  obtain ⟨v4, vs4, d4, ds4, p4, q4, rfl, rfl, rfl, h4, r4⟩ := trodAll_cons r3
  obtain ⟨rfl, rfl, rfl⟩ := trodAll_nil r4
  obtain rfl : args = #[v0, v1, v2, v3, v4] := by cases args; simp_all
  obtain ⟨rfl, rfl⟩ := trodVars_none hV
  have lt0 : ∀ x ∈ p0, x.block < W.heap.size := by obtain ⟨m, hm⟩ := h0; exact DataW.trod_lt m _ _ _ hm
  have k0 := h0
  have lt1 : ∀ x ∈ p1, x.block < W.heap.size := by obtain ⟨m, hm⟩ := h1; exact DataW.trod_lt m _ _ _ hm
  have k1 := h1
  have lt2 : ∀ x ∈ p2, x.block < W.heap.size := by obtain ⟨m, hm⟩ := h2; exact DataW.trod_lt m _ _ _ hm
  have k2 := h2
  have lt3 : ∀ x ∈ p3, x.block < W.heap.size := by obtain ⟨m, hm⟩ := h3; exact DataW.trod_lt m _ _ _ hm
  have k3 := h3
  have lt4 : ∀ x ∈ p4, x.block < W.heap.size := by obtain ⟨m, hm⟩ := h4; exact DataW.trod_lt m _ _ _ hm
  have k4 := h4
  obtain ⟨A0, n0, c0, T0, rfl, hT0⟩ := tree_open (hval 0 _ v0 rfl rfl) h0
  obtain ⟨a1, rfl, rfl, rfl, w1⟩ := open_int Try.underlying3 (hval 1 _ v1 rfl rfl) h1
  obtain ⟨a2, b2, rfl, w2⟩ := anb_open (hval 2 _ v2 rfl rfl) h2
  obtain ⟨a3, rfl, rfl, rfl⟩ := Go.RowKit.open_bool Try.underlying4 (hval 3 _ v3 rfl rfl) h3
  obtain ⟨A4, n4, c4, xs4, rfl, hL4⟩ := bools_param (hval 4 _ v4 rfl rfl) h4
  clear hA0 hval0
  refine (walk A0 n0 c0 T0 a1 a2 b2 a3 A4 n4 c4 xs4 W hT0  w2  hL4).mono fun e W' ⟨he, bel⟩ => ?_
  subst he
  exact ⟨_, rfl, _, _, _, [], _, [], hW', trodAll_mk1 (shut_bool Try.underlying4 _), (trodAll_cons_mk (Below.trod laidOut (by kernel_rfl) (of_decide_eq_true (by kernel_rfl)) k0 bel lt0) (trodAll_cons_mk (Below.trod laidOut (by kernel_rfl) (of_decide_eq_true (by kernel_rfl)) k1 bel lt1) (trodAll_cons_mk (Below.trod laidOut (by kernel_rfl) (of_decide_eq_true (by kernel_rfl)) k2 bel lt2) (trodAll_cons_mk (Below.trod laidOut (by kernel_rfl) (of_decide_eq_true (by kernel_rfl)) k3 bel lt3) (trodAll_cons_mk (Below.trod laidOut (by kernel_rfl) (of_decide_eq_true (by kernel_rfl)) k4 bel lt4) trodAll_mk0))))), rfl, bel.frame _, fun h => by cases h⟩

theorem proved : Rows.NthTurnedSaid :=
  OpenClaim.holds_of_wide 12 Try.f12 rfl rfl rfl rfl rfl rfl rfl ⟨rfl, rfl, rfl, rfl, rfl⟩ rfl rfl rfl rfl rfl (by kernel_rfl) Try.func12 (by kernel_rfl)
    (of_decide_eq_true (by kernel_rfl)) (by unfold Func.isWrapper; first | (rw [if_pos (by decide +kernel)]; kernel_rfl) | (rw [if_neg (by decide +kernel)]; exact ⟨rfl, rfl⟩))
    (fun os started H enc _ => lifted os started H enc)
#print axioms proved
end Go.Proofs.Ytankambfobfnfaa.nthTurned
