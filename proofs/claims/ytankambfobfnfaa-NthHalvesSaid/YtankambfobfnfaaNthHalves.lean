/- For every tree, list of truth values and number, 2n and 2n+1 match each element that counts once, n all of them, 0n+0 none, -n+k and n+k+1 each of them once. No condition. -/
import Derived.Test.YtankambfobfnfaaOpenb
import Derived.Test.YtankambfobfnfaaNg
import Derived.Deep.QuietTactic
import Derived.BigQuiet
namespace Go.Proofs.Ytankambfobfnfaa.nthHalves
open Go.ChangeShapes Go.WideShapes Go.ChangeAt Go.RowKit


theorem tol_64 {T : List ANode} {m : Nat} (h : tolE T m = 0) : m ≤ 64 := by
  obtain ⟨hg, hm⟩ := tolE_zero.1 h
  have := ((goodB_iff T).1 hg).2.1
  omega
theorem made_false (W : World) (n : Nat) (hn : n ≤ 1000) : IsBools (W.alloc (.cells (madeCells #[.bool false] n) 4)) (some ⟨W.heap.size, 0, none⟩) n ((List.range n).map fun _ => false) := by
  refine ⟨by simp, by omega, fun _ => ⟨W.heap.size, 0, rfl, by simp, fun j hj => ?_⟩⟩
  rw [Nat.zero_add, (World.rowIs_made W (.bool false) n 4).cell hj, bx_map hj]

set_option maxRecDepth 100000 in
set_option maxHeartbeats 40000000 in
theorem walk (A : Option Addr) (n c : Nat) (T : List ANode) (last : Bool) (AB : Option Addr) (m cb : Nat) (B : List Bool) (k : Int) (w : World) (h : IsTree w A n T) (hL : IsBools w AB m B) :
    Calls Try.prog 9 #[.agg #[.slice A n c], .bool last, .slice AB m cb, .int .i64 k] w fun e w' => e = .returned (.bool true) ∧ Below w.heap.size w w' := by
  have hT := hide h
  have hl := h.1
  clear h
  have hB0 := below_alloc (Below.refl w.heap.size w) (.cells #[.slice A n c] 24)
  have hbox0 : (w.alloc (.cells #[.slice A n c] 24)).cell? ⟨w.heap.size, 0, none⟩ = some (.slice A n c) := by go_simp
  have hL' := hide hL
  clear hL
  by_cases q1 : tolE T m = 0
  · by_cases q2 : 0 ≤ k ∧ k ≤ 100
    · obtain ⟨q2, q3⟩ := q2
      have hmn : m = n := by have := (tolE_zero.1 q1).2; omega
      subst hmn
      have hm64 := tol_64 q1
      have q1' := hide q1
      have hv : Hid (anbB (-1) k = true ∧ anbB 1 (k + 1) = true) := by
        show _ ∧ _
        rw [anbB_iff, anbB_iff]; omega
      have hg' := hide (tolE_zero.1 q1).1
      have hmk := mk_bools m (by omega)
      go_enter Try.func9, Try.ntmps9
      go_wp2_with fail
      refine (alive20_ok _).mono ?_
      rintro e w1 ⟨rfl, hb1⟩
      have hbox1 := cell_later hb1 hbox0
      have hB1 := Below.on hB0 hb1
      have hbox1 := cell_later hb1 hbox0
      go_wp2_with fail
      refine (rntol_ok _ _ _ _ _ _ T _ (hT.out.below hB1)).mono ?_
      rintro e w2 ⟨rfl, hb2⟩
      have hbox2 := cell_later hb2 hbox1
      have hB2 := Below.on hB1 hb2
      clear q1
      go_wp2_with fail
      refine (nallM T B 2 0 last m q1'.out (by decide) _ _ _ _ _ _ (hT.out.below hB2) (hL'.out.below hB2)).mono ?_
      rintro e w3 ⟨A3, c3, rfl, hI3, hb3⟩
      have hB3 := Below.on hB2 hb3
      have hbox3 := cell_later hb3 hbox2
      have hI3' := hide hI3
      clear hI3 hb1 hb2 hbox0 hbox1 hbox2 hB0 hB1
      go_wp2_with fail
      refine (nallM T B 2 1 last m q1'.out (by decide) _ _ _ _ _ _ (hT.out.below hB3) (hL'.out.below hB3)).mono ?_
      rintro e w4 ⟨A4, c4, rfl, hI4, hb4⟩
      have hB4 := Below.on hB3 hb4
      have hbox4 := cell_later hb4 hbox3
      have hI4' := hide hI4
      have hI3' := hide (hI3'.out.below hb4)
      clear hI4 hbox3
      go_wp2_with fail
      refine (nallM T B 1 0 last m q1'.out (by decide) _ _ _ _ _ _ (hT.out.below hB4) (hL'.out.below hB4)).mono ?_
      rintro e w5 ⟨A5, c5, rfl, hI5, hb5⟩
      have hB5 := Below.on hB4 hb5
      have hbox5 := cell_later hb5 hbox4
      have hI5' := hide hI5
      have hI3' := hide (hI3'.out.below hb5)
      have hI4' := hide (hI4'.out.below hb5)
      clear hI5 hbox4
      go_wp2_with fail
      refine (nallM T B 0 0 last m q1'.out (by decide) _ _ _ _ _ _ (hT.out.below hB5) (hL'.out.below hB5)).mono ?_
      rintro e w6 ⟨A6, c6, rfl, hI6, hb6⟩
      have hB6 := Below.on hB5 hb6
      have hbox6 := cell_later hb6 hbox5
      have hI6' := hide hI6
      have hI3' := hide (hI3'.out.below hb6)
      have hI4' := hide (hI4'.out.below hb6)
      have hI5' := hide (hI5'.out.below hb6)
      clear hI6 hbox5
      go_wp2_with fail
      refine (nallM T B (-1) k last m q1'.out hv.out.1 _ _ _ _ _ _ (hT.out.below hB6) (hL'.out.below hB6)).mono ?_
      rintro e w7 ⟨A7, c7, rfl, hI7, hb7⟩
      have hB7 := Below.on hB6 hb7
      have hbox7 := cell_later hb7 hbox6
      have hI7' := hide hI7
      have hI3' := hide (hI3'.out.below hb7)
      have hI4' := hide (hI4'.out.below hb7)
      have hI5' := hide (hI5'.out.below hb7)
      have hI6' := hide (hI6'.out.below hb7)
      clear hI7 hbox6
      go_wp2_with fail
      refine (nallM T B 1 (k + 1) last m q1'.out hv.out.2 _ _ _ _ _ _ (hT.out.below hB7) (hL'.out.below hB7)).mono ?_
      rintro e w8 ⟨A8, c8, rfl, hI8, hb8⟩
      have hB8 := Below.on hB7 hb8
      have hbox8 := cell_later hb8 hbox7
      have hI8' := hide hI8
      have hI3' := hide (hI3'.out.below hb8)
      have hI4' := hide (hI4'.out.below hb8)
      have hI5' := hide (hI5'.out.below hb8)
      have hI6' := hide (hI6'.out.below hb8)
      have hI7' := hide (hI7'.out.below hb8)
      have hLw := hide (hL'.out.below hB8)
      clear hI8 hbox7 hB2 hB3 hB4 hB5 hB6 hB7 hb3 hb4 hb5 hb6 hb7 hb8
      go_wp2
      clear hbox8
      go_loopw [23] (fun s wr => ∃ j : Nat, j ≤ m ∧ s = .int .i64 j ∧ ∃ q, w8.drewN q = wr) (fun s _ => m - (intOf s).toNat)
      case atStart => exact ⟨0, Nat.zero_le _, rfl, 0, rfl⟩
      case round =>
        obtain ⟨j, hj, rfl, q, rfl⟩ := hrel
        by_cases hlt : j < m
        · obtain ⟨b3, o3, rfl, -, hc3⟩ := hI3'.out.2.2 (by omega)
          obtain ⟨b4, o4, rfl, -, hc4⟩ := hI4'.out.2.2 (by omega)
          obtain ⟨b7, o7, rfl, -, hc7⟩ := hI7'.out.2.2 (by omega)
          obtain ⟨b8, o8, rfl, -, hc8⟩ := hI8'.out.2.2 (by omega)
          obtain ⟨bl, ol, rfl, -, hcl⟩ := hLw.out.2.2 (by omega)
          have g3 := hc3 j hlt
          have g4 := hc4 j hlt
          have g7 := hc7 j hlt
          have g8 := hc8 j hlt
          have gl := hcl j hlt
          rw [bx_map hlt] at g3 g4 g7 g8
          clear hc3 hc4 hc7 hc8 hcl
          rcases halves hg'.out (i := j) (by omega) last B k with ⟨e0, e1, e2, e3, e4, -, -⟩ | ⟨e0, ⟨e1, e2⟩ | ⟨e1, e2⟩, ⟨e3, e4⟩ | ⟨e3, e4⟩, -, -⟩
          all_goals
            rw [e1] at g3
            rw [e2] at g4
            rw [e3] at g7
            rw [e4] at g8
            rw [e0] at gl
            clear e0 e1 e2 e3 e4 hI3' hI4' hI5' hI6' hI7' hI8' hLw hL' hT hv q1' hg' hB8
          · go_wp2
            go_quiet (fail)
            go_wp2
            go_roundw
            case rel => exact ⟨j + 1, by omega, by go_num, ⟨_, rfl⟩⟩
            case measure => simp [intOf]; omega
          · go_wp2
            go_quiet (fail)
            go_wp2
            go_roundw
            case rel => exact ⟨j + 1, by omega, by go_num, ⟨_, rfl⟩⟩
            case measure => simp [intOf]; omega
          · go_wp2
            go_quiet (fail)
            go_wp2
            go_roundw
            case rel => exact ⟨j + 1, by omega, by go_num, ⟨_, rfl⟩⟩
            case measure => simp [intOf]; omega
          · go_wp2
            go_quiet (fail)
            go_wp2
            go_roundw
            case rel => exact ⟨j + 1, by omega, by go_num, ⟨_, rfl⟩⟩
            case measure => simp [intOf]; omega
          · go_wp2
            go_quiet (fail)
            go_wp2
            go_roundw
            case rel => exact ⟨j + 1, by omega, by go_num, ⟨_, rfl⟩⟩
            case measure => simp [intOf]; omega
        · obtain rfl : m = j := by omega
          have hall : Hid ((List.range m).map (fun i => nmatF T i 1 0 last B) = B) := by
            show _ = _
            have hBl := hL'.out.1
            refine List.ext_getElem (by simp; omega) fun i h1 h2 => ?_
            rw [List.getElem_map, List.getElem_range, ← bx_get h2]
            rcases halves hg'.out (i := i) (by omega) last B k with ⟨e0, -, -, -, -, e5, -⟩ | ⟨e0, -, -, e5, -⟩
            · rw [e0, e5]
            · rw [e0, e5]
          have hnone : Hid ((List.range m).map (fun i => nmatF T i 0 0 last B) = (List.range m).map (fun _ => false)) := by
            show _ = _
            refine List.map_congr_left fun i hi => ?_
            have hi := List.mem_range.1 hi
            rcases halves hg'.out (i := i) (by omega) last B k with ⟨-, -, -, -, -, -, e6⟩ | ⟨-, -, -, -, e6⟩
            · exact e6
            · exact e6
          have hD := below_drewN (Below.refl w8.heap.size w8) q
          have hI5w : Hid (IsBools (w8.drewN q) A5 m B) := by show IsBools _ _ _ _; rw [← hall.out]; exact hI5'.out.below hD
          have hI6w : Hid (IsBools (w8.drewN q) A6 m ((List.range m).map (fun _ => false))) := by show IsBools _ _ _ _; rw [← hnone.out]; exact hI6'.out.below hD
          have hLq := hide (hLw.out.below hD)
          have hD' := hide hD
          clear hD
          go_wp2_with fail
          refine (sameBools_yes _ _ _ _ _ _ B _ hI5w.out hLq.out).mono ?_
          rintro e w9 ⟨rfl, hb9⟩
          have hB9 := Below.on (Below.on hB8 hD'.out) hb9
          have hI6x := hide (hI6w.out.below hb9)
          go_wp2_with fail
          refine (sameBools_yes _ _ _ _ _ _ _ _ (hI6x.out.below (below_alloc (Below.refl _ _) _)) (made_false w9 m (by omega))).mono ?_
          rintro e w10 ⟨rfl, hb10⟩
          go_wp2
          go_ret
          exact ⟨rfl, Below.on (below_alloc hB9 _) hb10⟩
    · have j1 : k < 0 ∨ (0 ≤ k ∧ 100 < k) := by omega
      clear q2
      rcases j1 with j1 | ⟨j1, j2⟩
      all_goals
        go_enter Try.func9, Try.ntmps9
        go_wp2_with fail
        refine (alive20_ok _).mono ?_
        rintro e w1 ⟨rfl, hb1⟩
        have hbox1 := cell_later hb1 hbox0
        have hB1 := Below.on hB0 hb1
        have hbox1 := cell_later hb1 hbox0
        go_wp2_with fail
        refine (rntol_ok _ _ _ _ _ _ T _ (hT.out.below hB1)).mono ?_
        rintro e w2 ⟨rfl, hb2⟩
        have hbox2 := cell_later hb2 hbox1
        have hB2 := Below.on hB1 hb2
        go_wp2
        go_ret
        exact ⟨rfl, hB2⟩
  · have j1 : (tolE T m != 0) = true := by simp [q1]
    clear q1
    go_enter Try.func9, Try.ntmps9
    go_wp2_with fail
    refine (alive20_ok _).mono ?_
    rintro e w1 ⟨rfl, hb1⟩
    have hbox1 := cell_later hb1 hbox0
    have hB1 := Below.on hB0 hb1
    have hbox1 := cell_later hb1 hbox0
    go_wp2_with fail
    refine (rntol_ok _ _ _ _ _ _ T _ (hT.out.below hB1)).mono ?_
    rintro e w2 ⟨rfl, hb2⟩
    have hbox2 := cell_later hb2 hbox1
    have hB2 := Below.on hB1 hb2
    go_wp2
    go_ret
    exact ⟨rfl, hB2⟩

set_option maxRecDepth 100000 in
theorem lifted (os : Os) (started : os.Started) (H : Type) (enc : TypeId × Value → H) :
    ReturnsInHanded {} Try.checked os 9 .any (Rows.nthHalvesSpec.pre6 enc Try.prog Try.f9 Rows.nthHalvesRow.domain false) (Rows.nthHalvesSpec.post enc Try.prog Try.f9 false true false false) := by
  refine returnsInHanded_of_change (C := Try.checked) own started (by kernel_rfl) Try.func9
    (ChangeSpec.witness6 (enc := enc) (C := Try.checked) false ⟨#[], #[.agg #[.slice none 0 0], .bool false, .slice none 0 0, .int .i64 0], []⟩ 8 (by kernel_rfl) (by kernel_rfl) (by kernel_rfl) (by kernel_rfl)) ?_
  intro W base args ds gs before hval0 hW hcnd _
  have hval : ∀ (j : Nat) t v, Try.f9.params[j]? = some t → args[j]? = some v → Value.okWide Try.prog W .any base t v := hval0
  have hW' := hW
  obtain ⟨p, q, hA0, hV, rfl, hfz, hnd⟩ := hW
  have hA : DataW.TrodAll enc Try.prog W 0 (fun _ => true) true Try.f9.params.toList args.toList ds p := hA0
  rw [Try.params9] at hA hval
  obtain ⟨v0, vs0, d0, ds0, p0, q0, hargs, rfl, rfl, h0, r0⟩ := trodAll_cons hA
  obtain ⟨v1, vs1, d1, ds1, p1, q1, rfl, rfl, rfl, h1, r1⟩ := trodAll_cons r0
  obtain ⟨v2, vs2, d2, ds2, p2, q2, rfl, rfl, rfl, h2, r2⟩ := trodAll_cons r1
  obtain ⟨v3, vs3, d3, ds3, p3, q3, rfl, rfl, rfl, h3, r3⟩ := trodAll_cons r2
  obtain ⟨rfl, rfl, rfl⟩ := trodAll_nil r3
  obtain rfl : args = #[v0, v1, v2, v3] := by cases args; simp_all
  obtain ⟨rfl, rfl⟩ := trodVars_none hV
  have lt0 : ∀ x ∈ p0, x.block < W.heap.size := by obtain ⟨m, hm⟩ := h0; exact DataW.trod_lt m _ _ _ hm
  have k0 := h0
  have lt1 : ∀ x ∈ p1, x.block < W.heap.size := by obtain ⟨m, hm⟩ := h1; exact DataW.trod_lt m _ _ _ hm
  have k1 := h1
  have lt2 : ∀ x ∈ p2, x.block < W.heap.size := by obtain ⟨m, hm⟩ := h2; exact DataW.trod_lt m _ _ _ hm
  have k2 := h2
  have lt3 : ∀ x ∈ p3, x.block < W.heap.size := by obtain ⟨m, hm⟩ := h3; exact DataW.trod_lt m _ _ _ hm
  have k3 := h3
  obtain ⟨A0, n0, c0, T0, rfl, hT0⟩ := tree_open (hval 0 _ v0 rfl rfl) h0
  obtain ⟨a1, rfl, rfl, rfl⟩ := Go.RowKit.open_bool Try.underlying4 (hval 1 _ v1 rfl rfl) h1
  obtain ⟨A2, n2, c2, xs2, rfl, hL2⟩ := bools_param (hval 2 _ v2 rfl rfl) h2
  obtain ⟨a3, rfl, rfl, rfl, w3⟩ := open_int Try.underlying3 (hval 3 _ v3 rfl rfl) h3
  clear hA0 hval0
  refine (walk A0 n0 c0 T0 a1 A2 n2 c2 xs2 a3 W hT0  hL2 ).mono fun e W' ⟨he, bel⟩ => ?_
  subst he
  exact ⟨_, rfl, _, _, _, [], _, [], hW', trodAll_mk1 (shut_bool Try.underlying4 _), (trodAll_cons_mk (Below.trod laidOut (by kernel_rfl) (of_decide_eq_true (by kernel_rfl)) k0 bel lt0) (trodAll_cons_mk (Below.trod laidOut (by kernel_rfl) (of_decide_eq_true (by kernel_rfl)) k1 bel lt1) (trodAll_cons_mk (Below.trod laidOut (by kernel_rfl) (of_decide_eq_true (by kernel_rfl)) k2 bel lt2) (trodAll_cons_mk (Below.trod laidOut (by kernel_rfl) (of_decide_eq_true (by kernel_rfl)) k3 bel lt3) trodAll_mk0)))), rfl, bel.frame _, fun h => by cases h⟩

theorem proved : Rows.NthHalvesSaid :=
  OpenClaim.holds_of_wide 9 Try.f9 rfl rfl rfl rfl rfl rfl rfl ⟨rfl, rfl, rfl, rfl, rfl⟩ rfl rfl rfl rfl rfl (by kernel_rfl) Try.func9 (by kernel_rfl)
    (of_decide_eq_true (by kernel_rfl)) (by unfold Func.isWrapper; first | (rw [if_pos (by decide +kernel)]; kernel_rfl) | (rw [if_neg (by decide +kernel)]; exact ⟨rfl, rfl⟩))
    (fun os started H enc _ => lifted os started H enc)
#print axioms proved
end Go.Proofs.Ytankambfobfnfaa.nthHalves
