/- For every tree and every number, going from sibling to sibling visits all siblings in order, and back again. No condition. -/
import Derived.Test.YtankambfobfnfaaOpen
import Derived.Test.YtankambfobfnfaaEx16
import Derived.Test.YtankambfobfnfaaSib
import Derived.Deep.QuietTactic
import Derived.BigQuiet
import Derived.IntWalk
namespace Go.Proofs.Ytankambfobfnfaa.orderSiblings
open Go.ChangeShapes Go.WideShapes Go.ChangeAt Go.RowKit

set_option maxRecDepth 100000 in
set_option maxHeartbeats 4000000 in
theorem walk (A : Option Addr) (n c : Nat) (T : List ANode) (i : Int) (w : World) (h : IsTree w A n T) :
    Calls Try.prog 5 #[.agg #[.slice A n c], .int .i64 i] w fun e w' => e = .returned (.bool true) ∧ Below w.heap.size w w' := by
  have ho := hide h.2.2.2
  have hT := hide h
  have hl := h.1
  clear h
  have hB0 := below_alloc (Below.refl w.heap.size w) (.cells #[.slice A n c] 24)
  have hbox0 : (w.alloc (.cells #[.slice A n c] 24)).cell? ⟨w.heap.size, 0, none⟩ = some (.slice A n c) := by go_simp
  by_cases q1 : askI T [i] = 0
  · obtain ⟨hg, hir⟩ := askI_zero.1 q1
    have hir := hir i (by simp)
    obtain ⟨i, rfl⟩ := Int.eq_ofNat_of_zero_le hir.1
    have hin : i < n := by omega
    have hiT : i < T.length := by omega
    have hg' := hide hg
    have hn64 : n ≤ 64 := by have := ((goodB_iff T).1 hg).2.1; omega
    have q1' := hide q1
    obtain ⟨b, off, aA, cA, aC, cC, rfl, hbl, -, -, c2, c3, -, hC⟩ := ho.out (by omega)
    have c2' := hide c2
    have c3' := hide c3
    have hC' := hide hC
    obtain ⟨j0, hj0, hji, hjp⟩ := sibs_pos hg hiT
    have hji' := hide hji
    have hpl : Hid (placeE T i = j0) := by show _ = _; unfold placeE; rw [if_pos q1]; exact hjp
    have hm64 : (sibs T i).length ≤ 64 := sibs_len hg hiT
    have hsI := hide (rfl : sibs T i = sibs T i)
    clear hg hir ho c2 c3 hC hji q1
    by_cases hp : par T i < 0
    · have hsl : Hid ((sibs T i).length = 1) := by show _ = _; unfold sibs; rw [if_pos hp]; rfl
      have hj0' : j0 < 1 := by have := hsl.out; omega
      have hss : Hid (sibs T i = [(i : Int)]) := if_pos hp
      clear hj0 hm64 hjp
      go_enter Try.func5, Try.ntmps5
      go_wp2_with fail
      refine (alive16_ok _).mono ?_
      rintro e w1 ⟨rfl, hb1⟩
      have hbox1 := cell_later hb1 hbox0
      have hB1 := Below.on hB0 hb1
      have hbox1 := cell_later hb1 hbox0
      go_wp2_with fail
      refine (rasked_ok _ _ _ T _ _ (hT.out.below hB1)).mono ?_
      rintro e w2 ⟨rfl, hb2⟩
      have hbox2 := cell_later hb2 hbox1
      have hB2 := Below.on hB1 hb2
      have hlt2 : w.heap.size < w2.heap.size := cell_in hbox2
      have hbl2 : b < w2.heap.size := by omega
      have gp := (old hB2 _ _ hbl).trans (c2'.out i hin)
      clear hb1 hb2 hbox0 hbox1 hB0 hB1
      have hI := hide (isInts_lit w2 w2.heap.size 3 [(i : Int)] (by simp) rfl)
      have hW2 := below_alloc hB2 (.cells #[.int .i64 i] 3)
      have hboxW : (w2.alloc (.cells #[.int .i64 i] 3)).cell? ⟨w.heap.size, 0, none⟩ = some (.slice (some ⟨b, off, none⟩) n c) := by go_simp
      have hcw : Hid (∀ j, j < 1 → (w2.alloc (.cells #[.int .i64 i] 3)).cell? ⟨w2.heap.size, 0 + j, none⟩ = some (.int .i64 (ix (sibs T i) j))) := by
        intro j hj
        obtain rfl : j = 0 := by omega
        rw [hss.out]
        show (w2.alloc (.cells #[.int .i64 i] 3)).cell? ⟨w2.heap.size, 0, none⟩ = _
        rw [World.cell?_alloc_at _ _ _ _ rfl]; rfl
      have hblw : w2.heap.size < (w2.alloc (.cells #[.int .i64 i] 3)).heap.size := by simp
      clear hI hss
      go_wp2_with fail
      refine (place_at T i j0 0 q1'.out hpl.out _ _ _ _ (hT.out.below hW2)).mono ?_
      rintro e w3 ⟨rfl, hb3⟩
      have hB3 := Below.on hW2 hb3
      have hbox3 := cell_later hb3 hboxW
      have hcw3 : Hid (∀ j, j < 1 → w3.cell? ⟨w2.heap.size, 0 + j, none⟩ = some (.int .i64 (ix (sibs T i) j))) := fun j hj => (old hb3 _ _ hblw).trans (hcw.out j hj)
      have hblw3 : w2.heap.size < w3.heap.size := Nat.lt_of_lt_of_le hblw hb3.size
      have g0 := hcw3.out j0 hj0'
      rw [hji'.out] at g0
      try simp only [Nat.zero_add] at g0
      have hlt3 : w.heap.size < w3.heap.size := cell_in hbox3
      clear hb3 hcw hblw
      have d0 : decide ((j0 : Int) < 0) = false := by simp
      have d1 : decide (1 ≤ j0) = false := by simp; omega
      go_wp2
      clear g0
      go_loopw [8, 10] (fun s k8 wr => ∃ j : Nat, j < 1 ∧ s = .int .i64 j ∧ k8 = .int .i64 (ix (sibs T i) j) ∧ Below w3.heap.size w3 wr) (fun s _ _ => 1 - (intOf s).toNat)
      case atStart => exact ⟨j0, hj0', rfl, by rw [hji'.out], Below.refl _ _⟩
      case round =>
        obtain ⟨j, hj, rfl, rfl, hb⟩ := hrel
        have hBw := Below.on hB3 hb
        have hbx := cell_later hb hbox3
        have gj := (old hb _ _ hblw3).trans (hcw3.out j hj)
        try simp only [Nat.zero_add] at gj
        have hjl : j < (sibs T i).length := by have := hsl.out; omega
        obtain ⟨x, hx, hxT, -, -⟩ := sibs_mem hg'.out hiT (ix_mem hjl)
        have hxa := hide (askI_ok hg'.out (l := [(x : Int)]) (by simp; omega))
        have hxx := hide hx
        have hjl2 : ¬ j + 1 < (sibs T i).length := by have := hsl.out; omega
        have n1 : Hid (besE T x 1 = -1) := by show _ = _; rw [← hxx.out, bes_next hg'.out hiT hjl, if_neg hjl2]
        have t1 : ((j : Int) == (1 : Int) - 1) = true := by simp; omega
        rw [hx] at gj ⊢
        clear hx hjl hjl2
        go_wp2_with fail
        refine (next_at T x (-1) 0 hxa.out n1.out _ _ _ _ (hT.out.below hBw)).mono ?_
        rintro e w4 ⟨rfl, hb4⟩
        have hbx4 := cell_later hb4 hbx
        go_wp2
        go_ret
        exact ⟨rfl, Below.on hBw hb4⟩
    · obtain ⟨p, hpp⟩ := Int.eq_ofNat_of_zero_le (show 0 ≤ par T i by omega)
      have hpn : p < n := by have := (good_par hg'.out hiT).2; omega
      have hss : Hid (sibs T i = kids T p) := by show _ = _; unfold sibs; rw [if_neg hp, hpp]; rfl
      have hj0' : j0 < (sibs T i).length := hj0
      clear hj0 hjp hp
      go_enter Try.func5, Try.ntmps5
      go_wp2_with fail
      refine (alive16_ok _).mono ?_
      rintro e w1 ⟨rfl, hb1⟩
      have hbox1 := cell_later hb1 hbox0
      have hB1 := Below.on hB0 hb1
      have hbox1 := cell_later hb1 hbox0
      go_wp2_with fail
      refine (rasked_ok _ _ _ T _ _ (hT.out.below hB1)).mono ?_
      rintro e w2 ⟨rfl, hb2⟩
      have hbox2 := cell_later hb2 hbox1
      have hB2 := Below.on hB1 hb2
      have hlt2 : w.heap.size < w2.heap.size := cell_in hbox2
      have hbl2 : b < w2.heap.size := by omega
      have gp := (old hB2 _ _ hbl).trans (c2'.out i hin)
      clear hb1 hb2 hbox0 hbox1 hB0 hB1
      rw [hpp] at gp
      have gk := (old hB2 _ _ hbl).trans (c3'.out p hpn)
      have hIk := hide (hC'.out p hpn).1
      rw [← hss.out] at hIk gk
      generalize cA p = CA at gk hIk
      generalize cC p = cc at gk
      generalize hm : (sibs T i).length = m at gk hIk hj0' hm64
      have hsl := hide hm
      clear hm
      obtain ⟨bw, offw, rfl, hblk, hck⟩ := hIk.out.2.2 (by omega)
      have hW2 := below_alloc hB2 (.cells #[.int .i64 i] 3)
      have hboxW : (w2.alloc (.cells #[.int .i64 i] 3)).cell? ⟨w.heap.size, 0, none⟩ = some (.slice (some ⟨b, off, none⟩) n c) := by go_simp
      have hcw : Hid (∀ j, j < m → (w2.alloc (.cells #[.int .i64 i] 3)).cell? ⟨bw, offw + j, none⟩ = some (.int .i64 (ix (sibs T i) j))) := fun j hj => (old hW2 _ _ hblk).trans (hck j hj)
      have hblw : bw < (w2.alloc (.cells #[.int .i64 i] 3)).heap.size := Nat.lt_of_lt_of_le hblk hW2.size
      clear hck hss hpp
      go_wp2_with fail
      refine (place_at T i j0 0 q1'.out hpl.out _ _ _ _ (hT.out.below hW2)).mono ?_
      rintro e w3 ⟨rfl, hb3⟩
      have hB3 := Below.on hW2 hb3
      have hbox3 := cell_later hb3 hboxW
      have hcw3 : Hid (∀ j, j < m → w3.cell? ⟨bw, offw + j, none⟩ = some (.int .i64 (ix (sibs T i) j))) := fun j hj => (old hb3 _ _ hblw).trans (hcw.out j hj)
      have hblw3 : bw < w3.heap.size := Nat.lt_of_lt_of_le hblw hb3.size
      have g0 := hcw3.out j0 hj0'
      rw [hji'.out] at g0
      try simp only [Nat.zero_add] at g0
      have hlt3 : w.heap.size < w3.heap.size := cell_in hbox3
      clear hb3 hcw hblw
      have d0 : decide ((j0 : Int) < 0) = false := by simp
      have d1 : decide (m ≤ j0) = false := by simp; omega
      go_wp2
      clear g0
      go_loopw [8, 10] (fun s k8 wr => ∃ j : Nat, j < m ∧ s = .int .i64 j ∧ k8 = .int .i64 (ix (sibs T i) j) ∧ Below w3.heap.size w3 wr) (fun s _ _ => m - (intOf s).toNat)
      case atStart => exact ⟨j0, hj0', rfl, by rw [hji'.out], Below.refl _ _⟩
      case round =>
        obtain ⟨j, hj, rfl, rfl, hb⟩ := hrel
        have hBw := Below.on hB3 hb
        have hbx := cell_later hb hbox3
        have gj := (old hb _ _ hblw3).trans (hcw3.out j hj)
        try simp only [Nat.zero_add] at gj
        have hjl : j < (sibs T i).length := by have := hsl.out; omega
        obtain ⟨x, hx, hxT, -, -⟩ := sibs_mem hg'.out hiT (ix_mem hjl)
        have hxa := hide (askI_ok hg'.out (l := [(x : Int)]) (by simp; omega))
        have hxx := hide hx
        by_cases hl : j + 1 < m
        · have hjl2 : j + 1 < (sibs T i).length := by have := hsl.out; omega
          obtain ⟨y, hy, hyT, -, -⟩ := sibs_mem hg'.out hiT (ix_mem hjl2)
          have hya := hide (askI_ok hg'.out (l := [(y : Int)]) (by simp; omega))
          have hyn : y < n := by omega
          have hyy := hide hy
          have n1 : Hid (besE T x 1 = y) := by show _ = _; rw [← hxx.out, bes_next hg'.out hiT hjl, if_pos hjl2, hyy.out]
          have n2 : Hid (besE T y (-1) = x) := by show _ = _; rw [← hyy.out, bes_prev hg'.out hiT hjl2, hxx.out]
          have n3 : Hid (cmpE T x y = 0 ∧ cmpV T x y = -1) := by show _ ∧ _; rw [← hxx.out, ← hyy.out]; exact sibs_cmp hg'.out hiT hjl2
          have t1 : ((j : Int) == (m : Int) - 1) = false := by simp; omega
          rw [hx] at gj ⊢
          clear hx hy hjl hjl2
          go_wp2_with fail
          refine (next_at T x y 0 hxa.out n1.out _ _ _ _ (hT.out.below hBw)).mono ?_
          rintro e w4 ⟨rfl, hb4⟩
          have hB4 := Below.on hBw hb4
          have hbx4 := cell_later hb4 hbx
          go_wp2_with fail
          refine (previous_at T y x 0 hya.out n2.out _ _ _ _ (hT.out.below hB4)).mono ?_
          rintro e w5 ⟨rfl, hb5⟩
          have hB5 := Below.on hB4 hb5
          have hbx5 := cell_later hb5 hbx4
          go_wp2_with fail
          refine (compare_at T x y (-1) 0 n3.out.1 n3.out.2 _ _ _ _ (hT.out.below hB5)).mono ?_
          rintro e w6 ⟨rfl, hb6⟩
          go_wp2
          go_roundw
          case rel => exact ⟨j + 1, by omega, by go_num, by rw [hyy.out], Below.on (Below.on (Below.on hb hb4) hb5) hb6⟩
          case measure => simp [intOf]; omega
        · have hl' : ¬ j + 1 < m := hl
          have hjl2 : ¬ j + 1 < (sibs T i).length := by have := hsl.out; omega
          have n1 : Hid (besE T x 1 = -1) := by show _ = _; rw [← hxx.out, bes_next hg'.out hiT hjl, if_neg hjl2]
          have t1 : ((j : Int) == (m : Int) - 1) = true := by simp; omega
          rw [hx] at gj ⊢
          clear hx hjl hjl2
          go_wp2_with fail
          refine (next_at T x (-1) 0 hxa.out n1.out _ _ _ _ (hT.out.below hBw)).mono ?_
          rintro e w4 ⟨rfl, hb4⟩
          have hbx4 := cell_later hb4 hbx
          go_wp2
          go_ret
          exact ⟨rfl, Below.on hBw hb4⟩
  · have j1 : (askI T [i] != 0) = true := by simp [q1]
    clear q1 ho
    go_enter Try.func5, Try.ntmps5
    go_wp2_with fail
    refine (alive16_ok _).mono ?_
    rintro e w1 ⟨rfl, hb1⟩
    have hbox1 := cell_later hb1 hbox0
    have hB1 := Below.on hB0 hb1
    have hbox1 := cell_later hb1 hbox0
    go_wp2_with fail
    refine (rasked_ok _ _ _ T _ _ (hT.out.below hB1)).mono ?_
    rintro e w2 ⟨rfl, hb2⟩
    have hbox2 := cell_later hb2 hbox1
    have hB2 := Below.on hB1 hb2
    go_wp2
    go_ret
    exact ⟨rfl, hB2⟩

set_option maxRecDepth 100000 in
theorem lifted (os : Os) (started : os.Started) (H : Type) (enc : TypeId × Value → H) :
    ReturnsInHanded {} Try.checked os 5 .any (Rows.orderSiblingsSpec.pre6 enc Try.prog Try.f5 Rows.orderSiblingsRow.domain false) (Rows.orderSiblingsSpec.post enc Try.prog Try.f5 false true false false) := by
  refine returnsInHanded_of_change (C := Try.checked) own started (by kernel_rfl) Try.func5
    (ChangeSpec.witness6 (enc := enc) (C := Try.checked) false ⟨#[], #[.agg #[.slice none 0 0], .int .i64 0], []⟩ 8 (by kernel_rfl) (by kernel_rfl) (by kernel_rfl) (by kernel_rfl)) ?_
  intro W base args ds gs before hval0 hW hcnd _
  have hval : ∀ (j : Nat) t v, Try.f5.params[j]? = some t → args[j]? = some v → Value.okWide Try.prog W .any base t v := hval0
  have hW' := hW
  obtain ⟨p, q, hA0, hV, rfl, hfz, hnd⟩ := hW
  have hA : DataW.TrodAll enc Try.prog W 0 (fun _ => true) true Try.f5.params.toList args.toList ds p := hA0
  rw [Try.params5] at hA hval
  obtain ⟨v0, vs0, d0, ds0, p0, q0, hargs, rfl, rfl, h0, r0⟩ := trodAll_cons hA
  obtain ⟨v1, vs1, d1, ds1, p1, q1, rfl, rfl, rfl, h1, r1⟩ := trodAll_cons r0
  obtain ⟨rfl, rfl, rfl⟩ := trodAll_nil r1
  obtain rfl : args = #[v0, v1] := by cases args; simp_all
  obtain ⟨rfl, rfl⟩ := trodVars_none hV
  have lt0 : ∀ x ∈ p0, x.block < W.heap.size := by obtain ⟨m, hm⟩ := h0; exact DataW.trod_lt m _ _ _ hm
  have k0 := h0
  have lt1 : ∀ x ∈ p1, x.block < W.heap.size := by obtain ⟨m, hm⟩ := h1; exact DataW.trod_lt m _ _ _ hm
  have k1 := h1
  obtain ⟨A0, n0, c0, T0, rfl, hT0⟩ := tree_open (hval 0 _ v0 rfl rfl) h0
  obtain ⟨a1, rfl, rfl, rfl, w1⟩ := open_int Try.underlying3 (hval 1 _ v1 rfl rfl) h1
  clear hA0 hval0
  refine (walk A0 n0 c0 T0 a1 W hT0 ).mono fun e W' ⟨he, bel⟩ => ?_
  subst he
  exact ⟨_, rfl, _, _, _, [], _, [], hW', trodAll_mk1 (shut_bool Try.underlying4 _), (trodAll_cons_mk (Below.trod laidOut (by kernel_rfl) (of_decide_eq_true (by kernel_rfl)) k0 bel lt0) (trodAll_cons_mk (Below.trod laidOut (by kernel_rfl) (of_decide_eq_true (by kernel_rfl)) k1 bel lt1) trodAll_mk0)), rfl, bel.frame _, fun h => by cases h⟩

theorem proved : Rows.OrderSiblingsSaid :=
  OpenClaim.holds_of_wide 5 Try.f5 rfl rfl rfl rfl rfl rfl rfl ⟨rfl, rfl, rfl, rfl, rfl⟩ rfl rfl rfl rfl rfl (by kernel_rfl) Try.func5 (by kernel_rfl)
    (of_decide_eq_true (by kernel_rfl)) (by unfold Func.isWrapper; first | (rw [if_pos (by decide +kernel)]; kernel_rfl) | (rw [if_neg (by decide +kernel)]; exact ⟨rfl, rfl⟩))
    (fun os started H enc _ => lifted os started H enc)
#print axioms proved
end Go.Proofs.Ytankambfobfnfaa.orderSiblings
