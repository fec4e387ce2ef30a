/- Walks: the error of a tree, a mode and a simple selector, and which elements match, by the program. Condition: the variable of the library that strings.Contains reads holds a number. -/
import Derived.Test.YtljloicgjgbplaaGreatG17
import Derived.Test.YtljloicgjgbplaaGreatG14
namespace Go.Proofs.YtljloicgjgbplaaGreat
open Go.RowKit

/-- A list of truth values and an error that come back. -/
def MadeB (w : World) (xs : List Bool) (code : Int) (e : Ending) (w' : World) : Prop :=
  ∃ (A : Option Addr) (c : Nat), e = .returned (.tuple #[.slice A xs.length c, .int .i64 code]) ∧ IsBools w' A xs.length xs ∧ xs.length ≤ c ∧ c ≤ maxLen ∧ Below w.heap.size w w'
theorem madeB_nil {w w' : World} {code : Int} (hb : Below w.heap.size w w') : MadeB w [] code (.returned (.tuple #[.slice none 0 0, .int .i64 code])) w' :=
  ⟨none, 0, rfl, ⟨rfl, by decide, fun h => absurd h (by decide)⟩, Nat.le_refl _, by unfold maxLen; omega, hb⟩
def modeB (T : List ANode) (m : Int) : Bool := decide (m = -1) || (decide (0 ≤ m) && decide (m < T.length) && lkB T m.toNat)
def smE (T : List ANode) (s : Sim) (m : Int) : Int := if goodB T = true then (if modeB T m = true then chkS s else 2) else 8
def smatE (T : List ANode) (i : Int) (s : Sim) (m : Int) : Int := if askI T [i] = 0 then smE T s m else askI T [i]
def smatV (T : List ANode) (i : Int) (s : Sim) (m : Int) : Bool := if smatE T i s m = 0 then matS T i.toNat s m else false
def sallL (T : List ANode) (s : Sim) (m : Int) : List Bool := (List.range T.length).map fun i => matS T i s m
def sallV (T : List ANode) (s : Sim) (m : Int) : List Bool := if smE T s m = 0 then sallL T s m else []
theorem sallL_len (T : List ANode) (s : Sim) (m : Int) : (sallL T s m).length = T.length := by simp [sallL]
theorem take_sallL (T : List ANode) (s : Sim) (m : Int) {q : Nat} (hq : q < T.length) : (sallL T s m).take (q + 1) = (sallL T s m).take q ++ [matS T q s m] := by
  rw [List.take_succ_eq_append_getElem (by rw [sallL_len]; exact hq)]
  simp [sallL]
theorem smE_zero {T : List ANode} {s : Sim} {m : Int} : smE T s m = 0 ↔ goodB T = true ∧ modeB T m = true ∧ chkS s = 0 := by
  unfold smE
  by_cases h : goodB T = true
  · rw [if_pos h]
    by_cases h2 : modeB T m = true
    · rw [if_pos h2]; simp [h, h2]
    · rw [if_neg h2]; simp [h2]
  · rw [if_neg h]; simp [h]

set_option maxRecDepth 100000 in
set_option maxHeartbeats 2000000 in
theorem scheckT_ok (A : Option Addr) (n c : Nat) (T : List ANode) (k : Int) (nm : ByteArray) (op : Int) (vl : ByteArray) (fo : Bool) (a b : Int) (f : Bool) (LA : Option Addr) (ln lc : Nat) (m : Int) (w : World) (h : IsTree w A n T) :
    Calls Tryz.prog 51 #[.agg #[.slice A n c], .agg #[.int .u8 k, .string nm, .int .u8 op, .string vl, .bool fo, .int .i64 a, .int .i64 b, .bool f, .slice LA ln lc], .int .i64 m] w
      fun r w' => r = .returned (.int .i64 (smE T ⟨k, nm, op, vl, fo, a, b, f, LA, ln, lc⟩ m)) ∧ Below w.heap.size w w' := by
  have hT := hide h
  have hl := h.1
  have hB0 := below_alloc (below_alloc (Below.refl w.heap.size w) (.cells #[.slice A n c] 24)) (.cells #[.int .u8 k, .string nm, .int .u8 op, .string vl, .bool fo, .int .i64 a, .int .i64 b, .bool f, .slice LA ln lc] 41)
  have hbox0 : ((w.alloc (.cells #[.slice A n c] 24)).alloc (.cells #[.int .u8 k, .string nm, .int .u8 op, .string vl, .bool fo, .int .i64 a, .int .i64 b, .bool f, .slice LA ln lc] 41)).cell? ⟨w.heap.size, 0, none⟩ = some (.slice A n c) := by go_simp
  have hS0 := hide (simAt_at (w.alloc (.cells #[.slice A n c] 24)) (w.heap.size + 1) (by simp) k nm op vl fo a b f LA ln lc)
  clear h
  by_cases hg : goodB T = true
  · have hc0 : chk T = 0 := chk_ok hg
    rcases (by omega : m = -1 ∨ m < -1 ∨ 0 ≤ m) with h1 | h1 | h1
    · subst h1
      have hr : Hid (smE T ⟨k, nm, op, vl, fo, a, b, f, LA, ln, lc⟩ (-1) = chkS ⟨k, nm, op, vl, fo, a, b, f, LA, ln, lc⟩) := by show _ = _; unfold smE; rw [if_pos hg, if_pos (show modeB T (-1) = true from rfl)]
      obtain ⟨v, hv⟩ : ∃ v, isE T 0 = v := ⟨_, rfl⟩
      obtain ⟨c0, hc⟩ : ∃ v, askI T [0] = v := ⟨_, rfl⟩
      have hli := hide hv
      have hla := hide hc
      clear hg hv hc
      go_enter Tryz.func51, Tryz.ntmps51
      go_wp2_with fail
      refine (check_ok _ _ c T _ (hT.out.below hB0)).mono ?_
      rintro e w1 ⟨rfl, hb1⟩
      have hB1 := Below.on hB0 hb1
      have hbox1 := cell_later hb1 hbox0
      have hS1 := hide (hS0.out.later hb1)
      clear hb1 hbox0
      go_wp2_with fail
      refine (linkIs_at T 0 v c0 hli.out hla.out _ _ c _ (hT.out.below hB1)).mono ?_
      rintro e w2 ⟨rfl, hb2⟩
      have hB2 := Below.on hB1 hb2
      obtain ⟨s0, s1, s2, s3, s4, s5, s6, s7, s8⟩ := hS1.out.later hb2
      clear hb2
      go_wp2_with fail
      refine (scheck_ok k nm op vl fo a b f LA ln lc _).mono ?_
      rintro e w3 ⟨rfl, hb3⟩
      have hB3 := Below.on hB2 hb3
      go_wp2
      go_ret
      exact ⟨ret_int hr.out.symm, hB3⟩
    · have hr : Hid (smE T ⟨k, nm, op, vl, fo, a, b, f, LA, ln, lc⟩ m = 2) := by
        show _ = _
        unfold smE
        rw [if_pos hg, if_neg]
        unfold modeB
        rw [decide_eq_false (by omega), decide_eq_false (p := 0 ≤ m) (by omega)]
        simp
      obtain ⟨v, hv⟩ : ∃ v, isE T 0 = v := ⟨_, rfl⟩
      obtain ⟨c0, hc⟩ : ∃ v, askI T [0] = v := ⟨_, rfl⟩
      have hli := hide hv
      have hla := hide hc
      have g1 : (m != -1) = true := by rw [bne_iff_ne]; omega
      have g2 : decide (m < 0) = true := by rw [decide_eq_true_eq]; omega
      have g3 : max m 0 = 0 := by omega
      clear hg hv hc
      go_enter Tryz.func51, Tryz.ntmps51
      go_wp2_with fail
      refine (check_ok _ _ c T _ (hT.out.below hB0)).mono ?_
      rintro e w1 ⟨rfl, hb1⟩
      have hB1 := Below.on hB0 hb1
      have hbox1 := cell_later hb1 hbox0
      have hS1 := hide (hS0.out.later hb1)
      clear hb1 hbox0
      go_wp2_with fail
      refine (linkIs_at T 0 v c0 hli.out hla.out _ _ c _ (hT.out.below hB1)).mono ?_
      rintro e w2 ⟨rfl, hb2⟩
      have hB2 := Below.on hB1 hb2
      obtain ⟨s0, s1, s2, s3, s4, s5, s6, s7, s8⟩ := hS1.out.later hb2
      clear hb2
      go_wp2
      go_ret
      exact ⟨ret_int hr.out.symm, hB2⟩
    · obtain ⟨j, rfl⟩ := Int.eq_ofNat_of_zero_le h1
      have g1 : ((j : Int) != -1) = true := by rw [bne_iff_ne]; omega
      have g3 : max (j : Int) 0 = (j : Int) := by omega
      by_cases h2 : j < n
      · have ha : askI T [(j : Int)] = 0 := askI_ok hg (by simp; omega)
        have hla := hide ha
        have hmm : modeB T j = lkB T j := by
          unfold modeB
          rw [decide_eq_false (by omega), decide_eq_true (p := (0 : Int) ≤ j) (by omega), decide_eq_true (p := (j : Int) < T.length) (by omega), Int.toNat_natCast]
          simp
        cases hlk : lkB T j
        · have hr : Hid (smE T ⟨k, nm, op, vl, fo, a, b, f, LA, ln, lc⟩ j = 2) := by show _ = _; unfold smE; rw [if_pos hg, if_neg (by rw [hmm, hlk]; simp)]
          have hli : Hid (isE T j = false) := by show _ = _; unfold isE; rw [if_pos ha, Int.toNat_natCast, hlk]
          clear hg ha hmm hlk h1 h2
          go_enter Tryz.func51, Tryz.ntmps51
          go_wp2_with fail
          refine (check_ok _ _ c T _ (hT.out.below hB0)).mono ?_
          rintro e w1 ⟨rfl, hb1⟩
          have hB1 := Below.on hB0 hb1
          have hbox1 := cell_later hb1 hbox0
          have hS1 := hide (hS0.out.later hb1)
          clear hb1 hbox0
          go_wp2_with fail
          refine (linkIs_at T j false 0 hli.out hla.out _ _ c _ (hT.out.below hB1)).mono ?_
          rintro e w2 ⟨rfl, hb2⟩
          have hB2 := Below.on hB1 hb2
          obtain ⟨s0, s1, s2, s3, s4, s5, s6, s7, s8⟩ := hS1.out.later hb2
          clear hb2
          go_wp2
          go_ret
          exact ⟨ret_int hr.out.symm, hB2⟩
        · have hr : Hid (smE T ⟨k, nm, op, vl, fo, a, b, f, LA, ln, lc⟩ j = chkS ⟨k, nm, op, vl, fo, a, b, f, LA, ln, lc⟩) := by show _ = _; unfold smE; rw [if_pos hg, if_pos (by rw [hmm, hlk])]
          have hli : Hid (isE T j = true) := by show _ = _; unfold isE; rw [if_pos ha, Int.toNat_natCast, hlk]
          clear hg ha hmm hlk h1 h2
          go_enter Tryz.func51, Tryz.ntmps51
          go_wp2_with fail
          refine (check_ok _ _ c T _ (hT.out.below hB0)).mono ?_
          rintro e w1 ⟨rfl, hb1⟩
          have hB1 := Below.on hB0 hb1
          have hbox1 := cell_later hb1 hbox0
          have hS1 := hide (hS0.out.later hb1)
          clear hb1 hbox0
          go_wp2_with fail
          refine (linkIs_at T j true 0 hli.out hla.out _ _ c _ (hT.out.below hB1)).mono ?_
          rintro e w2 ⟨rfl, hb2⟩
          have hB2 := Below.on hB1 hb2
          obtain ⟨s0, s1, s2, s3, s4, s5, s6, s7, s8⟩ := hS1.out.later hb2
          clear hb2
          go_wp2_with fail
          refine (scheck_ok k nm op vl fo a b f LA ln lc _).mono ?_
          rintro e w3 ⟨rfl, hb3⟩
          have hB3 := Below.on hB2 hb3
          go_wp2
          go_ret
          exact ⟨ret_int hr.out.symm, hB3⟩
      · have ha : askI T [(j : Int)] ≠ 0 := fun h => by have := (askI_zero.1 h).2 j (by simp); omega
        obtain ⟨c0, hc⟩ : ∃ v, askI T [(j : Int)] = v := ⟨_, rfl⟩
        have hla := hide hc
        have hc9 : (c0 != 0) = true := by rw [hc] at ha; simp [ha]
        have hr : Hid (smE T ⟨k, nm, op, vl, fo, a, b, f, LA, ln, lc⟩ j = 2) := by
          show _ = _
          unfold smE
          rw [if_pos hg, if_neg]
          unfold modeB
          rw [decide_eq_false (by omega), decide_eq_false (p := (j : Int) < T.length) (by omega)]
          simp
        obtain ⟨v, hv⟩ : ∃ v, isE T j = v := ⟨_, rfl⟩
        have hli := hide hv
        clear hg hv hc ha h1 h2
        go_enter Tryz.func51, Tryz.ntmps51
        go_wp2_with fail
        refine (check_ok _ _ c T _ (hT.out.below hB0)).mono ?_
        rintro e w1 ⟨rfl, hb1⟩
        have hB1 := Below.on hB0 hb1
        have hbox1 := cell_later hb1 hbox0
        have hS1 := hide (hS0.out.later hb1)
        clear hb1 hbox0
        go_wp2_with fail
        refine (linkIs_at T j v c0 hli.out hla.out _ _ c _ (hT.out.below hB1)).mono ?_
        rintro e w2 ⟨rfl, hb2⟩
        have hB2 := Below.on hB1 hb2
        obtain ⟨s0, s1, s2, s3, s4, s5, s6, s7, s8⟩ := hS1.out.later hb2
        clear hb2
        go_wp2
        go_ret
        exact ⟨ret_int hr.out.symm, hB2⟩
  · have hc0 : chk T = 8 := chk_bad hg
    have hr : Hid (smE T ⟨k, nm, op, vl, fo, a, b, f, LA, ln, lc⟩ m = 8) := if_neg hg
    clear hg
    go_enter Tryz.func51, Tryz.ntmps51
    go_wp2_with fail
    refine (check_ok _ _ c T _ (hT.out.below hB0)).mono ?_
    rintro e w1 ⟨rfl, hb1⟩
    have hB1 := Below.on hB0 hb1
    have hbox1 := cell_later hb1 hbox0
    have hS1 := hide (hS0.out.later hb1)
    clear hb1 hbox0
    go_wp2
    go_ret
    exact ⟨ret_int hr.out.symm, hB1⟩
theorem scheckT_at (T : List ANode) (k : Int) (nm : ByteArray) (op : Int) (vl : ByteArray) (fo : Bool) (a b : Int) (f : Bool) (LA : Option Addr) (ln lc : Nat) (m c0 : Int) (h0 : smE T ⟨k, nm, op, vl, fo, a, b, f, LA, ln, lc⟩ m = c0) (A : Option Addr) (n c : Nat) (w : World) (h : IsTree w A n T) :
    Calls Tryz.prog 51 #[.agg #[.slice A n c], .agg #[.int .u8 k, .string nm, .int .u8 op, .string vl, .bool fo, .int .i64 a, .int .i64 b, .bool f, .slice LA ln lc], .int .i64 m] w
      fun r w' => r = .returned (.int .i64 c0) ∧ Below w.heap.size w w' := by
  have := scheckT_ok A n c T k nm op vl fo a b f LA ln lc m w h
  rw [h0] at this
  exact this
set_option maxRecDepth 100000 in
set_option maxHeartbeats 2000000 in
theorem sMatch_ok (A : Option Addr) (n c : Nat) (T : List ANode) (i : Int) (k : Int) (nm : ByteArray) (op : Int) (vl : ByteArray) (fo : Bool) (a b : Int) (f : Bool) (LA : Option Addr) (ln lc : Nat) (m : Int) (w : World) (h : IsTree w A n T) (hmx : HasMax w) :
    Calls Tryz.prog 140 #[.agg #[.slice A n c], .int .i64 i, .agg #[.int .u8 k, .string nm, .int .u8 op, .string vl, .bool fo, .int .i64 a, .int .i64 b, .bool f, .slice LA ln lc], .int .i64 m] w
      fun r w' => r = .returned (.tuple #[.bool (smatV T i ⟨k, nm, op, vl, fo, a, b, f, LA, ln, lc⟩ m), .int .i64 (smatE T i ⟨k, nm, op, vl, fo, a, b, f, LA, ln, lc⟩ m)]) ∧ Below w.heap.size w w' := by
  have hT := hide h
  have hl := h.1
  have hm' := hide hmx
  have hB0 := below_alloc (below_alloc (Below.refl w.heap.size w) (.cells #[.slice A n c] 24)) (.cells #[.int .u8 k, .string nm, .int .u8 op, .string vl, .bool fo, .int .i64 a, .int .i64 b, .bool f, .slice LA ln lc] 41)
  have hbox0 : ((w.alloc (.cells #[.slice A n c] 24)).alloc (.cells #[.int .u8 k, .string nm, .int .u8 op, .string vl, .bool fo, .int .i64 a, .int .i64 b, .bool f, .slice LA ln lc] 41)).cell? ⟨w.heap.size, 0, none⟩ = some (.slice A n c) := by go_simp
  have hS0 := hide (simAt_at (w.alloc (.cells #[.slice A n c] 24)) (w.heap.size + 1) (by simp) k nm op vl fo a b f LA ln lc)
  clear h hmx
  by_cases h0 : askI T [i] = 0
  · obtain ⟨hg, hir⟩ := askI_zero.1 h0
    have hir' := hir i (by simp)
    obtain ⟨j, rfl⟩ := Int.eq_ofNat_of_zero_le hir'.1
    have hj : j < n := by omega
    have hia := hide h0
    by_cases h1 : smE T ⟨k, nm, op, vl, fo, a, b, f, LA, ln, lc⟩ m = 0
    · have hvl := (chkS_val (smE_zero.1 h1).2.2).1
      have hE : Hid (smatE T j ⟨k, nm, op, vl, fo, a, b, f, LA, ln, lc⟩ m = 0) := by show _ = _; unfold smatE; rw [if_pos h0, h1]
      have hV : Hid (smatV T j ⟨k, nm, op, vl, fo, a, b, f, LA, ln, lc⟩ m = matS T j ⟨k, nm, op, vl, fo, a, b, f, LA, ln, lc⟩ m) := by show _ = _; unfold smatV; rw [if_pos hE.out, Int.toNat_natCast]
      have hse := hide h1
      have hg' := hide hg
      have hvl' : vl.size ≤ 1000 := by have : vl.size ≤ 400 := hvl; omega
      clear h0 h1 hg hir hir' hvl
      go_enter Tryz.func140, Tryz.ntmps140
      go_wp2_with fail
      have hx := depth_ok _ _ c T j _ (hT.out.below hB0)
      rw [hia.out] at hx
      refine hx.mono ?_
      clear hx
      rintro e w1 ⟨rfl, hb1⟩
      have hB1 := Below.on hB0 hb1
      have hbox1 := cell_later hb1 hbox0
      have hS1 := hide (hS0.out.later hb1)
      clear hb1 hbox0
      obtain ⟨s0, s1, s2, s3, s4, s5, s6, s7, s8⟩ := hS1.out
      go_wp2_with fail
      refine (scheckT_at T k nm op vl fo a b f LA ln lc m 0 hse.out _ _ c _ (hT.out.below hB1)).mono ?_
      rintro e w2 ⟨rfl, hb2⟩
      have hB2 := Below.on hB1 hb2
      have hbox2 := cell_later hb2 hbox1
      have hS2 := hide (hS1.out.later hb2)
      clear hb2 hbox1 s0 s1 s2 s3 s4 s5 s6 s7 s8
      obtain ⟨s0, s1, s2, s3, s4, s5, s6, s7, s8⟩ := hS2.out
      go_wp2_with fail
      refine (smatch_ok _ _ c T j k nm op vl fo a b f LA ln lc m _ (hT.out.below hB2) hj hg'.out hvl' (hm'.out.below hB2)).mono ?_
      rintro e w3 ⟨rfl, hb3⟩
      have hB3 := Below.on hB2 hb3
      clear s0 s1 s2 s3 s4 s5 s6 s7 s8
      go_wp2
      go_ret2
      exact ⟨ret_bi hV.out.symm hE.out.symm, hB3⟩
    · obtain ⟨c1, hc1⟩ : ∃ x, smE T ⟨k, nm, op, vl, fo, a, b, f, LA, ln, lc⟩ m = x := ⟨_, rfl⟩
      have hE : Hid (smatE T j ⟨k, nm, op, vl, fo, a, b, f, LA, ln, lc⟩ m = c1) := by show _ = _; unfold smatE; rw [if_pos h0, hc1]
      have hcz : ¬ c1 = 0 := by rw [← hc1]; exact h1
      have hV : Hid (smatV T j ⟨k, nm, op, vl, fo, a, b, f, LA, ln, lc⟩ m = false) := by show _ = _; unfold smatV; rw [if_neg (by rw [hE.out]; exact hcz)]
      have hse := hide hc1
      have hcb : (c1 != 0) = true := by rw [bne_iff_ne]; exact hcz
      clear h0 h1 hg hir hir' hc1 hcz
      go_enter Tryz.func140, Tryz.ntmps140
      go_wp2_with fail
      have hx := depth_ok _ _ c T j _ (hT.out.below hB0)
      rw [hia.out] at hx
      refine hx.mono ?_
      clear hx
      rintro e w1 ⟨rfl, hb1⟩
      have hB1 := Below.on hB0 hb1
      have hbox1 := cell_later hb1 hbox0
      have hS1 := hide (hS0.out.later hb1)
      clear hb1 hbox0
      obtain ⟨s0, s1, s2, s3, s4, s5, s6, s7, s8⟩ := hS1.out
      go_wp2_with fail
      refine (scheckT_at T k nm op vl fo a b f LA ln lc m c1 hse.out _ _ c _ (hT.out.below hB1)).mono ?_
      rintro e w2 ⟨rfl, hb2⟩
      have hB2 := Below.on hB1 hb2
      have hbox2 := cell_later hb2 hbox1
      have hS2 := hide (hS1.out.later hb2)
      clear hb2 hbox1 s0 s1 s2 s3 s4 s5 s6 s7 s8
      obtain ⟨s0, s1, s2, s3, s4, s5, s6, s7, s8⟩ := hS2.out
      go_wp2
      go_ret2
      exact ⟨ret_bi hV.out.symm hE.out.symm, hB2⟩
  · obtain ⟨c1, hc1⟩ : ∃ x, askI T [i] = x := ⟨_, rfl⟩
    have hcz : ¬ c1 = 0 := by rw [← hc1]; exact h0
    have hE : Hid (smatE T i ⟨k, nm, op, vl, fo, a, b, f, LA, ln, lc⟩ m = c1) := by show _ = _; unfold smatE; rw [if_neg h0, hc1]
    have hV : Hid (smatV T i ⟨k, nm, op, vl, fo, a, b, f, LA, ln, lc⟩ m = false) := by show _ = _; unfold smatV; rw [if_neg (by rw [hE.out]; exact hcz)]
    have hia := hide hc1
    have hcb : (c1 != 0) = true := by rw [bne_iff_ne]; exact hcz
    clear h0 hc1 hcz
    go_enter Tryz.func140, Tryz.ntmps140
    go_wp2_with fail
    have hx := depth_ok _ _ c T i _ (hT.out.below hB0)
    rw [hia.out] at hx
    refine hx.mono ?_
    clear hx
    rintro e w1 ⟨rfl, hb1⟩
    have hB1 := Below.on hB0 hb1
    have hbox1 := cell_later hb1 hbox0
    have hS1 := hide (hS0.out.later hb1)
    clear hb1 hbox0
    obtain ⟨s0, s1, s2, s3, s4, s5, s6, s7, s8⟩ := hS1.out
    go_wp2
    go_ret2
    exact ⟨ret_bi hV.out.symm hE.out.symm, hB1⟩
set_option maxRecDepth 100000 in
set_option maxHeartbeats 2000000 in
theorem sAll_ok (A : Option Addr) (n c : Nat) (T : List ANode) (k : Int) (nm : ByteArray) (op : Int) (vl : ByteArray) (fo : Bool) (a b : Int) (f : Bool) (LA : Option Addr) (ln lc : Nat) (m : Int) (w : World) (h : IsTree w A n T) (hmx : HasMax w) :
    Calls Tryz.prog 34 #[.agg #[.slice A n c], .agg #[.int .u8 k, .string nm, .int .u8 op, .string vl, .bool fo, .int .i64 a, .int .i64 b, .bool f, .slice LA ln lc], .int .i64 m] w
      (MadeB w (sallV T ⟨k, nm, op, vl, fo, a, b, f, LA, ln, lc⟩ m) (smE T ⟨k, nm, op, vl, fo, a, b, f, LA, ln, lc⟩ m)) := by
  have hT := hide h
  have hl := h.1
  have hm' := hide hmx
  have hB0 := below_alloc (below_alloc (Below.refl w.heap.size w) (.cells #[.slice A n c] 24)) (.cells #[.int .u8 k, .string nm, .int .u8 op, .string vl, .bool fo, .int .i64 a, .int .i64 b, .bool f, .slice LA ln lc] 41)
  have hbox0 : ((w.alloc (.cells #[.slice A n c] 24)).alloc (.cells #[.int .u8 k, .string nm, .int .u8 op, .string vl, .bool fo, .int .i64 a, .int .i64 b, .bool f, .slice LA ln lc] 41)).cell? ⟨w.heap.size, 0, none⟩ = some (.slice A n c) := by go_simp
  have hS0 := hide (simAt_at (w.alloc (.cells #[.slice A n c] 24)) (w.heap.size + 1) (by simp) k nm op vl fo a b f LA ln lc)
  clear h hmx
  by_cases h1 : smE T ⟨k, nm, op, vl, fo, a, b, f, LA, ln, lc⟩ m = 0
  · obtain ⟨hg, -, hck⟩ := smE_zero.1 h1
    have hvl' : vl.size ≤ 1000 := by have : vl.size ≤ 400 := (chkS_val hck).1; omega
    obtain ⟨S, hS⟩ : ∃ S : Sim, S = ⟨k, nm, op, vl, fo, a, b, f, LA, ln, lc⟩ := ⟨_, rfl⟩
    obtain ⟨XL, hXL⟩ : ∃ X, sallL T ⟨k, nm, op, vl, fo, a, b, f, LA, ln, lc⟩ m = X := ⟨_, rfl⟩
    have hq : sallV T ⟨k, nm, op, vl, fo, a, b, f, LA, ln, lc⟩ m = XL := by unfold sallV; rw [if_pos h1, hXL]
    have hse := hide h1
    have hg' := hide hg
    have hrl : Hid (XL.length = n) := by show _ = _; rw [← hXL, sallL_len, hl]
    have hts := hide (show ∀ q, q < n → XL.take (q + 1) = XL.take q ++ [matS T q ⟨k, nm, op, vl, fo, a, b, f, LA, ln, lc⟩ m] from fun q hq => by rw [← hXL]; exact take_sallL T _ m (by omega))
    have hn64 : n ≤ 64 := by have := ((goodB_iff T).1 hg).2.1; omega
    rw [hq, h1]
    clear hq h1 hg hck hXL hS
    go_enter Tryz.func34, Tryz.ntmps34
    go_wp2_with fail
    refine (scheckT_at T k nm op vl fo a b f LA ln lc m 0 hse.out _ _ c _ (hT.out.below hB0)).mono ?_
    rintro e w2 ⟨rfl, hb2⟩
    have hB2 := Below.on hB0 hb2
    have hbox2 := cell_later hb2 hbox0
    have hS2 := hide (hS0.out.later hb2)
    clear hb2 hbox0
    go_wp2
    go_loopw [9, 21] (fun v s wr => ∃ q : Nat, q ≤ n ∧ s = .int .i64 q ∧ OwnB wr w2.heap.size v (XL.take q) ∧ Below w2.heap.size w2 wr) (fun _ s _ => n - (intOf s).toNat)
    case atStart => exact ⟨0, Nat.zero_le _, rfl, by rw [List.take_zero]; exact OwnB.nil _ _, Below.refl _ _⟩
    case round =>
      obtain ⟨q, hq, rfl, hown, hb⟩ := hrel
      have hbx := cell_later hb hbox2
      have hBw := Below.on hB2 hb
      have hlq : (XL.take q).length ≤ 64 := by rw [List.length_take, hrl.out]; omega
      by_cases hlt : q < n
      · obtain ⟨s0, s1, s2, s3, s4, s5, s6, s7, s8⟩ := hS2.out.later hb
        have hx := hide (smatch_ok A n c T q k nm op vl fo a b f LA ln lc m wr (hT.out.below hBw) hlt hg'.out hvl' (hm'.out.below hBw))
        obtain ⟨rb, hrb⟩ : ∃ rb, matS T q ⟨k, nm, op, vl, fo, a, b, f, LA, ln, lc⟩ m = rb := ⟨_, rfl⟩
        have hts1 := hts.out q hlt
        rw [hrb] at hx hts1
        have hts1' := hide hts1
        clear hrb hts1
        go_wp2_with fail
        (with_reducible refine hx.out.mono ?_)
        rintro e3 w3 ⟨rfl, hb3⟩
        have hown3 := hown.below hb3
        have hB3 := hide (Below.on hb hb3)
        have hsz3 : w2.heap.size ≤ w3.heap.size := hB3.out.size
        clear hown hb3 s0 s1 s2 s3 s4 s5 s6 s7 s8
        go_wp2_with (at_builtin; refine wpList_pushB rfl _ _ rfl hown3 rb _ rfl rfl (by omega) hsz3 ?_)
        intro A5 c5 w5 hown5 hgr
        have hB5 := hide (hgr.below (Nat.le_refl _) hB3.out)
        have hown5' := hide hown5
        clear hgr hown5 hown3
        go_wp2
        go_roundw
        case rel => exact ⟨q + 1, by omega, by go_num, by rw [hts1'.out]; exact hown5'.out, hB5.out⟩
        case measure => simp [intOf]; omega
      · have he : Hid (XL.take q = XL) := List.take_of_length_le (by rw [hrl.out]; omega)
        rw [he.out] at hown
        obtain ⟨A5, c5, rfl, h51, h52, hI5⟩ := hown.isBools (by rw [hrl.out]; omega)
        have hI5' := hide hI5
        clear hI5 hown
        go_wp2
        go_ret2
        exact ⟨A5, c5, rfl, hI5'.out, h51, h52, hBw⟩
  · obtain ⟨c1, hc1⟩ : ∃ x, smE T ⟨k, nm, op, vl, fo, a, b, f, LA, ln, lc⟩ m = x := ⟨_, rfl⟩
    have hcz : ¬ c1 = 0 := by rw [← hc1]; exact h1
    have hq : sallV T ⟨k, nm, op, vl, fo, a, b, f, LA, ln, lc⟩ m = [] := by unfold sallV; rw [if_neg h1]
    have hse := hide hc1
    have hcb : (c1 != 0) = true := by rw [bne_iff_ne]; exact hcz
    rw [hq, hc1]
    clear h1 hc1 hcz hq
    go_enter Tryz.func34, Tryz.ntmps34
    go_wp2_with fail
    refine (scheckT_at T k nm op vl fo a b f LA ln lc m c1 hse.out _ _ c _ (hT.out.below hB0)).mono ?_
    rintro e w2 ⟨rfl, hb2⟩
    have hB2 := Below.on hB0 hb2
    have hbox2 := cell_later hb2 hbox0
    have hS2 := hide (hS0.out.later hb2)
    clear hb2 hbox0
    go_wp2
    go_ret2
    exact madeB_nil hB2
end Go.Proofs.YtljloicgjgbplaaGreat
/- Walks: whether an element matches a simple selector, modes, errors, all matches, by the reference. Conditions: as each states. -/
namespace Go.Proofs.YtljloicgjgbplaaGreat
open Go.RowKit

theorem rgot_at (T : List ANode) (i : Nat) (s : ByteArray) (v : ByteArray) (g : Bool) (h0 : getV T i s = v) (h1 : hasA (atl T i) s = g) (A : Option Addr) (n c : Nat) (w : World) (h : IsTree w A n T) (hi : i < n) (hg : goodB T = true) :
    Calls Tryz.prog 166 #[.agg #[.slice A n c], .int .i64 i, .string s] w fun e w' => e = .returned (.tuple #[.string v, .bool g]) ∧ Below w.heap.size w w' := by
  have := rgot_ok A n c T i s w h hi hg
  rw [h0, h1] at this
  exact this
theorem rlk_at (T : List ANode) (i : Nat) (g : Bool) (h1 : lkB T i = g) (A : Option Addr) (n c : Nat) (w : World) (h : IsTree w A n T) (hi : i < n) (hg : goodB T = true) :
    Calls Tryz.prog 43 #[.agg #[.slice A n c], .int .i64 i] w fun e w' => e = .returned (.bool g) ∧ Below w.heap.size w w' := by
  have := rlk_ok A n c T i w h hi hg
  rw [h1] at this
  exact this
set_option maxRecDepth 100000 in
set_option maxHeartbeats 4000000 in
theorem rsmatch_ok (A : Option Addr) (n c : Nat) (T : List ANode) (i : Nat) (k : Int) (nm : ByteArray) (op : Int) (vl : ByteArray) (fo : Bool) (a b : Int) (f : Bool) (LA : Option Addr) (ln lc : Nat) (m : Int) (w : World) (h : IsTree w A n T) (hi : i < n) (hg : goodB T = true) (hvl : vl.size ≤ 1000) :
    Calls Tryz.prog 152 #[.agg #[.slice A n c], .int .i64 i, .agg #[.int .u8 k, .string nm, .int .u8 op, .string vl, .bool fo, .int .i64 a, .int .i64 b, .bool f, .slice LA ln lc], .int .i64 m] w
      fun r w' => r = .returned (.bool (matS T i ⟨k, nm, op, vl, fo, a, b, f, LA, ln, lc⟩ m)) ∧ Below w.heap.size w w' := by
  have ho := hide h.2.2.2
  have hT := hide h
  have hl := h.1
  have hB0 := below_alloc (below_alloc (Below.refl w.heap.size w) (.cells #[.slice A n c] 24)) (.cells #[.int .u8 k, .string nm, .int .u8 op, .string vl, .bool fo, .int .i64 a, .int .i64 b, .bool f, .slice LA ln lc] 41)
  have hbox0 : ((w.alloc (.cells #[.slice A n c] 24)).alloc (.cells #[.int .u8 k, .string nm, .int .u8 op, .string vl, .bool fo, .int .i64 a, .int .i64 b, .bool f, .slice LA ln lc] 41)).cell? ⟨w.heap.size, 0, none⟩ = some (.slice A n c) := by go_simp
  have hS0 := hide (simAt_at (w.alloc (.cells #[.slice A n c] 24)) (w.heap.size + 1) (by simp) k nm op vl fo a b f LA ln lc)
  have ha0 : askI T [(i : Int)] = 0 := askI_ok hg (by simp; omega)
  have hask := hide ha0
  obtain ⟨lk, hlk⟩ : ∃ x, lkB T i = x := ⟨_, rfl⟩
  have hg' := hide hg
  have hha := hide (show ∀ s, hasA (atl T i) s = decide (getE T i s = 0) from fun s => by
    unfold getE
    rw [if_pos ha0, Int.toNat_natCast]
    cases hasA (atl T i) s <;> simp)
  have hgs := hide (fun s => getV_size hg (show i < T.length by omega) s)
  have hcl := hide (show ∀ s, clsE T i s = clsB T i s from fun s => by unfold clsE; rw [if_pos ha0, Int.toNat_natCast])
  clear h ha0
  rcases (by omega : k = 1 ∨ k = 2 ∨ k = 3 ∨ k = 4 ∨ k = 5 ∨ k = 6 ∨ k = 7 ∨ (¬ k = 1 ∧ ¬ k = 2 ∧ ¬ k = 3 ∧ ¬ k = 4 ∧ ¬ k = 5 ∧ ¬ k = 6 ∧ ¬ k = 7)) with hk | hk | hk | hk | hk | hk | hk | ⟨hk1, hk2, hk3, hk4, hk5, hk6, hk7⟩
  · subst hk
    obtain ⟨gv, hgv0⟩ : ∃ x, getV T i idN = x := ⟨_, rfl⟩
    obtain ⟨ge, hge0⟩ : ∃ x, getE T i idN = x := ⟨_, rfl⟩
    have hgv := hide hgv0
    have hge := hide hge0
    have hr0 : matS T i ⟨1, nm, op, vl, fo, a, b, f, LA, ln, lc⟩ m = (decide (ge = 0) && decide (gv = nm)) := by
      show (decide (getE T i idN = 0) && decide (getV T i idN = nm)) = _
      rw [hgv0, hge0]
    by_cases h1 : ge = 0
    · subst h1
      by_cases h2 : gv = nm
      · have hr : Hid (matS T i ⟨1, nm, op, vl, fo, a, b, f, LA, ln, lc⟩ m = true) := by show _ = _; rw [hr0, decide_eq_true rfl, decide_eq_true h2]; rfl
        have h3 := str_eq h2
        have hgb : Hid (hasA (atl T i) idN = true) := by show _ = _; rw [hha.out, hge0]; exact decide_eq_true rfl
        clear hr0 hgv0 hge0 hlk h2
        go_enter Tryz.func152, Tryz.ntmps152
        obtain ⟨s0, s1, s2, s3, s4, s5, s6, s7, s8⟩ := hS0.out
        go_wp2_with fail
        refine (rgot_at T i idN gv true hgv.out hgb.out _ _ c _ (hT.out.below hB0) hi hg'.out).mono ?_
        rintro e w2 ⟨rfl, hb2⟩
        have hB2 := Below.on hB0 hb2
        have t1 := cell_later hb2 s1
        clear s0 s1 s2 s3 s4 s5 s6 s7 s8 hb2
        go_wp2
        go_ret
        exact ⟨ret_bool hr.out.symm, hB2⟩
      · have hr : Hid (matS T i ⟨1, nm, op, vl, fo, a, b, f, LA, ln, lc⟩ m = false) := by show _ = _; rw [hr0, decide_eq_false h2, Bool.and_false]
        have h3 := str_ne h2
        have hgb : Hid (hasA (atl T i) idN = true) := by show _ = _; rw [hha.out, hge0]; exact decide_eq_true rfl
        clear hr0 hgv0 hge0 hlk h2
        go_enter Tryz.func152, Tryz.ntmps152
        obtain ⟨s0, s1, s2, s3, s4, s5, s6, s7, s8⟩ := hS0.out
        go_wp2_with fail
        refine (rgot_at T i idN gv true hgv.out hgb.out _ _ c _ (hT.out.below hB0) hi hg'.out).mono ?_
        rintro e w2 ⟨rfl, hb2⟩
        have hB2 := Below.on hB0 hb2
        have t1 := cell_later hb2 s1
        clear s0 s1 s2 s3 s4 s5 s6 s7 s8 hb2
        go_wp2
        go_ret
        exact ⟨ret_bool hr.out.symm, hB2⟩
    · have hr : Hid (matS T i ⟨1, nm, op, vl, fo, a, b, f, LA, ln, lc⟩ m = false) := by show _ = _; rw [hr0, decide_eq_false h1, Bool.false_and]
      have hgb : Hid (hasA (atl T i) idN = false) := by show _ = _; rw [hha.out, hge0]; exact decide_eq_false h1
      clear hr0 hgv0 hge0 hlk h1
      go_enter Tryz.func152, Tryz.ntmps152
      obtain ⟨s0, s1, s2, s3, s4, s5, s6, s7, s8⟩ := hS0.out
      go_wp2_with fail
      refine (rgot_at T i idN gv false hgv.out hgb.out _ _ c _ (hT.out.below hB0) hi hg'.out).mono ?_
      rintro e w2 ⟨rfl, hb2⟩
      have hB2 := Below.on hB0 hb2
      clear s0 s1 s2 s3 s4 s5 s6 s7 s8 hb2
      go_wp2
      go_ret
      exact ⟨ret_bool hr.out.symm, hB2⟩
  · subst hk
    have hr : Hid (matS T i ⟨2, nm, op, vl, fo, a, b, f, LA, ln, lc⟩ m = clsB T i nm) := rfl
    clear hlk
    go_enter Tryz.func152, Tryz.ntmps152
    obtain ⟨s0, s1, s2, s3, s4, s5, s6, s7, s8⟩ := hS0.out
    go_wp2_with fail
    refine (classed_ok _ _ c T i nm _ (hT.out.below hB0) hi hg'.out).mono ?_
    rintro e w2 ⟨rfl, hb2⟩
    have hB2 := Below.on hB0 hb2
    clear s0 s1 s2 s3 s4 s5 s6 s7 s8 hb2
    go_wp2
    go_ret
    exact ⟨ret_bool hr.out.symm, hB2⟩
  · subst hk
    obtain ⟨gv, hgv0⟩ : ∃ x, getV T i nm = x := ⟨_, rfl⟩
    obtain ⟨ge, hge0⟩ : ∃ x, getE T i nm = x := ⟨_, rfl⟩
    have hgv := hide hgv0
    have hge := hide hge0
    have hgz : gv.size ≤ 400 := by rw [← hgv0]; exact hgs.out nm
    have hr0 : matS T i ⟨3, nm, op, vl, fo, a, b, f, LA, ln, lc⟩ m = (decide (ge = 0) && suitsF op vl fo gv) := by
      show (decide (getE T i nm = 0) && suitsF op vl fo (getV T i nm)) = _
      rw [hgv0, hge0]
    by_cases h1 : ge = 0
    · subst h1
      have hr : Hid (matS T i ⟨3, nm, op, vl, fo, a, b, f, LA, ln, lc⟩ m = suitsF op vl fo gv) := by show _ = _; rw [hr0, decide_eq_true rfl, Bool.true_and]
      have hgb : Hid (hasA (atl T i) nm = true) := by show _ = _; rw [hha.out, hge0]; exact decide_eq_true rfl
      clear hr0 hgv0 hge0 hlk
      go_enter Tryz.func152, Tryz.ntmps152
      obtain ⟨s0, s1, s2, s3, s4, s5, s6, s7, s8⟩ := hS0.out
      go_wp2_with fail
      refine (rgot_at T i nm gv true hgv.out hgb.out _ _ c _ (hT.out.below hB0) hi hg'.out).mono ?_
      rintro e w2 ⟨rfl, hb2⟩
      have hB2 := Below.on hB0 hb2
      clear s0 s1 s2 s3 s4 s5 s6 s7 s8
      obtain ⟨s0, s1, s2, s3, s4, s5, s6, s7, s8⟩ := hS0.out.later hb2
      clear hb2
      go_wp2_with fail
      refine (rsuits_ok 3 nm op vl fo a b f LA ln lc gv _ hvl hgz).mono ?_
      rintro e w3 ⟨rfl, hb3⟩
      have hB3 := Below.on hB2 hb3
      clear s0 s1 s2 s3 s4 s5 s6 s7 s8 hb3
      go_wp2
      go_ret
      exact ⟨ret_bool hr.out.symm, hB3⟩
    · have hr : Hid (matS T i ⟨3, nm, op, vl, fo, a, b, f, LA, ln, lc⟩ m = false) := by show _ = _; rw [hr0, decide_eq_false h1, Bool.false_and]
      have hgb : Hid (hasA (atl T i) nm = false) := by show _ = _; rw [hha.out, hge0]; exact decide_eq_false h1
      clear hr0 hgv0 hge0 hlk h1
      go_enter Tryz.func152, Tryz.ntmps152
      obtain ⟨s0, s1, s2, s3, s4, s5, s6, s7, s8⟩ := hS0.out
      go_wp2_with fail
      refine (rgot_at T i nm gv false hgv.out hgb.out _ _ c _ (hT.out.below hB0) hi hg'.out).mono ?_
      rintro e w2 ⟨rfl, hb2⟩
      have hB2 := Below.on hB0 hb2
      clear s0 s1 s2 s3 s4 s5 s6 s7 s8 hb2
      go_wp2
      go_ret
      exact ⟨ret_bool hr.out.symm, hB2⟩
  · subst hk
    have hr0 : matS T i ⟨4, nm, op, vl, fo, a, b, f, LA, ln, lc⟩ m = (lk && !decide ((i : Int) = m)) := by rw [← hlk]; rfl
    have hlk' := hide hlk
    clear hlk
    cases lk
    · have hr : Hid (matS T i ⟨4, nm, op, vl, fo, a, b, f, LA, ln, lc⟩ m = false) := hr0
      clear hr0
      go_enter Tryz.func152, Tryz.ntmps152
      obtain ⟨s0, s1, s2, s3, s4, s5, s6, s7, s8⟩ := hS0.out
      go_wp2_with fail
      refine (rlk_at T i false hlk'.out _ _ c _ (hT.out.below hB0) hi hg'.out).mono ?_
      rintro e w1 ⟨rfl, hb1⟩
      have hB1 := Below.on hB0 hb1
      clear s0 s1 s2 s3 s4 s5 s6 s7 s8 hb1
      go_wp2
      go_ret
      exact ⟨ret_bool hr.out.symm, hB1⟩
    · by_cases h1 : (i : Int) = m
      · have hr : Hid (matS T i ⟨4, nm, op, vl, fo, a, b, f, LA, ln, lc⟩ m = false) := by show _ = _; rw [hr0, decide_eq_true h1]; rfl
        have h3 : (m != (i : Int)) = false := by simp [h1]
        clear hr0 h1
        go_enter Tryz.func152, Tryz.ntmps152
        obtain ⟨s0, s1, s2, s3, s4, s5, s6, s7, s8⟩ := hS0.out
        go_wp2_with fail
        refine (rlk_at T i true hlk'.out _ _ c _ (hT.out.below hB0) hi hg'.out).mono ?_
        rintro e w1 ⟨rfl, hb1⟩
        have hB1 := Below.on hB0 hb1
        clear s0 s1 s2 s3 s4 s5 s6 s7 s8 hb1
        go_wp2
        go_ret
        exact ⟨ret_bool hr.out.symm, hB1⟩
      · have hr : Hid (matS T i ⟨4, nm, op, vl, fo, a, b, f, LA, ln, lc⟩ m = true) := by show _ = _; rw [hr0, decide_eq_false h1]; rfl
        have h3 : (m != (i : Int)) = true := by simp [Ne.symm h1]
        clear hr0 h1
        go_enter Tryz.func152, Tryz.ntmps152
        obtain ⟨s0, s1, s2, s3, s4, s5, s6, s7, s8⟩ := hS0.out
        go_wp2_with fail
        refine (rlk_at T i true hlk'.out _ _ c _ (hT.out.below hB0) hi hg'.out).mono ?_
        rintro e w1 ⟨rfl, hb1⟩
        have hB1 := Below.on hB0 hb1
        clear s0 s1 s2 s3 s4 s5 s6 s7 s8 hb1
        go_wp2
        go_ret
        exact ⟨ret_bool hr.out.symm, hB1⟩
  · subst hk
    have hr0 : matS T i ⟨5, nm, op, vl, fo, a, b, f, LA, ln, lc⟩ m = decide ((i : Int) = m) := rfl
    by_cases h1 : (i : Int) = m
    · have hr : Hid (matS T i ⟨5, nm, op, vl, fo, a, b, f, LA, ln, lc⟩ m = true) := by show _ = _; rw [hr0, decide_eq_true h1]
      have h3 : (m == (i : Int)) = true := by simp [h1]
      clear hr0 hlk h1
      go_enter Tryz.func152, Tryz.ntmps152
      obtain ⟨s0, s1, s2, s3, s4, s5, s6, s7, s8⟩ := hS0.out
      go_wp2
      go_ret
      exact ⟨ret_bool hr.out.symm, hB0⟩
    · have hr : Hid (matS T i ⟨5, nm, op, vl, fo, a, b, f, LA, ln, lc⟩ m = false) := by show _ = _; rw [hr0, decide_eq_false h1]
      have h3 : (m == (i : Int)) = false := by simp [Ne.symm h1]
      clear hr0 hlk h1
      go_enter Tryz.func152, Tryz.ntmps152
      obtain ⟨s0, s1, s2, s3, s4, s5, s6, s7, s8⟩ := hS0.out
      go_wp2
      go_ret
      exact ⟨ret_bool hr.out.symm, hB0⟩
  · subst hk
    have hr : Hid (matS T i ⟨6, nm, op, vl, fo, a, b, f, LA, ln, lc⟩ m = lk) := by show _ = _; rw [← hlk]; rfl
    have hlk' := hide hlk
    clear hlk
    go_enter Tryz.func152, Tryz.ntmps152
    obtain ⟨s0, s1, s2, s3, s4, s5, s6, s7, s8⟩ := hS0.out
    go_wp2_with fail
    refine (rlk_at T i lk hlk'.out _ _ c _ (hT.out.below hB0) hi hg'.out).mono ?_
    rintro e w1 ⟨rfl, hb1⟩
    have hB1 := Below.on hB0 hb1
    clear s0 s1 s2 s3 s4 s5 s6 s7 s8 hb1
    go_wp2
    go_ret
    exact ⟨ret_bool hr.out.symm, hB1⟩
  · subst hk
    have hr0 : matS T i ⟨7, nm, op, vl, fo, a, b, f, LA, ln, lc⟩ m = decide (i = 0) := rfl
    by_cases h1 : i = 0
    · have hr : Hid (matS T i ⟨7, nm, op, vl, fo, a, b, f, LA, ln, lc⟩ m = true) := by show _ = _; rw [hr0, decide_eq_true h1]
      have h3 : ((i : Int) == 0) = true := by simp [h1]
      clear hr0 hlk h1
      go_enter Tryz.func152, Tryz.ntmps152
      obtain ⟨s0, s1, s2, s3, s4, s5, s6, s7, s8⟩ := hS0.out
      go_wp2
      go_ret
      exact ⟨ret_bool hr.out.symm, hB0⟩
    · have hr : Hid (matS T i ⟨7, nm, op, vl, fo, a, b, f, LA, ln, lc⟩ m = false) := by show _ = _; rw [hr0, decide_eq_false h1]
      have h3 : ((i : Int) == 0) = false := by simp [h1]
      clear hr0 hlk h1
      go_enter Tryz.func152, Tryz.ntmps152
      obtain ⟨s0, s1, s2, s3, s4, s5, s6, s7, s8⟩ := hS0.out
      go_wp2
      go_ret
      exact ⟨ret_bool hr.out.symm, hB0⟩
  · obtain ⟨bb, off, aA, cA, aC, cC, rfl, hbl, -, -, -, c3, -, -⟩ := ho.out (by omega)
    have c3' := hide (c3 i hi)
    obtain ⟨kl, hkl⟩ : ∃ x, (kids T i).length = x := ⟨_, rfl⟩
    rw [hkl] at c3'
    have hr : Hid (matS T i ⟨k, nm, op, vl, fo, a, b, f, LA, ln, lc⟩ m = ((kl : Int) == 0)) := by
      show _ = _
      unfold matS
      dsimp only
      rw [if_neg hk1, if_neg hk2, if_neg hk3, if_neg hk5, if_neg hk4, if_neg hk6, if_neg hk7, hkl, Bool.eq_iff_iff, decide_eq_true_eq, beq_iff_eq]
      omega
    have e1 : (k == 1) = false := by simp [hk1]
    have e2 : (k == 2) = false := by simp [hk2]
    have e3 : (k == 3) = false := by simp [hk3]
    have e4 : (k == 4) = false := by simp [hk4]
    have e5 : (k == 5) = false := by simp [hk5]
    have e6 : (k == 6) = false := by simp [hk6]
    have e7 : (k == 7) = false := by simp [hk7]
    have q1 : (0 : Int) ≤ (i : Int) := by omega
    have q2 : (i : Int) < (n : Int) := by omega
    clear hlk hkl hk1 hk2 hk3 hk4 hk5 hk6 hk7 ho c3
    go_enter Tryz.func152, Tryz.ntmps152
    obtain ⟨s0, s1, s2, s3, s4, s5, s6, s7, s8⟩ := hS0.out
    have g3 := (old hB0 _ _ hbl).trans c3'.out
    go_wp2
    go_ret
    exact ⟨ret_bool hr.out.symm, hB0⟩
end Go.Proofs.YtljloicgjgbplaaGreat
/- Walks: modes, errors, matches and all matches of a simple selector, by the reference. Conditions: as each states. -/
namespace Go.Proofs.YtljloicgjgbplaaGreat
open Go.RowKit

theorem modeB_nat {T : List ANode} {j : Nat} (hj : j < T.length) : modeB T j = lkB T j := by
  unfold modeB
  rw [decide_eq_false (by omega), decide_eq_true (p := (0 : Int) ≤ j) (by omega), decide_eq_true (p := (j : Int) < T.length) (by omega), Int.toNat_natCast]
  simp
theorem modeB_no {T : List ANode} {m : Int} (h1 : ¬ m = -1) (h2 : ¬ (0 ≤ m ∧ m < T.length)) : modeB T m = false := by
  unfold modeB
  rw [decide_eq_false h1]
  by_cases h : 0 ≤ m
  · rw [decide_eq_false (p := m < T.length) (fun h3 => h2 ⟨h, h3⟩)]; simp
  · rw [decide_eq_false h]; simp
set_option maxRecDepth 100000 in
theorem rmode_ok (A : Option Addr) (n c : Nat) (T : List ANode) (m : Int) (w : World) (h : IsTree w A n T) (hg : goodB T = true) :
    Calls Tryz.prog 19 #[.agg #[.slice A n c], .int .i64 m] w fun r w' => r = .returned (.bool (modeB T m)) ∧ Below w.heap.size w w' := by
  have hT := hide h
  have hl := h.1
  clear h
  have hB0 := below_alloc (Below.refl w.heap.size w) (.cells #[.slice A n c] 24)
  have hbox0 : (w.alloc (.cells #[.slice A n c] 24)).cell? ⟨w.heap.size, 0, none⟩ = some (.slice A n c) := by go_simp
  have hg' := hide hg
  clear hg
  by_cases h0 : m = -1
  · subst h0
    have hr : Hid (modeB T (-1) = true) := rfl
    go_enter Tryz.func19, Tryz.ntmps19
    go_wp2
    go_ret
    exact ⟨ret_bool hr.out.symm, hB0⟩
  · have g1 : (m == -1) = false := by rw [beq_eq_false_iff_ne]; exact h0
    by_cases h1 : 0 ≤ m
    · obtain ⟨j, rfl⟩ := Int.eq_ofNat_of_zero_le h1
      by_cases h2 : j < n
      · have hr : Hid (modeB T j = lkB T j) := modeB_nat (by omega)
        have g3 : decide ((j : Int) < (n : Int)) = true := by rw [decide_eq_true_eq]; omega
        clear h0
        go_enter Tryz.func19, Tryz.ntmps19
        go_wp2_with fail
        refine (rlk_ok _ _ c T j _ (hT.out.below hB0) h2 hg'.out).mono ?_
        rintro e w1 ⟨rfl, hb1⟩
        have hB1 := Below.on hB0 hb1
        go_wp2
        go_ret
        exact ⟨ret_bool hr.out.symm, hB1⟩
      · have hr : Hid (modeB T j = false) := modeB_no h0 (by omega)
        have g3 : decide ((j : Int) < (n : Int)) = false := by rw [decide_eq_false_iff_not]; omega
        clear h0
        go_enter Tryz.func19, Tryz.ntmps19
        go_wp2
        go_ret
        exact ⟨ret_bool hr.out.symm, hB0⟩
    · have hr : Hid (modeB T m = false) := modeB_no h0 (by omega)
      have g3 : decide (0 ≤ m) = false := decide_eq_false h1
      clear h0
      go_enter Tryz.func19, Tryz.ntmps19
      go_wp2
      go_ret
      exact ⟨ret_bool hr.out.symm, hB0⟩
theorem rmode_at (T : List ANode) (m : Int) (v : Bool) (h0 : modeB T m = v) (A : Option Addr) (n c : Nat) (w : World) (h : IsTree w A n T) (hg : goodB T = true) :
    Calls Tryz.prog 19 #[.agg #[.slice A n c], .int .i64 m] w fun r w' => r = .returned (.bool v) ∧ Below w.heap.size w w' := by
  have := rmode_ok A n c T m w h hg
  rw [h0] at this
  exact this
end Go.Proofs.YtljloicgjgbplaaGreat
