/- Walks: the error of a tree, a mode and a simple selector, and which elements match, by the program. Condition: the variable of the library that strings.Contains reads holds a number. -/
import Derived.Test.YtbedomopojiehaaSv
namespace Go.Proofs.Ytbedomopojiehaa
open Go.RowKit

/-- A list of truth values and an error that come back. -/
def MadeB (w : World) (xs : List Bool) (code : Int) (e : Ending) (w' : World) : Prop :=
  ∃ (A : Option Addr) (c : Nat), e = .returned (.tuple #[.slice A xs.length c, .int .i64 code]) ∧ IsBools w' A xs.length xs ∧ xs.length ≤ c ∧ c ≤ maxLen ∧ Below w.heap.size w w'
theorem madeB_nil {w w' : World} {code : Int} (hb : Below w.heap.size w w') : MadeB w [] code (.returned (.tuple #[.slice none 0 0, .int .i64 code])) w' :=
  ⟨none, 0, rfl, ⟨rfl, by decide, fun h => absurd h (by decide)⟩, Nat.le_refl _, by unfold maxLen; omega, hb⟩
def modeB (T : List ANode) (m : Int) : Bool := decide (m = -1) || (decide (0 ≤ m) && decide (m < T.length) && lkB T m.toNat)
def smE (T : List ANode) (s : Sim) (m : Int) : Int := if goodB T = true then (if modeB T m = true then chkS s else 2) else 8
def smatE (T : List ANode) (i : Int) (s : Sim) (m : Int) : Int := if askI T [i] = 0 then smE T s m else askI T [i]
def smatV (T : List ANode) (i : Int) (s : Sim) (m : Int) : Bool := if smatE T i s m = 0 then matS T i.toNat s m else false
def sallL (T : List ANode) (s : Sim) (m : Int) : List Bool := (List.range T.length).map fun i => matS T i s m
def sallV (T : List ANode) (s : Sim) (m : Int) : List Bool := if smE T s m = 0 then sallL T s m else []
theorem sallL_len (T : List ANode) (s : Sim) (m : Int) : (sallL T s m).length = T.length := by simp [sallL]
theorem take_sallL (T : List ANode) (s : Sim) (m : Int) {q : Nat} (hq : q < T.length) : (sallL T s m).take (q + 1) = (sallL T s m).take q ++ [matS T q s m] := by
  rw [List.take_succ_eq_append_getElem (by rw [sallL_len]; exact hq)]
  simp [sallL]
theorem smE_zero {T : List ANode} {s : Sim} {m : Int} : smE T s m = 0 ↔ goodB T = true ∧ modeB T m = true ∧ chkS s = 0 := by
  unfold smE
  by_cases h : goodB T = true
  · rw [if_pos h]
    by_cases h2 : modeB T m = true
    · rw [if_pos h2]; simp [h, h2]
    · rw [if_neg h2]; simp [h2]
  · rw [if_neg h]; simp [h]

set_option maxRecDepth 100000 in
set_option maxHeartbeats 2000000 in
theorem scheckT_ok (A : Option Addr) (n c : Nat) (T : List ANode) (k : Int) (nm : ByteArray) (op : Int) (vl : ByteArray) (fo : Bool) (a b : Int) (f : Bool) (LA : Option Addr) (ln lc : Nat) (m : Int) (w : World) (h : IsTree w A n T) :
    Calls Try.prog 57 #[.agg #[.slice A n c], .agg #[.int .u8 k, .string nm, .int .u8 op, .string vl, .bool fo, .int .i64 a, .int .i64 b, .bool f, .slice LA ln lc], .int .i64 m] w
      fun r w' => r = .returned (.int .i64 (smE T ⟨k, nm, op, vl, fo, a, b, f, LA, ln, lc⟩ m)) ∧ Below w.heap.size w w' := by
  have hT := hide h
  have hl := h.1
  have hB0 := below_alloc (below_alloc (Below.refl w.heap.size w) (.cells #[.slice A n c] 43)) (.cells #[.int .u8 k, .string nm, .int .u8 op, .string vl, .bool fo, .int .i64 a, .int .i64 b, .bool f, .slice LA ln lc] 26)
  have hbox0 : ((w.alloc (.cells #[.slice A n c] 43)).alloc (.cells #[.int .u8 k, .string nm, .int .u8 op, .string vl, .bool fo, .int .i64 a, .int .i64 b, .bool f, .slice LA ln lc] 26)).cell? ⟨w.heap.size, 0, none⟩ = some (.slice A n c) := by go_simp
  have hS0 := hide (simAt_at (w.alloc (.cells #[.slice A n c] 43)) (w.heap.size + 1) (by simp) k nm op vl fo a b f LA ln lc)
  clear h
  by_cases hg : goodB T = true
  · have hc0 : chk T = 0 := chk_ok hg
    rcases (by omega : m = -1 ∨ m < -1 ∨ 0 ≤ m) with h1 | h1 | h1
    · subst h1
      have hr : Hid (smE T ⟨k, nm, op, vl, fo, a, b, f, LA, ln, lc⟩ (-1) = chkS ⟨k, nm, op, vl, fo, a, b, f, LA, ln, lc⟩) := by show _ = _; unfold smE; rw [if_pos hg, if_pos (show modeB T (-1) = true from rfl)]
      obtain ⟨v, hv⟩ : ∃ v, isE T 0 = v := ⟨_, rfl⟩
      obtain ⟨c0, hc⟩ : ∃ v, askI T [0] = v := ⟨_, rfl⟩
      have hli := hide hv
      have hla := hide hc
      clear hg hv hc
      go_enter Try.func57, Try.ntmps57
      go_wp2_with fail
      refine (check_ok _ _ c T _ (hT.out.below hB0)).mono ?_
      rintro e w1 ⟨rfl, hb1⟩
      have hB1 := Below.on hB0 hb1
      have hbox1 := cell_later hb1 hbox0
      have hS1 := hide (hS0.out.later hb1)
      clear hb1 hbox0
      go_wp2_with fail
      refine (linkIs_at T 0 v c0 hli.out hla.out _ _ c _ (hT.out.below hB1)).mono ?_
      rintro e w2 ⟨rfl, hb2⟩
      have hB2 := Below.on hB1 hb2
      obtain ⟨s0, s1, s2, s3, s4, s5, s6, s7, s8⟩ := hS1.out.later hb2
      clear hb2
      go_wp2_with fail
      refine (scheck_ok k nm op vl fo a b f LA ln lc _).mono ?_
      rintro e w3 ⟨rfl, hb3⟩
      have hB3 := Below.on hB2 hb3
      go_wp2
      go_ret
      exact ⟨ret_int hr.out.symm, hB3⟩
    · have hr : Hid (smE T ⟨k, nm, op, vl, fo, a, b, f, LA, ln, lc⟩ m = 2) := by
        show _ = _
        unfold smE
        rw [if_pos hg, if_neg]
        unfold modeB
        rw [decide_eq_false (by omega), decide_eq_false (p := 0 ≤ m) (by omega)]
        simp
      obtain ⟨v, hv⟩ : ∃ v, isE T 0 = v := ⟨_, rfl⟩
      obtain ⟨c0, hc⟩ : ∃ v, askI T [0] = v := ⟨_, rfl⟩
      have hli := hide hv
      have hla := hide hc
      have g1 : (m != -1) = true := by rw [bne_iff_ne]; omega
      have g2 : decide (m < 0) = true := by rw [decide_eq_true_eq]; omega
      have g3 : max m 0 = 0 := by omega
      clear hg hv hc
      go_enter Try.func57, Try.ntmps57
      go_wp2_with fail
      refine (check_ok _ _ c T _ (hT.out.below hB0)).mono ?_
      rintro e w1 ⟨rfl, hb1⟩
      have hB1 := Below.on hB0 hb1
      have hbox1 := cell_later hb1 hbox0
      have hS1 := hide (hS0.out.later hb1)
      clear hb1 hbox0
      go_wp2_with fail
      refine (linkIs_at T 0 v c0 hli.out hla.out _ _ c _ (hT.out.below hB1)).mono ?_
      rintro e w2 ⟨rfl, hb2⟩
      have hB2 := Below.on hB1 hb2
      obtain ⟨s0, s1, s2, s3, s4, s5, s6, s7, s8⟩ := hS1.out.later hb2
      clear hb2
      go_wp2
      go_ret
      exact ⟨ret_int hr.out.symm, hB2⟩
    · obtain ⟨j, rfl⟩ := Int.eq_ofNat_of_zero_le h1
      have g1 : ((j : Int) != -1) = true := by rw [bne_iff_ne]; omega
      have g3 : max (j : Int) 0 = (j : Int) := by omega
      by_cases h2 : j < n
      · have ha : askI T [(j : Int)] = 0 := askI_ok hg (by simp; omega)
        have hla := hide ha
        have hmm : modeB T j = lkB T j := by
          unfold modeB
          rw [decide_eq_false (by omega), decide_eq_true (p := (0 : Int) ≤ j) (by omega), decide_eq_true (p := (j : Int) < T.length) (by omega), Int.toNat_natCast]
          simp
        cases hlk : lkB T j
        · have hr : Hid (smE T ⟨k, nm, op, vl, fo, a, b, f, LA, ln, lc⟩ j = 2) := by show _ = _; unfold smE; rw [if_pos hg, if_neg (by rw [hmm, hlk]; simp)]
          have hli : Hid (isE T j = false) := by show _ = _; unfold isE; rw [if_pos ha, Int.toNat_natCast, hlk]
          clear hg ha hmm hlk h1 h2
          go_enter Try.func57, Try.ntmps57
          go_wp2_with fail
          refine (check_ok _ _ c T _ (hT.out.below hB0)).mono ?_
          rintro e w1 ⟨rfl, hb1⟩
          have hB1 := Below.on hB0 hb1
          have hbox1 := cell_later hb1 hbox0
          have hS1 := hide (hS0.out.later hb1)
          clear hb1 hbox0
          go_wp2_with fail
          refine (linkIs_at T j false 0 hli.out hla.out _ _ c _ (hT.out.below hB1)).mono ?_
          rintro e w2 ⟨rfl, hb2⟩
          have hB2 := Below.on hB1 hb2
          obtain ⟨s0, s1, s2, s3, s4, s5, s6, s7, s8⟩ := hS1.out.later hb2
          clear hb2
          go_wp2
          go_ret
          exact ⟨ret_int hr.out.symm, hB2⟩
        · have hr : Hid (smE T ⟨k, nm, op, vl, fo, a, b, f, LA, ln, lc⟩ j = chkS ⟨k, nm, op, vl, fo, a, b, f, LA, ln, lc⟩) := by show _ = _; unfold smE; rw [if_pos hg, if_pos (by rw [hmm, hlk])]
          have hli : Hid (isE T j = true) := by show _ = _; unfold isE; rw [if_pos ha, Int.toNat_natCast, hlk]
          clear hg ha hmm hlk h1 h2
          go_enter Try.func57, Try.ntmps57
          go_wp2_with fail
          refine (check_ok _ _ c T _ (hT.out.below hB0)).mono ?_
          rintro e w1 ⟨rfl, hb1⟩
          have hB1 := Below.on hB0 hb1
          have hbox1 := cell_later hb1 hbox0
          have hS1 := hide (hS0.out.later hb1)
          clear hb1 hbox0
          go_wp2_with fail
          refine (linkIs_at T j true 0 hli.out hla.out _ _ c _ (hT.out.below hB1)).mono ?_
          rintro e w2 ⟨rfl, hb2⟩
          have hB2 := Below.on hB1 hb2
          obtain ⟨s0, s1, s2, s3, s4, s5, s6, s7, s8⟩ := hS1.out.later hb2
          clear hb2
          go_wp2_with fail
          refine (scheck_ok k nm op vl fo a b f LA ln lc _).mono ?_
          rintro e w3 ⟨rfl, hb3⟩
          have hB3 := Below.on hB2 hb3
          go_wp2
          go_ret
          exact ⟨ret_int hr.out.symm, hB3⟩
      · have ha : askI T [(j : Int)] ≠ 0 := fun h => by have := (askI_zero.1 h).2 j (by simp); omega
        obtain ⟨c0, hc⟩ : ∃ v, askI T [(j : Int)] = v := ⟨_, rfl⟩
        have hla := hide hc
        have hc9 : (c0 != 0) = true := by rw [hc] at ha; simp [ha]
        have hr : Hid (smE T ⟨k, nm, op, vl, fo, a, b, f, LA, ln, lc⟩ j = 2) := by
          show _ = _
          unfold smE
          rw [if_pos hg, if_neg]
          unfold modeB
          rw [decide_eq_false (by omega), decide_eq_false (p := (j : Int) < T.length) (by omega)]
          simp
        obtain ⟨v, hv⟩ : ∃ v, isE T j = v := ⟨_, rfl⟩
        have hli := hide hv
        clear hg hv hc ha h1 h2
        go_enter Try.func57, Try.ntmps57
        go_wp2_with fail
        refine (check_ok _ _ c T _ (hT.out.below hB0)).mono ?_
        rintro e w1 ⟨rfl, hb1⟩
        have hB1 := Below.on hB0 hb1
        have hbox1 := cell_later hb1 hbox0
        have hS1 := hide (hS0.out.later hb1)
        clear hb1 hbox0
        go_wp2_with fail
        refine (linkIs_at T j v c0 hli.out hla.out _ _ c _ (hT.out.below hB1)).mono ?_
        rintro e w2 ⟨rfl, hb2⟩
        have hB2 := Below.on hB1 hb2
        obtain ⟨s0, s1, s2, s3, s4, s5, s6, s7, s8⟩ := hS1.out.later hb2
        clear hb2
        go_wp2
        go_ret
        exact ⟨ret_int hr.out.symm, hB2⟩
  · have hc0 : chk T = 8 := chk_bad hg
    have hr : Hid (smE T ⟨k, nm, op, vl, fo, a, b, f, LA, ln, lc⟩ m = 8) := if_neg hg
    clear hg
    go_enter Try.func57, Try.ntmps57
    go_wp2_with fail
    refine (check_ok _ _ c T _ (hT.out.below hB0)).mono ?_
    rintro e w1 ⟨rfl, hb1⟩
    have hB1 := Below.on hB0 hb1
    have hbox1 := cell_later hb1 hbox0
    have hS1 := hide (hS0.out.later hb1)
    clear hb1 hbox0
    go_wp2
    go_ret
    exact ⟨ret_int hr.out.symm, hB1⟩
theorem scheckT_at (T : List ANode) (k : Int) (nm : ByteArray) (op : Int) (vl : ByteArray) (fo : Bool) (a b : Int) (f : Bool) (LA : Option Addr) (ln lc : Nat) (m c0 : Int) (h0 : smE T ⟨k, nm, op, vl, fo, a, b, f, LA, ln, lc⟩ m = c0) (A : Option Addr) (n c : Nat) (w : World) (h : IsTree w A n T) :
    Calls Try.prog 57 #[.agg #[.slice A n c], .agg #[.int .u8 k, .string nm, .int .u8 op, .string vl, .bool fo, .int .i64 a, .int .i64 b, .bool f, .slice LA ln lc], .int .i64 m] w
      fun r w' => r = .returned (.int .i64 c0) ∧ Below w.heap.size w w' := by
  have := scheckT_ok A n c T k nm op vl fo a b f LA ln lc m w h
  rw [h0] at this
  exact this
set_option maxRecDepth 100000 in
set_option maxHeartbeats 2000000 in
theorem sMatch_ok (A : Option Addr) (n c : Nat) (T : List ANode) (i : Int) (k : Int) (nm : ByteArray) (op : Int) (vl : ByteArray) (fo : Bool) (a b : Int) (f : Bool) (LA : Option Addr) (ln lc : Nat) (m : Int) (w : World) (h : IsTree w A n T) (hmx : HasMax w) :
    Calls Try.prog 25 #[.agg #[.slice A n c], .int .i64 i, .agg #[.int .u8 k, .string nm, .int .u8 op, .string vl, .bool fo, .int .i64 a, .int .i64 b, .bool f, .slice LA ln lc], .int .i64 m] w
      fun r w' => r = .returned (.tuple #[.bool (smatV T i ⟨k, nm, op, vl, fo, a, b, f, LA, ln, lc⟩ m), .int .i64 (smatE T i ⟨k, nm, op, vl, fo, a, b, f, LA, ln, lc⟩ m)]) ∧ Below w.heap.size w w' := by
  have hT := hide h
  have hl := h.1
  have hm' := hide hmx
  have hB0 := below_alloc (below_alloc (Below.refl w.heap.size w) (.cells #[.slice A n c] 43)) (.cells #[.int .u8 k, .string nm, .int .u8 op, .string vl, .bool fo, .int .i64 a, .int .i64 b, .bool f, .slice LA ln lc] 26)
  have hbox0 : ((w.alloc (.cells #[.slice A n c] 43)).alloc (.cells #[.int .u8 k, .string nm, .int .u8 op, .string vl, .bool fo, .int .i64 a, .int .i64 b, .bool f, .slice LA ln lc] 26)).cell? ⟨w.heap.size, 0, none⟩ = some (.slice A n c) := by go_simp
  have hS0 := hide (simAt_at (w.alloc (.cells #[.slice A n c] 43)) (w.heap.size + 1) (by simp) k nm op vl fo a b f LA ln lc)
  clear h hmx
  by_cases h0 : askI T [i] = 0
  · obtain ⟨hg, hir⟩ := askI_zero.1 h0
    have hir' := hir i (by simp)
    obtain ⟨j, rfl⟩ := Int.eq_ofNat_of_zero_le hir'.1
    have hj : j < n := by omega
    have hia := hide h0
    by_cases h1 : smE T ⟨k, nm, op, vl, fo, a, b, f, LA, ln, lc⟩ m = 0
    · have hvl := (chkS_val (smE_zero.1 h1).2.2).1
      have hE : Hid (smatE T j ⟨k, nm, op, vl, fo, a, b, f, LA, ln, lc⟩ m = 0) := by show _ = _; unfold smatE; rw [if_pos h0, h1]
      have hV : Hid (smatV T j ⟨k, nm, op, vl, fo, a, b, f, LA, ln, lc⟩ m = matS T j ⟨k, nm, op, vl, fo, a, b, f, LA, ln, lc⟩ m) := by show _ = _; unfold smatV; rw [if_pos hE.out, Int.toNat_natCast]
      have hse := hide h1
      have hg' := hide hg
      have hvl' : vl.size ≤ 1000 := by have : vl.size ≤ 400 := hvl; omega
      clear h0 h1 hg hir hir' hvl
      go_enter Try.func25, Try.ntmps25
      go_wp2_with fail
      have hx := depth_ok _ _ c T j _ (hT.out.below hB0)
      rw [hia.out] at hx
      refine hx.mono ?_
      clear hx
      rintro e w1 ⟨rfl, hb1⟩
      have hB1 := Below.on hB0 hb1
      have hbox1 := cell_later hb1 hbox0
      have hS1 := hide (hS0.out.later hb1)
      clear hb1 hbox0
      obtain ⟨s0, s1, s2, s3, s4, s5, s6, s7, s8⟩ := hS1.out
      go_wp2_with fail
      refine (scheckT_at T k nm op vl fo a b f LA ln lc m 0 hse.out _ _ c _ (hT.out.below hB1)).mono ?_
      rintro e w2 ⟨rfl, hb2⟩
      have hB2 := Below.on hB1 hb2
      have hbox2 := cell_later hb2 hbox1
      have hS2 := hide (hS1.out.later hb2)
      clear hb2 hbox1 s0 s1 s2 s3 s4 s5 s6 s7 s8
      obtain ⟨s0, s1, s2, s3, s4, s5, s6, s7, s8⟩ := hS2.out
      go_wp2_with fail
      refine (smatch_ok _ _ c T j k nm op vl fo a b f LA ln lc m _ (hT.out.below hB2) hj hg'.out hvl' (hm'.out.below hB2)).mono ?_
      rintro e w3 ⟨rfl, hb3⟩
      have hB3 := Below.on hB2 hb3
      clear s0 s1 s2 s3 s4 s5 s6 s7 s8
      go_wp2
      go_ret2
      exact ⟨ret_bi hV.out.symm hE.out.symm, hB3⟩
    · obtain ⟨c1, hc1⟩ : ∃ x, smE T ⟨k, nm, op, vl, fo, a, b, f, LA, ln, lc⟩ m = x := ⟨_, rfl⟩
      have hE : Hid (smatE T j ⟨k, nm, op, vl, fo, a, b, f, LA, ln, lc⟩ m = c1) := by show _ = _; unfold smatE; rw [if_pos h0, hc1]
      have hcz : ¬ c1 = 0 := by rw [← hc1]; exact h1
      have hV : Hid (smatV T j ⟨k, nm, op, vl, fo, a, b, f, LA, ln, lc⟩ m = false) := by show _ = _; unfold smatV; rw [if_neg (by rw [hE.out]; exact hcz)]
      have hse := hide hc1
      have hcb : (c1 != 0) = true := by rw [bne_iff_ne]; exact hcz
      clear h0 h1 hg hir hir' hc1 hcz
      go_enter Try.func25, Try.ntmps25
      go_wp2_with fail
      have hx := depth_ok _ _ c T j _ (hT.out.below hB0)
      rw [hia.out] at hx
      refine hx.mono ?_
      clear hx
      rintro e w1 ⟨rfl, hb1⟩
      have hB1 := Below.on hB0 hb1
      have hbox1 := cell_later hb1 hbox0
      have hS1 := hide (hS0.out.later hb1)
      clear hb1 hbox0
      obtain ⟨s0, s1, s2, s3, s4, s5, s6, s7, s8⟩ := hS1.out
      go_wp2_with fail
      refine (scheckT_at T k nm op vl fo a b f LA ln lc m c1 hse.out _ _ c _ (hT.out.below hB1)).mono ?_
      rintro e w2 ⟨rfl, hb2⟩
      have hB2 := Below.on hB1 hb2
      have hbox2 := cell_later hb2 hbox1
      have hS2 := hide (hS1.out.later hb2)
      clear hb2 hbox1 s0 s1 s2 s3 s4 s5 s6 s7 s8
      obtain ⟨s0, s1, s2, s3, s4, s5, s6, s7, s8⟩ := hS2.out
      go_wp2
      go_ret2
      exact ⟨ret_bi hV.out.symm hE.out.symm, hB2⟩
  · obtain ⟨c1, hc1⟩ : ∃ x, askI T [i] = x := ⟨_, rfl⟩
    have hcz : ¬ c1 = 0 := by rw [← hc1]; exact h0
    have hE : Hid (smatE T i ⟨k, nm, op, vl, fo, a, b, f, LA, ln, lc⟩ m = c1) := by show _ = _; unfold smatE; rw [if_neg h0, hc1]
    have hV : Hid (smatV T i ⟨k, nm, op, vl, fo, a, b, f, LA, ln, lc⟩ m = false) := by show _ = _; unfold smatV; rw [if_neg (by rw [hE.out]; exact hcz)]
    have hia := hide hc1
    have hcb : (c1 != 0) = true := by rw [bne_iff_ne]; exact hcz
    clear h0 hc1 hcz
    go_enter Try.func25, Try.ntmps25
    go_wp2_with fail
    have hx := depth_ok _ _ c T i _ (hT.out.below hB0)
    rw [hia.out] at hx
    refine hx.mono ?_
    clear hx
    rintro e w1 ⟨rfl, hb1⟩
    have hB1 := Below.on hB0 hb1
    have hbox1 := cell_later hb1 hbox0
    have hS1 := hide (hS0.out.later hb1)
    clear hb1 hbox0
    obtain ⟨s0, s1, s2, s3, s4, s5, s6, s7, s8⟩ := hS1.out
    go_wp2
    go_ret2
    exact ⟨ret_bi hV.out.symm hE.out.symm, hB1⟩
set_option maxRecDepth 100000 in
set_option maxHeartbeats 2000000 in
theorem sAll_ok (A : Option Addr) (n c : Nat) (T : List ANode) (k : Int) (nm : ByteArray) (op : Int) (vl : ByteArray) (fo : Bool) (a b : Int) (f : Bool) (LA : Option Addr) (ln lc : Nat) (m : Int) (w : World) (h : IsTree w A n T) (hmx : HasMax w) :
    Calls Try.prog 27 #[.agg #[.slice A n c], .agg #[.int .u8 k, .string nm, .int .u8 op, .string vl, .bool fo, .int .i64 a, .int .i64 b, .bool f, .slice LA ln lc], .int .i64 m] w
      (MadeB w (sallV T ⟨k, nm, op, vl, fo, a, b, f, LA, ln, lc⟩ m) (smE T ⟨k, nm, op, vl, fo, a, b, f, LA, ln, lc⟩ m)) := by
  have hT := hide h
  have hl := h.1
  have hm' := hide hmx
  have hB0 := below_alloc (below_alloc (Below.refl w.heap.size w) (.cells #[.slice A n c] 43)) (.cells #[.int .u8 k, .string nm, .int .u8 op, .string vl, .bool fo, .int .i64 a, .int .i64 b, .bool f, .slice LA ln lc] 26)
  have hbox0 : ((w.alloc (.cells #[.slice A n c] 43)).alloc (.cells #[.int .u8 k, .string nm, .int .u8 op, .string vl, .bool fo, .int .i64 a, .int .i64 b, .bool f, .slice LA ln lc] 26)).cell? ⟨w.heap.size, 0, none⟩ = some (.slice A n c) := by go_simp
  have hS0 := hide (simAt_at (w.alloc (.cells #[.slice A n c] 43)) (w.heap.size + 1) (by simp) k nm op vl fo a b f LA ln lc)
  clear h hmx
  by_cases h1 : smE T ⟨k, nm, op, vl, fo, a, b, f, LA, ln, lc⟩ m = 0
  · obtain ⟨hg, -, hck⟩ := smE_zero.1 h1
    have hvl' : vl.size ≤ 1000 := by have : vl.size ≤ 400 := (chkS_val hck).1; omega
    obtain ⟨S, hS⟩ : ∃ S : Sim, S = ⟨k, nm, op, vl, fo, a, b, f, LA, ln, lc⟩ := ⟨_, rfl⟩
    obtain ⟨XL, hXL⟩ : ∃ X, sallL T ⟨k, nm, op, vl, fo, a, b, f, LA, ln, lc⟩ m = X := ⟨_, rfl⟩
    have hq : sallV T ⟨k, nm, op, vl, fo, a, b, f, LA, ln, lc⟩ m = XL := by unfold sallV; rw [if_pos h1, hXL]
    have hse := hide h1
    have hg' := hide hg
    have hrl : Hid (XL.length = n) := by show _ = _; rw [← hXL, sallL_len, hl]
    have hts := hide (show ∀ q, q < n → XL.take (q + 1) = XL.take q ++ [matS T q ⟨k, nm, op, vl, fo, a, b, f, LA, ln, lc⟩ m] from fun q hq => by rw [← hXL]; exact take_sallL T _ m (by omega))
    have hn64 : n ≤ 64 := by have := ((goodB_iff T).1 hg).2.1; omega
    rw [hq, h1]
    clear hq h1 hg hck hXL hS
    go_enter Try.func27, Try.ntmps27
    go_wp2_with fail
    refine (scheckT_at T k nm op vl fo a b f LA ln lc m 0 hse.out _ _ c _ (hT.out.below hB0)).mono ?_
    rintro e w2 ⟨rfl, hb2⟩
    have hB2 := Below.on hB0 hb2
    have hbox2 := cell_later hb2 hbox0
    have hS2 := hide (hS0.out.later hb2)
    clear hb2 hbox0
    go_wp2
    go_loopw [9, 21] (fun v s wr => ∃ q : Nat, q ≤ n ∧ s = .int .i64 q ∧ OwnB wr w2.heap.size v (XL.take q) ∧ Below w2.heap.size w2 wr) (fun _ s _ => n - (intOf s).toNat)
    case atStart => exact ⟨0, Nat.zero_le _, rfl, by rw [List.take_zero]; exact OwnB.nil _ _, Below.refl _ _⟩
    case round =>
      obtain ⟨q, hq, rfl, hown, hb⟩ := hrel
      have hbx := cell_later hb hbox2
      have hBw := Below.on hB2 hb
      have hlq : (XL.take q).length ≤ 64 := by rw [List.length_take, hrl.out]; omega
      by_cases hlt : q < n
      · obtain ⟨s0, s1, s2, s3, s4, s5, s6, s7, s8⟩ := hS2.out.later hb
        have hx := hide (smatch_ok A n c T q k nm op vl fo a b f LA ln lc m wr (hT.out.below hBw) hlt hg'.out hvl' (hm'.out.below hBw))
        obtain ⟨rb, hrb⟩ : ∃ rb, matS T q ⟨k, nm, op, vl, fo, a, b, f, LA, ln, lc⟩ m = rb := ⟨_, rfl⟩
        have hts1 := hts.out q hlt
        rw [hrb] at hx hts1
        have hts1' := hide hts1
        clear hrb hts1
        go_wp2_with fail
        (with_reducible refine hx.out.mono ?_)
        rintro e3 w3 ⟨rfl, hb3⟩
        have hown3 := hown.below hb3
        have hB3 := hide (Below.on hb hb3)
        have hsz3 : w2.heap.size ≤ w3.heap.size := hB3.out.size
        clear hown hb3 s0 s1 s2 s3 s4 s5 s6 s7 s8
        go_wp2_with (at_builtin; refine wpList_pushB rfl _ _ rfl hown3 rb _ rfl rfl (by omega) hsz3 ?_)
        intro A5 c5 w5 hown5 hgr
        have hB5 := hide (hgr.below (Nat.le_refl _) hB3.out)
        have hown5' := hide hown5
        clear hgr hown5 hown3
        go_wp2
        go_roundw
        case rel => exact ⟨q + 1, by omega, by go_num, by rw [hts1'.out]; exact hown5'.out, hB5.out⟩
        case measure => simp [intOf]; omega
      · have he : Hid (XL.take q = XL) := List.take_of_length_le (by rw [hrl.out]; omega)
        rw [he.out] at hown
        obtain ⟨A5, c5, rfl, h51, h52, hI5⟩ := hown.isBools (by rw [hrl.out]; omega)
        have hI5' := hide hI5
        clear hI5 hown
        go_wp2
        go_ret2
        exact ⟨A5, c5, rfl, hI5'.out, h51, h52, hBw⟩
  · obtain ⟨c1, hc1⟩ : ∃ x, smE T ⟨k, nm, op, vl, fo, a, b, f, LA, ln, lc⟩ m = x := ⟨_, rfl⟩
    have hcz : ¬ c1 = 0 := by rw [← hc1]; exact h1
    have hq : sallV T ⟨k, nm, op, vl, fo, a, b, f, LA, ln, lc⟩ m = [] := by unfold sallV; rw [if_neg h1]
    have hse := hide hc1
    have hcb : (c1 != 0) = true := by rw [bne_iff_ne]; exact hcz
    rw [hq, hc1]
    clear h1 hc1 hcz hq
    go_enter Try.func27, Try.ntmps27
    go_wp2_with fail
    refine (scheckT_at T k nm op vl fo a b f LA ln lc m c1 hse.out _ _ c _ (hT.out.below hB0)).mono ?_
    rintro e w2 ⟨rfl, hb2⟩
    have hB2 := Below.on hB0 hb2
    have hbox2 := cell_later hb2 hbox0
    have hS2 := hide (hS0.out.later hb2)
    clear hb2 hbox0
    go_wp2
    go_ret2
    exact madeB_nil hB2
end Go.Proofs.Ytbedomopojiehaa
