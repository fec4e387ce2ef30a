/- Walks: whether an element matches a simple selector, modes, errors, all matches, by the reference. Conditions: as each states. -/
import Derived.Test.YtbedomopojiehaaSx
import Derived.Test.YtbedomopojiehaaAe
namespace Go.Proofs.Ytbedomopojiehaa
open Go.RowKit

theorem rgot_at (T : List ANode) (i : Nat) (s : ByteArray) (v : ByteArray) (g : Bool) (h0 : getV T i s = v) (h1 : hasA (atl T i) s = g) (A : Option Addr) (n c : Nat) (w : World) (h : IsTree w A n T) (hi : i < n) (hg : goodB T = true) :
    Calls Try.prog 92 #[.agg #[.slice A n c], .int .i64 i, .string s] w fun e w' => e = .returned (.tuple #[.string v, .bool g]) ∧ Below w.heap.size w w' := by
  have := rgot_ok A n c T i s w h hi hg
  rw [h0, h1] at this
  exact this
theorem rlk_at (T : List ANode) (i : Nat) (g : Bool) (h1 : lkB T i = g) (A : Option Addr) (n c : Nat) (w : World) (h : IsTree w A n T) (hi : i < n) (hg : goodB T = true) :
    Calls Try.prog 53 #[.agg #[.slice A n c], .int .i64 i] w fun e w' => e = .returned (.bool g) ∧ Below w.heap.size w w' := by
  have := rlk_ok A n c T i w h hi hg
  rw [h1] at this
  exact this
set_option maxRecDepth 100000 in
set_option maxHeartbeats 4000000 in
theorem rsmatch_ok (A : Option Addr) (n c : Nat) (T : List ANode) (i : Nat) (k : Int) (nm : ByteArray) (op : Int) (vl : ByteArray) (fo : Bool) (a b : Int) (f : Bool) (LA : Option Addr) (ln lc : Nat) (m : Int) (w : World) (h : IsTree w A n T) (hi : i < n) (hg : goodB T = true) (hvl : vl.size ≤ 1000) :
    Calls Try.prog 60 #[.agg #[.slice A n c], .int .i64 i, .agg #[.int .u8 k, .string nm, .int .u8 op, .string vl, .bool fo, .int .i64 a, .int .i64 b, .bool f, .slice LA ln lc], .int .i64 m] w
      fun r w' => r = .returned (.bool (matS T i ⟨k, nm, op, vl, fo, a, b, f, LA, ln, lc⟩ m)) ∧ Below w.heap.size w w' := by
  have ho := hide h.2.2.2
  have hT := hide h
  have hl := h.1
  have hB0 := below_alloc (below_alloc (Below.refl w.heap.size w) (.cells #[.slice A n c] 43)) (.cells #[.int .u8 k, .string nm, .int .u8 op, .string vl, .bool fo, .int .i64 a, .int .i64 b, .bool f, .slice LA ln lc] 26)
  have hbox0 : ((w.alloc (.cells #[.slice A n c] 43)).alloc (.cells #[.int .u8 k, .string nm, .int .u8 op, .string vl, .bool fo, .int .i64 a, .int .i64 b, .bool f, .slice LA ln lc] 26)).cell? ⟨w.heap.size, 0, none⟩ = some (.slice A n c) := by go_simp
  have hS0 := hide (simAt_at (w.alloc (.cells #[.slice A n c] 43)) (w.heap.size + 1) (by simp) k nm op vl fo a b f LA ln lc)
  have ha0 : askI T [(i : Int)] = 0 := askI_ok hg (by simp; omega)
  have hask := hide ha0
  obtain ⟨lk, hlk⟩ : ∃ x, lkB T i = x := ⟨_, rfl⟩
  have hg' := hide hg
  have hha := hide (show ∀ s, hasA (atl T i) s = decide (getE T i s = 0) from fun s => by
    unfold getE
    rw [if_pos ha0, Int.toNat_natCast]
    cases hasA (atl T i) s <;> simp)
  have hgs := hide (fun s => getV_size hg (show i < T.length by omega) s)
  have hcl := hide (show ∀ s, clsE T i s = clsB T i s from fun s => by unfold clsE; rw [if_pos ha0, Int.toNat_natCast])
  clear h ha0
  rcases (by omega : k = 1 ∨ k = 2 ∨ k = 3 ∨ k = 4 ∨ k = 5 ∨ k = 6 ∨ k = 7 ∨ (¬ k = 1 ∧ ¬ k = 2 ∧ ¬ k = 3 ∧ ¬ k = 4 ∧ ¬ k = 5 ∧ ¬ k = 6 ∧ ¬ k = 7)) with hk | hk | hk | hk | hk | hk | hk | ⟨hk1, hk2, hk3, hk4, hk5, hk6, hk7⟩
  · subst hk
    obtain ⟨gv, hgv0⟩ : ∃ x, getV T i idN = x := ⟨_, rfl⟩
    obtain ⟨ge, hge0⟩ : ∃ x, getE T i idN = x := ⟨_, rfl⟩
    have hgv := hide hgv0
    have hge := hide hge0
    have hr0 : matS T i ⟨1, nm, op, vl, fo, a, b, f, LA, ln, lc⟩ m = (decide (ge = 0) && decide (gv = nm)) := by
      show (decide (getE T i idN = 0) && decide (getV T i idN = nm)) = _
      rw [hgv0, hge0]
    by_cases h1 : ge = 0
    · subst h1
      by_cases h2 : gv = nm
      · have hr : Hid (matS T i ⟨1, nm, op, vl, fo, a, b, f, LA, ln, lc⟩ m = true) := by show _ = _; rw [hr0, decide_eq_true rfl, decide_eq_true h2]; rfl
        have h3 := str_eq h2
        have hgb : Hid (hasA (atl T i) idN = true) := by show _ = _; rw [hha.out, hge0]; exact decide_eq_true rfl
        clear hr0 hgv0 hge0 hlk h2
        go_enter Try.func60, Try.ntmps60
        obtain ⟨s0, s1, s2, s3, s4, s5, s6, s7, s8⟩ := hS0.out
        go_wp2_with fail
        refine (rgot_at T i idN gv true hgv.out hgb.out _ _ c _ (hT.out.below hB0) hi hg'.out).mono ?_
        rintro e w2 ⟨rfl, hb2⟩
        have hB2 := Below.on hB0 hb2
        have t1 := cell_later hb2 s1
        clear s0 s1 s2 s3 s4 s5 s6 s7 s8 hb2
        go_wp2
        go_ret
        exact ⟨ret_bool hr.out.symm, hB2⟩
      · have hr : Hid (matS T i ⟨1, nm, op, vl, fo, a, b, f, LA, ln, lc⟩ m = false) := by show _ = _; rw [hr0, decide_eq_false h2, Bool.and_false]
        have h3 := str_ne h2
        have hgb : Hid (hasA (atl T i) idN = true) := by show _ = _; rw [hha.out, hge0]; exact decide_eq_true rfl
        clear hr0 hgv0 hge0 hlk h2
        go_enter Try.func60, Try.ntmps60
        obtain ⟨s0, s1, s2, s3, s4, s5, s6, s7, s8⟩ := hS0.out
        go_wp2_with fail
        refine (rgot_at T i idN gv true hgv.out hgb.out _ _ c _ (hT.out.below hB0) hi hg'.out).mono ?_
        rintro e w2 ⟨rfl, hb2⟩
        have hB2 := Below.on hB0 hb2
        have t1 := cell_later hb2 s1
        clear s0 s1 s2 s3 s4 s5 s6 s7 s8 hb2
        go_wp2
        go_ret
        exact ⟨ret_bool hr.out.symm, hB2⟩
    · have hr : Hid (matS T i ⟨1, nm, op, vl, fo, a, b, f, LA, ln, lc⟩ m = false) := by show _ = _; rw [hr0, decide_eq_false h1, Bool.false_and]
      have hgb : Hid (hasA (atl T i) idN = false) := by show _ = _; rw [hha.out, hge0]; exact decide_eq_false h1
      clear hr0 hgv0 hge0 hlk h1
      go_enter Try.func60, Try.ntmps60
      obtain ⟨s0, s1, s2, s3, s4, s5, s6, s7, s8⟩ := hS0.out
      go_wp2_with fail
      refine (rgot_at T i idN gv false hgv.out hgb.out _ _ c _ (hT.out.below hB0) hi hg'.out).mono ?_
      rintro e w2 ⟨rfl, hb2⟩
      have hB2 := Below.on hB0 hb2
      clear s0 s1 s2 s3 s4 s5 s6 s7 s8 hb2
      go_wp2
      go_ret
      exact ⟨ret_bool hr.out.symm, hB2⟩
  · subst hk
    have hr : Hid (matS T i ⟨2, nm, op, vl, fo, a, b, f, LA, ln, lc⟩ m = clsB T i nm) := rfl
    clear hlk
    go_enter Try.func60, Try.ntmps60
    obtain ⟨s0, s1, s2, s3, s4, s5, s6, s7, s8⟩ := hS0.out
    go_wp2_with fail
    refine (classed_ok _ _ c T i nm _ (hT.out.below hB0) hi hg'.out).mono ?_
    rintro e w2 ⟨rfl, hb2⟩
    have hB2 := Below.on hB0 hb2
    clear s0 s1 s2 s3 s4 s5 s6 s7 s8 hb2
    go_wp2
    go_ret
    exact ⟨ret_bool hr.out.symm, hB2⟩
  · subst hk
    obtain ⟨gv, hgv0⟩ : ∃ x, getV T i nm = x := ⟨_, rfl⟩
    obtain ⟨ge, hge0⟩ : ∃ x, getE T i nm = x := ⟨_, rfl⟩
    have hgv := hide hgv0
    have hge := hide hge0
    have hgz : gv.size ≤ 400 := by rw [← hgv0]; exact hgs.out nm
    have hr0 : matS T i ⟨3, nm, op, vl, fo, a, b, f, LA, ln, lc⟩ m = (decide (ge = 0) && suitsF op vl fo gv) := by
      show (decide (getE T i nm = 0) && suitsF op vl fo (getV T i nm)) = _
      rw [hgv0, hge0]
    by_cases h1 : ge = 0
    · subst h1
      have hr : Hid (matS T i ⟨3, nm, op, vl, fo, a, b, f, LA, ln, lc⟩ m = suitsF op vl fo gv) := by show _ = _; rw [hr0, decide_eq_true rfl, Bool.true_and]
      have hgb : Hid (hasA (atl T i) nm = true) := by show _ = _; rw [hha.out, hge0]; exact decide_eq_true rfl
      clear hr0 hgv0 hge0 hlk
      go_enter Try.func60, Try.ntmps60
      obtain ⟨s0, s1, s2, s3, s4, s5, s6, s7, s8⟩ := hS0.out
      go_wp2_with fail
      refine (rgot_at T i nm gv true hgv.out hgb.out _ _ c _ (hT.out.below hB0) hi hg'.out).mono ?_
      rintro e w2 ⟨rfl, hb2⟩
      have hB2 := Below.on hB0 hb2
      clear s0 s1 s2 s3 s4 s5 s6 s7 s8
      obtain ⟨s0, s1, s2, s3, s4, s5, s6, s7, s8⟩ := hS0.out.later hb2
      clear hb2
      go_wp2_with fail
      refine (rsuits_ok 3 nm op vl fo a b f LA ln lc gv _ hvl hgz).mono ?_
      rintro e w3 ⟨rfl, hb3⟩
      have hB3 := Below.on hB2 hb3
      clear s0 s1 s2 s3 s4 s5 s6 s7 s8 hb3
      go_wp2
      go_ret
      exact ⟨ret_bool hr.out.symm, hB3⟩
    · have hr : Hid (matS T i ⟨3, nm, op, vl, fo, a, b, f, LA, ln, lc⟩ m = false) := by show _ = _; rw [hr0, decide_eq_false h1, Bool.false_and]
      have hgb : Hid (hasA (atl T i) nm = false) := by show _ = _; rw [hha.out, hge0]; exact decide_eq_false h1
      clear hr0 hgv0 hge0 hlk h1
      go_enter Try.func60, Try.ntmps60
      obtain ⟨s0, s1, s2, s3, s4, s5, s6, s7, s8⟩ := hS0.out
      go_wp2_with fail
      refine (rgot_at T i nm gv false hgv.out hgb.out _ _ c _ (hT.out.below hB0) hi hg'.out).mono ?_
      rintro e w2 ⟨rfl, hb2⟩
      have hB2 := Below.on hB0 hb2
      clear s0 s1 s2 s3 s4 s5 s6 s7 s8 hb2
      go_wp2
      go_ret
      exact ⟨ret_bool hr.out.symm, hB2⟩
  · subst hk
    have hr0 : matS T i ⟨4, nm, op, vl, fo, a, b, f, LA, ln, lc⟩ m = (lk && !decide ((i : Int) = m)) := by rw [← hlk]; rfl
    have hlk' := hide hlk
    clear hlk
    cases lk
    · have hr : Hid (matS T i ⟨4, nm, op, vl, fo, a, b, f, LA, ln, lc⟩ m = false) := hr0
      clear hr0
      go_enter Try.func60, Try.ntmps60
      obtain ⟨s0, s1, s2, s3, s4, s5, s6, s7, s8⟩ := hS0.out
      go_wp2_with fail
      refine (rlk_at T i false hlk'.out _ _ c _ (hT.out.below hB0) hi hg'.out).mono ?_
      rintro e w1 ⟨rfl, hb1⟩
      have hB1 := Below.on hB0 hb1
      clear s0 s1 s2 s3 s4 s5 s6 s7 s8 hb1
      go_wp2
      go_ret
      exact ⟨ret_bool hr.out.symm, hB1⟩
    · by_cases h1 : (i : Int) = m
      · have hr : Hid (matS T i ⟨4, nm, op, vl, fo, a, b, f, LA, ln, lc⟩ m = false) := by show _ = _; rw [hr0, decide_eq_true h1]; rfl
        have h3 : (m != (i : Int)) = false := by simp [h1]
        clear hr0 h1
        go_enter Try.func60, Try.ntmps60
        obtain ⟨s0, s1, s2, s3, s4, s5, s6, s7, s8⟩ := hS0.out
        go_wp2_with fail
        refine (rlk_at T i true hlk'.out _ _ c _ (hT.out.below hB0) hi hg'.out).mono ?_
        rintro e w1 ⟨rfl, hb1⟩
        have hB1 := Below.on hB0 hb1
        clear s0 s1 s2 s3 s4 s5 s6 s7 s8 hb1
        go_wp2
        go_ret
        exact ⟨ret_bool hr.out.symm, hB1⟩
      · have hr : Hid (matS T i ⟨4, nm, op, vl, fo, a, b, f, LA, ln, lc⟩ m = true) := by show _ = _; rw [hr0, decide_eq_false h1]; rfl
        have h3 : (m != (i : Int)) = true := by simp [Ne.symm h1]
        clear hr0 h1
        go_enter Try.func60, Try.ntmps60
        obtain ⟨s0, s1, s2, s3, s4, s5, s6, s7, s8⟩ := hS0.out
        go_wp2_with fail
        refine (rlk_at T i true hlk'.out _ _ c _ (hT.out.below hB0) hi hg'.out).mono ?_
        rintro e w1 ⟨rfl, hb1⟩
        have hB1 := Below.on hB0 hb1
        clear s0 s1 s2 s3 s4 s5 s6 s7 s8 hb1
        go_wp2
        go_ret
        exact ⟨ret_bool hr.out.symm, hB1⟩
  · subst hk
    have hr0 : matS T i ⟨5, nm, op, vl, fo, a, b, f, LA, ln, lc⟩ m = decide ((i : Int) = m) := rfl
    by_cases h1 : (i : Int) = m
    · have hr : Hid (matS T i ⟨5, nm, op, vl, fo, a, b, f, LA, ln, lc⟩ m = true) := by show _ = _; rw [hr0, decide_eq_true h1]
      have h3 : (m == (i : Int)) = true := by simp [h1]
      clear hr0 hlk h1
      go_enter Try.func60, Try.ntmps60
      obtain ⟨s0, s1, s2, s3, s4, s5, s6, s7, s8⟩ := hS0.out
      go_wp2
      go_ret
      exact ⟨ret_bool hr.out.symm, hB0⟩
    · have hr : Hid (matS T i ⟨5, nm, op, vl, fo, a, b, f, LA, ln, lc⟩ m = false) := by show _ = _; rw [hr0, decide_eq_false h1]
      have h3 : (m == (i : Int)) = false := by simp [Ne.symm h1]
      clear hr0 hlk h1
      go_enter Try.func60, Try.ntmps60
      obtain ⟨s0, s1, s2, s3, s4, s5, s6, s7, s8⟩ := hS0.out
      go_wp2
      go_ret
      exact ⟨ret_bool hr.out.symm, hB0⟩
  · subst hk
    have hr : Hid (matS T i ⟨6, nm, op, vl, fo, a, b, f, LA, ln, lc⟩ m = lk) := by show _ = _; rw [← hlk]; rfl
    have hlk' := hide hlk
    clear hlk
    go_enter Try.func60, Try.ntmps60
    obtain ⟨s0, s1, s2, s3, s4, s5, s6, s7, s8⟩ := hS0.out
    go_wp2_with fail
    refine (rlk_at T i lk hlk'.out _ _ c _ (hT.out.below hB0) hi hg'.out).mono ?_
    rintro e w1 ⟨rfl, hb1⟩
    have hB1 := Below.on hB0 hb1
    clear s0 s1 s2 s3 s4 s5 s6 s7 s8 hb1
    go_wp2
    go_ret
    exact ⟨ret_bool hr.out.symm, hB1⟩
  · subst hk
    have hr0 : matS T i ⟨7, nm, op, vl, fo, a, b, f, LA, ln, lc⟩ m = decide (i = 0) := rfl
    by_cases h1 : i = 0
    · have hr : Hid (matS T i ⟨7, nm, op, vl, fo, a, b, f, LA, ln, lc⟩ m = true) := by show _ = _; rw [hr0, decide_eq_true h1]
      have h3 : ((i : Int) == 0) = true := by simp [h1]
      clear hr0 hlk h1
      go_enter Try.func60, Try.ntmps60
      obtain ⟨s0, s1, s2, s3, s4, s5, s6, s7, s8⟩ := hS0.out
      go_wp2
      go_ret
      exact ⟨ret_bool hr.out.symm, hB0⟩
    · have hr : Hid (matS T i ⟨7, nm, op, vl, fo, a, b, f, LA, ln, lc⟩ m = false) := by show _ = _; rw [hr0, decide_eq_false h1]
      have h3 : ((i : Int) == 0) = false := by simp [h1]
      clear hr0 hlk h1
      go_enter Try.func60, Try.ntmps60
      obtain ⟨s0, s1, s2, s3, s4, s5, s6, s7, s8⟩ := hS0.out
      go_wp2
      go_ret
      exact ⟨ret_bool hr.out.symm, hB0⟩
  · obtain ⟨bb, off, aA, cA, aC, cC, rfl, hbl, -, -, -, c3, -, -⟩ := ho.out (by omega)
    have c3' := hide (c3 i hi)
    obtain ⟨kl, hkl⟩ : ∃ x, (kids T i).length = x := ⟨_, rfl⟩
    rw [hkl] at c3'
    have hr : Hid (matS T i ⟨k, nm, op, vl, fo, a, b, f, LA, ln, lc⟩ m = ((kl : Int) == 0)) := by
      show _ = _
      unfold matS
      dsimp only
      rw [if_neg hk1, if_neg hk2, if_neg hk3, if_neg hk5, if_neg hk4, if_neg hk6, if_neg hk7, hkl, Bool.eq_iff_iff, decide_eq_true_eq, beq_iff_eq]
      omega
    have e1 : (k == 1) = false := by simp [hk1]
    have e2 : (k == 2) = false := by simp [hk2]
    have e3 : (k == 3) = false := by simp [hk3]
    have e4 : (k == 4) = false := by simp [hk4]
    have e5 : (k == 5) = false := by simp [hk5]
    have e6 : (k == 6) = false := by simp [hk6]
    have e7 : (k == 7) = false := by simp [hk7]
    have q1 : (0 : Int) ≤ (i : Int) := by omega
    have q2 : (i : Int) < (n : Int) := by omega
    clear hlk hkl hk1 hk2 hk3 hk4 hk5 hk6 hk7 ho c3
    go_enter Try.func60, Try.ntmps60
    obtain ⟨s0, s1, s2, s3, s4, s5, s6, s7, s8⟩ := hS0.out
    have g3 := (old hB0 _ _ hbl).trans c3'.out
    go_wp2
    go_ret
    exact ⟨ret_bool hr.out.symm, hB0⟩
end Go.Proofs.Ytbedomopojiehaa
