/- Walks: chapter 18's agreement of the tree packages on one tree. Condition: the tree is good, the library's variable holds a number. -/
import Derived.Test.YtmdccplhmniiiaaGreatSr
import Derived.Test.YtmdccplhmniiiaaGreatAb
import Derived.Test.YtmdccplhmniiiaaGreatFg
import Derived.Test.YtmdccplhmniiiaaGreatTp
import Derived.Test.YtmdccplhmniiiaaGreatOc
import Derived.Deep.QuietTactic
import Derived.BigQuiet
import Derived.IntWalk
namespace Go.Proofs.YtmdccplhmniiiaaGreat
open Go.RowKit

def idN : ByteArray := ⟨#[105, 100]⟩
def matS (T : List ANode) (i : Nat) (s : Sim) (m : Int) : Bool :=
  if s.kind = 1 then decide (getE T i idN = 0) && decide (getV T i idN = s.name)
  else if s.kind = 2 then clsB T i s.name
  else if s.kind = 3 then decide (getE T i s.name = 0) && suitsF s.op s.val s.fold (getV T i s.name)
  else if s.kind = 5 then decide ((i : Int) = m)
  else if s.kind = 4 then lkB T i && !decide ((i : Int) = m)
  else if s.kind = 6 then lkB T i
  else if s.kind = 7 then decide (i = 0) else decide ((kids T i).length = 0)
theorem simAt_at (w : World) (g : Nat) (hg : g = w.heap.size) (k : Int) (nm : ByteArray) (op : Int) (vl : ByteArray) (fo : Bool) (a b : Int) (f : Bool) (LA : Option Addr) (ln lc : Nat) :
    SimAt (w.alloc (.cells #[.int .u8 k, .string nm, .int .u8 op, .string vl, .bool fo, .int .i64 a, .int .i64 b, .bool f, .slice LA ln lc] 42)) g ⟨k, nm, op, vl, fo, a, b, f, LA, ln, lc⟩ := by
  subst hg
  exact simAt_new w k nm op vl fo a b f LA ln lc
theorem linkIs_at (T : List ANode) (i : Int) (v : Bool) (c0 : Int) (h0 : isE T i = v) (h1 : askI T [i] = c0) (A : Option Addr) (n c : Nat) (w : World) (h : IsTree w A n T) :
    Calls Tryz.prog 12 #[.agg #[.slice A n c], .int .i64 i] w fun e w' => e = .returned (.tuple #[.bool v, .int .i64 c0]) ∧ Below w.heap.size w w' := by
  have := linkIs_ok A n c T i w h
  rw [h0, h1] at this
  exact this
theorem get_at (T : List ANode) (i : Int) (s : ByteArray) (v : ByteArray) (c0 : Int) (h0 : getV T i s = v) (h1 : getE T i s = c0) (A : Option Addr) (n c : Nat) (w : World) (h : IsTree w A n T) :
    Calls Tryz.prog 59 #[.agg #[.slice A n c], .int .i64 i, .string s] w fun e w' => e = .returned (.tuple #[.string v, .int .i64 c0]) ∧ Below w.heap.size w w' := by
  have := get_ok A n c T i s w h
  rw [h0, h1] at this
  exact this
theorem class_at (T : List ANode) (i : Int) (s : ByteArray) (v : Bool) (c0 : Int) (h0 : clsE T i s = v) (h1 : askI T [i] = c0) (A : Option Addr) (n c : Nat) (w : World) (h : IsTree w A n T) :
    Calls Tryz.prog 64 #[.agg #[.slice A n c], .int .i64 i, .string s] w fun e w' => e = .returned (.tuple #[.bool v, .int .i64 c0]) ∧ Below w.heap.size w w' := by
  have := class_ok A n c T i s w h
  rw [h0, h1] at this
  exact this

set_option maxRecDepth 100000 in
set_option maxHeartbeats 4000000 in
theorem smatch_ok (A : Option Addr) (n c : Nat) (T : List ANode) (i : Nat) (k : Int) (nm : ByteArray) (op : Int) (vl : ByteArray) (fo : Bool) (a b : Int) (f : Bool) (LA : Option Addr) (ln lc : Nat) (m : Int) (w : World) (h : IsTree w A n T) (hi : i < n) (hg : goodB T = true) (hvl : vl.size ≤ 1000) (hmx : HasMax w) :
    Calls Tryz.prog 36 #[.agg #[.slice A n c], .int .i64 i, .agg #[.int .u8 k, .string nm, .int .u8 op, .string vl, .bool fo, .int .i64 a, .int .i64 b, .bool f, .slice LA ln lc], .int .i64 m] w
      fun r w' => r = .returned (.bool (matS T i ⟨k, nm, op, vl, fo, a, b, f, LA, ln, lc⟩ m)) ∧ Below w.heap.size w w' := by
  have ho := hide h.2.2.2
  have hT := hide h
  have hl := h.1
  have hm' := hide hmx
  have hB0 := below_alloc (below_alloc (Below.refl w.heap.size w) (.cells #[.slice A n c] 26)) (.cells #[.int .u8 k, .string nm, .int .u8 op, .string vl, .bool fo, .int .i64 a, .int .i64 b, .bool f, .slice LA ln lc] 42)
  have hbox0 : ((w.alloc (.cells #[.slice A n c] 26)).alloc (.cells #[.int .u8 k, .string nm, .int .u8 op, .string vl, .bool fo, .int .i64 a, .int .i64 b, .bool f, .slice LA ln lc] 42)).cell? ⟨w.heap.size, 0, none⟩ = some (.slice A n c) := by go_simp
  have hS0 := hide (simAt_at (w.alloc (.cells #[.slice A n c] 26)) (w.heap.size + 1) (by simp) k nm op vl fo a b f LA ln lc)
  have ha0 : askI T [(i : Int)] = 0 := askI_ok hg (by simp; omega)
  have hask := hide ha0
  obtain ⟨lk, hlk⟩ : ∃ x, lkB T i = x := ⟨_, rfl⟩
  have hie : Hid (isE T i = lk) := by show _ = _; unfold isE; rw [if_pos ha0, Int.toNat_natCast, hlk]
  have hgs := hide (fun s => getV_size hg (show i < T.length by omega) s)
  have hcl := hide (show ∀ s, clsE T i s = clsB T i s from fun s => by unfold clsE; rw [if_pos ha0, Int.toNat_natCast])
  clear h hmx ha0 hg
  rcases (by omega : k = 1 ∨ k = 2 ∨ k = 3 ∨ k = 4 ∨ k = 5 ∨ k = 6 ∨ k = 7 ∨ (¬ k = 1 ∧ ¬ k = 2 ∧ ¬ k = 3 ∧ ¬ k = 4 ∧ ¬ k = 5 ∧ ¬ k = 6 ∧ ¬ k = 7)) with hk | hk | hk | hk | hk | hk | hk | ⟨hk1, hk2, hk3, hk4, hk5, hk6, hk7⟩
  · subst hk
    obtain ⟨gv, hgv0⟩ : ∃ x, getV T i idN = x := ⟨_, rfl⟩
    obtain ⟨ge, hge0⟩ : ∃ x, getE T i idN = x := ⟨_, rfl⟩
    have hgv := hide hgv0
    have hge := hide hge0
    have hr0 : matS T i ⟨1, nm, op, vl, fo, a, b, f, LA, ln, lc⟩ m = (decide (ge = 0) && decide (gv = nm)) := by
      show (decide (getE T i idN = 0) && decide (getV T i idN = nm)) = _
      rw [hgv0, hge0]
    by_cases h1 : ge = 0
    · subst h1
      by_cases h2 : gv = nm
      · have hr : Hid (matS T i ⟨1, nm, op, vl, fo, a, b, f, LA, ln, lc⟩ m = true) := by show _ = _; rw [hr0, decide_eq_true rfl, decide_eq_true h2]; rfl
        have h3 := str_eq h2
        clear hr0 hgv0 hge0 hlk h2
        go_enter Tryz.func36, Tryz.ntmps36
        go_wp2_with fail
        refine (linkIs_at T i lk 0 hie.out hask.out _ _ c _ (hT.out.below hB0)).mono ?_
        rintro e w1 ⟨rfl, hb1⟩
        have hB1 := Below.on hB0 hb1
        have hbox1 := cell_later hb1 hbox0
        have hS1 := hide (hS0.out.later hb1)
        obtain ⟨s0, s1, s2, s3, s4, s5, s6, s7, s8⟩ := hS0.out.later hb1
        clear hb1 hbox0
        go_wp2_with fail
        refine (get_at T i idN gv 0 hgv.out hge.out _ _ c _ (hT.out.below hB1)).mono ?_
        rintro e w2 ⟨rfl, hb2⟩
        have hB2 := Below.on hB1 hb2
        have t1 := cell_later hb2 s1
        clear s0 s1 s2 s3 s4 s5 s6 s7 s8 hb2
        go_wp2
        go_ret
        exact ⟨ret_bool hr.out.symm, hB2⟩
      · have hr : Hid (matS T i ⟨1, nm, op, vl, fo, a, b, f, LA, ln, lc⟩ m = false) := by show _ = _; rw [hr0, decide_eq_false h2, Bool.and_false]
        have h3 := str_ne h2
        clear hr0 hgv0 hge0 hlk h2
        go_enter Tryz.func36, Tryz.ntmps36
        go_wp2_with fail
        refine (linkIs_at T i lk 0 hie.out hask.out _ _ c _ (hT.out.below hB0)).mono ?_
        rintro e w1 ⟨rfl, hb1⟩
        have hB1 := Below.on hB0 hb1
        have hbox1 := cell_later hb1 hbox0
        have hS1 := hide (hS0.out.later hb1)
        obtain ⟨s0, s1, s2, s3, s4, s5, s6, s7, s8⟩ := hS0.out.later hb1
        clear hb1 hbox0
        go_wp2_with fail
        refine (get_at T i idN gv 0 hgv.out hge.out _ _ c _ (hT.out.below hB1)).mono ?_
        rintro e w2 ⟨rfl, hb2⟩
        have hB2 := Below.on hB1 hb2
        have t1 := cell_later hb2 s1
        clear s0 s1 s2 s3 s4 s5 s6 s7 s8 hb2
        go_wp2
        go_ret
        exact ⟨ret_bool hr.out.symm, hB2⟩
    · have hr : Hid (matS T i ⟨1, nm, op, vl, fo, a, b, f, LA, ln, lc⟩ m = false) := by show _ = _; rw [hr0, decide_eq_false h1, Bool.false_and]
      have h3 : (ge == 0) = false := by simp [h1]
      clear hr0 hgv0 hge0 hlk h1
      go_enter Tryz.func36, Tryz.ntmps36
      go_wp2_with fail
      refine (linkIs_at T i lk 0 hie.out hask.out _ _ c _ (hT.out.below hB0)).mono ?_
      rintro e w1 ⟨rfl, hb1⟩
      have hB1 := Below.on hB0 hb1
      have hbox1 := cell_later hb1 hbox0
      have hS1 := hide (hS0.out.later hb1)
      obtain ⟨s0, s1, s2, s3, s4, s5, s6, s7, s8⟩ := hS0.out.later hb1
      clear hb1 hbox0
      go_wp2_with fail
      refine (get_at T i idN gv ge hgv.out hge.out _ _ c _ (hT.out.below hB1)).mono ?_
      rintro e w2 ⟨rfl, hb2⟩
      have hB2 := Below.on hB1 hb2
      clear s0 s1 s2 s3 s4 s5 s6 s7 s8 hb2
      go_wp2
      go_ret
      exact ⟨ret_bool hr.out.symm, hB2⟩
  · subst hk
    have hr : Hid (matS T i ⟨2, nm, op, vl, fo, a, b, f, LA, ln, lc⟩ m = clsB T i nm) := rfl
    clear hlk
    go_enter Tryz.func36, Tryz.ntmps36
    go_wp2_with fail
    refine (linkIs_at T i lk 0 hie.out hask.out _ _ c _ (hT.out.below hB0)).mono ?_
    rintro e w1 ⟨rfl, hb1⟩
    have hB1 := Below.on hB0 hb1
    have hbox1 := cell_later hb1 hbox0
    have hS1 := hide (hS0.out.later hb1)
    obtain ⟨s0, s1, s2, s3, s4, s5, s6, s7, s8⟩ := hS0.out.later hb1
    clear hb1 hbox0
    go_wp2_with fail
    refine (class_at T i nm (clsB T i nm) 0 (hcl.out nm) hask.out _ _ c _ (hT.out.below hB1)).mono ?_
    rintro e w2 ⟨rfl, hb2⟩
    have hB2 := Below.on hB1 hb2
    clear s0 s1 s2 s3 s4 s5 s6 s7 s8 hb2
    go_wp2
    go_ret
    exact ⟨ret_bool hr.out.symm, hB2⟩
  · subst hk
    obtain ⟨gv, hgv0⟩ : ∃ x, getV T i nm = x := ⟨_, rfl⟩
    obtain ⟨ge, hge0⟩ : ∃ x, getE T i nm = x := ⟨_, rfl⟩
    have hgv := hide hgv0
    have hge := hide hge0
    have hgz : gv.size ≤ 400 := by rw [← hgv0]; exact hgs.out nm
    have hr0 : matS T i ⟨3, nm, op, vl, fo, a, b, f, LA, ln, lc⟩ m = (decide (ge = 0) && suitsF op vl fo gv) := by
      show (decide (getE T i nm = 0) && suitsF op vl fo (getV T i nm)) = _
      rw [hgv0, hge0]
    by_cases h1 : ge = 0
    · subst h1
      have hr : Hid (matS T i ⟨3, nm, op, vl, fo, a, b, f, LA, ln, lc⟩ m = suitsF op vl fo gv) := by show _ = _; rw [hr0, decide_eq_true rfl, Bool.true_and]
      clear hr0 hgv0 hge0 hlk
      go_enter Tryz.func36, Tryz.ntmps36
      go_wp2_with fail
      refine (linkIs_at T i lk 0 hie.out hask.out _ _ c _ (hT.out.below hB0)).mono ?_
      rintro e w1 ⟨rfl, hb1⟩
      have hB1 := Below.on hB0 hb1
      have hbox1 := cell_later hb1 hbox0
      have hS1 := hide (hS0.out.later hb1)
      obtain ⟨s0, s1, s2, s3, s4, s5, s6, s7, s8⟩ := hS0.out.later hb1
      clear hb1 hbox0
      go_wp2_with fail
      refine (get_at T i nm gv 0 hgv.out hge.out _ _ c _ (hT.out.below hB1)).mono ?_
      rintro e w2 ⟨rfl, hb2⟩
      have hB2 := Below.on hB1 hb2
      clear s0 s1 s2 s3 s4 s5 s6 s7 s8
      obtain ⟨s0, s1, s2, s3, s4, s5, s6, s7, s8⟩ := hS1.out.later hb2
      clear hb2
      go_wp2_with fail
      refine (suits_ok 3 nm op vl fo a b f LA ln lc gv _ hvl hgz (hm'.out.below hB2)).mono ?_
      rintro e w3 ⟨rfl, hb3⟩
      have hB3 := Below.on hB2 hb3
      clear s0 s1 s2 s3 s4 s5 s6 s7 s8 hb3
      go_wp2
      go_ret
      exact ⟨ret_bool hr.out.symm, hB3⟩
    · have hr : Hid (matS T i ⟨3, nm, op, vl, fo, a, b, f, LA, ln, lc⟩ m = false) := by show _ = _; rw [hr0, decide_eq_false h1, Bool.false_and]
      have h3 : (ge == 0) = false := by simp [h1]
      clear hr0 hgv0 hge0 hlk h1
      go_enter Tryz.func36, Tryz.ntmps36
      go_wp2_with fail
      refine (linkIs_at T i lk 0 hie.out hask.out _ _ c _ (hT.out.below hB0)).mono ?_
      rintro e w1 ⟨rfl, hb1⟩
      have hB1 := Below.on hB0 hb1
      have hbox1 := cell_later hb1 hbox0
      have hS1 := hide (hS0.out.later hb1)
      obtain ⟨s0, s1, s2, s3, s4, s5, s6, s7, s8⟩ := hS0.out.later hb1
      clear hb1 hbox0
      go_wp2_with fail
      refine (get_at T i nm gv ge hgv.out hge.out _ _ c _ (hT.out.below hB1)).mono ?_
      rintro e w2 ⟨rfl, hb2⟩
      have hB2 := Below.on hB1 hb2
      clear s0 s1 s2 s3 s4 s5 s6 s7 s8 hb2
      go_wp2
      go_ret
      exact ⟨ret_bool hr.out.symm, hB2⟩
  · subst hk
    have hr0 : matS T i ⟨4, nm, op, vl, fo, a, b, f, LA, ln, lc⟩ m = (lk && !decide ((i : Int) = m)) := by rw [← hlk]; rfl
    cases lk
    · have hr : Hid (matS T i ⟨4, nm, op, vl, fo, a, b, f, LA, ln, lc⟩ m = false) := hr0
      clear hr0 hlk
      go_enter Tryz.func36, Tryz.ntmps36
      go_wp2_with fail
      refine (linkIs_at T i false 0 hie.out hask.out _ _ c _ (hT.out.below hB0)).mono ?_
      rintro e w1 ⟨rfl, hb1⟩
      have hB1 := Below.on hB0 hb1
      have hbox1 := cell_later hb1 hbox0
      have hS1 := hide (hS0.out.later hb1)
      obtain ⟨s0, s1, s2, s3, s4, s5, s6, s7, s8⟩ := hS0.out.later hb1
      clear hb1 hbox0
      go_wp2
      go_ret
      exact ⟨ret_bool hr.out.symm, hB1⟩
    · by_cases h1 : (i : Int) = m
      · have hr : Hid (matS T i ⟨4, nm, op, vl, fo, a, b, f, LA, ln, lc⟩ m = false) := by show _ = _; rw [hr0, decide_eq_true h1]; rfl
        have h3 : ((i : Int) != m) = false := by simp [h1]
        clear hr0 hlk h1
        go_enter Tryz.func36, Tryz.ntmps36
        go_wp2_with fail
        refine (linkIs_at T i true 0 hie.out hask.out _ _ c _ (hT.out.below hB0)).mono ?_
        rintro e w1 ⟨rfl, hb1⟩
        have hB1 := Below.on hB0 hb1
        have hbox1 := cell_later hb1 hbox0
        have hS1 := hide (hS0.out.later hb1)
        obtain ⟨s0, s1, s2, s3, s4, s5, s6, s7, s8⟩ := hS0.out.later hb1
        clear hb1 hbox0
        go_wp2
        go_ret
        exact ⟨ret_bool hr.out.symm, hB1⟩
      · have hr : Hid (matS T i ⟨4, nm, op, vl, fo, a, b, f, LA, ln, lc⟩ m = true) := by show _ = _; rw [hr0, decide_eq_false h1]; rfl
        have h3 : ((i : Int) != m) = true := by simp [h1]
        clear hr0 hlk h1
        go_enter Tryz.func36, Tryz.ntmps36
        go_wp2_with fail
        refine (linkIs_at T i true 0 hie.out hask.out _ _ c _ (hT.out.below hB0)).mono ?_
        rintro e w1 ⟨rfl, hb1⟩
        have hB1 := Below.on hB0 hb1
        have hbox1 := cell_later hb1 hbox0
        have hS1 := hide (hS0.out.later hb1)
        obtain ⟨s0, s1, s2, s3, s4, s5, s6, s7, s8⟩ := hS0.out.later hb1
        clear hb1 hbox0
        go_wp2
        go_ret
        exact ⟨ret_bool hr.out.symm, hB1⟩
  · subst hk
    have hr0 : matS T i ⟨5, nm, op, vl, fo, a, b, f, LA, ln, lc⟩ m = decide ((i : Int) = m) := rfl
    by_cases h1 : (i : Int) = m
    · have hr : Hid (matS T i ⟨5, nm, op, vl, fo, a, b, f, LA, ln, lc⟩ m = true) := by show _ = _; rw [hr0, decide_eq_true h1]
      have h3 : ((i : Int) == m) = true := by simp [h1]
      clear hr0 hlk h1
      go_enter Tryz.func36, Tryz.ntmps36
      go_wp2_with fail
      refine (linkIs_at T i lk 0 hie.out hask.out _ _ c _ (hT.out.below hB0)).mono ?_
      rintro e w1 ⟨rfl, hb1⟩
      have hB1 := Below.on hB0 hb1
      have hbox1 := cell_later hb1 hbox0
      have hS1 := hide (hS0.out.later hb1)
      obtain ⟨s0, s1, s2, s3, s4, s5, s6, s7, s8⟩ := hS0.out.later hb1
      clear hb1 hbox0
      go_wp2
      go_ret
      exact ⟨ret_bool hr.out.symm, hB1⟩
    · have hr : Hid (matS T i ⟨5, nm, op, vl, fo, a, b, f, LA, ln, lc⟩ m = false) := by show _ = _; rw [hr0, decide_eq_false h1]
      have h3 : ((i : Int) == m) = false := by simp [h1]
      clear hr0 hlk h1
      go_enter Tryz.func36, Tryz.ntmps36
      go_wp2_with fail
      refine (linkIs_at T i lk 0 hie.out hask.out _ _ c _ (hT.out.below hB0)).mono ?_
      rintro e w1 ⟨rfl, hb1⟩
      have hB1 := Below.on hB0 hb1
      have hbox1 := cell_later hb1 hbox0
      have hS1 := hide (hS0.out.later hb1)
      obtain ⟨s0, s1, s2, s3, s4, s5, s6, s7, s8⟩ := hS0.out.later hb1
      clear hb1 hbox0
      go_wp2
      go_ret
      exact ⟨ret_bool hr.out.symm, hB1⟩
  · subst hk
    have hr : Hid (matS T i ⟨6, nm, op, vl, fo, a, b, f, LA, ln, lc⟩ m = lk) := by show _ = _; rw [← hlk]; rfl
    clear hlk
    go_enter Tryz.func36, Tryz.ntmps36
    go_wp2_with fail
    refine (linkIs_at T i lk 0 hie.out hask.out _ _ c _ (hT.out.below hB0)).mono ?_
    rintro e w1 ⟨rfl, hb1⟩
    have hB1 := Below.on hB0 hb1
    have hbox1 := cell_later hb1 hbox0
    have hS1 := hide (hS0.out.later hb1)
    obtain ⟨s0, s1, s2, s3, s4, s5, s6, s7, s8⟩ := hS0.out.later hb1
    clear hb1 hbox0
    go_wp2
    go_ret
    exact ⟨ret_bool hr.out.symm, hB1⟩
  · subst hk
    have hr0 : matS T i ⟨7, nm, op, vl, fo, a, b, f, LA, ln, lc⟩ m = decide (i = 0) := rfl
    by_cases h1 : i = 0
    · have hr : Hid (matS T i ⟨7, nm, op, vl, fo, a, b, f, LA, ln, lc⟩ m = true) := by show _ = _; rw [hr0, decide_eq_true h1]
      have h3 : ((i : Int) == 0) = true := by simp [h1]
      clear hr0 hlk h1
      go_enter Tryz.func36, Tryz.ntmps36
      go_wp2_with fail
      refine (linkIs_at T i lk 0 hie.out hask.out _ _ c _ (hT.out.below hB0)).mono ?_
      rintro e w1 ⟨rfl, hb1⟩
      have hB1 := Below.on hB0 hb1
      have hbox1 := cell_later hb1 hbox0
      have hS1 := hide (hS0.out.later hb1)
      obtain ⟨s0, s1, s2, s3, s4, s5, s6, s7, s8⟩ := hS0.out.later hb1
      clear hb1 hbox0
      go_wp2
      go_ret
      exact ⟨ret_bool hr.out.symm, hB1⟩
    · have hr : Hid (matS T i ⟨7, nm, op, vl, fo, a, b, f, LA, ln, lc⟩ m = false) := by show _ = _; rw [hr0, decide_eq_false h1]
      have h3 : ((i : Int) == 0) = false := by simp [h1]
      clear hr0 hlk h1
      go_enter Tryz.func36, Tryz.ntmps36
      go_wp2_with fail
      refine (linkIs_at T i lk 0 hie.out hask.out _ _ c _ (hT.out.below hB0)).mono ?_
      rintro e w1 ⟨rfl, hb1⟩
      have hB1 := Below.on hB0 hb1
      have hbox1 := cell_later hb1 hbox0
      have hS1 := hide (hS0.out.later hb1)
      obtain ⟨s0, s1, s2, s3, s4, s5, s6, s7, s8⟩ := hS0.out.later hb1
      clear hb1 hbox0
      go_wp2
      go_ret
      exact ⟨ret_bool hr.out.symm, hB1⟩
  · obtain ⟨bb, off, aA, cA, aC, cC, rfl, hbl, -, -, -, c3, -, -⟩ := ho.out (by omega)
    have c3' := hide (c3 i hi)
    obtain ⟨kl, hkl⟩ : ∃ x, (kids T i).length = x := ⟨_, rfl⟩
    rw [hkl] at c3'
    have hr : Hid (matS T i ⟨k, nm, op, vl, fo, a, b, f, LA, ln, lc⟩ m = ((kl : Int) == 0)) := by
      show _ = _
      unfold matS
      dsimp only
      rw [if_neg hk1, if_neg hk2, if_neg hk3, if_neg hk5, if_neg hk4, if_neg hk6, if_neg hk7, hkl, Bool.eq_iff_iff, decide_eq_true_eq, beq_iff_eq]
      omega
    have e1 : (k == 1) = false := by simp [hk1]
    have e2 : (k == 2) = false := by simp [hk2]
    have e3 : (k == 3) = false := by simp [hk3]
    have e4 : (k == 4) = false := by simp [hk4]
    have e5 : (k == 5) = false := by simp [hk5]
    have e6 : (k == 6) = false := by simp [hk6]
    have e7 : (k == 7) = false := by simp [hk7]
    have q1 : (0 : Int) ≤ (i : Int) := by omega
    have q2 : (i : Int) < (n : Int) := by omega
    clear hlk hkl hk1 hk2 hk3 hk4 hk5 hk6 hk7 ho c3
    go_enter Tryz.func36, Tryz.ntmps36
    go_wp2_with fail
    refine (linkIs_at T i lk 0 hie.out hask.out _ _ c _ (hT.out.below hB0)).mono ?_
    rintro e w1 ⟨rfl, hb1⟩
    have hB1 := Below.on hB0 hb1
    have hbox1 := cell_later hb1 hbox0
    have hS1 := hide (hS0.out.later hb1)
    obtain ⟨s0, s1, s2, s3, s4, s5, s6, s7, s8⟩ := hS0.out.later hb1
    clear hb1 hbox0
    have g3 := (old hB1 _ _ hbl).trans c3'.out
    go_wp2
    go_ret
    exact ⟨ret_bool hr.out.symm, hB1⟩
end Go.Proofs.YtmdccplhmniiiaaGreat
namespace Go.Proofs.YtmdccplhmniiiaaGreat
open Go.RowKit

/-- A list of truth values and an error that come back. -/
def MadeB (w : World) (xs : List Bool) (code : Int) (e : Ending) (w' : World) : Prop :=
  ∃ (A : Option Addr) (c : Nat), e = .returned (.tuple #[.slice A xs.length c, .int .i64 code]) ∧ IsBools w' A xs.length xs ∧ xs.length ≤ c ∧ c ≤ maxLen ∧ Below w.heap.size w w'
theorem madeB_nil {w w' : World} {code : Int} (hb : Below w.heap.size w w') : MadeB w [] code (.returned (.tuple #[.slice none 0 0, .int .i64 code])) w' :=
  ⟨none, 0, rfl, ⟨rfl, by decide, fun h => absurd h (by decide)⟩, Nat.le_refl _, by unfold maxLen; omega, hb⟩
def modeB (T : List ANode) (m : Int) : Bool := decide (m = -1) || (decide (0 ≤ m) && decide (m < T.length) && lkB T m.toNat)
def smE (T : List ANode) (s : Sim) (m : Int) : Int := if goodB T = true then (if modeB T m = true then chkS s else 2) else 8
def smatE (T : List ANode) (i : Int) (s : Sim) (m : Int) : Int := if askI T [i] = 0 then smE T s m else askI T [i]
def smatV (T : List ANode) (i : Int) (s : Sim) (m : Int) : Bool := if smatE T i s m = 0 then matS T i.toNat s m else false
def sallL (T : List ANode) (s : Sim) (m : Int) : List Bool := (List.range T.length).map fun i => matS T i s m
def sallV (T : List ANode) (s : Sim) (m : Int) : List Bool := if smE T s m = 0 then sallL T s m else []
theorem sallL_len (T : List ANode) (s : Sim) (m : Int) : (sallL T s m).length = T.length := by simp [sallL]
theorem take_sallL (T : List ANode) (s : Sim) (m : Int) {q : Nat} (hq : q < T.length) : (sallL T s m).take (q + 1) = (sallL T s m).take q ++ [matS T q s m] := by
  rw [List.take_succ_eq_append_getElem (by rw [sallL_len]; exact hq)]
  simp [sallL]
theorem smE_zero {T : List ANode} {s : Sim} {m : Int} : smE T s m = 0 ↔ goodB T = true ∧ modeB T m = true ∧ chkS s = 0 := by
  unfold smE
  by_cases h : goodB T = true
  · rw [if_pos h]
    by_cases h2 : modeB T m = true
    · rw [if_pos h2]; simp [h, h2]
    · rw [if_neg h2]; simp [h2]
  · rw [if_neg h]; simp [h]

set_option maxRecDepth 100000 in
set_option maxHeartbeats 2000000 in
theorem scheckT_ok (A : Option Addr) (n c : Nat) (T : List ANode) (k : Int) (nm : ByteArray) (op : Int) (vl : ByteArray) (fo : Bool) (a b : Int) (f : Bool) (LA : Option Addr) (ln lc : Nat) (m : Int) (w : World) (h : IsTree w A n T) :
    Calls Tryz.prog 35 #[.agg #[.slice A n c], .agg #[.int .u8 k, .string nm, .int .u8 op, .string vl, .bool fo, .int .i64 a, .int .i64 b, .bool f, .slice LA ln lc], .int .i64 m] w
      fun r w' => r = .returned (.int .i64 (smE T ⟨k, nm, op, vl, fo, a, b, f, LA, ln, lc⟩ m)) ∧ Below w.heap.size w w' := by
  have hT := hide h
  have hl := h.1
  have hB0 := below_alloc (below_alloc (Below.refl w.heap.size w) (.cells #[.slice A n c] 26)) (.cells #[.int .u8 k, .string nm, .int .u8 op, .string vl, .bool fo, .int .i64 a, .int .i64 b, .bool f, .slice LA ln lc] 42)
  have hbox0 : ((w.alloc (.cells #[.slice A n c] 26)).alloc (.cells #[.int .u8 k, .string nm, .int .u8 op, .string vl, .bool fo, .int .i64 a, .int .i64 b, .bool f, .slice LA ln lc] 42)).cell? ⟨w.heap.size, 0, none⟩ = some (.slice A n c) := by go_simp
  have hS0 := hide (simAt_at (w.alloc (.cells #[.slice A n c] 26)) (w.heap.size + 1) (by simp) k nm op vl fo a b f LA ln lc)
  clear h
  by_cases hg : goodB T = true
  · have hc0 : chk T = 0 := chk_ok hg
    rcases (by omega : m = -1 ∨ m < -1 ∨ 0 ≤ m) with h1 | h1 | h1
    · subst h1
      have hr : Hid (smE T ⟨k, nm, op, vl, fo, a, b, f, LA, ln, lc⟩ (-1) = chkS ⟨k, nm, op, vl, fo, a, b, f, LA, ln, lc⟩) := by show _ = _; unfold smE; rw [if_pos hg, if_pos (show modeB T (-1) = true from rfl)]
      obtain ⟨v, hv⟩ : ∃ v, isE T 0 = v := ⟨_, rfl⟩
      obtain ⟨c0, hc⟩ : ∃ v, askI T [0] = v := ⟨_, rfl⟩
      have hli := hide hv
      have hla := hide hc
      clear hg hv hc
      go_enter Tryz.func35, Tryz.ntmps35
      go_wp2_with fail
      refine (check_ok _ _ c T _ (hT.out.below hB0)).mono ?_
      rintro e w1 ⟨rfl, hb1⟩
      have hB1 := Below.on hB0 hb1
      have hbox1 := cell_later hb1 hbox0
      have hS1 := hide (hS0.out.later hb1)
      clear hb1 hbox0
      go_wp2_with fail
      refine (linkIs_at T 0 v c0 hli.out hla.out _ _ c _ (hT.out.below hB1)).mono ?_
      rintro e w2 ⟨rfl, hb2⟩
      have hB2 := Below.on hB1 hb2
      obtain ⟨s0, s1, s2, s3, s4, s5, s6, s7, s8⟩ := hS1.out.later hb2
      clear hb2
      go_wp2_with fail
      refine (scheck_ok k nm op vl fo a b f LA ln lc _).mono ?_
      rintro e w3 ⟨rfl, hb3⟩
      have hB3 := Below.on hB2 hb3
      go_wp2
      go_ret
      exact ⟨ret_int hr.out.symm, hB3⟩
    · have hr : Hid (smE T ⟨k, nm, op, vl, fo, a, b, f, LA, ln, lc⟩ m = 2) := by
        show _ = _
        unfold smE
        rw [if_pos hg, if_neg]
        unfold modeB
        rw [decide_eq_false (by omega), decide_eq_false (p := 0 ≤ m) (by omega)]
        simp
      obtain ⟨v, hv⟩ : ∃ v, isE T 0 = v := ⟨_, rfl⟩
      obtain ⟨c0, hc⟩ : ∃ v, askI T [0] = v := ⟨_, rfl⟩
      have hli := hide hv
      have hla := hide hc
      have g1 : (m != -1) = true := by rw [bne_iff_ne]; omega
      have g2 : decide (m < 0) = true := by rw [decide_eq_true_eq]; omega
      have g3 : max m 0 = 0 := by omega
      clear hg hv hc
      go_enter Tryz.func35, Tryz.ntmps35
      go_wp2_with fail
      refine (check_ok _ _ c T _ (hT.out.below hB0)).mono ?_
      rintro e w1 ⟨rfl, hb1⟩
      have hB1 := Below.on hB0 hb1
      have hbox1 := cell_later hb1 hbox0
      have hS1 := hide (hS0.out.later hb1)
      clear hb1 hbox0
      go_wp2_with fail
      refine (linkIs_at T 0 v c0 hli.out hla.out _ _ c _ (hT.out.below hB1)).mono ?_
      rintro e w2 ⟨rfl, hb2⟩
      have hB2 := Below.on hB1 hb2
      obtain ⟨s0, s1, s2, s3, s4, s5, s6, s7, s8⟩ := hS1.out.later hb2
      clear hb2
      go_wp2
      go_ret
      exact ⟨ret_int hr.out.symm, hB2⟩
    · obtain ⟨j, rfl⟩ := Int.eq_ofNat_of_zero_le h1
      have g1 : ((j : Int) != -1) = true := by rw [bne_iff_ne]; omega
      have g3 : max (j : Int) 0 = (j : Int) := by omega
      by_cases h2 : j < n
      · have ha : askI T [(j : Int)] = 0 := askI_ok hg (by simp; omega)
        have hla := hide ha
        have hmm : modeB T j = lkB T j := by
          unfold modeB
          rw [decide_eq_false (by omega), decide_eq_true (p := (0 : Int) ≤ j) (by omega), decide_eq_true (p := (j : Int) < T.length) (by omega), Int.toNat_natCast]
          simp
        cases hlk : lkB T j
        · have hr : Hid (smE T ⟨k, nm, op, vl, fo, a, b, f, LA, ln, lc⟩ j = 2) := by show _ = _; unfold smE; rw [if_pos hg, if_neg (by rw [hmm, hlk]; simp)]
          have hli : Hid (isE T j = false) := by show _ = _; unfold isE; rw [if_pos ha, Int.toNat_natCast, hlk]
          clear hg ha hmm hlk h1 h2
          go_enter Tryz.func35, Tryz.ntmps35
          go_wp2_with fail
          refine (check_ok _ _ c T _ (hT.out.below hB0)).mono ?_
          rintro e w1 ⟨rfl, hb1⟩
          have hB1 := Below.on hB0 hb1
          have hbox1 := cell_later hb1 hbox0
          have hS1 := hide (hS0.out.later hb1)
          clear hb1 hbox0
          go_wp2_with fail
          refine (linkIs_at T j false 0 hli.out hla.out _ _ c _ (hT.out.below hB1)).mono ?_
          rintro e w2 ⟨rfl, hb2⟩
          have hB2 := Below.on hB1 hb2
          obtain ⟨s0, s1, s2, s3, s4, s5, s6, s7, s8⟩ := hS1.out.later hb2
          clear hb2
          go_wp2
          go_ret
          exact ⟨ret_int hr.out.symm, hB2⟩
        · have hr : Hid (smE T ⟨k, nm, op, vl, fo, a, b, f, LA, ln, lc⟩ j = chkS ⟨k, nm, op, vl, fo, a, b, f, LA, ln, lc⟩) := by show _ = _; unfold smE; rw [if_pos hg, if_pos (by rw [hmm, hlk])]
          have hli : Hid (isE T j = true) := by show _ = _; unfold isE; rw [if_pos ha, Int.toNat_natCast, hlk]
          clear hg ha hmm hlk h1 h2
          go_enter Tryz.func35, Tryz.ntmps35
          go_wp2_with fail
          refine (check_ok _ _ c T _ (hT.out.below hB0)).mono ?_
          rintro e w1 ⟨rfl, hb1⟩
          have hB1 := Below.on hB0 hb1
          have hbox1 := cell_later hb1 hbox0
          have hS1 := hide (hS0.out.later hb1)
          clear hb1 hbox0
          go_wp2_with fail
          refine (linkIs_at T j true 0 hli.out hla.out _ _ c _ (hT.out.below hB1)).mono ?_
          rintro e w2 ⟨rfl, hb2⟩
          have hB2 := Below.on hB1 hb2
          obtain ⟨s0, s1, s2, s3, s4, s5, s6, s7, s8⟩ := hS1.out.later hb2
          clear hb2
          go_wp2_with fail
          refine (scheck_ok k nm op vl fo a b f LA ln lc _).mono ?_
          rintro e w3 ⟨rfl, hb3⟩
          have hB3 := Below.on hB2 hb3
          go_wp2
          go_ret
          exact ⟨ret_int hr.out.symm, hB3⟩
      · have ha : askI T [(j : Int)] ≠ 0 := fun h => by have := (askI_zero.1 h).2 j (by simp); omega
        obtain ⟨c0, hc⟩ : ∃ v, askI T [(j : Int)] = v := ⟨_, rfl⟩
        have hla := hide hc
        have hc9 : (c0 != 0) = true := by rw [hc] at ha; simp [ha]
        have hr : Hid (smE T ⟨k, nm, op, vl, fo, a, b, f, LA, ln, lc⟩ j = 2) := by
          show _ = _
          unfold smE
          rw [if_pos hg, if_neg]
          unfold modeB
          rw [decide_eq_false (by omega), decide_eq_false (p := (j : Int) < T.length) (by omega)]
          simp
        obtain ⟨v, hv⟩ : ∃ v, isE T j = v := ⟨_, rfl⟩
        have hli := hide hv
        clear hg hv hc ha h1 h2
        go_enter Tryz.func35, Tryz.ntmps35
        go_wp2_with fail
        refine (check_ok _ _ c T _ (hT.out.below hB0)).mono ?_
        rintro e w1 ⟨rfl, hb1⟩
        have hB1 := Below.on hB0 hb1
        have hbox1 := cell_later hb1 hbox0
        have hS1 := hide (hS0.out.later hb1)
        clear hb1 hbox0
        go_wp2_with fail
        refine (linkIs_at T j v c0 hli.out hla.out _ _ c _ (hT.out.below hB1)).mono ?_
        rintro e w2 ⟨rfl, hb2⟩
        have hB2 := Below.on hB1 hb2
        obtain ⟨s0, s1, s2, s3, s4, s5, s6, s7, s8⟩ := hS1.out.later hb2
        clear hb2
        go_wp2
        go_ret
        exact ⟨ret_int hr.out.symm, hB2⟩
  · have hc0 : chk T = 8 := chk_bad hg
    have hr : Hid (smE T ⟨k, nm, op, vl, fo, a, b, f, LA, ln, lc⟩ m = 8) := if_neg hg
    clear hg
    go_enter Tryz.func35, Tryz.ntmps35
    go_wp2_with fail
    refine (check_ok _ _ c T _ (hT.out.below hB0)).mono ?_
    rintro e w1 ⟨rfl, hb1⟩
    have hB1 := Below.on hB0 hb1
    have hbox1 := cell_later hb1 hbox0
    have hS1 := hide (hS0.out.later hb1)
    clear hb1 hbox0
    go_wp2
    go_ret
    exact ⟨ret_int hr.out.symm, hB1⟩
theorem scheckT_at (T : List ANode) (k : Int) (nm : ByteArray) (op : Int) (vl : ByteArray) (fo : Bool) (a b : Int) (f : Bool) (LA : Option Addr) (ln lc : Nat) (m c0 : Int) (h0 : smE T ⟨k, nm, op, vl, fo, a, b, f, LA, ln, lc⟩ m = c0) (A : Option Addr) (n c : Nat) (w : World) (h : IsTree w A n T) :
    Calls Tryz.prog 35 #[.agg #[.slice A n c], .agg #[.int .u8 k, .string nm, .int .u8 op, .string vl, .bool fo, .int .i64 a, .int .i64 b, .bool f, .slice LA ln lc], .int .i64 m] w
      fun r w' => r = .returned (.int .i64 c0) ∧ Below w.heap.size w w' := by
  have := scheckT_ok A n c T k nm op vl fo a b f LA ln lc m w h
  rw [h0] at this
  exact this
set_option maxRecDepth 100000 in
set_option maxHeartbeats 2000000 in
theorem sAll_ok (A : Option Addr) (n c : Nat) (T : List ANode) (k : Int) (nm : ByteArray) (op : Int) (vl : ByteArray) (fo : Bool) (a b : Int) (f : Bool) (LA : Option Addr) (ln lc : Nat) (m : Int) (w : World) (h : IsTree w A n T) (hmx : HasMax w) :
    Calls Tryz.prog 10 #[.agg #[.slice A n c], .agg #[.int .u8 k, .string nm, .int .u8 op, .string vl, .bool fo, .int .i64 a, .int .i64 b, .bool f, .slice LA ln lc], .int .i64 m] w
      (MadeB w (sallV T ⟨k, nm, op, vl, fo, a, b, f, LA, ln, lc⟩ m) (smE T ⟨k, nm, op, vl, fo, a, b, f, LA, ln, lc⟩ m)) := by
  have hT := hide h
  have hl := h.1
  have hm' := hide hmx
  have hB0 := below_alloc (below_alloc (Below.refl w.heap.size w) (.cells #[.slice A n c] 26)) (.cells #[.int .u8 k, .string nm, .int .u8 op, .string vl, .bool fo, .int .i64 a, .int .i64 b, .bool f, .slice LA ln lc] 42)
  have hbox0 : ((w.alloc (.cells #[.slice A n c] 26)).alloc (.cells #[.int .u8 k, .string nm, .int .u8 op, .string vl, .bool fo, .int .i64 a, .int .i64 b, .bool f, .slice LA ln lc] 42)).cell? ⟨w.heap.size, 0, none⟩ = some (.slice A n c) := by go_simp
  have hS0 := hide (simAt_at (w.alloc (.cells #[.slice A n c] 26)) (w.heap.size + 1) (by simp) k nm op vl fo a b f LA ln lc)
  clear h hmx
  by_cases h1 : smE T ⟨k, nm, op, vl, fo, a, b, f, LA, ln, lc⟩ m = 0
  · obtain ⟨hg, -, hck⟩ := smE_zero.1 h1
    have hvl' : vl.size ≤ 1000 := by have : vl.size ≤ 400 := (chkS_val hck).1; omega
    obtain ⟨S, hS⟩ : ∃ S : Sim, S = ⟨k, nm, op, vl, fo, a, b, f, LA, ln, lc⟩ := ⟨_, rfl⟩
    obtain ⟨XL, hXL⟩ : ∃ X, sallL T ⟨k, nm, op, vl, fo, a, b, f, LA, ln, lc⟩ m = X := ⟨_, rfl⟩
    have hq : sallV T ⟨k, nm, op, vl, fo, a, b, f, LA, ln, lc⟩ m = XL := by unfold sallV; rw [if_pos h1, hXL]
    have hse := hide h1
    have hg' := hide hg
    have hrl : Hid (XL.length = n) := by show _ = _; rw [← hXL, sallL_len, hl]
    have hts := hide (show ∀ q, q < n → XL.take (q + 1) = XL.take q ++ [matS T q ⟨k, nm, op, vl, fo, a, b, f, LA, ln, lc⟩ m] from fun q hq => by rw [← hXL]; exact take_sallL T _ m (by omega))
    have hn64 : n ≤ 64 := by have := ((goodB_iff T).1 hg).2.1; omega
    rw [hq, h1]
    clear hq h1 hg hck hXL hS
    go_enter Tryz.func10, Tryz.ntmps10
    go_wp2_with fail
    refine (scheckT_at T k nm op vl fo a b f LA ln lc m 0 hse.out _ _ c _ (hT.out.below hB0)).mono ?_
    rintro e w2 ⟨rfl, hb2⟩
    have hB2 := Below.on hB0 hb2
    have hbox2 := cell_later hb2 hbox0
    have hS2 := hide (hS0.out.later hb2)
    clear hb2 hbox0
    go_wp2
    go_loopw [9, 21] (fun v s wr => ∃ q : Nat, q ≤ n ∧ s = .int .i64 q ∧ OwnB wr w2.heap.size v (XL.take q) ∧ Below w2.heap.size w2 wr) (fun _ s _ => n - (intOf s).toNat)
    case atStart => exact ⟨0, Nat.zero_le _, rfl, by rw [List.take_zero]; exact OwnB.nil _ _, Below.refl _ _⟩
    case round =>
      obtain ⟨q, hq, rfl, hown, hb⟩ := hrel
      have hbx := cell_later hb hbox2
      have hBw := Below.on hB2 hb
      have hlq : (XL.take q).length ≤ 64 := by rw [List.length_take, hrl.out]; omega
      by_cases hlt : q < n
      · obtain ⟨s0, s1, s2, s3, s4, s5, s6, s7, s8⟩ := hS2.out.later hb
        have hx := hide (smatch_ok A n c T q k nm op vl fo a b f LA ln lc m wr (hT.out.below hBw) hlt hg'.out hvl' (hm'.out.below hBw))
        obtain ⟨rb, hrb⟩ : ∃ rb, matS T q ⟨k, nm, op, vl, fo, a, b, f, LA, ln, lc⟩ m = rb := ⟨_, rfl⟩
        have hts1 := hts.out q hlt
        rw [hrb] at hx hts1
        have hts1' := hide hts1
        clear hrb hts1
        go_wp2_with fail
        (with_reducible refine hx.out.mono ?_)
        rintro e3 w3 ⟨rfl, hb3⟩
        have hown3 := hown.below hb3
        have hB3 := hide (Below.on hb hb3)
        have hsz3 : w2.heap.size ≤ w3.heap.size := hB3.out.size
        clear hown hb3 s0 s1 s2 s3 s4 s5 s6 s7 s8
        go_wp2_with (at_builtin; refine wpList_pushB rfl _ _ rfl hown3 rb _ rfl rfl (by omega) hsz3 ?_)
        intro A5 c5 w5 hown5 hgr
        have hB5 := hide (hgr.below (Nat.le_refl _) hB3.out)
        have hown5' := hide hown5
        clear hgr hown5 hown3
        go_wp2
        go_roundw
        case rel => exact ⟨q + 1, by omega, by go_num, by rw [hts1'.out]; exact hown5'.out, hB5.out⟩
        case measure => simp [intOf]; omega
      · have he : Hid (XL.take q = XL) := List.take_of_length_le (by rw [hrl.out]; omega)
        rw [he.out] at hown
        obtain ⟨A5, c5, rfl, h51, h52, hI5⟩ := hown.isBools (by rw [hrl.out]; omega)
        have hI5' := hide hI5
        clear hI5 hown
        go_wp2
        go_ret2
        exact ⟨A5, c5, rfl, hI5'.out, h51, h52, hBw⟩
  · obtain ⟨c1, hc1⟩ : ∃ x, smE T ⟨k, nm, op, vl, fo, a, b, f, LA, ln, lc⟩ m = x := ⟨_, rfl⟩
    have hcz : ¬ c1 = 0 := by rw [← hc1]; exact h1
    have hq : sallV T ⟨k, nm, op, vl, fo, a, b, f, LA, ln, lc⟩ m = [] := by unfold sallV; rw [if_neg h1]
    have hse := hide hc1
    have hcb : (c1 != 0) = true := by rw [bne_iff_ne]; exact hcz
    rw [hq, hc1]
    clear h1 hc1 hcz hq
    go_enter Tryz.func10, Tryz.ntmps10
    go_wp2_with fail
    refine (scheckT_at T k nm op vl fo a b f LA ln lc m c1 hse.out _ _ c _ (hT.out.below hB0)).mono ?_
    rintro e w2 ⟨rfl, hb2⟩
    have hB2 := Below.on hB0 hb2
    have hbox2 := cell_later hb2 hbox0
    have hS2 := hide (hS0.out.later hb2)
    clear hb2 hbox0
    go_wp2
    go_ret2
    exact madeB_nil hB2
end Go.Proofs.YtmdccplhmniiiaaGreat
/- Walks: whether an element matches a simple selector, modes, errors, all matches, by the reference. Conditions: as each states. -/
namespace Go.Proofs.YtmdccplhmniiiaaGreat
open Go.RowKit

theorem rlk_at (T : List ANode) (i : Nat) (g : Bool) (h1 : lkB T i = g) (A : Option Addr) (n c : Nat) (w : World) (h : IsTree w A n T) (hi : i < n) (hg : goodB T = true) :
    Calls Tryz.prog 13 #[.agg #[.slice A n c], .int .i64 i] w fun e w' => e = .returned (.bool g) ∧ Below w.heap.size w w' := by
  have := rlk_ok A n c T i w h hi hg
  rw [h1] at this
  exact this
end Go.Proofs.YtmdccplhmniiiaaGreat
/- Walks: modes, errors, matches and all matches of a simple selector, by the reference. Conditions: as each states. -/
namespace Go.Proofs.YtmdccplhmniiiaaGreat
open Go.RowKit

theorem modeB_nat {T : List ANode} {j : Nat} (hj : j < T.length) : modeB T j = lkB T j := by
  unfold modeB
  rw [decide_eq_false (by omega), decide_eq_true (p := (0 : Int) ≤ j) (by omega), decide_eq_true (p := (j : Int) < T.length) (by omega), Int.toNat_natCast]
  simp
theorem modeB_no {T : List ANode} {m : Int} (h1 : ¬ m = -1) (h2 : ¬ (0 ≤ m ∧ m < T.length)) : modeB T m = false := by
  unfold modeB
  rw [decide_eq_false h1]
  by_cases h : 0 ≤ m
  · rw [decide_eq_false (p := m < T.length) (fun h3 => h2 ⟨h, h3⟩)]; simp
  · rw [decide_eq_false h]; simp
theorem rasked_at (T : List ANode) (i c0 : Int) (h0 : askI T [i] = c0) (A : Option Addr) (n c : Nat) (w : World) (h : IsTree w A n T) :
    Calls Tryz.prog 61 #[.agg #[.slice A n c], .int .i64 i] w fun e w' => e = .returned (.int .i64 c0) ∧ Below w.heap.size w w' := by
  have := rasked_ok A n c T i w h
  rw [h0] at this
  exact this
end Go.Proofs.YtmdccplhmniiiaaGreat
namespace Go.Proofs.YtmdccplhmniiiaaGreat
open Go.RowKit

theorem bx_map18 {f : Nat → Bool} {n j : Nat} (h : j < n) : bx ((List.range n).map f) j = f j := by simp [bx, h]
theorem ix_mem18 {xs : List Int} {j : Nat} (h : j < xs.length) : ix xs j ∈ xs := by
  unfold ix; rw [List.getD_eq_getElem?_getD, List.getElem?_eq_getElem h]; exact List.getElem_mem _
theorem filt_step {l : List Int} {p : Int → Bool} {j : Nat} (hj : j < l.length) : ((l.take (j + 1)).filter p).length = ((l.take j).filter p).length + (if p (ix l j) = true then 1 else 0) := by
  rw [List.take_succ_eq_append_getElem hj, List.filter_append, List.length_append, ix_get hj]
  by_cases h : p l[j] = true <;> simp [h]
theorem filt_at {l : List Int} {p : Int → Bool} {j : Nat} (hj : j < l.length) (h : p (ix l j) = true) : ((l.take j).filter p).length < (l.filter p).length ∧ ix (l.filter p) ((l.take j).filter p).length = ix l j := by
  have e : l.filter p = (l.take j).filter p ++ ix l j :: (l.drop (j + 1)).filter p := by
    conv => lhs; rw [← List.take_append_drop j l, List.drop_eq_getElem_cons hj]
    rw [List.filter_append, List.filter_cons, ← ix_get hj, if_pos h]
  constructor
  · rw [e]; simp
  · rw [e]; unfold ix; rw [List.getD_eq_getElem?_getD, List.getElem?_append_right (Nat.le_refl _)]; simp
theorem filt_end (l : List Int) (p : Int → Bool) : ((l.take l.length).filter p).length = (l.filter p).length := by rw [List.take_length]
def A18 (k : Int) : Sim := ⟨k, .empty, 0, .empty, false, 0, 0, false, none, 0, 0⟩
theorem all18 (k : Int) (n : Nat) (T : List ANode) (hg : goodB T = true) (hk : chkS (A18 k) = 0) (A : Option Addr) (c : Nat) (w : World) (h : IsTree w A n T) (hm : HasMax w) (f : Nat → Bool) (hf : ∀ j, matS T j (A18 k) (-1) = f j) :
    Calls Tryz.prog 10 #[.agg #[.slice A n c], .agg #[.int .u8 k, .string .empty, .int .u8 0, .string .empty, .bool false, .int .i64 0, .int .i64 0, .bool false, .slice none 0 0], .int .i64 (-1)] w fun e w' =>
      ∃ (bB oB d : Nat), e = .returned (.tuple #[.slice (some ⟨bB, oB, none⟩) n d, .int .i64 0]) ∧ bB < w'.heap.size ∧ (∀ j, j < n → w'.cell? ⟨bB, oB + j, none⟩ = some (.bool (f j))) ∧ Below w.heap.size w w' := by
  have hl := h.1
  have hpos := ((goodB_iff T).1 hg).1
  refine (sAll_ok A n c T k .empty 0 .empty false 0 0 false none 0 0 (-1) w h hm).mono ?_
  have e0 : smE T (A18 k) (-1) = 0 := smE_zero.2 ⟨hg, by simp [modeB], hk⟩
  have e1 : sallV T (A18 k) (-1) = sallL T (A18 k) (-1) := if_pos e0
  show ∀ e w', MadeB w (sallV T (A18 k) (-1)) (smE T (A18 k) (-1)) e w' → _
  rw [e0, e1]
  rintro e w' ⟨B, d, rfl, hB, -, -, hb⟩
  have hL := sallL_len T (A18 k) (-1)
  rw [hL] at hB ⊢
  obtain ⟨bB, oB, rfl, hl2, hc⟩ := hB.2.2 (by omega)
  have hn : T.length = n := by omega
  rw [hn] at hc ⊢
  refine ⟨bB, oB, d, rfl, hl2, fun j hj => ?_, hb⟩
  rw [hc j hj]
  unfold sallL
  rw [bx_map18 (by omega), hf]
section
variable {T : List ANode} (hg : goodB T = true) {k : Nat} (hk : k < T.length) (A : Option Addr) (n c : Nat) (w : World) (h : IsTree w A n T)
include hg hk h
theorem rel18 {v : Int} (hv : nearF T k = v) : Calls Tryz.prog 40 #[.agg #[.slice A n c], .int .i64 k] w fun e w' => e = .returned (.tuple #[.int .i64 v, .int .i64 0]) ∧ Below w.heap.size w w' := by
  have hx := linkRel_ok A n c T k w h
  have q : askI T [(k : Int)] = 0 := askI_ok hg (by simp; omega)
  rw [show nearE T k = nearF T k from if_pos q, q, hv] at hx
  exact hx
theorem is18 {v : Bool} (hv : lkB T k = v) : Calls Tryz.prog 12 #[.agg #[.slice A n c], .int .i64 k] w fun e w' => e = .returned (.tuple #[.bool v, .int .i64 0]) ∧ Below w.heap.size w w' := by
  have hx := linkIs_ok A n c T k w h
  have q : askI T [(k : Int)] = 0 := askI_ok hg (by simp; omega)
  rw [show isE T k = lkB T k from if_pos q, q, hv] at hx
  exact hx
theorem list18 : Calls Tryz.prog 17 #[.agg #[.slice A n c], .int .i64 k] w (MadeIntsE w (preT T k) 0) := by
  have hx := list_ok A n c T k w h
  have q : askI T [(k : Int)] = 0 := askI_ok hg (by simp; omega)
  rw [show listE T k = preT T k from if_pos q, q] at hx
  exact hx
theorem links18 : Calls Tryz.prog 41 #[.agg #[.slice A n c], .int .i64 k] w (MadeIntsR w ((preT T k).filter fun x => lkB T x.toNat) 0) := by
  have hx := linkAll_ok A n c T k w h
  have q : askI T [(k : Int)] = 0 := askI_ok hg (by simp; omega)
  rw [show linksE T k = (preT T k).filter (fun x => lkB T x.toNat) from if_pos q, q] at hx
  exact hx
end

set_option maxRecDepth 100000 in
set_option maxHeartbeats 8000000 in
theorem agrees18_ok (A : Option Addr) (n c : Nat) (T : List ANode) (w : World) (h : IsTree w A n T) (hg : goodB T = true) (hm : HasMax w) :
    Calls Tryz.prog 14 #[.agg #[.slice A n c]] w fun e w' => e = .returned (.bool true) ∧ Below w.heap.size w w' := by
  have ho := hide h.2.2.2
  have hpq := (goodB_iff T).1 hg
  have hnn := h.1
  have hn64 : n ≤ 64 := by have := hpq.2.1; omega
  have hn1 : 1 ≤ n := by have := hpq.1; omega
  have hkT := hide (fun (k : Nat) (hk : k < n) => (show k < T.length by omega))
  have hTn := hide (show T.length = n by omega)
  have hg' := hide hg
  clear hpq hnn
  have hT := hide h
  have hl := h.1
  clear h
  have hB0 := below_alloc (Below.refl w.heap.size w) (.cells #[.slice A n c] 26)
  have hbox0 : (w.alloc (.cells #[.slice A n c] 26)).cell? ⟨w.heap.size, 0, none⟩ = some (.slice A n c) := by go_simp
  have hm0 := hide (hm.below hB0)
  obtain ⟨b, off, aA, cA, aC, cC, rfl, hbl, -, -, c2, -, -, -⟩ := ho.out (by omega)
  have c2' := hide c2
  clear ho c2 hg hm
  go_enter Tryz.func14, Tryz.ntmps14
  go_wp2_with fail
  refine (all18 6 n T hg'.out (by kernel_rfl) _ c _ (hT.out.below hB0) hm0.out (lkB T) (fun j => rfl)).mono ?_
  rintro e w1 ⟨bL, oL, dL, rfl, hlL, hcL, hb1⟩
  have hB1 := Below.on hB0 hb1
  have hbox1 := cell_later hb1 hbox0
  have hm1 := hide (hm0.out.below hb1)
  have hcL := hide hcL
  clear hbox0 hm0 hb1 hB0
  go_wp2_with fail
  refine (all18 7 n T hg'.out (by kernel_rfl) _ c _ (hT.out.below hB1) hm1.out (fun j => decide (j = 0)) (fun j => rfl)).mono ?_
  rintro e w2 ⟨bR, oR, dR, rfl, hlR, hcR, hb2⟩
  have hB2 := Below.on hB1 hb2
  have hbox2 := cell_later hb2 hbox1
  have hcR := hide hcR
  have hcL2 := hide (fun j hj => (old hb2 _ _ hlL).trans (hcL.out j hj))
  have hlL2 : bL < w2.heap.size := by have := hb2.size; omega
  clear hbox1 hm1 hb2 hB1 hcL hlL
  go_wp2
  go_loopw [7, 8] (fun s v wr => ∃ k : Nat, k ≤ n ∧ s = .int .i64 (seenF T k) ∧ v = .int .i64 k ∧ Below w2.heap.size w2 wr) (fun _ v _ => n - (intOf v).toNat)
  case atStart => exact ⟨0, Nat.zero_le _, by rw [seen_zero hg'.out]; rfl, rfl, Below.refl _ _⟩
  case round =>
    obtain ⟨k, hk, rfl, rfl, hb⟩ := hrel
    have hBw := Below.on hB2 hb
    have hbx := cell_later hb hbox2
    by_cases hlt : k < n
    · have hkl := hkT.out k hlt
      have hsz : seenF T (k + 1) ≤ n := by have h1 := hTn.out; unfold seenF; have h2 := List.length_filter_le (fun x : Nat => decide (topF T x < ((k + 1 : Nat) : Int))) (List.range T.length); rw [List.length_range] at h2; omega
      by_cases hp : 0 ≤ par T k
      · obtain ⟨q, hq⟩ := Int.eq_ofNat_of_zero_le hp
        have hqr := (good_par hg'.out hkl).2
        have hql : q < T.length := by omega
        have hqn := hide hql
        have hnn := hide (fun (h : lkB T k = false) => near_no hg'.out hkl h)
        cases hlk : lkB T k
        · have hlk := hide hlk
          have hgp := (old hBw _ _ hbl).trans (c2'.out k hlt)
          rw [hq] at hgp
          go_wp2_with fail
          refine (rel18 hg'.out hkl _ n c _ (hT.out.below hBw) (v := nearF T q) (by have := hnn.out hlk.out; rw [hq] at this; exact this)).mono ?_
          rintro e w3 ⟨rfl, hb3⟩
          have hbx3 := cell_later hb3 hbx
          have hB3 := Below.on hBw hb3
          have hb32 := Below.on hb hb3
          clear hbx hb3 hb hBw hgp
          go_wp2_with fail
          refine (is18 hg'.out hkl _ n c _ (hT.out.below hB3) (v := false) hlk.out).mono ?_
          rintro e w4 ⟨rfl, hb4⟩
          have hbx4 := cell_later hb4 hbx3
          have hB4 := Below.on hB3 hb4
          have hb42 := Below.on hb32 hb4
          have gl : w4.cell? ⟨bL, oL + k, none⟩ = some (.bool false) := by rw [(old hb42 _ _ hlL2).trans (hcL2.out k hlt), hlk.out]
          have gr : w4.cell? ⟨bR, oR + k, none⟩ = some (.bool (decide (k = 0))) := (old hb42 _ _ hlR).trans (hcR.out k hlt)
          rw [show decide (k = 0) = ((k : Int) == 0) from by rw [Bool.eq_iff_iff, decide_eq_true_iff, beq_iff_eq]; omega] at gr
          clear hbx3 hb4 hb32 hB3
          go_wp2_with fail
          refine (rel18 hg'.out hql _ n c _ (hT.out.below hB4) (v := nearF T q) rfl).mono ?_
          rintro e w5 ⟨rfl, hb5⟩
          have hs1 := hide (seen_no hg'.out (k := k) (by omega))
          have hb52 := Below.on hb42 hb5
          go_wp2
          go_roundw
          case rel => exact ⟨k + 1, by omega, by rw [hs1.out], by go_num, hb52⟩
          case measure => simp [intOf]; omega
        · have hlk := hide hlk
          have hgp := (old hBw _ _ hbl).trans (c2'.out k hlt)
          rw [hq] at hgp
          go_wp2_with fail
          refine (rel18 hg'.out hkl _ n c _ (hT.out.below hBw) (v := (k : Int)) (near_yes hg'.out hkl hlk.out)).mono ?_
          rintro e w3 ⟨rfl, hb3⟩
          have hbx3 := cell_later hb3 hbx
          have hB3 := Below.on hBw hb3
          have hb32 := Below.on hb hb3
          clear hbx hb3 hb hBw hgp
          go_wp2_with fail
          refine (is18 hg'.out hkl _ n c _ (hT.out.below hB3) (v := true) hlk.out).mono ?_
          rintro e w4 ⟨rfl, hb4⟩
          have hbx4 := cell_later hb4 hbx3
          have hB4 := Below.on hB3 hb4
          have hb42 := Below.on hb32 hb4
          have gl : w4.cell? ⟨bL, oL + k, none⟩ = some (.bool true) := by rw [(old hb42 _ _ hlL2).trans (hcL2.out k hlt), hlk.out]
          have gr : w4.cell? ⟨bR, oR + k, none⟩ = some (.bool (decide (k = 0))) := (old hb42 _ _ hlR).trans (hcR.out k hlt)
          rw [show decide (k = 0) = ((k : Int) == 0) from by rw [Bool.eq_iff_iff, decide_eq_true_iff, beq_iff_eq]; omega] at gr
          clear hbx3 hb4 hb32 hB3
          go_wp2_with fail
          refine (rel18 hg'.out hql _ n c _ (hT.out.below hB4) (v := nearF T q) rfl).mono ?_
          rintro e w5 ⟨rfl, hb5⟩
          have hs1 := hide (seen_no hg'.out (k := k) (by omega))
          have hb52 := Below.on hb42 hb5
          go_wp2
          go_roundw
          case rel => exact ⟨k + 1, by omega, by rw [hs1.out], by go_num, hb52⟩
          case measure => simp [intOf]; omega
      · have hnn := hide (fun (h : lkB T k = false) => near_no hg'.out hkl h)
        have hp' : par T k < 0 := by omega
        cases hlk : lkB T k
        · have hlk := hide hlk
          have hgp := (old hBw _ _ hbl).trans (c2'.out k hlt)
          go_wp2_with fail
          refine (rel18 hg'.out hkl _ n c _ (hT.out.below hBw) (v := (-1)) (by rw [hnn.out hlk.out, near_neg hp'])).mono ?_
          rintro e w3 ⟨rfl, hb3⟩
          have hbx3 := cell_later hb3 hbx
          have hB3 := Below.on hBw hb3
          have hb32 := Below.on hb hb3
          clear hbx hb3 hb hBw hgp
          go_wp2_with fail
          refine (is18 hg'.out hkl _ n c _ (hT.out.below hB3) (v := false) hlk.out).mono ?_
          rintro e w4 ⟨rfl, hb4⟩
          have hbx4 := cell_later hb4 hbx3
          have hB4 := Below.on hB3 hb4
          have hb42 := Below.on hb32 hb4
          have gl : w4.cell? ⟨bL, oL + k, none⟩ = some (.bool false) := by rw [(old hb42 _ _ hlL2).trans (hcL2.out k hlt), hlk.out]
          have gr : w4.cell? ⟨bR, oR + k, none⟩ = some (.bool (decide (k = 0))) := (old hb42 _ _ hlR).trans (hcR.out k hlt)
          rw [show decide (k = 0) = ((k : Int) == 0) from by rw [Bool.eq_iff_iff, decide_eq_true_iff, beq_iff_eq]; omega] at gr
          clear hbx3 hb4 hb32 hB3
          go_wp2_with fail
          refine (list18 hg'.out hkl _ n c _ (hT.out.below hB4)).mono ?_
          rintro e w5 ⟨A5, c5, rfl, hI5, -, -, hb5⟩
          have hbx5 := cell_later hb5 hbx4
          have hB5 := Below.on hB4 hb5
          have hb52 := Below.on hb42 hb5
          have hI5 := hide hI5
          clear hbx4 hB4 hb42 hb5 gl gr
          go_wp2_with fail
          refine (links18 hg'.out hkl _ n c _ (hT.out.below hB5)).mono ?_
          rintro e w6 ⟨A6, c6, rfl, hI6, hb6⟩
          have hbx6 := cell_later hb6 hbx5
          have hB6 := Below.on hB5 hb6
          have hb62 := Below.on hb52 hb6
          have hJ5 := hide (hI5.out.below hb6)
          have hI6 := hide hI6
          have hs1 := seen_top hg'.out hkl (by omega)
          have hmem := hide (fun x (hx : x ∈ preT T k) => pre_mem hg'.out _ hkl hx)
          obtain ⟨L, hL⟩ : ∃ L, preT T k = L := ⟨_, rfl⟩
          rw [hL] at hs1 hJ5 hI6 hmem ⊢
          obtain ⟨m, hLm⟩ : ∃ m, L.length = m := ⟨_, rfl⟩
          obtain ⟨m2, hFm⟩ : ∃ m2, (L.filter fun x => lkB T x.toNat).length = m2 := ⟨_, rfl⟩
          rw [hLm] at hJ5
          rw [hFm] at hI6
          have hw7 : IntKind.i64.wrap ((seenF T k : Int) + (m : Int)) = (seenF T (k + 1) : Int) := by
            have h1 := IntWalk.i64_in ((seenF T k : Int) + (m : Int)) (by omega)
            rw [h1]; omega
          have hLm := hide hLm
          have hFm := hide hFm
          have hm64 : m ≤ 64 := by have := hLm.out; omega
          have hm264 : m2 ≤ 64 := by have h1 := hLm.out; have h2 := hFm.out; have h3 := List.length_filter_le (fun x : Int => lkB T x.toNat) L; omega
          have hs1 := hide hs1
          rw [hLm.out, hFm.out]
          clear hbx5 hB5 hb52 hb6 hI5 hL
          go_wp2
          go_loopw [21, 22] (fun a v wr => ∃ j : Nat, j ≤ m ∧ a = .int .i64 ((L.take j).filter fun x => lkB T x.toNat).length ∧ v = .int .i64 j ∧ Below w6.heap.size w6 wr) (fun _ v _ => m - (intOf v).toNat)
          case atStart => exact ⟨0, Nat.zero_le _, by simp, rfl, Below.refl _ _⟩
          case round =>
            obtain ⟨j, hj, rfl, rfl, hbj⟩ := hrel
            have hbxj := cell_later hbj hbx6
            have hbj2 := Below.on hb62 hbj
            by_cases hjl : j < m
            · have hjL : j < L.length := by rw [hLm.out]; exact hjl
              obtain ⟨x, hx, hxn, -⟩ := hmem.out (ix L j) (ix_mem18 hjL)
              have hxn' : x < n := by have := hTn.out; omega
              obtain ⟨b5, o5, rfl, hl5, hc5⟩ := hJ5.out.2.2 (by omega)
              have h5j : wr.cell? ⟨b5, o5 + j, none⟩ = some (.int .i64 x) := by rw [(old hbj _ _ hl5).trans (hc5 j hjl), hx]
              have hst := filt_step (p := fun x => lkB T x.toNat) hjL
              rw [hx] at hst
              have hst' := hide hst
              obtain ⟨at1, hat1⟩ : ∃ at1, ((L.take j).filter fun x => lkB T x.toNat).length = at1 := ⟨_, rfl⟩
              have hcy := hide (filt_at (p := fun x => lkB T x.toNat) hjL)
              rw [hx, hat1] at hcy
              rw [hat1] at hst' ⊢
              have ha64 : at1 ≤ 64 := by rw [← hat1]; have h1 := List.length_filter_le (fun x : Int => lkB T x.toNat) (L.take j); have h2 := List.length_take_le j L; have := hLm.out; omega
              clear hat1 hst hc5
              go_wp2
              go_quiet (fail)
              have glx : (wr.drewN nq).cell? ⟨bL, oL + x, none⟩ = some (.bool (lkB T x)) := (old (Below.on hb62 hbj) _ _ hlL2).trans (hcL2.out x hxn')
              cases hlx : lkB T x
              · rw [hlx] at glx
                go_wp2
                go_roundw
                case rel => exact ⟨j + 1, by omega, by rw [hst'.out]; simp [hlx], by go_num, below_drewN hbj nq⟩
                case measure => simp [intOf]; omega
              · rw [hlx] at glx
                obtain ⟨ha2, hix⟩ := hcy.out (by simpa using hlx)
                rw [hFm.out] at ha2
                obtain ⟨b6, o6, rfl, hl6, hc6⟩ := hI6.out.2.2 (by omega)
                have h6a : (wr.drewN nq).cell? ⟨b6, o6 + at1, none⟩ = some (.int .i64 x) := by rw [← hix]; exact (old hbj _ _ hl6).trans (hc6 at1 ha2)
                have h5k : (wr.drewN nq).cell? ⟨b5, o5 + j, none⟩ = some (.int .i64 x) := h5j
                have hbjn := below_drewN hbj nq
                have hbxn : (wr.drewN nq).cell? ⟨w.heap.size, 0, none⟩ = _ := hbxj
                generalize wr.drewN nq = wq at *
                go_wp2
                go_quiet (fail)
                go_wp2
                go_roundw
                case rel => exact ⟨j + 1, by omega, by rw [hst'.out]; simp [hlx], by go_num, below_drewN hbjn nq⟩
                case measure => simp [intOf]; omega
            · obtain rfl : j = m := by omega
              have he := filt_end L (fun x => lkB T x.toNat)
              rw [hLm.out, hFm.out] at he
              rw [he]
              go_wp2
              go_roundw
              case rel => exact ⟨k + 1, by omega, by first | rfl | (congr 1; have h1 := hs1.out; have h2 := hLm.out; omega), by go_num, Below.on hb62 hbj⟩
              case measure => simp [intOf]; omega
        · have hlk := hide hlk
          have hgp := (old hBw _ _ hbl).trans (c2'.out k hlt)
          go_wp2_with fail
          refine (rel18 hg'.out hkl _ n c _ (hT.out.below hBw) (v := (k : Int)) (near_yes hg'.out hkl hlk.out)).mono ?_
          rintro e w3 ⟨rfl, hb3⟩
          have hbx3 := cell_later hb3 hbx
          have hB3 := Below.on hBw hb3
          have hb32 := Below.on hb hb3
          clear hbx hb3 hb hBw hgp
          go_wp2_with fail
          refine (is18 hg'.out hkl _ n c _ (hT.out.below hB3) (v := true) hlk.out).mono ?_
          rintro e w4 ⟨rfl, hb4⟩
          have hbx4 := cell_later hb4 hbx3
          have hB4 := Below.on hB3 hb4
          have hb42 := Below.on hb32 hb4
          have gl : w4.cell? ⟨bL, oL + k, none⟩ = some (.bool true) := by rw [(old hb42 _ _ hlL2).trans (hcL2.out k hlt), hlk.out]
          have gr : w4.cell? ⟨bR, oR + k, none⟩ = some (.bool (decide (k = 0))) := (old hb42 _ _ hlR).trans (hcR.out k hlt)
          rw [show decide (k = 0) = ((k : Int) == 0) from by rw [Bool.eq_iff_iff, decide_eq_true_iff, beq_iff_eq]; omega] at gr
          clear hbx3 hb4 hb32 hB3
          go_wp2_with fail
          refine (list18 hg'.out hkl _ n c _ (hT.out.below hB4)).mono ?_
          rintro e w5 ⟨A5, c5, rfl, hI5, -, -, hb5⟩
          have hbx5 := cell_later hb5 hbx4
          have hB5 := Below.on hB4 hb5
          have hb52 := Below.on hb42 hb5
          have hI5 := hide hI5
          clear hbx4 hB4 hb42 hb5 gl gr
          go_wp2_with fail
          refine (links18 hg'.out hkl _ n c _ (hT.out.below hB5)).mono ?_
          rintro e w6 ⟨A6, c6, rfl, hI6, hb6⟩
          have hbx6 := cell_later hb6 hbx5
          have hB6 := Below.on hB5 hb6
          have hb62 := Below.on hb52 hb6
          have hJ5 := hide (hI5.out.below hb6)
          have hI6 := hide hI6
          have hs1 := seen_top hg'.out hkl (by omega)
          have hmem := hide (fun x (hx : x ∈ preT T k) => pre_mem hg'.out _ hkl hx)
          obtain ⟨L, hL⟩ : ∃ L, preT T k = L := ⟨_, rfl⟩
          rw [hL] at hs1 hJ5 hI6 hmem ⊢
          obtain ⟨m, hLm⟩ : ∃ m, L.length = m := ⟨_, rfl⟩
          obtain ⟨m2, hFm⟩ : ∃ m2, (L.filter fun x => lkB T x.toNat).length = m2 := ⟨_, rfl⟩
          rw [hLm] at hJ5
          rw [hFm] at hI6
          have hw7 : IntKind.i64.wrap ((seenF T k : Int) + (m : Int)) = (seenF T (k + 1) : Int) := by
            have h1 := IntWalk.i64_in ((seenF T k : Int) + (m : Int)) (by omega)
            rw [h1]; omega
          have hLm := hide hLm
          have hFm := hide hFm
          have hm64 : m ≤ 64 := by have := hLm.out; omega
          have hm264 : m2 ≤ 64 := by have h1 := hLm.out; have h2 := hFm.out; have h3 := List.length_filter_le (fun x : Int => lkB T x.toNat) L; omega
          have hs1 := hide hs1
          rw [hLm.out, hFm.out]
          clear hbx5 hB5 hb52 hb6 hI5 hL
          go_wp2
          go_loopw [21, 22] (fun a v wr => ∃ j : Nat, j ≤ m ∧ a = .int .i64 ((L.take j).filter fun x => lkB T x.toNat).length ∧ v = .int .i64 j ∧ Below w6.heap.size w6 wr) (fun _ v _ => m - (intOf v).toNat)
          case atStart => exact ⟨0, Nat.zero_le _, by simp, rfl, Below.refl _ _⟩
          case round =>
            obtain ⟨j, hj, rfl, rfl, hbj⟩ := hrel
            have hbxj := cell_later hbj hbx6
            have hbj2 := Below.on hb62 hbj
            by_cases hjl : j < m
            · have hjL : j < L.length := by rw [hLm.out]; exact hjl
              obtain ⟨x, hx, hxn, -⟩ := hmem.out (ix L j) (ix_mem18 hjL)
              have hxn' : x < n := by have := hTn.out; omega
              obtain ⟨b5, o5, rfl, hl5, hc5⟩ := hJ5.out.2.2 (by omega)
              have h5j : wr.cell? ⟨b5, o5 + j, none⟩ = some (.int .i64 x) := by rw [(old hbj _ _ hl5).trans (hc5 j hjl), hx]
              have hst := filt_step (p := fun x => lkB T x.toNat) hjL
              rw [hx] at hst
              have hst' := hide hst
              obtain ⟨at1, hat1⟩ : ∃ at1, ((L.take j).filter fun x => lkB T x.toNat).length = at1 := ⟨_, rfl⟩
              have hcy := hide (filt_at (p := fun x => lkB T x.toNat) hjL)
              rw [hx, hat1] at hcy
              rw [hat1] at hst' ⊢
              have ha64 : at1 ≤ 64 := by rw [← hat1]; have h1 := List.length_filter_le (fun x : Int => lkB T x.toNat) (L.take j); have h2 := List.length_take_le j L; have := hLm.out; omega
              clear hat1 hst hc5
              go_wp2
              go_quiet (fail)
              have glx : (wr.drewN nq).cell? ⟨bL, oL + x, none⟩ = some (.bool (lkB T x)) := (old (Below.on hb62 hbj) _ _ hlL2).trans (hcL2.out x hxn')
              cases hlx : lkB T x
              · rw [hlx] at glx
                go_wp2
                go_roundw
                case rel => exact ⟨j + 1, by omega, by rw [hst'.out]; simp [hlx], by go_num, below_drewN hbj nq⟩
                case measure => simp [intOf]; omega
              · rw [hlx] at glx
                obtain ⟨ha2, hix⟩ := hcy.out (by simpa using hlx)
                rw [hFm.out] at ha2
                obtain ⟨b6, o6, rfl, hl6, hc6⟩ := hI6.out.2.2 (by omega)
                have h6a : (wr.drewN nq).cell? ⟨b6, o6 + at1, none⟩ = some (.int .i64 x) := by rw [← hix]; exact (old hbj _ _ hl6).trans (hc6 at1 ha2)
                have h5k : (wr.drewN nq).cell? ⟨b5, o5 + j, none⟩ = some (.int .i64 x) := h5j
                have hbjn := below_drewN hbj nq
                have hbxn : (wr.drewN nq).cell? ⟨w.heap.size, 0, none⟩ = _ := hbxj
                generalize wr.drewN nq = wq at *
                go_wp2
                go_quiet (fail)
                go_wp2
                go_roundw
                case rel => exact ⟨j + 1, by omega, by rw [hst'.out]; simp [hlx], by go_num, below_drewN hbjn nq⟩
                case measure => simp [intOf]; omega
            · obtain rfl : j = m := by omega
              have he := filt_end L (fun x => lkB T x.toNat)
              rw [hLm.out, hFm.out] at he
              rw [he]
              go_wp2
              go_roundw
              case rel => exact ⟨k + 1, by omega, by first | rfl | (congr 1; have h1 := hs1.out; have h2 := hLm.out; omega), by go_num, Below.on hb62 hbj⟩
              case measure => simp [intOf]; omega
    · obtain rfl : k = n := by omega
      have he := seen_end hg'.out
      rw [hTn.out] at he
      rw [he]
      go_wp2
      go_ret
      exact ⟨rfl, hBw⟩
end Go.Proofs.YtmdccplhmniiiaaGreat
