/- Walks: whether a value suits an attribute selector, by the program and by the reference; whether a selector is long. Condition: the variable of the library that strings.Contains reads holds a number. -/
import Derived.Test.YtljloicgjgbplaaGreatG15
import Derived.Test.YtljloicgjgbplaaGreatG16
import Derived.Test.YtljloicgjgbplaaGreatG03
import Derived.Test.YtljloicgjgbplaaGreatG08
import Derived.Test.YtljloicgjgbplaaGreatRows
import Derived.HandedShaped
import Derived.Shelf.Vars
import Derived.Test.YtljloicgjgbplaaGreatG01
import Derived.Test.YtljloicgjgbplaaGreatG14
namespace Go.Proofs.YtljloicgjgbplaaGreat
open Go.RowKit

/-- A simple selector in a block. -/
def SimAt (w : World) (g : Nat) (s : Sim) : Prop :=
  w.cell? ⟨g, 0, none⟩ = some (.int .u8 s.kind) ∧ w.cell? ⟨g, 1, none⟩ = some (.string s.name) ∧ w.cell? ⟨g, 2, none⟩ = some (.int .u8 s.op) ∧ w.cell? ⟨g, 3, none⟩ = some (.string s.val) ∧ w.cell? ⟨g, 4, none⟩ = some (.bool s.fold) ∧
  w.cell? ⟨g, 5, none⟩ = some (.int .i64 s.a) ∧ w.cell? ⟨g, 6, none⟩ = some (.int .i64 s.b) ∧ w.cell? ⟨g, 7, none⟩ = some (.bool s.of) ∧ w.cell? ⟨g, 8, none⟩ = some (.slice s.LA s.ln s.lc)
theorem SimAt.later {w w' : World} {g : Nat} {s : Sim} (h : SimAt w g s) (hb : Below w.heap.size w w') : SimAt w' g s := by
  obtain ⟨h0, h1, h2, h3, h4, h5, h6, h7, h8⟩ := h
  exact ⟨cell_later hb h0, cell_later hb h1, cell_later hb h2, cell_later hb h3, cell_later hb h4, cell_later hb h5, cell_later hb h6, cell_later hb h7, cell_later hb h8⟩
theorem simAt_new (w : World) (k : Int) (nm : ByteArray) (op : Int) (vl : ByteArray) (fo : Bool) (a b : Int) (f : Bool) (LA : Option Addr) (ln lc : Nat) :
    SimAt (w.alloc (.cells #[.int .u8 k, .string nm, .int .u8 op, .string vl, .bool fo, .int .i64 a, .int .i64 b, .bool f, .slice LA ln lc] 41)) w.heap.size ⟨k, nm, op, vl, fo, a, b, f, LA, ln, lc⟩ := by
  refine ⟨?_, ?_, ?_, ?_, ?_, ?_, ?_, ?_, ?_⟩
  all_goals go_simp
theorem chkS_cases (s : Sim) : chkS s = 0 ∨ chkS s = 12 := by unfold chkS; split <;> simp
theorem chkS_okP {s : Sim} (h : chkS s = 0) : okP s := by
  unfold chkS okS at h
  by_cases h1 : okP s
  · exact h1
  · rw [if_neg (by rw [decide_eq_true_eq]; exact h1)] at h
    omega
theorem chkS_val {s : Sim} (h : chkS s = 0) : s.val.size ≤ 400 ∧ s.name.size ≤ 400 := by
  have h1 := chkS_okP h
  unfold okP at h1
  omega

theorem scheck_ok_at (k : Int) (nm : ByteArray) (op : Int) (vl : ByteArray) (fo : Bool) (a b : Int) (f : Bool) (LA : Option Addr) (ln lc : Nat) (w : World) (c0 : Int) (h0 : chkS ⟨k, nm, op, vl, fo, a, b, f, LA, ln, lc⟩ = c0) :
    Calls Tryz.prog 67 #[.agg #[.int .u8 k, .string nm, .int .u8 op, .string vl, .bool fo, .int .i64 a, .int .i64 b, .bool f, .slice LA ln lc]] w fun r w' => r = .returned (.int .i64 c0) ∧ Below w.heap.size w w' := by
  have := scheck_ok k nm op vl fo a b f LA ln lc w
  rw [h0] at this
  exact this
end Go.Proofs.YtljloicgjgbplaaGreat
/- What the laws of chapter 18 share: the variable of the library holds a number in every world of a row. No condition. -/
namespace Go.Proofs.YtljloicgjgbplaaGreat
open Go.RowKit

set_option maxRecDepth 100000 in
theorem hasMax_of {w : World} (h : w.ShapedOpen Tryz.prog) : HasMax w :=
  cell_of_shapedOpen_int (t := 3) (zero := #[.int .i64 0]) h (of_decide_eq_true (by kernel_rfl)) (by kernel_rfl) rfl (by kernel_rfl) (by kernel_rfl) Tryz.underlying3
end Go.Proofs.YtljloicgjgbplaaGreat
/- Walks: whether an element matches a simple selector, by the program. Conditions: the tree is good, the element is in it, the value is of at most 1000 bytes, the variable of the library that strings.Contains reads holds a number. -/
namespace Go.Proofs.YtljloicgjgbplaaGreat
open Go.RowKit

def idN : ByteArray := ⟨#[105, 100]⟩
def matS (T : List ANode) (i : Nat) (s : Sim) (m : Int) : Bool :=
  if s.kind = 1 then decide (getE T i idN = 0) && decide (getV T i idN = s.name)
  else if s.kind = 2 then clsB T i s.name
  else if s.kind = 3 then decide (getE T i s.name = 0) && suitsF s.op s.val s.fold (getV T i s.name)
  else if s.kind = 5 then decide ((i : Int) = m)
  else if s.kind = 4 then lkB T i && !decide ((i : Int) = m)
  else if s.kind = 6 then lkB T i
  else if s.kind = 7 then decide (i = 0) else decide ((kids T i).length = 0)
theorem simAt_at (w : World) (g : Nat) (hg : g = w.heap.size) (k : Int) (nm : ByteArray) (op : Int) (vl : ByteArray) (fo : Bool) (a b : Int) (f : Bool) (LA : Option Addr) (ln lc : Nat) :
    SimAt (w.alloc (.cells #[.int .u8 k, .string nm, .int .u8 op, .string vl, .bool fo, .int .i64 a, .int .i64 b, .bool f, .slice LA ln lc] 41)) g ⟨k, nm, op, vl, fo, a, b, f, LA, ln, lc⟩ := by
  subst hg
  exact simAt_new w k nm op vl fo a b f LA ln lc
theorem linkIs_at (T : List ANode) (i : Int) (v : Bool) (c0 : Int) (h0 : isE T i = v) (h1 : askI T [i] = c0) (A : Option Addr) (n c : Nat) (w : World) (h : IsTree w A n T) :
    Calls Tryz.prog 66 #[.agg #[.slice A n c], .int .i64 i] w fun e w' => e = .returned (.tuple #[.bool v, .int .i64 c0]) ∧ Below w.heap.size w w' := by
  have := linkIs_ok A n c T i w h
  rw [h0, h1] at this
  exact this
theorem get_at (T : List ANode) (i : Int) (s : ByteArray) (v : ByteArray) (c0 : Int) (h0 : getV T i s = v) (h1 : getE T i s = c0) (A : Option Addr) (n c : Nat) (w : World) (h : IsTree w A n T) :
    Calls Tryz.prog 68 #[.agg #[.slice A n c], .int .i64 i, .string s] w fun e w' => e = .returned (.tuple #[.string v, .int .i64 c0]) ∧ Below w.heap.size w w' := by
  have := get_ok A n c T i s w h
  rw [h0, h1] at this
  exact this
theorem class_at (T : List ANode) (i : Int) (s : ByteArray) (v : Bool) (c0 : Int) (h0 : clsE T i s = v) (h1 : askI T [i] = c0) (A : Option Addr) (n c : Nat) (w : World) (h : IsTree w A n T) :
    Calls Tryz.prog 69 #[.agg #[.slice A n c], .int .i64 i, .string s] w fun e w' => e = .returned (.tuple #[.bool v, .int .i64 c0]) ∧ Below w.heap.size w w' := by
  have := class_ok A n c T i s w h
  rw [h0, h1] at this
  exact this

set_option maxRecDepth 100000 in
set_option maxHeartbeats 4000000 in
theorem smatch_ok (A : Option Addr) (n c : Nat) (T : List ANode) (i : Nat) (k : Int) (nm : ByteArray) (op : Int) (vl : ByteArray) (fo : Bool) (a b : Int) (f : Bool) (LA : Option Addr) (ln lc : Nat) (m : Int) (w : World) (h : IsTree w A n T) (hi : i < n) (hg : goodB T = true) (hvl : vl.size ≤ 1000) (hmx : HasMax w) :
    Calls Tryz.prog 52 #[.agg #[.slice A n c], .int .i64 i, .agg #[.int .u8 k, .string nm, .int .u8 op, .string vl, .bool fo, .int .i64 a, .int .i64 b, .bool f, .slice LA ln lc], .int .i64 m] w
      fun r w' => r = .returned (.bool (matS T i ⟨k, nm, op, vl, fo, a, b, f, LA, ln, lc⟩ m)) ∧ Below w.heap.size w w' := by
  have ho := hide h.2.2.2
  have hT := hide h
  have hl := h.1
  have hm' := hide hmx
  have hB0 := below_alloc (below_alloc (Below.refl w.heap.size w) (.cells #[.slice A n c] 24)) (.cells #[.int .u8 k, .string nm, .int .u8 op, .string vl, .bool fo, .int .i64 a, .int .i64 b, .bool f, .slice LA ln lc] 41)
  have hbox0 : ((w.alloc (.cells #[.slice A n c] 24)).alloc (.cells #[.int .u8 k, .string nm, .int .u8 op, .string vl, .bool fo, .int .i64 a, .int .i64 b, .bool f, .slice LA ln lc] 41)).cell? ⟨w.heap.size, 0, none⟩ = some (.slice A n c) := by go_simp
  have hS0 := hide (simAt_at (w.alloc (.cells #[.slice A n c] 24)) (w.heap.size + 1) (by simp) k nm op vl fo a b f LA ln lc)
  have ha0 : askI T [(i : Int)] = 0 := askI_ok hg (by simp; omega)
  have hask := hide ha0
  obtain ⟨lk, hlk⟩ : ∃ x, lkB T i = x := ⟨_, rfl⟩
  have hie : Hid (isE T i = lk) := by show _ = _; unfold isE; rw [if_pos ha0, Int.toNat_natCast, hlk]
  have hgs := hide (fun s => getV_size hg (show i < T.length by omega) s)
  have hcl := hide (show ∀ s, clsE T i s = clsB T i s from fun s => by unfold clsE; rw [if_pos ha0, Int.toNat_natCast])
  clear h hmx ha0 hg
  rcases (by omega : k = 1 ∨ k = 2 ∨ k = 3 ∨ k = 4 ∨ k = 5 ∨ k = 6 ∨ k = 7 ∨ (¬ k = 1 ∧ ¬ k = 2 ∧ ¬ k = 3 ∧ ¬ k = 4 ∧ ¬ k = 5 ∧ ¬ k = 6 ∧ ¬ k = 7)) with hk | hk | hk | hk | hk | hk | hk | ⟨hk1, hk2, hk3, hk4, hk5, hk6, hk7⟩
  · subst hk
    obtain ⟨gv, hgv0⟩ : ∃ x, getV T i idN = x := ⟨_, rfl⟩
    obtain ⟨ge, hge0⟩ : ∃ x, getE T i idN = x := ⟨_, rfl⟩
    have hgv := hide hgv0
    have hge := hide hge0
    have hr0 : matS T i ⟨1, nm, op, vl, fo, a, b, f, LA, ln, lc⟩ m = (decide (ge = 0) && decide (gv = nm)) := by
      show (decide (getE T i idN = 0) && decide (getV T i idN = nm)) = _
      rw [hgv0, hge0]
    by_cases h1 : ge = 0
    · subst h1
      by_cases h2 : gv = nm
      · have hr : Hid (matS T i ⟨1, nm, op, vl, fo, a, b, f, LA, ln, lc⟩ m = true) := by show _ = _; rw [hr0, decide_eq_true rfl, decide_eq_true h2]; rfl
        have h3 := str_eq h2
        clear hr0 hgv0 hge0 hlk h2
        go_enter Tryz.func52, Tryz.ntmps52
        go_wp2_with fail
        refine (linkIs_at T i lk 0 hie.out hask.out _ _ c _ (hT.out.below hB0)).mono ?_
        rintro e w1 ⟨rfl, hb1⟩
        have hB1 := Below.on hB0 hb1
        have hbox1 := cell_later hb1 hbox0
        have hS1 := hide (hS0.out.later hb1)
        obtain ⟨s0, s1, s2, s3, s4, s5, s6, s7, s8⟩ := hS0.out.later hb1
        clear hb1 hbox0
        go_wp2_with fail
        refine (get_at T i idN gv 0 hgv.out hge.out _ _ c _ (hT.out.below hB1)).mono ?_
        rintro e w2 ⟨rfl, hb2⟩
        have hB2 := Below.on hB1 hb2
        have t1 := cell_later hb2 s1
        clear s0 s1 s2 s3 s4 s5 s6 s7 s8 hb2
        go_wp2
        go_ret
        exact ⟨ret_bool hr.out.symm, hB2⟩
      · have hr : Hid (matS T i ⟨1, nm, op, vl, fo, a, b, f, LA, ln, lc⟩ m = false) := by show _ = _; rw [hr0, decide_eq_false h2, Bool.and_false]
        have h3 := str_ne h2
        clear hr0 hgv0 hge0 hlk h2
        go_enter Tryz.func52, Tryz.ntmps52
        go_wp2_with fail
        refine (linkIs_at T i lk 0 hie.out hask.out _ _ c _ (hT.out.below hB0)).mono ?_
        rintro e w1 ⟨rfl, hb1⟩
        have hB1 := Below.on hB0 hb1
        have hbox1 := cell_later hb1 hbox0
        have hS1 := hide (hS0.out.later hb1)
        obtain ⟨s0, s1, s2, s3, s4, s5, s6, s7, s8⟩ := hS0.out.later hb1
        clear hb1 hbox0
        go_wp2_with fail
        refine (get_at T i idN gv 0 hgv.out hge.out _ _ c _ (hT.out.below hB1)).mono ?_
        rintro e w2 ⟨rfl, hb2⟩
        have hB2 := Below.on hB1 hb2
        have t1 := cell_later hb2 s1
        clear s0 s1 s2 s3 s4 s5 s6 s7 s8 hb2
        go_wp2
        go_ret
        exact ⟨ret_bool hr.out.symm, hB2⟩
    · have hr : Hid (matS T i ⟨1, nm, op, vl, fo, a, b, f, LA, ln, lc⟩ m = false) := by show _ = _; rw [hr0, decide_eq_false h1, Bool.false_and]
      have h3 : (ge == 0) = false := by simp [h1]
      clear hr0 hgv0 hge0 hlk h1
      go_enter Tryz.func52, Tryz.ntmps52
      go_wp2_with fail
      refine (linkIs_at T i lk 0 hie.out hask.out _ _ c _ (hT.out.below hB0)).mono ?_
      rintro e w1 ⟨rfl, hb1⟩
      have hB1 := Below.on hB0 hb1
      have hbox1 := cell_later hb1 hbox0
      have hS1 := hide (hS0.out.later hb1)
      obtain ⟨s0, s1, s2, s3, s4, s5, s6, s7, s8⟩ := hS0.out.later hb1
      clear hb1 hbox0
      go_wp2_with fail
      refine (get_at T i idN gv ge hgv.out hge.out _ _ c _ (hT.out.below hB1)).mono ?_
      rintro e w2 ⟨rfl, hb2⟩
      have hB2 := Below.on hB1 hb2
      clear s0 s1 s2 s3 s4 s5 s6 s7 s8 hb2
      go_wp2
      go_ret
      exact ⟨ret_bool hr.out.symm, hB2⟩
  · subst hk
    have hr : Hid (matS T i ⟨2, nm, op, vl, fo, a, b, f, LA, ln, lc⟩ m = clsB T i nm) := rfl
    clear hlk
    go_enter Tryz.func52, Tryz.ntmps52
    go_wp2_with fail
    refine (linkIs_at T i lk 0 hie.out hask.out _ _ c _ (hT.out.below hB0)).mono ?_
    rintro e w1 ⟨rfl, hb1⟩
    have hB1 := Below.on hB0 hb1
    have hbox1 := cell_later hb1 hbox0
    have hS1 := hide (hS0.out.later hb1)
    obtain ⟨s0, s1, s2, s3, s4, s5, s6, s7, s8⟩ := hS0.out.later hb1
    clear hb1 hbox0
    go_wp2_with fail
    refine (class_at T i nm (clsB T i nm) 0 (hcl.out nm) hask.out _ _ c _ (hT.out.below hB1)).mono ?_
    rintro e w2 ⟨rfl, hb2⟩
    have hB2 := Below.on hB1 hb2
    clear s0 s1 s2 s3 s4 s5 s6 s7 s8 hb2
    go_wp2
    go_ret
    exact ⟨ret_bool hr.out.symm, hB2⟩
  · subst hk
    obtain ⟨gv, hgv0⟩ : ∃ x, getV T i nm = x := ⟨_, rfl⟩
    obtain ⟨ge, hge0⟩ : ∃ x, getE T i nm = x := ⟨_, rfl⟩
    have hgv := hide hgv0
    have hge := hide hge0
    have hgz : gv.size ≤ 400 := by rw [← hgv0]; exact hgs.out nm
    have hr0 : matS T i ⟨3, nm, op, vl, fo, a, b, f, LA, ln, lc⟩ m = (decide (ge = 0) && suitsF op vl fo gv) := by
      show (decide (getE T i nm = 0) && suitsF op vl fo (getV T i nm)) = _
      rw [hgv0, hge0]
    by_cases h1 : ge = 0
    · subst h1
      have hr : Hid (matS T i ⟨3, nm, op, vl, fo, a, b, f, LA, ln, lc⟩ m = suitsF op vl fo gv) := by show _ = _; rw [hr0, decide_eq_true rfl, Bool.true_and]
      clear hr0 hgv0 hge0 hlk
      go_enter Tryz.func52, Tryz.ntmps52
      go_wp2_with fail
      refine (linkIs_at T i lk 0 hie.out hask.out _ _ c _ (hT.out.below hB0)).mono ?_
      rintro e w1 ⟨rfl, hb1⟩
      have hB1 := Below.on hB0 hb1
      have hbox1 := cell_later hb1 hbox0
      have hS1 := hide (hS0.out.later hb1)
      obtain ⟨s0, s1, s2, s3, s4, s5, s6, s7, s8⟩ := hS0.out.later hb1
      clear hb1 hbox0
      go_wp2_with fail
      refine (get_at T i nm gv 0 hgv.out hge.out _ _ c _ (hT.out.below hB1)).mono ?_
      rintro e w2 ⟨rfl, hb2⟩
      have hB2 := Below.on hB1 hb2
      clear s0 s1 s2 s3 s4 s5 s6 s7 s8
      obtain ⟨s0, s1, s2, s3, s4, s5, s6, s7, s8⟩ := hS1.out.later hb2
      clear hb2
      go_wp2_with fail
      refine (suits_ok 3 nm op vl fo a b f LA ln lc gv _ hvl hgz (hm'.out.below hB2)).mono ?_
      rintro e w3 ⟨rfl, hb3⟩
      have hB3 := Below.on hB2 hb3
      clear s0 s1 s2 s3 s4 s5 s6 s7 s8 hb3
      go_wp2
      go_ret
      exact ⟨ret_bool hr.out.symm, hB3⟩
    · have hr : Hid (matS T i ⟨3, nm, op, vl, fo, a, b, f, LA, ln, lc⟩ m = false) := by show _ = _; rw [hr0, decide_eq_false h1, Bool.false_and]
      have h3 : (ge == 0) = false := by simp [h1]
      clear hr0 hgv0 hge0 hlk h1
      go_enter Tryz.func52, Tryz.ntmps52
      go_wp2_with fail
      refine (linkIs_at T i lk 0 hie.out hask.out _ _ c _ (hT.out.below hB0)).mono ?_
      rintro e w1 ⟨rfl, hb1⟩
      have hB1 := Below.on hB0 hb1
      have hbox1 := cell_later hb1 hbox0
      have hS1 := hide (hS0.out.later hb1)
      obtain ⟨s0, s1, s2, s3, s4, s5, s6, s7, s8⟩ := hS0.out.later hb1
      clear hb1 hbox0
      go_wp2_with fail
      refine (get_at T i nm gv ge hgv.out hge.out _ _ c _ (hT.out.below hB1)).mono ?_
      rintro e w2 ⟨rfl, hb2⟩
      have hB2 := Below.on hB1 hb2
      clear s0 s1 s2 s3 s4 s5 s6 s7 s8 hb2
      go_wp2
      go_ret
      exact ⟨ret_bool hr.out.symm, hB2⟩
  · subst hk
    have hr0 : matS T i ⟨4, nm, op, vl, fo, a, b, f, LA, ln, lc⟩ m = (lk && !decide ((i : Int) = m)) := by rw [← hlk]; rfl
    cases lk
    · have hr : Hid (matS T i ⟨4, nm, op, vl, fo, a, b, f, LA, ln, lc⟩ m = false) := hr0
      clear hr0 hlk
      go_enter Tryz.func52, Tryz.ntmps52
      go_wp2_with fail
      refine (linkIs_at T i false 0 hie.out hask.out _ _ c _ (hT.out.below hB0)).mono ?_
      rintro e w1 ⟨rfl, hb1⟩
      have hB1 := Below.on hB0 hb1
      have hbox1 := cell_later hb1 hbox0
      have hS1 := hide (hS0.out.later hb1)
      obtain ⟨s0, s1, s2, s3, s4, s5, s6, s7, s8⟩ := hS0.out.later hb1
      clear hb1 hbox0
      go_wp2
      go_ret
      exact ⟨ret_bool hr.out.symm, hB1⟩
    · by_cases h1 : (i : Int) = m
      · have hr : Hid (matS T i ⟨4, nm, op, vl, fo, a, b, f, LA, ln, lc⟩ m = false) := by show _ = _; rw [hr0, decide_eq_true h1]; rfl
        have h3 : ((i : Int) != m) = false := by simp [h1]
        clear hr0 hlk h1
        go_enter Tryz.func52, Tryz.ntmps52
        go_wp2_with fail
        refine (linkIs_at T i true 0 hie.out hask.out _ _ c _ (hT.out.below hB0)).mono ?_
        rintro e w1 ⟨rfl, hb1⟩
        have hB1 := Below.on hB0 hb1
        have hbox1 := cell_later hb1 hbox0
        have hS1 := hide (hS0.out.later hb1)
        obtain ⟨s0, s1, s2, s3, s4, s5, s6, s7, s8⟩ := hS0.out.later hb1
        clear hb1 hbox0
        go_wp2
        go_ret
        exact ⟨ret_bool hr.out.symm, hB1⟩
      · have hr : Hid (matS T i ⟨4, nm, op, vl, fo, a, b, f, LA, ln, lc⟩ m = true) := by show _ = _; rw [hr0, decide_eq_false h1]; rfl
        have h3 : ((i : Int) != m) = true := by simp [h1]
        clear hr0 hlk h1
        go_enter Tryz.func52, Tryz.ntmps52
        go_wp2_with fail
        refine (linkIs_at T i true 0 hie.out hask.out _ _ c _ (hT.out.below hB0)).mono ?_
        rintro e w1 ⟨rfl, hb1⟩
        have hB1 := Below.on hB0 hb1
        have hbox1 := cell_later hb1 hbox0
        have hS1 := hide (hS0.out.later hb1)
        obtain ⟨s0, s1, s2, s3, s4, s5, s6, s7, s8⟩ := hS0.out.later hb1
        clear hb1 hbox0
        go_wp2
        go_ret
        exact ⟨ret_bool hr.out.symm, hB1⟩
  · subst hk
    have hr0 : matS T i ⟨5, nm, op, vl, fo, a, b, f, LA, ln, lc⟩ m = decide ((i : Int) = m) := rfl
    by_cases h1 : (i : Int) = m
    · have hr : Hid (matS T i ⟨5, nm, op, vl, fo, a, b, f, LA, ln, lc⟩ m = true) := by show _ = _; rw [hr0, decide_eq_true h1]
      have h3 : ((i : Int) == m) = true := by simp [h1]
      clear hr0 hlk h1
      go_enter Tryz.func52, Tryz.ntmps52
      go_wp2_with fail
      refine (linkIs_at T i lk 0 hie.out hask.out _ _ c _ (hT.out.below hB0)).mono ?_
      rintro e w1 ⟨rfl, hb1⟩
      have hB1 := Below.on hB0 hb1
      have hbox1 := cell_later hb1 hbox0
      have hS1 := hide (hS0.out.later hb1)
      obtain ⟨s0, s1, s2, s3, s4, s5, s6, s7, s8⟩ := hS0.out.later hb1
      clear hb1 hbox0
      go_wp2
      go_ret
      exact ⟨ret_bool hr.out.symm, hB1⟩
    · have hr : Hid (matS T i ⟨5, nm, op, vl, fo, a, b, f, LA, ln, lc⟩ m = false) := by show _ = _; rw [hr0, decide_eq_false h1]
      have h3 : ((i : Int) == m) = false := by simp [h1]
      clear hr0 hlk h1
      go_enter Tryz.func52, Tryz.ntmps52
      go_wp2_with fail
      refine (linkIs_at T i lk 0 hie.out hask.out _ _ c _ (hT.out.below hB0)).mono ?_
      rintro e w1 ⟨rfl, hb1⟩
      have hB1 := Below.on hB0 hb1
      have hbox1 := cell_later hb1 hbox0
      have hS1 := hide (hS0.out.later hb1)
      obtain ⟨s0, s1, s2, s3, s4, s5, s6, s7, s8⟩ := hS0.out.later hb1
      clear hb1 hbox0
      go_wp2
      go_ret
      exact ⟨ret_bool hr.out.symm, hB1⟩
  · subst hk
    have hr : Hid (matS T i ⟨6, nm, op, vl, fo, a, b, f, LA, ln, lc⟩ m = lk) := by show _ = _; rw [← hlk]; rfl
    clear hlk
    go_enter Tryz.func52, Tryz.ntmps52
    go_wp2_with fail
    refine (linkIs_at T i lk 0 hie.out hask.out _ _ c _ (hT.out.below hB0)).mono ?_
    rintro e w1 ⟨rfl, hb1⟩
    have hB1 := Below.on hB0 hb1
    have hbox1 := cell_later hb1 hbox0
    have hS1 := hide (hS0.out.later hb1)
    obtain ⟨s0, s1, s2, s3, s4, s5, s6, s7, s8⟩ := hS0.out.later hb1
    clear hb1 hbox0
    go_wp2
    go_ret
    exact ⟨ret_bool hr.out.symm, hB1⟩
  · subst hk
    have hr0 : matS T i ⟨7, nm, op, vl, fo, a, b, f, LA, ln, lc⟩ m = decide (i = 0) := rfl
    by_cases h1 : i = 0
    · have hr : Hid (matS T i ⟨7, nm, op, vl, fo, a, b, f, LA, ln, lc⟩ m = true) := by show _ = _; rw [hr0, decide_eq_true h1]
      have h3 : ((i : Int) == 0) = true := by simp [h1]
      clear hr0 hlk h1
      go_enter Tryz.func52, Tryz.ntmps52
      go_wp2_with fail
      refine (linkIs_at T i lk 0 hie.out hask.out _ _ c _ (hT.out.below hB0)).mono ?_
      rintro e w1 ⟨rfl, hb1⟩
      have hB1 := Below.on hB0 hb1
      have hbox1 := cell_later hb1 hbox0
      have hS1 := hide (hS0.out.later hb1)
      obtain ⟨s0, s1, s2, s3, s4, s5, s6, s7, s8⟩ := hS0.out.later hb1
      clear hb1 hbox0
      go_wp2
      go_ret
      exact ⟨ret_bool hr.out.symm, hB1⟩
    · have hr : Hid (matS T i ⟨7, nm, op, vl, fo, a, b, f, LA, ln, lc⟩ m = false) := by show _ = _; rw [hr0, decide_eq_false h1]
      have h3 : ((i : Int) == 0) = false := by simp [h1]
      clear hr0 hlk h1
      go_enter Tryz.func52, Tryz.ntmps52
      go_wp2_with fail
      refine (linkIs_at T i lk 0 hie.out hask.out _ _ c _ (hT.out.below hB0)).mono ?_
      rintro e w1 ⟨rfl, hb1⟩
      have hB1 := Below.on hB0 hb1
      have hbox1 := cell_later hb1 hbox0
      have hS1 := hide (hS0.out.later hb1)
      obtain ⟨s0, s1, s2, s3, s4, s5, s6, s7, s8⟩ := hS0.out.later hb1
      clear hb1 hbox0
      go_wp2
      go_ret
      exact ⟨ret_bool hr.out.symm, hB1⟩
  · obtain ⟨bb, off, aA, cA, aC, cC, rfl, hbl, -, -, -, c3, -, -⟩ := ho.out (by omega)
    have c3' := hide (c3 i hi)
    obtain ⟨kl, hkl⟩ : ∃ x, (kids T i).length = x := ⟨_, rfl⟩
    rw [hkl] at c3'
    have hr : Hid (matS T i ⟨k, nm, op, vl, fo, a, b, f, LA, ln, lc⟩ m = ((kl : Int) == 0)) := by
      show _ = _
      unfold matS
      dsimp only
      rw [if_neg hk1, if_neg hk2, if_neg hk3, if_neg hk5, if_neg hk4, if_neg hk6, if_neg hk7, hkl, Bool.eq_iff_iff, decide_eq_true_eq, beq_iff_eq]
      omega
    have e1 : (k == 1) = false := by simp [hk1]
    have e2 : (k == 2) = false := by simp [hk2]
    have e3 : (k == 3) = false := by simp [hk3]
    have e4 : (k == 4) = false := by simp [hk4]
    have e5 : (k == 5) = false := by simp [hk5]
    have e6 : (k == 6) = false := by simp [hk6]
    have e7 : (k == 7) = false := by simp [hk7]
    have q1 : (0 : Int) ≤ (i : Int) := by omega
    have q2 : (i : Int) < (n : Int) := by omega
    clear hlk hkl hk1 hk2 hk3 hk4 hk5 hk6 hk7 ho c3
    go_enter Tryz.func52, Tryz.ntmps52
    go_wp2_with fail
    refine (linkIs_at T i lk 0 hie.out hask.out _ _ c _ (hT.out.below hB0)).mono ?_
    rintro e w1 ⟨rfl, hb1⟩
    have hB1 := Below.on hB0 hb1
    have hbox1 := cell_later hb1 hbox0
    have hS1 := hide (hS0.out.later hb1)
    obtain ⟨s0, s1, s2, s3, s4, s5, s6, s7, s8⟩ := hS0.out.later hb1
    clear hb1 hbox0
    have g3 := (old hB1 _ _ hbl).trans c3'.out
    go_wp2
    go_ret
    exact ⟨ret_bool hr.out.symm, hB1⟩
end Go.Proofs.YtljloicgjgbplaaGreat
