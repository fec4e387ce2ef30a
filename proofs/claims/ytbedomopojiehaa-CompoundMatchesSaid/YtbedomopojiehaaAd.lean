/- Walks: links and the nearest one, by the program and by the reference. No condition but those of the inner functions. -/
import Derived.Test.YtbedomopojiehaaAc
import Derived.Deep.RegionHeld3
namespace Go.Proofs.Ytbedomopojiehaa
open Go.RowKit

section
variable {W : World} {ops : Array Oper} {rest : List Oper} {o : Oper} {a : Act} {Q : Exit → Act → World → Prop}
/-- A list that lies somewhere, behind one that the call has made. -/
theorem wpList_appI (hgd : o.guard = none) (s x : Operand) (ho : o.op = .call { callee := .builtin .append, args := #[s, x], argTypes := #[84, 84] })
    {base : Nat} {v : Value} {pre : List Int} (hown : OwnI W base v pre) {A : Option Addr} {n c : Nat} {ys : List Int} (hI : IsInts W A n ys) (hs : a.eval s = v) (hx : a.eval x = .slice A n c)
    (hn : pre.length + n ≤ 1000000) (hbase : base ≤ W.heap.size)
    (h : ∀ A' c' w', OwnI w' base (.slice A' (pre.length + n) c') (pre ++ ys) → (∀ B U, B ≤ base → Below B U W → Below B U w') → wpList Try.prog ops Q rest (a.put o.dst (.slice A' (pre.length + n) c')) w') : wpList Try.prog ops Q (o :: rest) a W := by
  obtain ⟨i0, hi, hz0, hz1, hz2⟩ := info_parts info_int
  have hl := hI.1
  refine wpList_append_from hgd s x 84 ho base 3 i0 (.int .i64 0) 1 8 Try.underlying84 hi hz0 hz1 hz2 rfl (by decide) v pre.length (ints pre) hs hown A n c (ints ys) hx (by simp [ints, hl]) (ints_none hI) (ints_at hI) (ints_one _) (by unfold maxLen; omega) (by omega) hbase ?_
  intro v' w' hown' hg
  have hlt := fun k hk => (World.ownsRow.lt hown k hk).1
  obtain ⟨A', c', rfl, _, _⟩ := sl_of_own hown'
  refine h A' c' w' (by unfold OwnI; rw [List.length_append, hl, ← ints_app]; exact hown') fun B U hB hb => hb.grown hg (by omega) (fun k hk => by have := hlt k hk; omega)
end

def isE (T : List ANode) (i : Int) : Bool := if askI T [i] = 0 then lkB T i.toNat else false
def hrefE (T : List ANode) (i : Int) : Int := if askI T [i] = 0 then (if lkB T i.toNat = true then 0 else 6) else askI T [i]
def hrefV (T : List ANode) (i : Int) : ByteArray := if hrefE T i = 0 then getV T i href else .empty
/-- The nearest link from an element on, upwards. -/
def nearF (T : List ANode) (i : Int) : Int := ((anc T i).find? fun x => lkB T x.toNat).getD (-1)
def nearE (T : List ANode) (i : Int) : Int := if askI T [i] = 0 then nearF T i else 0
def linksE (T : List ANode) (i : Int) : List Int := if askI T [i] = 0 then (preT T i).filter (fun x => lkB T x.toNat) else []

theorem near_neg {T : List ANode} {x : Int} (h : x < 0) : nearF T x = -1 := by unfold nearF; rw [anc_neg h]; rfl
theorem near_yes {T : List ANode} (hg : goodB T = true) {q : Nat} (hq : q < T.length) (h : lkB T q = true) : nearF T q = q := by
  unfold nearF; rw [anc_cons hg hq, List.find?_cons]; simp [h]
theorem near_no {T : List ANode} (hg : goodB T = true) {q : Nat} (hq : q < T.length) (h : lkB T q = false) : nearF T q = nearF T (par T q) := by
  unfold nearF
  rw [anc_cons hg hq, List.find?_cons]
  simp [h]

set_option maxRecDepth 100000 in
theorem linkIs_ok (A : Option Addr) (n c : Nat) (T : List ANode) (i : Int) (w : World) (h : IsTree w A n T) :
    Calls Try.prog 32 #[.agg #[.slice A n c], .int .i64 i] w fun e w' => e = .returned (.tuple #[.bool (isE T i), .int .i64 (askI T [i])]) ∧ Below w.heap.size w w' := by
  have hT := hide h
  have hl := h.1
  clear h
  have hB0 := below_alloc (Below.refl w.heap.size w) (.cells #[.slice A n c] 43)
  have hbox0 : (w.alloc (.cells #[.slice A n c] 43)).cell? ⟨w.heap.size, 0, none⟩ = some (.slice A n c) := by go_simp
  by_cases h0 : askI T [i] = 0
  · obtain ⟨hg, hir⟩ := askI_zero.1 h0
    have hir := hir i (by simp)
    obtain ⟨k, rfl⟩ := Int.eq_ofNat_of_zero_le hir.1
    have hk : k < n := by omega
    have hr : Hid (isE T k = lkB T k) := by show _ = _; unfold isE; rw [if_pos h0, Int.toNat_natCast]
    have hg' := hide hg
    have h0' := hide h0
    have hq0 : (askI T [(k : Int)] != 0) = false := by simp [h0]
    clear hir hg h0
    go_enter Try.func32, Try.ntmps32
    go_wp2_with fail
    refine (depth_ok _ _ _ T _ _ (hT.out.below hB0)).mono ?_
    rintro e w1 ⟨rfl, hb1⟩
    have hbox1 := cell_later hb1 hbox0
    have hB1 := Below.on hB0 hb1
    go_wp2_with fail
    refine (lis_ok _ _ _ T k _ (hT.out.below hB1) hk hg'.out).mono ?_
    rintro e w2 ⟨rfl, hb2⟩
    go_wp2
    go_ret2
    exact ⟨ret_bi hr.out.symm h0'.out.symm, Below.on hB1 hb2⟩
  · have hr : Hid (isE T i = false) := if_neg h0
    have hq : (askI T [i] != 0) = true := by simp [h0]
    clear h0
    go_enter Try.func32, Try.ntmps32
    go_wp2_with fail
    refine (depth_ok _ _ _ T _ _ (hT.out.below hB0)).mono ?_
    rintro e w1 ⟨rfl, hb1⟩
    have hbox1 := cell_later hb1 hbox0
    have hB1 := Below.on hB0 hb1
    go_wp2
    go_ret2
    exact ⟨ret_bi hr.out.symm rfl, hB1⟩

end Go.Proofs.Ytbedomopojiehaa
