/- Walks: links and the nearest one, by the program and by the reference. No condition but those of the inner functions. -/
import Derived.Test.YtkimjpcmcfnmkaaAc
import Derived.Deep.RegionHeld3
namespace Go.Proofs.Ytkimjpcmcfnmkaa
open Go.RowKit

section
variable {W : World} {ops : Array Oper} {rest : List Oper} {o : Oper} {a : Act} {Q : Exit → Act → World → Prop}
/-- A list that lies somewhere, behind one that the call has made. -/
theorem wpList_appI (hgd : o.guard = none) (s x : Operand) (ho : o.op = .call { callee := .builtin .append, args := #[s, x], argTypes := #[31, 31] })
    {base : Nat} {v : Value} {pre : List Int} (hown : OwnI W base v pre) {A : Option Addr} {n c : Nat} {ys : List Int} (hI : IsInts W A n ys) (hs : a.eval s = v) (hx : a.eval x = .slice A n c)
    (hn : pre.length + n ≤ 1000000) (hbase : base ≤ W.heap.size)
    (h : ∀ A' c' w', OwnI w' base (.slice A' (pre.length + n) c') (pre ++ ys) → (∀ B U, B ≤ base → Below B U W → Below B U w') → wpList Try.prog ops Q rest (a.put o.dst (.slice A' (pre.length + n) c')) w') : wpList Try.prog ops Q (o :: rest) a W := by
  obtain ⟨i0, hi, hz0, hz1, hz2⟩ := info_parts info_int
  have hl := hI.1
  refine wpList_append_from hgd s x 31 ho base 3 i0 (.int .i64 0) 1 8 Try.underlying31 hi hz0 hz1 hz2 rfl (by decide) v pre.length (ints pre) hs hown A n c (ints ys) hx (by simp [ints, hl]) (ints_none hI) (ints_at hI) (ints_one _) (by unfold maxLen; omega) (by omega) hbase ?_
  intro v' w' hown' hg
  have hlt := fun k hk => (World.ownsRow.lt hown k hk).1
  obtain ⟨A', c', rfl, _, _⟩ := sl_of_own hown'
  refine h A' c' w' (by unfold OwnI; rw [List.length_append, hl, ← ints_app]; exact hown') fun B U hB hb => hb.grown hg (by omega) (fun k hk => by have := hlt k hk; omega)
end

def isE (T : List ANode) (i : Int) : Bool := if askI T [i] = 0 then lkB T i.toNat else false
def hrefE (T : List ANode) (i : Int) : Int := if askI T [i] = 0 then (if lkB T i.toNat = true then 0 else 6) else askI T [i]
def hrefV (T : List ANode) (i : Int) : ByteArray := if hrefE T i = 0 then getV T i href else .empty
/-- The nearest link from an element on, upwards. -/
def nearF (T : List ANode) (i : Int) : Int := ((anc T i).find? fun x => lkB T x.toNat).getD (-1)
def nearE (T : List ANode) (i : Int) : Int := if askI T [i] = 0 then nearF T i else 0
def linksE (T : List ANode) (i : Int) : List Int := if askI T [i] = 0 then (preT T i).filter (fun x => lkB T x.toNat) else []

theorem near_neg {T : List ANode} {x : Int} (h : x < 0) : nearF T x = -1 := by unfold nearF; rw [anc_neg h]; rfl
theorem near_yes {T : List ANode} (hg : goodB T = true) {q : Nat} (hq : q < T.length) (h : lkB T q = true) : nearF T q = q := by
  unfold nearF; rw [anc_cons hg hq, List.find?_cons]; simp [h]
theorem near_no {T : List ANode} (hg : goodB T = true) {q : Nat} (hq : q < T.length) (h : lkB T q = false) : nearF T q = nearF T (par T q) := by
  unfold nearF
  rw [anc_cons hg hq, List.find?_cons]
  simp [h]

end Go.Proofs.Ytkimjpcmcfnmkaa
