/- A map of numbers to truth values that the call has made: what it is good for. No condition. -/
import Derived.Test.YtaliekkdamghbaaDd
import Derived.Maps.Own
import Derived.Maps.OwnOps
import Derived.Maps.OwnSet
import Derived.Maps.Views
namespace Go.Proofs.Ytaliekkdamghbaa
open Go.RowKit Go.Maps Go.ChangeMaps

theorem int_law : Keyed Try.prog 3 := int_keyed Try.underlying3
theorem zero_bool (w : World) : (zeroValue 4).run Try.prog w = .ok (.bool false) w := by kernel_rfl
theorem i64_wf {a : Int} (h0 : 0 ≤ a) (h1 : a ≤ 1000000) : (Lit.int .i64 a).wf = true := WalkArith.wf_i64 (by omega)
/-- Block b is a map of at most k entries that reads as f: false where nothing is laid. -/
def OwnMB (w : World) (b k : Nat) (f : Int → Bool) : Prop :=
  ∃ D : DataW Unit, w.ownsMap Try.prog 3 (plainElem Try.prog 4) b k D ∧ ∀ x, D.atKey (.int .i64 x) (.lit (.bool false)) = .lit (.bool (f x))
theorem OwnMB.made (w : World) (g : Nat) (hg : g = w.heap.size) : OwnMB (w.alloc (.map #[] 0)) g 0 fun _ => false := by
  subst hg
  exact ⟨.map [], World.ownsMap_made _ _ _ _, fun x => rfl⟩
theorem OwnMB.lt {w : World} {b k : Nat} {f : Int → Bool} (h : OwnMB w b k f) : b < w.heap.size := by
  obtain ⟨D, h1, -⟩ := h
  exact h1.lt
theorem OwnMB.below {w w' : World} {b k : Nat} {f : Int → Bool} (h : OwnMB w b k f) (hb : Below w.heap.size w w') : OwnMB w' b k f := by
  have hlt := h.lt
  obtain ⟨D, ⟨es, clock, hh, r⟩, h2⟩ := h
  exact ⟨D, ⟨es, clock, (hb.block b hlt).trans hh, r⟩, h2⟩
theorem OwnMB.heap {w w' : World} {b k : Nat} {f : Int → Bool} (h : OwnMB w b k f) (hb : w'.heap[b]? = w.heap[b]?) : OwnMB w' b k f := by
  obtain ⟨D, ⟨es, clock, hh, r⟩, h2⟩ := h
  exact ⟨D, ⟨es, clock, hb.trans hh, r⟩, h2⟩
set_option maxRecDepth 100000 in
theorem plain_bool_inv {v : Value} {z : DataW Unit × List MemPlace} (h : plainElem Try.prog 4 v = some z) : ∃ x, v = .bool x ∧ z = (.lit (.bool x), []) := by
  unfold plainElem at h
  rw [Try.underlying4] at h
  cases v <;> simp at h
  exact ⟨_, rfl, h.symm⟩
section
variable {W : World} {ops : Array Oper} {rest : List Oper} {o : Oper} {a : Act} {Q : Exit → Act → World → Prop}
set_option maxRecDepth 100000 in
theorem wpList_mapB {t : TypeId} (hgd : o.guard = none) (m x v : Operand) (ho : o.op = Op.mapUpdate t m x v) (ht : Try.prog.underlying t = some (.map 3 4)) {b k : Nat} {f : Int → Bool} (hown : OwnMB W b k f) (hk : k ≤ 1000000) (y : Int) (hy0 : 0 ≤ y) (hy1 : y ≤ 1000000) (c : Bool)
    (hm : a.eval m = .map (some b)) (hx : a.eval x = .int .i64 y) (hv : a.eval v = .bool c) (h : ∀ w', OwnMB w' b (k + 1) (fun z => if z = y then c else f z) → W.grownBy w' (some b) → wpList Try.prog ops Q rest (a.put o.dst undef) w') :
    wpList Try.prog ops Q (o :: rest) a W := by
  obtain ⟨D, h1, h2⟩ := hown
  have hkey := keyOf_int_mk Try.underlying3 (i64_wf hy0 hy1)
  refine wpList_mapUpdate_own W hgd m x v t ho 3 4 int_law ht _ b k D hm h1 (by unfold maxLen; omega) _ _ _ hx hv hkey _ _ (plainElem_bool Try.underlying4 c) fun w' q1 q2 => h w' ⟨_, q1, fun z => ?_⟩ q2
  show _ = DataW.lit (Lit.bool (if z = y then c else f z))
  by_cases hz : z = y
  · subst hz
    rw [if_pos rfl]
    exact Maps.atKey_put_same h1.isMap (int_law.key hkey) _ _
  · rw [if_neg hz, Maps.atKey_put_other (fun e => hz (by injection e))]
    exact h2 z
set_option maxRecDepth 100000 in
theorem wpList_lookB {t : TypeId} (hgd : o.guard = none) (m x : Operand) (ho : o.op = Op.lookup t m x false) (ht : Try.prog.underlying t = some (.map 3 4)) {b k : Nat} {f : Int → Bool} (hown : OwnMB W b k f) (y : Int) (hy0 : 0 ≤ y) (hy1 : y ≤ 1000000)
    (hm : a.eval m = .map (some b)) (hx : a.eval x = .int .i64 y) (h : wpList Try.prog ops Q rest (a.put o.dst (.bool (f y))) W) :
    wpList Try.prog ops Q (o :: rest) a W := by
  obtain ⟨D, h1, h2⟩ := hown
  have hkey := keyOf_int_mk Try.underlying3 (i64_wf hy0 hy1)
  obtain ⟨v, ps, hrun, hR⟩ := h1.lookup int_law ht (zero_bool W) (plainElem_bool Try.underlying4 false) hkey
  rw [h2 y] at hR
  obtain ⟨c, rfl, hc⟩ := plain_bool_inv hR
  have hc2 : c = f y := by
    injection hc with hc _
    injection hc with hc
    injection hc with hc
    exact hc.symm
  subst hc2
  refine wpList_plain hgd fun K' hK' => ?_
  unfold Oper.wp
  simp [execOp, ho, hm, hx, hrun, Result.andThen]
  exact hK' _ _ h
end
end Go.Proofs.Ytaliekkdamghbaa
