/- Rows that the call has made: deletion of one element. Conditions as each states. -/
import Derived.Test.YtbedomopojiehaaRow
namespace Go.Proofs.Ytbedomopojiehaa
open Go.RowKit

section
variable {P : Program} {ops : Array Oper} {rest : List Oper} {o : Oper} {a : Act} {w : World} {Q : Exit → Act → World → Prop}
theorem wp_clear_eq {K : Act → World → Prop} (s : Operand) (t : TypeId) (ho : o.op = .call { callee := .builtin .clear, args := #[s], argTypes := #[t] }) (u : Value) (hs : a.eval s = u) {v' : Value} {w' : World}
    (hr : (Builtin.clear_ #[t] o.type #[u]).run P w = .ok v' w') (h : K (a.put o.dst v') w') : o.wp P a w K Q := by
  unfold Oper.wp execOp
  simp only [ho, resolve, invoke, builtin, Sem.run_bind, Sem.run_pure, Result.andThen_ok, List.map_toArray, List.map_cons, List.map_nil, hs, hr]
  exact h
theorem wpList_clear_lit {ty : TypeId} {pos : String} {after : Array Edge} (s : Operand) (t : TypeId) (u : Value) (hs : a.eval s = u) {v' : Value} {w' : World}
    (hr : (Builtin.clear_ #[t] ty #[u]).run P w = .ok v' w') (h : wpList P ops Q rest (a.put none v') w') : wpList P ops Q (⟨none, .call { callee := .builtin .clear, args := #[s], argTypes := #[t] }, ty, pos, after, none⟩ :: rest) a w :=
  wpList_plain rfl fun _ hK => wp_clear_eq s t rfl u hs hr (hK _ _ h)
/-- append, as one step of a region that draws, where its run is known. -/
theorem wp_append_eq {K : Act → World → Prop} (d s : Operand) (t t' : TypeId) (ho : o.op = .call { callee := .builtin .append, args := #[d, s], argTypes := #[t, t'] }) (v u : Value) (hd : a.eval d = v) (hs : a.eval s = u) {v' : Value} {w' : World}
    (hr : (Builtin.append_ #[t, t'] o.type #[v, u]).run P w = .ok v' w') (h : K (a.put o.dst v') w') : o.wp P a w K Q := by
  unfold Oper.wp execOp
  simp only [ho, resolve, invoke, builtin, Sem.run_bind, Sem.run_pure, Result.andThen_ok, List.map_toArray, List.map_cons, List.map_nil, hd, hs, hr]
  exact h
theorem step_append_eq {K : Act → World → Prop} {E : Prop} (hg : o.guard = none) (d x : Operand) (t t' : TypeId) (ho : o.op = .call { callee := .builtin .append, args := #[d, x], argTypes := #[t, t'] }) (v u : Value) (hd : a.eval d = v) (hx : a.eval x = u) {v' : Value} {w' : World}
    (hr : (Builtin.append_ #[t, t'] o.type #[v, u]).run P w = .ok v' w') (hK : K (a.put o.dst v') w') : if Region.wanted o (yielded ops a.tmps) = true then Oper.wp P o a w K Q else E := by
  rw [if_pos (by simp [Region.wanted, hg])]
  exact wp_append_eq d x t t' ho v u hd hx hr hK
theorem run_clear1 (w : World) (t e ty : TypeId) (z : Value) (zs : List Value) (ht : P.underlying t = some (.slice e)) (hz : ∀ w, (zeroValue e).run P w = .ok z w) (hzc : (Builtin.zeroCells z.cells 1).toList = zs) (h1 : ∀ v ∈ zs, v.oneCell' = true) (g off c : Nat) {cur : Array Value} {te : TypeId} (hg : w.heap[g]? = some (.cells cur te (0, 0))) (hfit : off + zs.length ≤ cur.size) :
    (Builtin.clear_ #[t] ty #[.slice (some ⟨g, off, none⟩) 1 c]).run P w = .ok (.tuple #[]) (w.setRow g (cur.toList.take off ++ zs ++ cur.toList.drop (off + zs.length)).toArray) := by
  have hst := run_storeCells_at P g off te zs 0 cur w hg (by simpa using hfit) h1
  simp only [Nat.add_zero] at hst
  simp [Builtin.clear_, run_underlying ht, hz, hzc, hst]
end

/-- What a call leaves that hands back the same row, one element shorter. -/
def CutRow (W : World) (base : Nat) (e : TypeId) (size g c n : Nat) (ys : List Value) (en : Ending) (w' : World) : Prop :=
  en = .returned (.slice (some ⟨g, 0, none⟩) n c) ∧ w'.ownsRow base e size (.slice (some ⟨g, 0, none⟩) n c) n ys ∧ W.grownBy w' (some g)

theorem cut_len {L xs : List Value} {p q m s : Nat} (hx : L.take m = xs) (hp : p + s = q) (hq : q ≤ m) (hm : m ≤ L.length) {C : List Value} (hC : C = L.take p ++ xs.drop q ++ L.drop (p + (xs.drop q).length)) {Z R : List Value} : (C.take (m - s) ++ Z ++ R).take (m - s) = xs.take p ++ xs.drop q := by
  subst hx
  have hl : (L.take m).length = m := by rw [List.length_take]; omega
  have h1 : C.take (m - s) = (L.take m).take p ++ (L.take m).drop q := by
    rw [hC, List.take_take, Nat.min_eq_left (by omega)]
    exact List.take_left' (by simp only [List.length_append, List.length_take, List.length_drop]; omega)
  rw [h1, List.append_assoc]
  exact List.take_left' (by simp only [List.length_append, List.length_take, List.length_drop]; omega)

end Go.Proofs.Ytbedomopojiehaa
