/- Rows that the call has made, written over in their midst: copy, insertion, deletion. Conditions as each states. -/
import Derived.Test.YtfidpmjjddkffaaPush
import Derived.Test.YtfidpmjjddkffaaWi
import Derived.Laws.CopyRow
import Derived.Lib.AppendZerosOnto
import Derived.Lib.Overlaps
import Derived.Laws.Externs
import Derived.Deep.RegionLaw
namespace Go.Proofs.Ytfidpmjjddkffaa
open Go.RowKit

section
variable {P : Program}
theorem run_copyK (w : World) (dT sT ty elem : TypeId) (g o dLen dCap : Nat) (a : Addr) (sLen sCap : Nat) (cur : Array Value) (t : TypeId) (cs : List Value) (k size : Nat)
    (hu : P.underlying dT = some (.slice elem)) (hs : (P.info? elem).map (·.size) = some size) (hk : k = Nat.min sLen dLen)
    (hg : w.heap[g]? = some (.cells cur t (0, 0))) (hn : cs.length = k * size)
    (hsrc : ∀ j v, cs[j]? = some v → w.cell? (a.add j) = some v) (hfit : o + cs.length ≤ cur.size) (h1 : ∀ v ∈ cs, v.oneCell' = true) :
    (Builtin.copy_ #[dT, sT] ty #[.slice (some ⟨g, o, none⟩) dLen dCap, .slice (some a) sLen sCap]).run P w =
      .ok (.int .i64 k) (w.setRow g (cur.toList.take o ++ cs ++ cur.toList.drop (o + cs.length)).toArray) := by
  have hl := run_loadCells_list (P := P) w a cs hsrc
  have hst := run_storeCells_at P g o t cs 0 cur w hg (by simpa using hfit) h1
  cases hq : P.info? elem with
  | none => simp [hq] at hs
  | some i =>
    have hi : i.size = size := by simpa [hq] using hs
    simp [Builtin.copy_, run_underlying hu, Builtin.lenOf, Builtin.firstCells, sizeOf, typeInfo, hq, hi, ← hk, ← hn, hl, hst, goInt]

theorem own_row {w : World} {base g cap n size : Nat} {e : TypeId} {cur : Array Value} (hg : w.heap[g]? = some (.cells cur e (0, 0))) (hb : base ≤ g) (hn : n ≤ cap) (hm : cap ≤ maxLen) (hs : cur.size = cap * size) {xs : List Value} (hx : cur.toList.take (n * size) = xs) :
    w.ownsRow base e size (.slice (some ⟨g, 0, none⟩) n cap) n xs := by
  refine ⟨?_, .inr ⟨g, cap, cur, rfl, hb, hg, hn, hm, hs, hx⟩⟩
  rw [← hx, List.length_take, Array.length_toList, hs]
  exact Nat.min_eq_left (Nat.mul_le_mul_right _ hn)

theorem grownBy_trans' {a b c : World} {row : Option Nat} (h : a.grownBy b row) (k : b.grownBy c row) : a.grownBy c row :=
  ⟨k.os.trans h.os, k.tape.trans h.tape, k.output.trans h.output, Nat.le_trans h.size k.size, fun q hq hne => (k.block q (Nat.lt_of_lt_of_le hq h.size) hne).trans (h.block q hq hne)⟩
theorem World.grownBy.andThen' {a b c : World} {row row' : Option Nat} (h : a.grownBy b row) (k : b.grownBy c row') (hr : ∀ j, row' = some j → a.heap.size ≤ j ∨ row = some j) : a.grownBy c row :=
  ⟨k.os.trans h.os, k.tape.trans h.tape, k.output.trans h.output, Nat.le_trans h.size k.size, fun q hq hne => (k.block q (Nat.lt_of_lt_of_le hq h.size) (fun e => (hr q e.symm).elim (fun h2 => by omega) (fun h2 => hne h2.symm))).trans (h.block q hq hne)⟩
theorem World.grownBy.but' {a c : World} (h : a.grownBy c none) (row : Option Nat) : a.grownBy c row := ⟨h.os, h.tape, h.output, h.size, fun i hi _ => h.block i hi (by simp)⟩
theorem grownBy_setRow (w : World) (g : Nat) (cs : Array Value) : w.grownBy (w.setRow g cs) (some g) :=
  ⟨rfl, rfl, rfl, by simp, fun k _ hk => setRow_other w g k cs fun h => hk (by rw [h])⟩
theorem grownBy_drewRow (w : World) (g : Nat) (cs : Array Value) : w.grownBy (w.drew.setRow g cs) (some g) := by
  have h := grownBy_setRow w.drew g cs
  exact ⟨h.os, h.tape, h.output, h.size, h.block⟩

/-- The same, of whatever was laid ahead of the call. -/
theorem grew_of' {W w' : World} {base n size : Nat} {e : TypeId} {v v' : Value} {xs : List Value} {o : Obj} (hown : W.ownsRow base e size v n xs) (hbase : base ≤ W.heap.size) (hg : (W.alloc o).grownBy w' v.ownBlock) (hv : ∀ k, v'.ownBlock = some k → v.ownBlock = some k ∨ W.heap.size < k) : Grew W w' base v v' := by
  have hlt := fun k hk => (World.ownsRow.lt hown k hk).1
  refine ⟨fun g hgb => ?_, fun B U hB hb => ?_, ?_, fun g hgl hne => ?_, hv⟩
  · rw [hg.block g (by simp; omega) (fun e => by have := hlt g e.symm; omega), Below.heap_alloc _ _ _ (by omega)]
  · exact (hb.alloc (by omega) _).grown hg (by simp; omega) (fun k hk => by have := hlt k hk; omega)
  · have := hg.size; simp at this; omega
  · rw [hg.block g (by simp; omega) (fun e => hne e.symm), Below.heap_alloc _ _ _ (by omega)]
end

section
variable {P : Program} {ops : Array Oper} {rest : List Oper} {o : Oper} {a : Act} {w : World} {Q : Exit → Act → World → Prop}
/-- copy, where its run is known by an equation. -/
theorem wp_copy_eq {K : Act → World → Prop} (d s : Operand) (t t' : TypeId) (ho : o.op = .call { callee := .builtin .copy, args := #[d, s], argTypes := #[t, t'] }) (v u : Value) (hd : a.eval d = v) (hs : a.eval s = u) {v' : Value} {w' : World}
    (hr : (Builtin.copy_ #[t, t'] o.type #[v, u]).run P w = .ok v' w') (h : K (a.put o.dst v') w') : o.wp P a w K Q := by
  unfold Oper.wp execOp
  simp only [ho, resolve, invoke, builtin, Sem.run_bind, Sem.run_pure, Result.andThen_ok, List.map_toArray, List.map_cons, List.map_nil, hd, hs, hr]
  exact h
theorem wpList_copy_eq (hgd : o.guard = none) (d s : Operand) (t t' : TypeId) (ho : o.op = .call { callee := .builtin .copy, args := #[d, s], argTypes := #[t, t'] }) (v u : Value) (hd : a.eval d = v) (hs : a.eval s = u) {v' : Value} {w' : World}
    (hr : (Builtin.copy_ #[t, t'] o.type #[v, u]).run P w = .ok v' w') (h : wpList P ops Q rest (a.put o.dst v') w') : wpList P ops Q (o :: rest) a w :=
  wpList_plain hgd fun _ hK => wp_copy_eq d s t t' ho v u hd hs hr (hK _ _ h)
theorem wpList_copy_lit {k : Nat} {ty : TypeId} {pos : String} {after : Array Edge} (d s : Operand) (t t' : TypeId) (v u : Value) (hd : a.eval d = v) (hs : a.eval s = u) {v' : Value} {w' : World}
    (hr : (Builtin.copy_ #[t, t'] ty #[v, u]).run P w = .ok v' w') (h : wpList P ops Q rest (a.put (some k) v') w') : wpList P ops Q (⟨some k, .call { callee := .builtin .copy, args := #[d, s], argTypes := #[t, t'] }, ty, pos, after, none⟩ :: rest) a w :=
  wpList_copy_eq rfl d s t t' rfl v u hd hs hr h
theorem step_copy_eq {K : Act → World → Prop} {E : Prop} (hg : o.guard = none) (d x : Operand) (t t' : TypeId) (ho : o.op = .call { callee := .builtin .copy, args := #[d, x], argTypes := #[t, t'] }) (v u : Value) (hd : a.eval d = v) (hx : a.eval x = u) {v' : Value} {w' : World}
    (hr : (Builtin.copy_ #[t, t'] o.type #[v, u]).run P w = .ok v' w') (hK : K (a.put o.dst v') w') : if Region.wanted o (yielded ops a.tmps) = true then Oper.wp P o a w K Q else E := by
  rw [if_pos (by simp [Region.wanted, hg])]
  exact wp_copy_eq d x t t' ho v u hd hx hr hK
end

theorem src_row {w : World} {g o m : Nat} {cur : Array Value} {t : TypeId} {fr : Nat × Nat} (hg : w.heap[g]? = some (.cells cur t fr)) : ∀ j v, ((cur.toList.take m).drop o)[j]? = some v → w.cell? ((⟨g, o, none⟩ : Addr).add j) = some v := by
  intro j v hj
  rw [List.getElem?_drop, List.getElem?_take] at hj
  split at hj
  · rw [show (⟨g, o, none⟩ : Addr).add j = ⟨g, o + j, none⟩ by unfold Addr.add; split <;> simp_all, cell_of_row w g (o + j) cur t fr hg]
    simpa using hj
  · cases hj
theorem src_new {w : World} {g : Nat} {vs : List Value} {t : TypeId} {fr : Nat × Nat} (hg : w.heap[g]? = some (.cells vs.toArray t fr)) : ∀ j v, vs[j]? = some v → w.cell? ((⟨g, 0, none⟩ : Addr).add j) = some v := by
  intro j v hj
  rw [show (⟨g, 0, none⟩ : Addr).add j = ⟨g, j, none⟩ by unfold Addr.add; split <;> simp_all, cell_of_row w g j _ t fr hg]
  simpa using hj
theorem splice_shift {L xs vs R : List Value} {p m s : Nat} (hx : L.take m = xs) (hp : p ≤ m) (hL : m + s ≤ L.length) (hv : vs.length = s) {C : List Value} (hC : C = L.take (p + s) ++ xs.drop p ++ R) : (C.take p ++ vs ++ C.drop (p + s)).take (m + s) = xs.take p ++ vs ++ xs.drop p := by
  subst hx
  have h1 : C.take p = (L.take m).take p := by
    rw [hC, List.append_assoc, List.take_append_of_le_length (by rw [List.length_take]; omega), List.take_take, List.take_take, Nat.min_eq_left (by omega), Nat.min_eq_left hp]
  have h2 : C.drop (p + s) = (L.take m).drop p ++ R := by
    rw [hC, List.append_assoc]
    exact List.drop_left' (by rw [List.length_take]; omega)
  rw [h1, h2, ← List.append_assoc]
  exact List.take_left' (by simp only [List.length_append, List.length_take, List.length_drop, hv]; omega)

/-- What a call leaves that hands back a row of its own: the row, and what has become of memory. -/
def MadeRow (W : World) (base : Nat) (e : TypeId) (size : Nat) (v : Value) (n : Nat) (ys : List Value) (en : Ending) (w' : World) : Prop :=
  ∃ (A' : Option Addr) (c' : Nat), en = .returned (.slice A' n c') ∧ w'.ownsRow base e size (.slice A' n c') n ys ∧ Grew W w' base v (.slice A' n c')

theorem splice_len {xs vs : List Value} {n i s : Nat} (hl : xs.length = n * s) (hv : vs.length = s) (hi : i ≤ n) : (xs.take (i * s) ++ vs ++ xs.drop (i * s)).length = (n + 1) * s := by
  have : i * s ≤ n * s := Nat.mul_le_mul_right _ hi
  simp only [List.length_append, List.length_take, List.length_drop, hl, hv, Nat.add_mul, Nat.one_mul]
  omega

theorem size_attr : (Try.prog.info? 62).map (·.size) = some 2 := by kernel_rfl
theorem splice_grow {L xs vs R R' : List Value} {p m s : Nat} (hl : xs.length = m) (hx : L.take p = xs.take p) (hp : p ≤ m) (hv : vs.length = s) {C : List Value} (hC : C = L.take p ++ vs ++ R) : (C.take (p + s) ++ (xs.drop p ++ R')).take (m + s) = xs.take p ++ vs ++ xs.drop p := by
  have h1 : C.take (p + s) = xs.take p ++ vs := by
    rw [hC, hx]
    exact List.take_left' (by simp only [List.length_append, List.length_take, hv, hl]; omega)
  rw [h1, ← List.append_assoc]
  exact List.take_left' (by simp only [List.length_append, List.length_take, List.length_drop, hv, hl]; omega)
theorem zeroCells_size (cs : Array Value) (k : Nat) : (Builtin.zeroCells cs k).size = k * cs.size := by
  simp [Builtin.zeroCells]
theorem end_made {A : Option Addr} {n c c' base m size : Nat} {e : TypeId} {xs ys : List Value} {W w' : World} {v' : Value} {o : Obj} (hown : W.ownsRow base e size (.slice A n c) n xs) (hbase : base ≤ W.heap.size) (hownv : w'.ownsRow base e size v' m ys)
    (hgv : (W.alloc o).grownBy w' (Value.slice A n c).ownBlock) (hwv : v'.ownBlock = (Value.slice A n c).ownBlock ∨ v'.ownBlock = some (W.alloc o).heap.size) : MadeRow W base e size (.slice A n c') m ys (.returned v') w' := by
  obtain ⟨A2, c2, rfl, _, _⟩ := sl_of_own hownv
  have he : (Value.slice A n c').ownBlock = (Value.slice A n c).ownBlock := by rw [ownBlock_slice, ownBlock_slice]
  refine ⟨A2, c2, rfl, hownv, ?_⟩
  have hG := grew_of' (v' := .slice A2 m c2) hown hbase hgv (fun k hk => by
    rcases hwv with h | h
    · rw [h] at hk; exact .inl hk
    · rw [h] at hk; injection hk with hk; simp at hk; exact .inr (by omega))
  unfold Grew at hG ⊢
  rw [he]; exact hG
end Go.Proofs.Ytfidpmjjddkffaa
