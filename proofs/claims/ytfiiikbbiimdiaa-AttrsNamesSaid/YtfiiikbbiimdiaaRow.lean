/- Rows that the call has made, written over in their midst: copy, insertion, deletion. Conditions as each states. -/
import Derived.Test.YtfiiikbbiimdiaaPush
import Derived.Test.YtfiiikbbiimdiaaWi
import Derived.Laws.CopyRow
import Derived.Lib.AppendZerosOnto
import Derived.Lib.Overlaps
import Derived.Laws.Externs
import Derived.Deep.RegionLaw
namespace Go.Proofs.Ytfiiikbbiimdiaa
open Go.RowKit

section
variable {P : Program}
theorem run_copyK (w : World) (dT sT ty elem : TypeId) (g o dLen dCap : Nat) (a : Addr) (sLen sCap : Nat) (cur : Array Value) (t : TypeId) (cs : List Value) (k size : Nat)
    (hu : P.underlying dT = some (.slice elem)) (hs : (P.info? elem).map (·.size) = some size) (hk : k = Nat.min sLen dLen)
    (hg : w.heap[g]? = some (.cells cur t (0, 0))) (hn : cs.length = k * size)
    (hsrc : ∀ j v, cs[j]? = some v → w.cell? (a.add j) = some v) (hfit : o + cs.length ≤ cur.size) (h1 : ∀ v ∈ cs, v.oneCell' = true) :
    (Builtin.copy_ #[dT, sT] ty #[.slice (some ⟨g, o, none⟩) dLen dCap, .slice (some a) sLen sCap]).run P w =
      .ok (.int .i64 k) (w.setRow g (cur.toList.take o ++ cs ++ cur.toList.drop (o + cs.length)).toArray) := by
  have hl := run_loadCells_list (P := P) w a cs hsrc
  have hst := run_storeCells_at P g o t cs 0 cur w hg (by simpa using hfit) h1
  cases hq : P.info? elem with
  | none => simp [hq] at hs
  | some i =>
    have hi : i.size = size := by simpa [hq] using hs
    simp [Builtin.copy_, run_underlying hu, Builtin.lenOf, Builtin.firstCells, sizeOf, typeInfo, hq, hi, ← hk, ← hn, hl, hst, goInt]

theorem own_row {w : World} {base g cap n size : Nat} {e : TypeId} {cur : Array Value} (hg : w.heap[g]? = some (.cells cur e (0, 0))) (hb : base ≤ g) (hn : n ≤ cap) (hm : cap ≤ maxLen) (hs : cur.size = cap * size) {xs : List Value} (hx : cur.toList.take (n * size) = xs) :
    w.ownsRow base e size (.slice (some ⟨g, 0, none⟩) n cap) n xs := by
  refine ⟨?_, .inr ⟨g, cap, cur, rfl, hb, hg, hn, hm, hs, hx⟩⟩
  rw [← hx, List.length_take, Array.length_toList, hs]
  exact Nat.min_eq_left (Nat.mul_le_mul_right _ hn)

theorem grownBy_trans' {a b c : World} {row : Option Nat} (h : a.grownBy b row) (k : b.grownBy c row) : a.grownBy c row :=
  ⟨k.os.trans h.os, k.tape.trans h.tape, k.output.trans h.output, Nat.le_trans h.size k.size, fun q hq hne => (k.block q (Nat.lt_of_lt_of_le hq h.size) hne).trans (h.block q hq hne)⟩
theorem World.grownBy.andThen' {a b c : World} {row row' : Option Nat} (h : a.grownBy b row) (k : b.grownBy c row') (hr : ∀ j, row' = some j → a.heap.size ≤ j ∨ row = some j) : a.grownBy c row :=
  ⟨k.os.trans h.os, k.tape.trans h.tape, k.output.trans h.output, Nat.le_trans h.size k.size, fun q hq hne => (k.block q (Nat.lt_of_lt_of_le hq h.size) (fun e => (hr q e.symm).elim (fun h2 => by omega) (fun h2 => hne h2.symm))).trans (h.block q hq hne)⟩
theorem World.grownBy.but' {a c : World} (h : a.grownBy c none) (row : Option Nat) : a.grownBy c row := ⟨h.os, h.tape, h.output, h.size, fun i hi _ => h.block i hi (by simp)⟩
theorem grownBy_setRow (w : World) (g : Nat) (cs : Array Value) : w.grownBy (w.setRow g cs) (some g) :=
  ⟨rfl, rfl, rfl, by simp, fun k _ hk => setRow_other w g k cs fun h => hk (by rw [h])⟩
theorem grownBy_drewRow (w : World) (g : Nat) (cs : Array Value) : w.grownBy (w.drew.setRow g cs) (some g) := by
  have h := grownBy_setRow w.drew g cs
  exact ⟨h.os, h.tape, h.output, h.size, h.block⟩

/-- The same, of whatever was laid ahead of the call. -/
theorem grew_of' {W w' : World} {base n size : Nat} {e : TypeId} {v v' : Value} {xs : List Value} {o : Obj} (hown : W.ownsRow base e size v n xs) (hbase : base ≤ W.heap.size) (hg : (W.alloc o).grownBy w' v.ownBlock) (hv : ∀ k, v'.ownBlock = some k → v.ownBlock = some k ∨ W.heap.size < k) : Grew W w' base v v' := by
  have hlt := fun k hk => (World.ownsRow.lt hown k hk).1
  refine ⟨fun g hgb => ?_, fun B U hB hb => ?_, ?_, fun g hgl hne => ?_, hv⟩
  · rw [hg.block g (by simp; omega) (fun e => by have := hlt g e.symm; omega), Below.heap_alloc _ _ _ (by omega)]
  · exact (hb.alloc (by omega) _).grown hg (by simp; omega) (fun k hk => by have := hlt k hk; omega)
  · have := hg.size; simp at this; omega
  · rw [hg.block g (by simp; omega) (fun e => hne e.symm), Below.heap_alloc _ _ _ (by omega)]
end

section
variable {P : Program} {ops : Array Oper} {rest : List Oper} {o : Oper} {a : Act} {w : World} {Q : Exit → Act → World → Prop}
/-- copy, where its run is known by an equation. -/
theorem wp_copy_eq {K : Act → World → Prop} (d s : Operand) (t t' : TypeId) (ho : o.op = .call { callee := .builtin .copy, args := #[d, s], argTypes := #[t, t'] }) (v u : Value) (hd : a.eval d = v) (hs : a.eval s = u) {v' : Value} {w' : World}
    (hr : (Builtin.copy_ #[t, t'] o.type #[v, u]).run P w = .ok v' w') (h : K (a.put o.dst v') w') : o.wp P a w K Q := by
  unfold Oper.wp execOp
  simp only [ho, resolve, invoke, builtin, Sem.run_bind, Sem.run_pure, Result.andThen_ok, List.map_toArray, List.map_cons, List.map_nil, hd, hs, hr]
  exact h
theorem wpList_copy_eq (hgd : o.guard = none) (d s : Operand) (t t' : TypeId) (ho : o.op = .call { callee := .builtin .copy, args := #[d, s], argTypes := #[t, t'] }) (v u : Value) (hd : a.eval d = v) (hs : a.eval s = u) {v' : Value} {w' : World}
    (hr : (Builtin.copy_ #[t, t'] o.type #[v, u]).run P w = .ok v' w') (h : wpList P ops Q rest (a.put o.dst v') w') : wpList P ops Q (o :: rest) a w :=
  wpList_plain hgd fun _ hK => wp_copy_eq d s t t' ho v u hd hs hr (hK _ _ h)
theorem wpList_copy_lit {k : Nat} {ty : TypeId} {pos : String} {after : Array Edge} (d s : Operand) (t t' : TypeId) (v u : Value) (hd : a.eval d = v) (hs : a.eval s = u) {v' : Value} {w' : World}
    (hr : (Builtin.copy_ #[t, t'] ty #[v, u]).run P w = .ok v' w') (h : wpList P ops Q rest (a.put (some k) v') w') : wpList P ops Q (⟨some k, .call { callee := .builtin .copy, args := #[d, s], argTypes := #[t, t'] }, ty, pos, after, none⟩ :: rest) a w :=
  wpList_copy_eq rfl d s t t' rfl v u hd hs hr h
theorem step_copy_eq {K : Act → World → Prop} {E : Prop} (hg : o.guard = none) (d x : Operand) (t t' : TypeId) (ho : o.op = .call { callee := .builtin .copy, args := #[d, x], argTypes := #[t, t'] }) (v u : Value) (hd : a.eval d = v) (hx : a.eval x = u) {v' : Value} {w' : World}
    (hr : (Builtin.copy_ #[t, t'] o.type #[v, u]).run P w = .ok v' w') (hK : K (a.put o.dst v') w') : if Region.wanted o (yielded ops a.tmps) = true then Oper.wp P o a w K Q else E := by
  rw [if_pos (by simp [Region.wanted, hg])]
  exact wp_copy_eq d x t t' ho v u hd hx hr hK
end

theorem src_row {w : World} {g o m : Nat} {cur : Array Value} {t : TypeId} {fr : Nat × Nat} (hg : w.heap[g]? = some (.cells cur t fr)) : ∀ j v, ((cur.toList.take m).drop o)[j]? = some v → w.cell? ((⟨g, o, none⟩ : Addr).add j) = some v := by
  intro j v hj
  rw [List.getElem?_drop, List.getElem?_take] at hj
  split at hj
  · rw [show (⟨g, o, none⟩ : Addr).add j = ⟨g, o + j, none⟩ by unfold Addr.add; split <;> simp_all, cell_of_row w g (o + j) cur t fr hg]
    simpa using hj
  · cases hj
theorem src_new {w : World} {g : Nat} {vs : List Value} {t : TypeId} {fr : Nat × Nat} (hg : w.heap[g]? = some (.cells vs.toArray t fr)) : ∀ j v, vs[j]? = some v → w.cell? ((⟨g, 0, none⟩ : Addr).add j) = some v := by
  intro j v hj
  rw [show (⟨g, 0, none⟩ : Addr).add j = ⟨g, j, none⟩ by unfold Addr.add; split <;> simp_all, cell_of_row w g j _ t fr hg]
  simpa using hj
theorem splice_shift {L xs vs R : List Value} {p m s : Nat} (hx : L.take m = xs) (hp : p ≤ m) (hL : m + s ≤ L.length) (hv : vs.length = s) {C : List Value} (hC : C = L.take (p + s) ++ xs.drop p ++ R) : (C.take p ++ vs ++ C.drop (p + s)).take (m + s) = xs.take p ++ vs ++ xs.drop p := by
  subst hx
  have h1 : C.take p = (L.take m).take p := by
    rw [hC, List.append_assoc, List.take_append_of_le_length (by rw [List.length_take]; omega), List.take_take, List.take_take, Nat.min_eq_left (by omega), Nat.min_eq_left hp]
  have h2 : C.drop (p + s) = (L.take m).drop p ++ R := by
    rw [hC, List.append_assoc]
    exact List.drop_left' (by rw [List.length_take]; omega)
  rw [h1, h2, ← List.append_assoc]
  exact List.take_left' (by simp only [List.length_append, List.length_take, List.length_drop, hv]; omega)

/-- What a call leaves that hands back a row of its own: the row, and what has become of memory. -/
def MadeRow (W : World) (base : Nat) (e : TypeId) (size : Nat) (v : Value) (n : Nat) (ys : List Value) (en : Ending) (w' : World) : Prop :=
  ∃ (A' : Option Addr) (c' : Nat), en = .returned (.slice A' n c') ∧ w'.ownsRow base e size (.slice A' n c') n ys ∧ Grew W w' base v (.slice A' n c')

theorem splice_len {xs vs : List Value} {n i s : Nat} (hl : xs.length = n * s) (hv : vs.length = s) (hi : i ≤ n) : (xs.take (i * s) ++ vs ++ xs.drop (i * s)).length = (n + 1) * s := by
  have : i * s ≤ n * s := Nat.mul_le_mul_right _ hi
  simp only [List.length_append, List.length_take, List.length_drop, hl, hv, Nat.add_mul, Nat.one_mul]
  omega

theorem size_attr : (Try.prog.info? 83).map (·.size) = some 2 := by kernel_rfl
set_option maxRecDepth 100000 in
set_option maxHeartbeats 4000000 in
/-- There is room, and the place is not the end. -/
theorem insA_shift (g n c i base : Nat) (xs vs : List Value) (W : World) (hown : W.ownsRow base 83 2 (.slice (some ⟨g, 0, none⟩) n c) n xs) (hi : i < n) (hn : n ≤ 1000) (hr : n + 1 ≤ c) (hv : vs.length = 2)
    (h1v : ∀ v ∈ vs, v.oneCell' = true) (h1x : ∀ v ∈ xs, v.oneCell' = true) (hbase : base ≤ W.heap.size) :
    Calls Try.prog 72 #[.slice (some ⟨g, 0, none⟩) n c, .int .i64 i, .slice (some ⟨W.heap.size, 0, none⟩) 1 1] (W.alloc (.cells vs.toArray 83))
      (MadeRow W base 83 2 (.slice (some ⟨g, 0, none⟩) n c) (n + 1) (xs.take (i * 2) ++ vs ++ xs.drop (i * 2))) := by
  have hown0 := hown
  rcases hown.2 with ⟨h0, -⟩ | ⟨g', cap', cur, h0, hgb, hgc, hnc, hcm, hcs, hct⟩
  · cases h0
  cases h0
  have hgl : g < W.heap.size := (World.ownsRow.lt hown0 g rfl).2
  have hxl : xs.length = n * 2 := hown0.1
  have hz2 : ¬ ((i : Int) = (n : Int)) := by omega
  have hz3 : ¬ ((c : Int) < (n : Int) + 1) := by omega
  have hc63 : c ≤ 9223372036854775807 := by unfold maxLen at hcm; omega
  have hq1 : ¬ (c = i) := by omega
  have hq2 : ¬ (c = i + 1) := by omega
  have hov : ∀ lb cb, (callFunc 92 #[.slice (some ⟨W.heap.size, 0, none⟩) 1 1, .slice (some ⟨g, (i + 1) * 2, none⟩) lb cb]).run Try.prog (W.alloc (.cells vs.toArray 83)) = .ok (.value (.bool false)) (W.alloc (.cells vs.toArray 83)) := fun lb cb => by
    rw [run_callFunc_extern Try.func92 (by kernel_rfl) (by kernel_rfl) (by kernel_rfl) (e := Extern.SlicesOverlaps.overlaps #[59, 59] #[4]) (by kernel_rfl),
      Lib.run_overlaps_apart _ 59 4 83 Try.underlying59 2 (fun w => by kernel_rfl) ⟨W.heap.size, 0, none⟩ ⟨g, (i + 1) * 2, none⟩ 1 1 lb cb (by simp; omega) 83 83 2 (c * 2) ?_ ?_ (by omega) ?_ ?_]
    · rfl
    · unfold World.shape?; rw [heap_alloc_new]; simp [hv]
    · simp [World.shape?, Below.heap_alloc _ _ _ hgl, hgc, hcs]
    · exact World.frozen?_alloc_at _ _ _ _ rfl
    · exact World.frozen?_alloc_at _ _ _ _ rfl
  have hr1 : ∀ ty dc sc, (Builtin.copy_ #[59, 59] ty #[.slice (some ⟨g, (i + 1) * 2, none⟩) (n - i) dc, .slice (some ⟨g, i * 2, none⟩) (n + 1 - i) sc]).run Try.prog (W.alloc (.cells vs.toArray 83)).drew = _ := fun ty dc sc =>
    run_copyK _ _ _ ty 83 g ((i + 1) * 2) (n - i) dc ⟨g, i * 2, none⟩ (n + 1 - i) sc cur 83 (xs.drop (i * 2)) (n - i) 2 Try.underlying59 size_attr (by simp only [Nat.min_def]; split <;> omega)
      ((Below.heap_alloc _ _ _ hgl).trans hgc) (by rw [List.length_drop, hxl]; omega) (by rw [← hct]; exact src_row ((Below.heap_alloc _ _ _ hgl).trans hgc)) (by rw [List.length_drop, hxl, hcs]; omega) (fun v hv => h1x v (List.mem_of_mem_drop hv))
  obtain ⟨C1, hC1⟩ : ∃ C1, C1 = List.take ((i + 1) * 2) cur.toList ++ List.drop (i * 2) xs ++ List.drop ((i + 1) * 2 + (List.drop (i * 2) xs).length) cur.toList := ⟨_, rfl⟩
  rw [← hC1] at hr1
  have hc1l : C1.length = c * 2 := by rw [hC1]; simp only [List.length_append, List.length_take, List.length_drop, Array.length_toList, hcs, hxl]; omega
  obtain ⟨W1, hW1⟩ : ∃ W1, W1 = (W.alloc (.cells vs.toArray 83)).drew.setRow g C1.toArray := ⟨_, rfl⟩
  have hg1 : W1.heap[g]? = some (.cells C1.toArray 83 (0, 0)) := by rw [hW1]; exact setRow_heap _ _ _ _ _ _ ((Below.heap_alloc _ _ _ hgl).trans hgc)
  have hv1 : W1.heap[W.heap.size]? = some (.cells vs.toArray 83 (0, 0)) := by rw [hW1, setRow_other _ _ _ _ (by omega)]; exact heap_alloc_new W _
  have hgr1 : (W.alloc (.cells vs.toArray 83)).grownBy W1 (some g) := by rw [hW1]; exact grownBy_drewRow _ _ _
  rw [← hW1] at hr1
  have hr2 : ∀ ty dc, (Builtin.copy_ #[59, 59] ty #[.slice (some ⟨g, i * 2, none⟩) (n + 1 - i) dc, .slice (some ⟨W.heap.size, 0, none⟩) 1 1]).run Try.prog W1 = _ := fun ty dc =>
    run_copyK _ _ _ ty 83 g (i * 2) (n + 1 - i) dc ⟨W.heap.size, 0, none⟩ 1 1 C1.toArray 83 vs 1 2 Try.underlying59 size_attr (by simp only [Nat.min_def]; split <;> omega)
      hg1 (by rw [hv]) (src_new hv1) (by simp [hc1l, hv]; omega) h1v
  have hfin : (C1.take (i * 2) ++ vs ++ C1.drop (i * 2 + 2)).take ((n + 1) * 2) = xs.take (i * 2) ++ vs ++ xs.drop (i * 2) := by
    have := splice_shift (p := i * 2) (s := 2) (vs := vs) (R := List.drop ((i + 1) * 2 + (List.drop (i * 2) xs).length) cur.toList) hct (by omega) (by rw [Array.length_toList, hcs]; omega) hv (C := C1) (by rw [hC1, Nat.add_mul])
    rwa [← Nat.succ_mul] at this
  have hE : MadeRow W base 83 2 (.slice (some ⟨g, 0, none⟩) n c) (n + 1) (xs.take (i * 2) ++ vs ++ xs.drop (i * 2)) (.returned (.slice (some ⟨g, 0, none⟩) (n + 1) c)) (W1.setRow g (C1.take (i * 2) ++ (vs ++ C1.drop (i * 2 + 2))).toArray) := by
    refine ⟨_, _, rfl, own_row (setRow_heap _ _ _ _ _ _ hg1) hgb hr hcm ?_ (by rw [← List.append_assoc]; exact hfin), grew_of' hown0 hbase (grownBy_trans' hgr1 (grownBy_setRow _ _ _)) (fun k hk => .inl hk)⟩
    simp only [List.size_toArray, List.length_append, List.length_take, List.length_drop, hc1l, hv]; omega
  have hE' := hide hE
  have hr1' := hide hr1
  have hr2' := hide hr2
  clear hE hr1 hr2 hfin hgr1 hv1 hg1 hW1 hc1l hC1 hxl hcs hct hgc
  go_enter Try.func72, Try.ntmps72
  go_wp2_with (simp only [hov])
  have hw1 : IntKind.i64.wrap ((i : Int) + 1) = (i : Int) + 1 := by rw [IntKind.wrap_i64]; omega
  have hb1 : (0 : Int) ≤ (i : Int) + 1 := by omega
  have hb3 : (i : Int) + 1 ≤ (n : Int) + 1 := by omega
  have hb4 : (i : Int) ≤ (n : Int) := by omega
  have hb5 : (i : Int) ≤ (n : Int) + 1 := by omega
  have htn : ((i : Int) + 1).toNat = i + 1 := by omega
  go_region_law (refine step_copy_eq rfl _ _ 59 59 rfl (.slice (some ⟨g, (i + 1) * 2, none⟩) (n - i) (c - (i + 1))) (.slice (some ⟨g, i * 2, none⟩) (n + 1 - i) (c - i)) (by simp [Act.eval, Act.put]) (by simp [Act.eval, Act.put]) (hr1'.out 3 (c - (i + 1)) (c - i)) ?_)
  go_wp2_with ((with_reducible refine wpList_copy_lit (k := 82) _ _ _ _ (.slice (some ⟨g, i * 2, none⟩) (n + 1 - i) (c - i)) (.slice (some ⟨W.heap.size, 0, none⟩) 1 1) ?_ ?_ (hr2'.out _ _) ?_); rfl; rfl)
  go_ret
  exact hE'.out

theorem splice_grow {L xs vs R R' : List Value} {p m s : Nat} (hl : xs.length = m) (hx : L.take p = xs.take p) (hp : p ≤ m) (hv : vs.length = s) {C : List Value} (hC : C = L.take p ++ vs ++ R) : (C.take (p + s) ++ (xs.drop p ++ R')).take (m + s) = xs.take p ++ vs ++ xs.drop p := by
  have h1 : C.take (p + s) = xs.take p ++ vs := by
    rw [hC, hx]
    exact List.take_left' (by simp only [List.length_append, List.length_take, hv, hl]; omega)
  rw [h1, ← List.append_assoc]
  exact List.take_left' (by simp only [List.length_append, List.length_take, List.length_drop, hv, hl]; omega)
theorem zeroCells_size (cs : Array Value) (k : Nat) : (Builtin.zeroCells cs k).size = k * cs.size := by
  simp [Builtin.zeroCells]
set_option maxRecDepth 100000 in
set_option maxHeartbeats 4000000 in
/-- There is no room, and the place is not the end. -/
theorem insA_grow (g n c i base : Nat) (xs vs : List Value) (W : World) (hown : W.ownsRow base 83 2 (.slice (some ⟨g, 0, none⟩) n c) n xs) (hi : i < n) (hn : n ≤ 1000) (hr : ¬ n + 1 ≤ c) (hv : vs.length = 2)
    (h1v : ∀ v ∈ vs, v.oneCell' = true) (h1x : ∀ v ∈ xs, v.oneCell' = true) (hbase : base ≤ W.heap.size) :
    Calls Try.prog 72 #[.slice (some ⟨g, 0, none⟩) n c, .int .i64 i, .slice (some ⟨W.heap.size, 0, none⟩) 1 1] (W.alloc (.cells vs.toArray 83))
      (MadeRow W base 83 2 (.slice (some ⟨g, 0, none⟩) n c) (n + 1) (xs.take (i * 2) ++ vs ++ xs.drop (i * 2))) := by
  obtain ⟨i0, hi0, hz0, hzs, hzb⟩ := info_parts info_attr
  have hown0 := hown
  rcases hown.2 with ⟨h0, -⟩ | ⟨g', cap', cur, h0, hgb, hgc, hnc, hcm, hcs, hct⟩
  · cases h0
  cases h0
  have hgl : g < W.heap.size := (World.ownsRow.lt hown0 g rfl).2
  have hxl : xs.length = n * 2 := hown0.1
  obtain rfl : n = c := by omega
  have hz2 : ¬ ((i : Int) = (n : Int)) := by omega
  have hz3 : (n : Int) < (n : Int) + 1 := by omega
  have hW0 : (W.alloc (.cells vs.toArray 83)).heap.size = W.heap.size + 1 := by simp
  have hg0 : (W.alloc (.cells vs.toArray 83)).heap[g]? = some (.cells cur 83 (0, 0)) := (Below.heap_alloc _ _ _ hgl).trans hgc
  have hv0 : (W.alloc (.cells vs.toArray 83)).heap[W.heap.size]? = some (.cells vs.toArray 83 (0, 0)) := heap_alloc_new W _
  have hgr0 : (W.alloc (.cells vs.toArray 83)).grownBy (W.alloc (.cells vs.toArray 83)) (some g) := World.grownBy.refl _ _
  obtain ⟨W0, hWW⟩ : ∃ W0, W0 = W.alloc (.cells vs.toArray 83) := ⟨_, rfl⟩
  rw [← hWW] at hW0 hg0 hv0 hgr0
  have hold : (Builtin.firstCells i0.size i (.slice (some ⟨g, 0, none⟩) i n)).run Try.prog W0.drew = .ok (xs.take (i * 2)).toArray W0.drew := by
    rw [hzs]
    exact Go.run_firstCells_some W0.drew 2 i ⟨g, 0, none⟩ i n (xs.take (i * 2)) (by rw [List.length_take]; omega) (fun j v hj => by
      have := src_row (o := 0) (m := i * 2) hg0 j v (by rw [List.drop_zero, ← hj, ← hct, List.take_take, Nat.min_eq_left (by omega)])
      exact this)
  have hrz : ∀ ty, (Builtin.append_ #[59, 3] ty #[.slice (some ⟨g, 0, none⟩) i n, .int .i64 ((n + 1 - i : Nat) : Int)]).run Try.prog W0 = _ := fun ty =>
    Lib.run_append_grow_zeros W0 59 3 ty 83 i0 _ .i64 .i64 Try.underlying59 Try.underlying3 hi0 hz0 (some ⟨g, 0, none⟩) i n (xs.take (i * 2)) hold (n + 1 - i) (by omega) (by omega) (by omega) (by omega) (by rw [hzb]; omega) (by rw [hzb]; exact growslice_fits (by omega) (by omega))
  rw [show i + (n + 1 - i) = n + 1 by omega] at hrz
  have hGn := grownCap_ge W0 (n + 1) n 83
  have hGm := grownCap_le_maxLen W0 (n + 1) n 83 (by unfold maxLen; omega)
  generalize grownCap W0 (n + 1) n 83 = G at hrz hGn hGm
  obtain ⟨ROW, hROW⟩ : ∃ ROW : Array Value, ROW = (xs.take (i * 2)).toArray ++ Builtin.zeroCells (Value.agg #[.string .empty, .string .empty]).cells (n + 1 - i) ++ Builtin.zeroCells (Value.agg #[.string .empty, .string .empty]).cells (G - (n + 1)) := ⟨_, rfl⟩
  have hRs : ROW.size = G * 2 := by
    rw [hROW]
    simp only [Array.size_append, zeroCells_size, List.size_toArray, List.length_take, hxl]
    have : (Value.agg #[.string .empty, .string .empty]).cells.size = 2 := by kernel_rfl
    rw [this]; omega
  have hRt : ROW.toList.take (i * 2) = xs.take (i * 2) := by
    rw [hROW]
    simp only [Array.toList_append]
    rw [List.append_assoc]
    exact List.take_left' (by rw [List.length_take]; omega)
  rw [← hROW] at hrz
  obtain ⟨W1, hW1⟩ : ∃ W1, W1 = W0.drew.alloc (.cells ROW 83) := ⟨_, rfl⟩
  have hg1 : W1.heap[g]? = some (.cells cur 83 (0, 0)) := by rw [hW1]; exact (Below.heap_alloc W0.drew _ _ (by show g < W0.heap.size; omega)).trans hg0
  have hv1 : W1.heap[W.heap.size]? = some (.cells vs.toArray 83 (0, 0)) := by rw [hW1]; exact (Below.heap_alloc W0.drew _ _ (by show W.heap.size < W0.heap.size; omega)).trans hv0
  have hh1 : W1.heap[W.heap.size + 1]? = some (.cells ROW 83 (0, 0)) := by rw [hW1, ← hW0]; exact heap_alloc_new W0.drew _
  have hgr1 : W0.grownBy W1 none := by
    rw [hW1]
    have h := World.grownBy_alloc W0.drew (.cells ROW 83) none
    exact ⟨h.os, h.tape, h.output, h.size, h.block⟩
  rw [← hW1, hW0] at hrz
  have hr2 : ∀ ty dc, (Builtin.copy_ #[59, 59] ty #[.slice (some ⟨W.heap.size + 1, i * 2, none⟩) (n + 1 - i) dc, .slice (some ⟨W.heap.size, 0, none⟩) 1 1]).run Try.prog W1 = _ := fun ty dc =>
    run_copyK _ _ _ ty 83 (W.heap.size + 1) (i * 2) (n + 1 - i) dc ⟨W.heap.size, 0, none⟩ 1 1 ROW 83 vs 1 2 Try.underlying59 size_attr (by simp only [Nat.min_def]; split <;> omega)
      hh1 (by rw [hv]) (src_new hv1) (by rw [hRs, hv]; omega) h1v
  obtain ⟨C1, hC1⟩ : ∃ C1, C1 = List.take (i * 2) ROW.toList ++ vs ++ List.drop (i * 2 + vs.length) ROW.toList := ⟨_, rfl⟩
  have hc1l : C1.length = G * 2 := by rw [hC1]; simp only [List.length_append, List.length_take, List.length_drop, Array.length_toList, hRs, hv]; omega
  rw [← hC1] at hr2
  obtain ⟨W2, hW2⟩ : ∃ W2, W2 = W1.setRow (W.heap.size + 1) C1.toArray := ⟨_, rfl⟩
  have hg2 : W2.heap[g]? = some (.cells cur 83 (0, 0)) := by rw [hW2, setRow_other _ _ _ _ (by omega)]; exact hg1
  have hh2 : W2.heap[W.heap.size + 1]? = some (.cells C1.toArray 83 (0, 0)) := by rw [hW2]; exact setRow_heap _ _ _ _ _ _ hh1
  have hgr2 : W1.grownBy W2 (some (W.heap.size + 1)) := by rw [hW2]; exact grownBy_setRow _ _ _
  rw [← hW2] at hr2
  have hr3 : ∀ ty dc sc, (Builtin.copy_ #[59, 59] ty #[.slice (some ⟨W.heap.size + 1, (i + 1) * 2, none⟩) (n - i) dc, .slice (some ⟨g, i * 2, none⟩) (n - i) sc]).run Try.prog W2.drew = _ := fun ty dc sc =>
    run_copyK W2.drew _ _ ty 83 (W.heap.size + 1) ((i + 1) * 2) (n - i) dc ⟨g, i * 2, none⟩ (n - i) sc C1.toArray 83 (xs.drop (i * 2)) (n - i) 2 Try.underlying59 size_attr (by simp only [Nat.min_def]; split <;> omega)
      hh2 (by rw [List.length_drop, hxl]; omega) (by rw [← hct]; exact src_row hg2) (by rw [List.length_drop, hxl, List.size_toArray, hc1l]; omega) (fun v hv => h1x v (List.mem_of_mem_drop hv))
  obtain ⟨W3, hW3⟩ : ∃ W3, W3 = W2.drew.setRow (W.heap.size + 1) (C1.toArray.toList.take ((i + 1) * 2) ++ xs.drop (i * 2) ++ C1.toArray.toList.drop ((i + 1) * 2 + (xs.drop (i * 2)).length)).toArray := ⟨_, rfl⟩
  have hh3 : W3.heap[W.heap.size + 1]? = some (.cells (C1.toArray.toList.take ((i + 1) * 2) ++ xs.drop (i * 2) ++ C1.toArray.toList.drop ((i + 1) * 2 + (xs.drop (i * 2)).length)).toArray 83 (0, 0)) := by rw [hW3]; exact setRow_heap W2.drew _ _ _ _ _ hh2
  have hgr3 : W2.grownBy W3 (some (W.heap.size + 1)) := by rw [hW3]; exact grownBy_drewRow _ _ _
  rw [← hW3] at hr3
  have hgrAll : W0.grownBy W3 none := World.grownBy.andThen' hgr1 (World.grownBy.andThen' hgr2 hgr3 (fun j hj => .inr hj)) (fun j hj => .inl (by injection hj with hj; omega))
  have hE : MadeRow W base 83 2 (.slice (some ⟨g, 0, none⟩) n n) (n + 1) (xs.take (i * 2) ++ vs ++ xs.drop (i * 2)) (.returned (.slice (some ⟨W.heap.size + 1, 0, none⟩) (n + 1) G)) W3 := by
    refine ⟨_, _, rfl, own_row hh3 (by omega) hGn hGm ?_ ?_, grew_of' hown0 hbase (o := .cells vs.toArray 83) ?_ (fun k hk => .inr (by simp [Value.ownBlock] at hk; omega))⟩
    · simp only [List.size_toArray, List.length_append, List.length_take, List.length_drop, hc1l, hxl]; omega
    · have := splice_grow (p := i * 2) (s := 2) (vs := vs) (R := List.drop (i * 2 + vs.length) ROW.toList) (R' := C1.drop ((i + 1) * 2 + (xs.drop (i * 2)).length)) hxl hRt (by omega) hv hC1
      rw [← Nat.succ_mul, ← Nat.succ_mul, ← List.append_assoc] at this
      exact this
    · rw [← hWW]; exact World.grownBy.but' hgrAll _
  have hE' := hide hE
  have hkk : (n : Int) + 1 - (i : Int) = ((n + 1 - i : Nat) : Int) := by omega
  rw [← hkk] at hrz
  have hrz' := hide hrz
  have hr2' := hide hr2
  have hr3' := hide hr3
  have hGi : ¬ (G = i) := by omega
  have hGj : ¬ (G = i + 1) := by omega
  have hG63 : G ≤ 9223372036854775807 := by unfold maxLen at hGm; omega
  clear hE hrz hr2 hr3 hgrAll hgr3 hh3 hW3 hgr2 hh2 hg2 hW2 hc1l hC1 hgr1 hh1 hv1 hg1 hW1 hRt hRs hROW hold hkk hGn hGm hgr0 hv0 hg0 hW0 hxl hcs hct hgc
  subst hWW
  go_enter Try.func72, Try.ntmps72
  go_wp2_with (first | (at_builtin; refine Lib.wpList_append_run _ rfl _ _ _ _ rfl _ _ rfl rfl _ _ (hrz'.out _) ?_) | ((with_reducible refine wpList_copy_lit (k := 45) _ _ _ _ (.slice (some ⟨W.heap.size + 1, i * 2, none⟩) (n + 1 - i) (G - i)) (.slice (some ⟨W.heap.size, 0, none⟩) 1 1) ?_ ?_ (hr2'.out _ _) ?_); rfl; rfl))
  have hw1 : IntKind.i64.wrap ((i : Int) + 1) = (i : Int) + 1 := by rw [IntKind.wrap_i64]; omega
  have hb1 : (0 : Int) ≤ (i : Int) + 1 := by omega
  have hb3 : (i : Int) + 1 ≤ (n : Int) + 1 := by omega
  have hb4 : (i : Int) ≤ (n : Int) := by omega
  have hb5 : (i : Int) ≤ (n : Int) + 1 := by omega
  have hb6 : ¬ (n = i) := by omega
  have htn : ((i : Int) + 1).toNat = i + 1 := by omega
  go_region_law (refine step_copy_eq rfl _ _ 59 59 rfl (.slice (some ⟨W.heap.size + 1, (i + 1) * 2, none⟩) (n - i) (G - (i + 1))) (.slice (some ⟨g, i * 2, none⟩) (n - i) (n - i)) (by simp [Act.eval, Act.put]) (by simp [Act.eval, Act.put]) (hr3'.out 3 (G - (i + 1)) (n - i)) ?_)
  go_wp2
  go_ret
  exact hE'.out
theorem end_made {A : Option Addr} {n c c' base m size : Nat} {e : TypeId} {xs ys : List Value} {W w' : World} {v' : Value} {o : Obj} (hown : W.ownsRow base e size (.slice A n c) n xs) (hbase : base ≤ W.heap.size) (hownv : w'.ownsRow base e size v' m ys)
    (hgv : (W.alloc o).grownBy w' (Value.slice A n c).ownBlock) (hwv : v'.ownBlock = (Value.slice A n c).ownBlock ∨ v'.ownBlock = some (W.alloc o).heap.size) : MadeRow W base e size (.slice A n c') m ys (.returned v') w' := by
  obtain ⟨A2, c2, rfl, _, _⟩ := sl_of_own hownv
  have he : (Value.slice A n c').ownBlock = (Value.slice A n c).ownBlock := by rw [ownBlock_slice, ownBlock_slice]
  refine ⟨A2, c2, rfl, hownv, ?_⟩
  have hG := grew_of' (v' := .slice A2 m c2) hown hbase hgv (fun k hk => by
    rcases hwv with h | h
    · rw [h] at hk; exact .inl hk
    · rw [h] at hk; injection hk with hk; simp at hk; exact .inr (by omega))
  unfold Grew at hG ⊢
  rw [he]; exact hG
set_option maxRecDepth 100000 in
set_option maxHeartbeats 4000000 in
/-- The place is the end. -/
theorem insA_end (A : Option Addr) (n c base : Nat) (xs vs : List Value) (W : World) (hown : W.ownsRow base 83 2 (.slice A n c) n xs) (hn : n ≤ 1000) (hv : vs.length = 2)
    (h1v : ∀ v ∈ vs, v.oneCell' = true) (hbase : base ≤ W.heap.size) :
    Calls Try.prog 72 #[.slice A n c, .int .i64 n, .slice (some ⟨W.heap.size, 0, none⟩) 1 1] (W.alloc (.cells vs.toArray 83))
      (MadeRow W base 83 2 (.slice A n c) (n + 1) (xs ++ vs)) := by
  obtain ⟨i0, hI, hz0, hz1, hz2⟩ := info_parts info_attr
  obtain ⟨A', c', hv0, hnc, hcm⟩ := sl_of_own hown
  injection hv0 with e1 e2 e3
  subst e3
  have hc63 : c ≤ 9223372036854775807 := by unfold maxLen at hcm; omega
  have hown' := hide hown
  have hown2 := hide (World.ownsRow.alloc hown (.cells vs.toArray 83))
  have hsrc := hide (src_new (heap_alloc_new W (.cells vs.toArray 83)))
  have h1v' := hide h1v
  have hv' := hide hv
  subst e1
  clear hown h1v hv e2
  have hA : A = none → n = c := fun h => by
    subst h
    rcases hown'.out.2 with ⟨h0, _⟩ | ⟨g, cap, cur, h0, _⟩
    · injection h0 with _ h1 h2; omega
    · cases h0
  have hA' := hide hA
  clear hA
  go_enter Try.func72, Try.ntmps72
  go_wp2_with (at_builtin; refine wpList_append_mine rfl _ _ 59 rfl 83 i0 (.agg #[.string .empty, .string .empty]) 2 32 Try.underlying59 hI hz0 hz1 hz2 rfl (by decide) hown2.out rfl ⟨W.heap.size, 0, none⟩ 1 1 vs rfl (by rw [hv'.out]) hsrc.out h1v'.out (by decide) (by unfold maxLen; omega) (by omega) (by simp; omega) ?_; intro v' w' hownv hgv hwv)
  all_goals
    have hM := end_made (c' := c) hown'.out hbase hownv hgv hwv
    have hM' := end_made (c' := n) hown'.out hbase hownv hgv hwv
    obtain ⟨A2, c2, hv2, _, _⟩ := sl_of_own hownv
    subst hv2
    go_ret
    first | exact hM | exact hM'

/-- slices.Insert of one attribute. -/
theorem insA_ok (A : Option Addr) (n c i base : Nat) (xs vs : List Value) (W : World) (hown : W.ownsRow base 83 2 (.slice A n c) n xs) (hi : i ≤ n) (hn : n ≤ 1000) (hv : vs.length = 2)
    (h1v : ∀ v ∈ vs, v.oneCell' = true) (h1x : ∀ v ∈ xs, v.oneCell' = true) (hbase : base ≤ W.heap.size) :
    Calls Try.prog 72 #[.slice A n c, .int .i64 i, .slice (some ⟨W.heap.size, 0, none⟩) 1 1] (W.alloc (.cells vs.toArray 83))
      (MadeRow W base 83 2 (.slice A n c) (n + 1) (xs.take (i * 2) ++ vs ++ xs.drop (i * 2))) := by
  by_cases hin : i = n
  · subst hin
    have := insA_end A i c base xs vs W hown hn hv h1v hbase
    rw [List.take_of_length_le (by rw [hown.1]; omega), List.drop_of_length_le (by rw [hown.1]; omega), List.append_nil]
    exact this
  · rcases hown.2 with ⟨h0, h1⟩ | ⟨g, cap, cur, h0, -⟩
    · omega
    · cases h0
      by_cases hr : n + 1 ≤ c
      · exact insA_shift g n c i base xs vs W hown (by omega) hn hr hv h1v h1x hbase
      · exact insA_grow g n c i base xs vs W hown (by omega) hn hr hv h1v h1x hbase
end Go.Proofs.Ytfiiikbbiimdiaa
