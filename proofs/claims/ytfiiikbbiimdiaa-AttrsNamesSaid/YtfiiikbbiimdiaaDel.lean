/- Rows that the call has made: deletion of one element. Conditions as each states. -/
import Derived.Test.YtfiiikbbiimdiaaRow
namespace Go.Proofs.Ytfiiikbbiimdiaa
open Go.RowKit

section
variable {P : Program} {ops : Array Oper} {rest : List Oper} {o : Oper} {a : Act} {w : World} {Q : Exit → Act → World → Prop}
theorem wp_clear_eq {K : Act → World → Prop} (s : Operand) (t : TypeId) (ho : o.op = .call { callee := .builtin .clear, args := #[s], argTypes := #[t] }) (u : Value) (hs : a.eval s = u) {v' : Value} {w' : World}
    (hr : (Builtin.clear_ #[t] o.type #[u]).run P w = .ok v' w') (h : K (a.put o.dst v') w') : o.wp P a w K Q := by
  unfold Oper.wp execOp
  simp only [ho, resolve, invoke, builtin, Sem.run_bind, Sem.run_pure, Result.andThen_ok, List.map_toArray, List.map_cons, List.map_nil, hs, hr]
  exact h
theorem wpList_clear_lit {ty : TypeId} {pos : String} {after : Array Edge} (s : Operand) (t : TypeId) (u : Value) (hs : a.eval s = u) {v' : Value} {w' : World}
    (hr : (Builtin.clear_ #[t] ty #[u]).run P w = .ok v' w') (h : wpList P ops Q rest (a.put none v') w') : wpList P ops Q (⟨none, .call { callee := .builtin .clear, args := #[s], argTypes := #[t] }, ty, pos, after, none⟩ :: rest) a w :=
  wpList_plain rfl fun _ hK => wp_clear_eq s t rfl u hs hr (hK _ _ h)
/-- append, as one step of a region that draws, where its run is known. -/
theorem wp_append_eq {K : Act → World → Prop} (d s : Operand) (t t' : TypeId) (ho : o.op = .call { callee := .builtin .append, args := #[d, s], argTypes := #[t, t'] }) (v u : Value) (hd : a.eval d = v) (hs : a.eval s = u) {v' : Value} {w' : World}
    (hr : (Builtin.append_ #[t, t'] o.type #[v, u]).run P w = .ok v' w') (h : K (a.put o.dst v') w') : o.wp P a w K Q := by
  unfold Oper.wp execOp
  simp only [ho, resolve, invoke, builtin, Sem.run_bind, Sem.run_pure, Result.andThen_ok, List.map_toArray, List.map_cons, List.map_nil, hd, hs, hr]
  exact h
theorem step_append_eq {K : Act → World → Prop} {E : Prop} (hg : o.guard = none) (d x : Operand) (t t' : TypeId) (ho : o.op = .call { callee := .builtin .append, args := #[d, x], argTypes := #[t, t'] }) (v u : Value) (hd : a.eval d = v) (hx : a.eval x = u) {v' : Value} {w' : World}
    (hr : (Builtin.append_ #[t, t'] o.type #[v, u]).run P w = .ok v' w') (hK : K (a.put o.dst v') w') : if Region.wanted o (yielded ops a.tmps) = true then Oper.wp P o a w K Q else E := by
  rw [if_pos (by simp [Region.wanted, hg])]
  exact wp_append_eq d x t t' ho v u hd hx hr hK
theorem run_clear1 (w : World) (t e ty : TypeId) (z : Value) (zs : List Value) (ht : P.underlying t = some (.slice e)) (hz : ∀ w, (zeroValue e).run P w = .ok z w) (hzc : (Builtin.zeroCells z.cells 1).toList = zs) (h1 : ∀ v ∈ zs, v.oneCell' = true) (g off c : Nat) {cur : Array Value} {te : TypeId} (hg : w.heap[g]? = some (.cells cur te (0, 0))) (hfit : off + zs.length ≤ cur.size) :
    (Builtin.clear_ #[t] ty #[.slice (some ⟨g, off, none⟩) 1 c]).run P w = .ok (.tuple #[]) (w.setRow g (cur.toList.take off ++ zs ++ cur.toList.drop (off + zs.length)).toArray) := by
  have hst := run_storeCells_at P g off te zs 0 cur w hg (by simpa using hfit) h1
  simp only [Nat.add_zero] at hst
  simp [Builtin.clear_, run_underlying ht, hz, hzc, hst]
end

/-- What a call leaves that hands back the same row, one element shorter. -/
def CutRow (W : World) (base : Nat) (e : TypeId) (size g c n : Nat) (ys : List Value) (en : Ending) (w' : World) : Prop :=
  en = .returned (.slice (some ⟨g, 0, none⟩) n c) ∧ w'.ownsRow base e size (.slice (some ⟨g, 0, none⟩) n c) n ys ∧ W.grownBy w' (some g)

theorem cut_len {L xs : List Value} {p q m s : Nat} (hx : L.take m = xs) (hp : p + s = q) (hq : q ≤ m) (hm : m ≤ L.length) {C : List Value} (hC : C = L.take p ++ xs.drop q ++ L.drop (p + (xs.drop q).length)) {Z R : List Value} : (C.take (m - s) ++ Z ++ R).take (m - s) = xs.take p ++ xs.drop q := by
  subst hx
  have hl : (L.take m).length = m := by rw [List.length_take]; omega
  have h1 : C.take (m - s) = (L.take m).take p ++ (L.take m).drop q := by
    rw [hC, List.take_take, Nat.min_eq_left (by omega)]
    exact List.take_left' (by simp only [List.length_append, List.length_take, List.length_drop]; omega)
  rw [h1, List.append_assoc]
  exact List.take_left' (by simp only [List.length_append, List.length_take, List.length_drop]; omega)

set_option maxRecDepth 100000 in
set_option maxHeartbeats 4000000 in
/-- slices.Delete of one attribute. -/
theorem delA_ok (g n c i base : Nat) (xs : List Value) (W : World) (hown : W.ownsRow base 83 2 (.slice (some ⟨g, 0, none⟩) n c) n xs) (hi : i < n) (hn : n ≤ 1000) (h1x : ∀ v ∈ xs, v.oneCell' = true) :
    Calls Try.prog 75 #[.slice (some ⟨g, 0, none⟩) n c, .int .i64 i, .int .i64 ((i : Int) + 1)] W (CutRow W base 83 2 g c (n - 1) (xs.take (i * 2) ++ xs.drop ((i + 1) * 2))) := by
  obtain ⟨i0, hI, hz0, hz1, hz2⟩ := info_parts info_attr
  have hown0 := hown
  rcases hown.2 with ⟨h0, -⟩ | ⟨g', cap', cur, h0, hgb, hgc, hnc, hcm, hcs, hct⟩
  · cases h0
  cases h0
  have hxl : xs.length = n * 2 := hown0.1
  have hzi : ¬ ((i : Int) = (i : Int) + 1) := by omega
  have hc63 : c ≤ 9223372036854775807 := by unfold maxLen at hcm; omega
  have hap : ∀ ty (AA : Addr) sc, (AA = ⟨g, (i + 1) * 2, none⟩ ∨ n - (i + 1) = 0) → (Builtin.append_ #[59, 59] ty #[.slice (some ⟨g, 0, none⟩) i c, .slice (some AA) (n - (i + 1)) sc]).run Try.prog W.drew = .ok (.slice (some ⟨g, 0, none⟩) (n - 1) c) (W.drew.setRow g (cur.toList.take (i * 2) ++ xs.drop ((i + 1) * 2) ++ cur.toList.drop (i * 2 + (xs.drop ((i + 1) * 2)).length)).toArray) := fun ty AA sc hA => by
    have h := Go.run_append_room (P := Try.prog) (w := W.drew) 59 ty 83 i0 Try.underlying59 hI g i c cur hgc AA (n - (i + 1)) sc (xs.drop ((i + 1) * 2)) (by rw [hz1, List.length_drop, hxl]; omega) (fun j u hj => by
      rcases hA with rfl | h0
      · exact src_row (w := W.drew) hgc j u (by rw [← hct] at hj; exact hj)
      · rw [List.drop_of_length_le (by omega)] at hj; simp at hj) (fun v hv => h1x v (List.mem_of_mem_drop hv)) (by omega) (by rw [hz1, List.length_drop, hxl, hcs]; omega)
    rw [hz1, show i + (n - (i + 1)) = n - 1 by omega] at h
    exact h
  obtain ⟨C1, hC1⟩ : ∃ C1, C1 = List.take (i * 2) cur.toList ++ xs.drop ((i + 1) * 2) ++ List.drop (i * 2 + (xs.drop ((i + 1) * 2)).length) cur.toList := ⟨_, rfl⟩
  have hc1l : C1.length = c * 2 := by rw [hC1]; simp only [List.length_append, List.length_take, List.length_drop, Array.length_toList, hcs, hxl]; omega
  rw [← hC1] at hap
  obtain ⟨W1, hW1⟩ : ∃ W1, W1 = W.drew.setRow g C1.toArray := ⟨_, rfl⟩
  have hg1 : W1.heap[g]? = some (.cells C1.toArray 83 (0, 0)) := by rw [hW1]; exact setRow_heap W.drew _ _ _ _ _ hgc
  have hgr1 : W.grownBy W1 (some g) := by rw [hW1]; exact grownBy_drewRow _ _ _
  rw [← hW1] at hap
  have hcl : ∀ ty sc, (Builtin.clear_ #[59] ty #[.slice (some ⟨g, (n - 1) * 2, none⟩) (n - (n - 1)) sc]).run Try.prog W1 = .ok (.tuple #[]) (W1.setRow g (C1.take ((n - 1) * 2) ++ [Value.string .empty, Value.string .empty] ++ C1.drop ((n - 1) * 2 + 2)).toArray) := fun ty sc => by
    rw [show n - (n - 1) = 1 by omega]
    exact run_clear1 W1 _ 83 ty (.agg #[.string .empty, .string .empty]) [Value.string .empty, Value.string .empty] Try.underlying59 (fun w => by kernel_rfl) (by kernel_rfl) (by decide) g ((n - 1) * 2) sc hg1 (by simp only [List.size_toArray, hc1l, List.length_cons, List.length_nil]; omega)
  have hE : CutRow W base 83 2 g c (n - 1) (xs.take (i * 2) ++ xs.drop ((i + 1) * 2)) (.returned (.slice (some ⟨g, 0, none⟩) (n - 1) c)) (W1.setRow g (C1.take ((n - 1) * 2) ++ [Value.string .empty, Value.string .empty] ++ C1.drop ((n - 1) * 2 + 2)).toArray) := by
    refine ⟨rfl, own_row (setRow_heap _ _ _ _ _ _ hg1) hgb (by omega) hcm ?_ ?_, grownBy_trans' hgr1 (grownBy_setRow _ _ _)⟩
    · simp only [List.size_toArray, List.length_append, List.length_take, List.length_drop, hc1l, List.length_cons, List.length_nil]; omega
    · have := cut_len (p := i * 2) (q := (i + 1) * 2) (s := 2) hct (by omega) (by omega) (by rw [Array.length_toList, hcs]; omega) hC1 (Z := [Value.string .empty, Value.string .empty]) (R := C1.drop ((n - 1) * 2 + 2))
      rw [show n * 2 - 2 = (n - 1) * 2 by omega] at this
      exact this
  generalize W1.setRow g (C1.take ((n - 1) * 2) ++ [Value.string .empty, Value.string .empty] ++ C1.drop ((n - 1) * 2 + 2)).toArray = W2 at hE hcl
  have hE' := hide hE
  have hap' := hide hap
  have hcl' := hide hcl
  clear hE hap hcl hgr1 hg1 hW1 hc1l hC1 hxl hcs hct hgc
  go_enter Try.func75, Try.ntmps75
  go_wp2
  have hb1 : (0 : Int) ≤ (i : Int) + 1 := by omega
  have hb3 : (i : Int) + 1 ≤ (n : Int) := by omega
  have hb4 : (i : Int) ≤ (n : Int) := by omega
  have hb5 : (i : Int) < (n : Int) := by omega
  have hb6 : (i : Int) ≤ (c : Int) := by omega
  have hb7 : (0 : Int) ≤ (i : Int) := by omega
  have htn : ((i : Int) + 1).toNat = i + 1 := by omega
  by_cases hcc : c = i + 1
  · subst hcc
    have hb8 : (i : Int) ≤ (i : Int) + 1 := by omega
    have h0 : n - (i + 1) = 0 := by omega
    have hz := hap'.out 59 ⟨g, 0, none⟩ 0 (.inr h0)
    rw [h0] at hz
    have hz' := hide hz
    clear hz h0
    go_region_law (refine step_append_eq rfl _ _ 59 59 rfl (.slice (some ⟨g, 0, none⟩) i (i + 1)) (.slice (some ⟨g, 0, none⟩) 0 0) (by simp [Act.eval, Act.put]) (by simp [Act.eval, Act.put]) hz'.out ?_)
    go_wp2_with ((with_reducible refine wpList_clear_lit _ _ (.slice (some ⟨g, (n - 1) * 2, none⟩) (n - (n - 1)) (i + 1 - (n - 1))) ?_ (hcl'.out _ _) ?_); rfl)
    go_ret
    exact hE'.out
  · go_region_law (refine step_append_eq rfl _ _ 59 59 rfl (.slice (some ⟨g, 0, none⟩) i c) (.slice (some ⟨g, (i + 1) * 2, none⟩) (n - (i + 1)) (c - (i + 1))) (by simp [Act.eval, Act.put]) (by simp [Act.eval, Act.put]) (hap'.out 59 _ (c - (i + 1)) (.inl rfl)) ?_)
    go_wp2_with ((with_reducible refine wpList_clear_lit _ _ (.slice (some ⟨g, (n - 1) * 2, none⟩) (n - (n - 1)) (c - (n - 1))) ?_ (hcl'.out _ _) ?_); rfl)
    go_ret
    exact hE'.out
end Go.Proofs.Ytfiiikbbiimdiaa
