/- A law for append of one element onto a list of numbers or of truth values that the call itself makes. Condition: the list has at most a million elements. -/
import Derived.Test.YtfiiikbbiimdiaaOwn
namespace Go.Proofs.Ytfiiikbbiimdiaa
open Go.RowKit

theorem info_bool' : (Try.prog.info? 4).map (fun i => (i.zero, i.size, i.bytes)) = some (some (.bool false), 1, 1) := by kernel_rfl
def bools (xs : List Bool) : List Value := xs.map Value.bool
theorem bools_one (xs : List Bool) : ∀ u ∈ bools xs, u.oneCell' = true := by
  intro u hu
  obtain ⟨x, _, rfl⟩ := List.mem_map.1 hu
  rfl
theorem bools_app (xs ys : List Bool) : bools xs ++ bools ys = bools (xs ++ ys) := by simp [bools]
theorem bools_get {xs : List Bool} {j : Nat} (h : j < xs.length) : (bools xs)[j]? = some (.bool (bx xs j)) := by
  simp [bools, bx, List.getD_eq_getElem?_getD, List.getElem?_eq_getElem h]

/-- A slice value, all of whose elements the call itself has made. -/
def OwnI (w : World) (base : Nat) (v : Value) (xs : List Int) : Prop := w.ownsRow base 3 1 v xs.length (ints xs)
def OwnB (w : World) (base : Nat) (v : Value) (xs : List Bool) : Prop := w.ownsRow base 4 1 v xs.length (bools xs)
/-- Two slice values that lie in different blocks. -/
def Apart (s v : Value) : Prop := ∀ k, s.ownBlock = some k → v.ownBlock ≠ some k
/-- What an append leaves as it is. -/
def Grew (W w' : World) (base : Nat) (v v' : Value) : Prop :=
  (∀ g, g < base → w'.heap[g]? = W.heap[g]?) ∧ (∀ B U, B ≤ base → Below B U W → Below B U w') ∧ W.heap.size < w'.heap.size ∧ (∀ g, g < W.heap.size → v.ownBlock ≠ some g → w'.heap[g]? = W.heap[g]?) ∧ (∀ k, v'.ownBlock = some k → v.ownBlock = some k ∨ W.heap.size < k)

theorem Grew.keep {W w' : World} {base : Nat} {v v' : Value} (h : Grew W w' base v v') {g : Nat} {o : Obj} (hg : g < base) (hc : W.heap[g]? = some o) : w'.heap[g]? = some o := (h.1 g hg).trans hc
theorem Grew.below {W w' U : World} {base B : Nat} {v v' : Value} (h : Grew W w' base v v') (hB : B ≤ base) (hb : Below B U W) : Below B U w' := h.2.1 B U hB hb
theorem Grew.lt {W w' : World} {base : Nat} {v v' : Value} (h : Grew W w' base v v') : W.heap.size < w'.heap.size := h.2.2.1
theorem Apart.turn {s v : Value} (h : Apart s v) : Apart v s := fun k hv hs => h k hs hv
theorem Apart.nil (v : Value) : Apart (.slice none 0 0) v := fun k hk => by cases hk
theorem Grew.own {W w' : World} {base base2 size n : Nat} {e : TypeId} {v v' s : Value} {xs : List Value} (h : Grew W w' base v v') (hs : W.ownsRow base2 e size s n xs) (ha : Apart s v) : w'.ownsRow base2 e size s n xs ∧ Apart s v' := by
  have hlt := World.ownsRow.lt hs
  refine ⟨?_, fun k hk hv => ?_⟩
  · refine ⟨hs.1, hs.2.imp id ?_⟩
    rintro ⟨g, cap, cur, rfl, hb, hg, r⟩
    exact ⟨g, cap, cur, rfl, hb, (h.2.2.2.1 g (hlt g rfl).2 (ha g rfl)).trans hg, r⟩
  · rcases h.2.2.2.2 k hv with h1 | h1
    · exact ha k hk h1
    · have := (hlt k hk).2; omega
theorem OwnI.nil (w : World) (base : Nat) : OwnI w base (.slice none 0 0) [] := World.ownsRow_nil _ _ _ _
theorem OwnB.nil (w : World) (base : Nat) : OwnB w base (.slice none 0 0) [] := World.ownsRow_nil _ _ _ _
theorem OwnI.alloc {w : World} {base : Nat} {v : Value} {xs : List Int} (h : OwnI w base v xs) (o : Obj) : OwnI (w.alloc o) base v xs := World.ownsRow.alloc h o
theorem OwnB.alloc {w : World} {base : Nat} {v : Value} {xs : List Bool} (h : OwnB w base v xs) (o : Obj) : OwnB (w.alloc o) base v xs := World.ownsRow.alloc h o
theorem OwnI.base {w : World} {base base' : Nat} {v : Value} {xs : List Int} (h : OwnI w base' v xs) (hb : base ≤ base') : OwnI w base v xs := own_base h hb
theorem OwnB.base {w : World} {base base' : Nat} {v : Value} {xs : List Bool} (h : OwnB w base' v xs) (hb : base ≤ base') : OwnB w base v xs := own_base h hb
theorem OwnI.below {w w' : World} {base : Nat} {v : Value} {xs : List Int} (h : OwnI w base v xs) (hb : Below w.heap.size w w') : OwnI w' base v xs := own_below h hb
theorem OwnB.below {w w' : World} {base : Nat} {v : Value} {xs : List Bool} (h : OwnB w base v xs) (hb : Below w.heap.size w w') : OwnB w' base v xs := own_below h hb
theorem OwnI.set {w : World} {base : Nat} {v : Value} {xs : List Int} (h : OwnI w base v xs) {p : Addr} (hp : p.block < base) (u : Value) : OwnI (w.setCell p u) base v xs := ownsRow_setCell_below h hp u
theorem OwnB.set {w : World} {base : Nat} {v : Value} {xs : List Bool} (h : OwnB w base v xs) {p : Addr} (hp : p.block < base) (u : Value) : OwnB (w.setCell p u) base v xs := ownsRow_setCell_below h hp u

theorem sl_of_own {w : World} {base size n : Nat} {e : TypeId} {v : Value} {xs : List Value} (h : w.ownsRow base e size v n xs) : ∃ A c, v = .slice A n c ∧ n ≤ c ∧ c ≤ maxLen := by
  rcases h.2 with ⟨rfl, rfl⟩ | ⟨g, cap, cur, rfl, _, _, hnc, hm, _⟩
  · exact ⟨none, 0, rfl, Nat.le_refl _, Nat.zero_le _⟩
  · exact ⟨_, _, rfl, hnc, hm⟩
theorem OwnI.isInts {w : World} {base : Nat} {v : Value} {xs : List Int} (h : OwnI w base v xs) (hn : xs.length ≤ 1000000) : ∃ A c, v = .slice A xs.length c ∧ xs.length ≤ c ∧ c ≤ maxLen ∧ IsInts w A xs.length xs :=
  isInts_of_own h (by omega)
theorem OwnB.isBools {w : World} {base : Nat} {v : Value} {xs : List Bool} (h : OwnB w base v xs) (hn : xs.length ≤ 1000000) : ∃ A c, v = .slice A xs.length c ∧ xs.length ≤ c ∧ c ≤ maxLen ∧ IsBools w A xs.length xs := by
  obtain ⟨A, c, rfl, h1, h2⟩ := sl_of_own h
  refine ⟨A, c, rfl, h1, h2, rfl, by omega, fun hh => ?_⟩
  rcases h.2 with ⟨e1, e2⟩ | ⟨g, cap, cur, e1, hb, hg, hnc, hm, hcs, ht⟩
  · omega
  · injection e1 with e1 _ _
    subst e1
    refine ⟨g, 0, rfl, (World.ownsRow.lt h g rfl).2, fun j hj => ?_⟩
    rw [Nat.zero_add, World.ownsRow.cellAt h j (by omega), bools_get hj]


theorem grew_of {W w' : World} {base n size : Nat} {e t : TypeId} {v v' u : Value} {xs : List Value} (hown : W.ownsRow base e size v n xs) (hbase : base ≤ W.heap.size) (hg : (W.alloc (.cells #[u] t)).grownBy w' v.ownBlock) (hv : v'.ownBlock = v.ownBlock ∨ v'.ownBlock = some (W.heap.size + 1)) : Grew W w' base v v' := by
  have hlt := fun k hk => (World.ownsRow.lt hown k hk).1
  refine ⟨fun g hgb => ?_, fun B U hB hb => ?_, ?_, fun g hgl hne => ?_, fun k hk => ?_⟩
  · rw [hg.block g (by simp; omega) (fun e => by have := hlt g e.symm; omega), Below.heap_alloc _ _ _ (by omega)]
  · exact (hb.alloc (by omega) _).grown hg (by simp; omega) (fun k hk => by have := hlt k hk; omega)
  · have := hg.size; simp at this; omega
  · rw [hg.block g (by simp; omega) (fun e => hne e.symm), Below.heap_alloc _ _ _ (by omega)]
  · rcases hv with h | h
    · exact .inl (h ▸ hk)
    · rw [h] at hk; injection hk with hk; exact .inr (by omega)

/-- Where the elements lie behind an append: where they lay, or in a new block. -/
theorem append_where {P : Program} {w : World} {base : Nat} {t ty e : TypeId} {i : TypeInfo} {z : Value} {size : Nat} (ht : P.underlying t = some (.slice e)) (hi : P.info? e = some i) (hz : i.zero = some z) (hsize : i.size = size)
    {v : Value} {n : Nat} {xs : List Value} (hown : w.ownsRow base e size v n xs) (ad : Addr) (m c : Nat) (news : List Value) (hl : news.length = m * size) (hnews : ∀ j u, news[j]? = some u → w.cell? (ad.add j) = some u) (h1 : ∀ u ∈ news, u.oneCell' = true) (hm : 0 < m)
    (h63 : n + m ≤ 9223372036854775807) (hb : (n + m) * i.bytes ≤ 140737488355328) {v' : Value} {w' : World} (hrun : (Builtin.append_ #[t, t] ty #[v, .slice (some ad) m c]).run P w = .ok v' w') : v'.ownBlock = v.ownBlock ∨ v'.ownBlock = some w.heap.size := by
  subst hsize
  rcases hown.2 with ⟨rfl, rfl⟩ | ⟨g, cap, cur, rfl, hbg, hg, hnc, hcm, hcs, htk⟩
  · have hr := Go.run_append_nil (P := P) w t ty e i z ht hi hz ad m c news hl hnews hm (by omega) (by have := hb; simp only [Nat.zero_add] at this; omega)
    rw [hr] at hrun
    injection hrun with e1 e2
    subst e1
    exact .inr rfl
  · by_cases hroom : n + m ≤ cap
    · have hfit : n * i.size + news.length ≤ cur.size := by rw [hl, hcs, ← Nat.add_mul]; exact Nat.mul_le_mul_right _ hroom
      have hr := run_append_room (P := P) w t ty e i ht hi g n cap cur hg ad m c news hl hnews h1 hroom hfit
      rw [hr] at hrun
      injection hrun with e1 e2
      subst e1
      exact .inl rfl
    · have hr := run_append_grow (P := P) w t ty e i z ht hi hz ⟨g, 0, none⟩ n cap xs hown.1 (World.ownsRow.cells hown rfl) ad m c news hl hnews (by omega) (by omega) (growslice_fits (by omega) hb)
      rw [hr] at hrun
      injection hrun with e1 e2
      subst e1
      exact .inr rfl

section
variable {w W : World} {ops : Array Oper} {rest : List Oper} {o : Oper} {a : Act} {Q : Exit → Act → World → Prop}
theorem wpList_append_mine {P : Program} (hgd : o.guard = none) (s x : Operand) (t : TypeId) (ho : o.op = .call { callee := .builtin .append, args := #[s, x], argTypes := #[t, t] })
    (e : TypeId) (i : TypeInfo) (z : Value) (size bytes : Nat) (ht : P.underlying t = some (.slice e)) (hi : P.info? e = some i) (hz : i.zero = some z) (hsize : i.size = size) (hby : i.bytes = bytes) (hzs : z.cells.size = size) (hsz : 0 < size)
    {base : Nat} {v : Value} {n : Nat} {xs : List Value} (hown : w.ownsRow base e size v n xs) (hs : a.eval s = v) (ad : Addr) (m c : Nat) (news : List Value) (hx : a.eval x = .slice (some ad) m c) (hl : news.length = m * size) (hnews : ∀ j u, news[j]? = some u → w.cell? (ad.add j) = some u) (h1 : ∀ u ∈ news, u.oneCell' = true) (hm : 0 < m)
    (h63 : n + m ≤ maxLen) (hbytes : (n + m) * bytes ≤ 140737488355328) (hbase : base ≤ w.heap.size)
    (h : ∀ v' w', w'.ownsRow base e size v' (n + m) (xs ++ news) → w.grownBy w' v.ownBlock → (v'.ownBlock = v.ownBlock ∨ v'.ownBlock = some w.heap.size) → wpList P ops Q rest (a.put o.dst v') w') : wpList P ops Q (o :: rest) a w := by
  refine wpList_plain hgd fun _ hK => ?_
  obtain ⟨v', w', hr, h2, h3, -⟩ := run_append_own (P := P) w base t o.type e i z size bytes ht hi hz hsize hby hzs hsz v n xs hown ad m c news hl hnews h1 h63 hbytes hbase
  have hw := append_where ht hi hz hsize hown ad m c news hl hnews h1 hm (by unfold maxLen at h63; omega) (by rw [hby]; exact hbytes) hr
  unfold Oper.wp execOp
  simp only [ho, resolve, invoke, builtin, Sem.run_bind, Sem.run_pure, Result.andThen_ok, List.map_toArray, List.map_cons, List.map_nil, hs, hx, hr]
  exact hK _ _ (h v' w' h2 h3 hw)
theorem one_at (W : World) (u : Value) (tt : TypeId) {j : Nat} {x : Value} (hj : [u][j]? = some x) : (W.alloc (.cells #[u] tt)).cell? ((⟨W.heap.size, 0, none⟩ : Addr).add j) = some x := by
  match j, hj with
  | 0, hj => simp at hj; subst hj; simp [Addr.add]
theorem wpList_pushI (hgd : o.guard = none) (s x : Operand) (ho : o.op = .call { callee := .builtin .append, args := #[s, x], argTypes := #[51, 51] })
    {base : Nat} {v : Value} {pre : List Int} (hown : OwnI W base v pre) (y : Int) (tt : TypeId) (hs : a.eval s = v) (hx : a.eval x = .slice (some ⟨W.heap.size, 0, none⟩) 1 1)
    (hn : pre.length ≤ 1000000) (hbase : base ≤ W.heap.size)
    (h : ∀ A' c' w', OwnI w' base (.slice A' (pre.length + 1) c') (pre ++ [y]) → Grew W w' base v (.slice A' (pre.length + 1) c') → wpList Try.prog ops Q rest (a.put o.dst (.slice A' (pre.length + 1) c')) w') :
    wpList Try.prog ops Q (o :: rest) a (W.alloc (.cells #[.int .i64 y] tt)) := by
  obtain ⟨i0, hI, hz0, hz1, hz2⟩ := info_parts info_int
  refine wpList_append_mine hgd s x 51 ho 3 i0 (.int .i64 0) 1 8 Try.underlying51 hI hz0 hz1 hz2 rfl (by decide) (World.ownsRow.alloc hown _) hs ⟨W.heap.size, 0, none⟩ 1 1 (ints [y]) hx rfl (fun j u hj => one_at W _ tt hj) (ints_one _) (by decide) (by unfold maxLen; omega) (by omega) (by simp; omega) ?_
  intro v' w' hown' hg hw
  obtain ⟨A', c', rfl, _, _⟩ := sl_of_own hown'
  exact h A' c' w' (by unfold OwnI; rw [List.length_append, ← ints_app]; exact hown') (grew_of hown hbase hg (by simpa using hw))
theorem wpList_pushB (hgd : o.guard = none) (s x : Operand) (ho : o.op = .call { callee := .builtin .append, args := #[s, x], argTypes := #[122, 122] })
    {base : Nat} {v : Value} {pre : List Bool} (hown : OwnB W base v pre) (y : Bool) (tt : TypeId) (hs : a.eval s = v) (hx : a.eval x = .slice (some ⟨W.heap.size, 0, none⟩) 1 1)
    (hn : pre.length ≤ 1000000) (hbase : base ≤ W.heap.size)
    (h : ∀ A' c' w', OwnB w' base (.slice A' (pre.length + 1) c') (pre ++ [y]) → Grew W w' base v (.slice A' (pre.length + 1) c') → wpList Try.prog ops Q rest (a.put o.dst (.slice A' (pre.length + 1) c')) w') :
    wpList Try.prog ops Q (o :: rest) a (W.alloc (.cells #[.bool y] tt)) := by
  obtain ⟨i0, hI, hz0, hz1, hz2⟩ := info_parts info_bool'
  refine wpList_append_mine hgd s x 122 ho 4 i0 (.bool false) 1 1 Try.underlying122 hI hz0 hz1 hz2 rfl (by decide) (World.ownsRow.alloc hown _) hs ⟨W.heap.size, 0, none⟩ 1 1 (bools [y]) hx rfl (fun j u hj => one_at W _ tt hj) (bools_one _) (by decide) (by unfold maxLen; omega) (by omega) (by simp; omega) ?_
  intro v' w' hown' hg hw
  obtain ⟨A', c', rfl, _, _⟩ := sl_of_own hown'
  exact h A' c' w' (by unfold OwnB; rw [List.length_append, ← bools_app]; exact hown') (grew_of hown hbase hg (by simpa using hw))
end

/-- A list that is not empty, and one shorter at its end. -/
theorem OwnI.open {w : World} {base : Nat} {v : Value} {xs : List Int} (h : OwnI w base v xs) (hn : 0 < xs.length) : ∃ (g cap : Nat), v = .slice (some ⟨g, 0, none⟩) xs.length cap ∧ xs.length ≤ cap ∧ cap ≤ maxLen ∧ g < w.heap.size ∧ (∀ j, j < xs.length → w.cell? ⟨g, j, none⟩ = some (.int .i64 (ix xs j))) ∧
    ∀ m, m ≤ xs.length → OwnI w base (.slice (some ⟨g, 0, none⟩) m cap) (xs.take m) := by
  have h0 := h
  rcases h.2 with ⟨rfl, e⟩ | ⟨g, cap, cur, rfl, hb, hg, hnc, hm, hcs, ht⟩
  · omega
  · refine ⟨g, cap, rfl, hnc, hm, (World.ownsRow.lt h0 g rfl).2, fun j hj => ?_, fun m hml => ?_⟩
    · rw [World.ownsRow.cellAt h0 j (by omega), ints_get hj]
    · have e1 : (xs.take m).length = m := by rw [List.length_take]; omega
      unfold OwnI World.ownsRow
      rw [e1]
      refine ⟨by simp [ints]; omega, .inr ⟨g, cap, cur, rfl, hb, hg, by omega, hm, hcs, ?_⟩⟩
      rw [Nat.mul_one] at ht ⊢
      have e2 : cur.toList.take m = (cur.toList.take xs.length).take m := by rw [List.take_take, Nat.min_eq_left hml]
      rw [e2, ht]
      simp [ints]
theorem OwnI.lit (W : World) (g base : Nat) (x : Int) (hg : g = W.heap.size) (hb : base ≤ g) : OwnI (W.alloc (.cells #[.int .i64 x] 3)) base (.slice (some ⟨g, 0, none⟩) 1 1) [x] := by
  subst hg; exact World.ownsRow_lit W #[.int .i64 x] 1 hb (by unfold maxLen; omega) rfl
end Go.Proofs.Ytfiiikbbiimdiaa
