/- Words on memory that a call has made: a row of attributes, a whole tree. No condition. -/
import Derived.Test.YtljloicgjgbplaaGreatG04
namespace Go.Proofs.YtljloicgjgbplaaGreat
open Go.RowKit

def atts (l : List (ByteArray × ByteArray)) : List Value := l.flatMap fun x => [.string x.1, .string x.2]
theorem atts_get (l : List (ByteArray × ByteArray)) : ∀ j, j < l.length → (atts l)[j * 2]? = some (.string (nm l j)) ∧ (atts l)[j * 2 + 1]? = some (.string (vl l j)) := by
  induction l with
  | nil => intro j hj; simp at hj
  | cons x l ih =>
    intro j hj
    cases j with
    | zero => simp [atts, nm, vl]
    | succ j =>
      have := ih j (by simpa using hj)
      rw [show (j + 1) * 2 = j * 2 + 2 by omega]
      simpa [atts, nm, vl] using this

section
variable {P : Program} {w : World}
theorem run_append_nil (base : Nat) (t ty e : TypeId) (i : TypeInfo) (size : Nat) (ht : P.underlying t = some (.slice e)) (hi : P.info? e = some i)
    (v : Value) (n : Nat) (xs : List Value) (hown : w.ownsRow base e size v n xs) (c : Nat) : (Builtin.append_ #[t, t] ty #[v, .slice none 0 c]).run P w = .ok v w := by
  rcases hown.2 with ⟨rfl, rfl⟩ | ⟨g, cap, cur, rfl, _, _, hnc, _⟩
  · simp [Builtin.append_, run_underlying ht, sizeOf, typeInfo, hi, Builtin.lenOf, Builtin.firstCells]
  · simp [Builtin.append_, run_underlying ht, sizeOf, typeInfo, hi, Builtin.lenOf, Builtin.firstCells, hnc, storeCells]

/-- append onto a row of the call's own, whatever the source is: nil, or cells that lie somewhere. -/
theorem wpList_append_from {ops : Array Oper} {rest : List Oper} {o : Oper} {a : Act} {Q : Exit → Act → World → Prop} (hgd : o.guard = none) (s x : Operand) (t : TypeId)
    (ho : o.op = .call { callee := .builtin .append, args := #[s, x], argTypes := #[t, t] })
    (base : Nat) (e : TypeId) (i : TypeInfo) (z : Value) (size bytes : Nat) (ht : P.underlying t = some (.slice e)) (hi : P.info? e = some i) (hz : i.zero = some z)
    (hsize : i.size = size) (hby : i.bytes = bytes) (hzs : z.cells.size = size) (hsz : 0 < size)
    (v : Value) (n : Nat) (xs : List Value) (hs : a.eval s = v) (hown : w.ownsRow base e size v n xs)
    (A : Option Addr) (m c : Nat) (news : List Value) (hx : a.eval x = .slice A m c) (hl : news.length = m * size) (hnone : A = none → m = 0) (hnews : ∀ ad, A = some ad → ∀ j u, news[j]? = some u → w.cell? (ad.add j) = some u) (h1 : ∀ u ∈ news, u.oneCell' = true)
    (h63 : n + m ≤ maxLen) (hbytes : (n + m) * bytes ≤ 140737488355328) (hbase : base ≤ w.heap.size)
    (h : ∀ v' w', w'.ownsRow base e size v' (n + m) (xs ++ news) → w.grownBy w' v.ownBlock → wpList P ops Q rest (a.put o.dst v') w') : wpList P ops Q (o :: rest) a w := by
  cases A with
  | some ad => exact wpList_append_own w hgd s x t ho base e i z size bytes ht hi hz hsize hby hzs hsz v n xs hs hown ad m c news hx hl (hnews ad rfl) h1 h63 hbytes hbase fun v' w' q1 q2 _ => h v' w' q1 q2
  | none =>
    obtain rfl := hnone rfl
    have hn : news = [] := List.eq_nil_of_length_eq_zero (by simpa using hl)
    subst hn
    refine wpList_plain hgd fun K hK => ?_
    have hrun := run_append_nil (P := P) (w := w) base t o.type e i size ht hi v n xs hown c
    unfold Oper.wp
    simp [execOp, ho, resolve, invoke, builtin, hs, hx, hrun, Result.andThen]
    exact hK _ _ (h v w (by simpa using hown) (World.grownBy.refl w _))
end

/-- The cells of a list of numbers that lies somewhere, as append asks for them. -/
theorem ints_at {w : World} {A : Option Addr} {n : Nat} {xs : List Int} (h : IsInts w A n xs) : ∀ ad, A = some ad → ∀ j u, (ints xs)[j]? = some u → w.cell? (ad.add j) = some u := by
  intro ad ha j u hj
  have hjl : j < xs.length := by
    rcases Nat.lt_or_ge j xs.length with h | h
    · exact h
    · rw [List.getElem?_eq_none (by simpa [ints] using h)] at hj; cases hj
  rw [ints_get hjl] at hj
  simp only [Option.some.injEq] at hj
  subst hj
  have hl := h.1
  obtain ⟨b, off, hA, hb, hc⟩ := h.2.2 (by omega)
  rw [hA] at ha
  injection ha with ha
  subst ha
  have := hc j (by omega)
  unfold Addr.add
  split
  · rename_i h0; subst h0; simpa using this
  · exact this
theorem ints_none {w : World} {A : Option Addr} {n : Nat} {xs : List Int} (h : IsInts w A n xs) (ha : A = none) : n = 0 := by
  rcases Nat.eq_zero_or_pos n with h0 | h0
  · exact h0
  · obtain ⟨b, off, hA, _⟩ := h.2.2 h0
    rw [ha] at hA; cases hA
/-! ## A tree of the call's own -/
def node4 (T : List ANode) (aA cA : Nat → Option Addr) (aC cC : Nat → Nat) (j : Nat) : List Value :=
  [.string (nd T j).tag, .slice (aA j) (nd T j).attrs.length (aC j), .int .i64 (par T j), .slice (cA j) (kids T j).length (cC j)]
def nodes4 (T : List ANode) (aA cA : Nat → Option Addr) (aC cC : Nat → Nat) (k : Nat) : List Value := (List.range k).flatMap (node4 T aA cA aC cC)
theorem nodes4_succ (T : List ANode) (aA cA : Nat → Option Addr) (aC cC : Nat → Nat) (k : Nat) : nodes4 T aA cA aC cC (k + 1) = nodes4 T aA cA aC cC k ++ node4 T aA cA aC cC k := by
  simp [nodes4, List.range_succ]
theorem nodes4_congr {T T' : List ANode} {aA cA aA' cA' : Nat → Option Addr} {aC cC aC' cC' : Nat → Nat} {k : Nat} (h : ∀ j, j < k → node4 T aA cA aC cC j = node4 T' aA' cA' aC' cC' j) : nodes4 T aA cA aC cC k = nodes4 T' aA' cA' aC' cC' k := by
  induction k with
  | zero => rfl
  | succ k ih => rw [nodes4_succ, nodes4_succ, ih fun j hj => h j (by omega), h k (by omega)]
/-- The row of k nodes, each one's attributes and children, all made by the call from block 'base' on; no two share a row. -/
def OwnTree (w : World) (base : Nat) (v : Value) (k : Nat) (T : List ANode) : Prop :=
  ∃ (aA cA : Nat → Option Addr) (aC cC : Nat → Nat), w.ownsRow base 90 4 v k (nodes4 T aA cA aC cC k) ∧
    (∀ j, j < k → w.ownsRow base 92 2 (.slice (aA j) (nd T j).attrs.length (aC j)) (nd T j).attrs.length (atts (nd T j).attrs)) ∧
    (∀ j, j < k → w.ownsRow base 3 1 (.slice (cA j) (kids T j).length (cC j)) (kids T j).length (ints (kids T j))) ∧
    (∀ i j, i < j → j < k → ∀ g, (aA i).map (·.block) = some g → (aA j).map (·.block) ≠ some g) ∧
    (∀ i j, i < j → j < k → ∀ g, (cA i).map (·.block) = some g → (cA j).map (·.block) ≠ some g)

theorem ownBlock_slice (A : Option Addr) (n c : Nat) : (Value.slice A n c).ownBlock = A.map (·.block) := by cases A <;> rfl

theorem own_ne {w : World} {base base' size size' n n' : Nat} {e e' : TypeId} {v v' : Value} {xs xs' : List Value} (h : w.ownsRow base e size v n xs) (h' : w.ownsRow base' e' size' v' n' xs') (hne : e ≠ e') : v.ownBlock = none ∨ v.ownBlock ≠ v'.ownBlock := by
  rcases h.2 with ⟨rfl, _⟩ | ⟨g, cap, cur, rfl, _, hg, _⟩
  · exact .inl rfl
  · refine .inr fun he => ?_
    rcases h'.2 with ⟨rfl, _⟩ | ⟨g', cap', cur', rfl, _, hg', _⟩
    · simp [Value.ownBlock] at he
    · simp [Value.ownBlock] at he
      subst he
      rw [hg] at hg'
      injection hg' with hg'
      injection hg' with _ h2
      exact hne h2

theorem OwnTree.below {w w' : World} {base k : Nat} {v : Value} {T : List ANode} (h : OwnTree w base v k T) (hb : Below w.heap.size w w') : OwnTree w' base v k T := by
  obtain ⟨aA, cA, aC, cC, h1, h2, h3, h4, h5⟩ := h
  exact ⟨aA, cA, aC, cC, own_below h1 hb, fun j hj => own_below (h2 j hj) hb, fun j hj => own_below (h3 j hj) hb, h4, h5⟩

theorem OwnTree.base {w : World} {base base' k : Nat} {v : Value} {T : List ANode} (h : OwnTree w base' v k T) (hb : base ≤ base') : OwnTree w base v k T := by
  obtain ⟨aA, cA, aC, cC, h1, h2, h3, h4, h5⟩ := h
  exact ⟨aA, cA, aC, cC, own_base h1 hb, fun j hj => own_base (h2 j hj) hb, fun j hj => own_base (h3 j hj) hb, h4, h5⟩

theorem OwnTree.congr {w : World} {base k : Nat} {v : Value} {T T' : List ANode} (h : OwnTree w base v k T) (he : ∀ j, j < k → nd T j = nd T' j) : OwnTree w base v k T' := by
  obtain ⟨aA, cA, aC, cC, h1, h2, h3, h4, h5⟩ := h
  refine ⟨aA, cA, aC, cC, ?_, fun j hj => by rw [← he j hj]; exact h2 j hj, fun j hj => ?_, h4, h5⟩
  · have e := nodes4_congr (T := T) (T' := T') (aA := aA) (cA := cA) (aC := aC) (cC := cC) (aA' := aA) (cA' := cA) (aC' := aC) (cC' := cC) (k := k) fun j hj => by simp only [node4, par, kids, he j hj]
    rw [← e]; exact h1
  · have := h3 j hj; simp only [kids, he j hj] at this; exact this

/-- One node more is appended. ws: the world in which the tree stood; w: the world just before the append, in which the new node's rows have been made; w1: behind it. -/
theorem OwnTree.push {ws w w1 : World} {base k : Nat} {v v' : Value} {T T' : List ANode} {A1 A3 : Option Addr} {c1 c3 : Nat} (h : OwnTree ws base v k T) (hbase : base ≤ ws.heap.size) (hb : Below ws.heap.size ws w)
    (he : ∀ j, j < k → nd T j = nd T' j)
    (hA : w.ownsRow ws.heap.size 92 2 (.slice A1 (nd T' k).attrs.length c1) (nd T' k).attrs.length (atts (nd T' k).attrs))
    (hK : w.ownsRow ws.heap.size 3 1 (.slice A3 (kids T' k).length c3) (kids T' k).length (ints (kids T' k)))
    (hown : ∀ xs, ws.ownsRow base 90 4 v k xs → w1.ownsRow base 90 4 v' (k + 1) (xs ++ [.string (nd T' k).tag, .slice A1 (nd T' k).attrs.length c1, .int .i64 (par T' k), .slice A3 (kids T' k).length c3]))
    (hg : w.grownBy w1 v.ownBlock) : OwnTree w1 base v' (k + 1) T' := by
  obtain ⟨aA, cA, aC, cC, h1, h2, h3, h4, h5⟩ := h.congr he
  have hrow := own_below h1 hb
  refine ⟨fun j => if j = k then A1 else aA j, fun j => if j = k then A3 else cA j, fun j => if j = k then c1 else aC j, fun j => if j = k then c3 else cC j, ?_, fun j hj => ?_, fun j hj => ?_, fun i j hij hj g hgi => ?_, fun i j hij hj g hgi => ?_⟩
  · rw [nodes4_succ]
    have e1 : nodes4 T' (fun j => if j = k then A1 else aA j) (fun j => if j = k then A3 else cA j) (fun j => if j = k then c1 else aC j) (fun j => if j = k then c3 else cC j) k = nodes4 T' aA cA aC cC k :=
      nodes4_congr fun j hj => by simp only [node4]; rw [if_neg (by omega), if_neg (by omega), if_neg (by omega), if_neg (by omega)]
    rw [e1]
    have := hown _ h1
    simpa [node4] using this
  · by_cases hjk : j = k
    · subst hjk
      simp only [if_pos]
      exact (own_base hA hbase).kept hg (own_ne hA hrow (by decide))
    · simp only [if_neg hjk]
      have h6 := own_below (h2 j (by omega)) hb
      exact h6.kept hg (own_ne h6 hrow (by decide))
  · by_cases hjk : j = k
    · subst hjk
      simp only [if_pos]
      exact (own_base hK hbase).kept hg (own_ne hK hrow (by decide))
    · simp only [if_neg hjk]
      have h6 := own_below (h3 j (by omega)) hb
      exact h6.kept hg (own_ne h6 hrow (by decide))
  · have hik : ¬ i = k := by omega
    simp only [if_neg hik] at hgi
    by_cases hjk : j = k
    · subst hjk
      simp only [if_pos]
      intro hgj
      have l1 := (h2 i hij).lt g ((ownBlock_slice _ _ _).trans hgi)
      have l2 := hA.lt g ((ownBlock_slice _ _ _).trans hgj)
      omega
    · simp only [if_neg hjk]
      exact h4 i j hij (by omega) g hgi
  · have hik : ¬ i = k := by omega
    simp only [if_neg hik] at hgi
    by_cases hjk : j = k
    · subst hjk
      simp only [if_pos]
      intro hgj
      have l1 := (h3 i hij).lt g ((ownBlock_slice _ _ _).trans hgi)
      have l2 := hK.lt g ((ownBlock_slice _ _ _).trans hgj)
      omega
    · simp only [if_neg hjk]
      exact h5 i j hij (by omega) g hgi

end Go.Proofs.YtljloicgjgbplaaGreat
/- A law for append of one element onto a list of numbers or of truth values that the call itself makes. Condition: the list has at most a million elements. -/
namespace Go.Proofs.YtljloicgjgbplaaGreat
open Go.RowKit

theorem info_bool' : (Tryz.prog.info? 4).map (fun i => (i.zero, i.size, i.bytes)) = some (some (.bool false), 1, 1) := by kernel_rfl
def bools (xs : List Bool) : List Value := xs.map Value.bool
theorem bools_one (xs : List Bool) : ∀ u ∈ bools xs, u.oneCell' = true := by
  intro u hu
  obtain ⟨x, _, rfl⟩ := List.mem_map.1 hu
  rfl
theorem bools_app (xs ys : List Bool) : bools xs ++ bools ys = bools (xs ++ ys) := by simp [bools]
theorem bools_get {xs : List Bool} {j : Nat} (h : j < xs.length) : (bools xs)[j]? = some (.bool (bx xs j)) := by
  simp [bools, bx, List.getD_eq_getElem?_getD, List.getElem?_eq_getElem h]

/-- A slice value, all of whose elements the call itself has made. -/
def OwnI (w : World) (base : Nat) (v : Value) (xs : List Int) : Prop := w.ownsRow base 3 1 v xs.length (ints xs)
def OwnB (w : World) (base : Nat) (v : Value) (xs : List Bool) : Prop := w.ownsRow base 4 1 v xs.length (bools xs)
/-- Two slice values that lie in different blocks. -/
def Apart (s v : Value) : Prop := ∀ k, s.ownBlock = some k → v.ownBlock ≠ some k
/-- What an append leaves as it is. -/
def Grew (W w' : World) (base : Nat) (v v' : Value) : Prop :=
  (∀ g, g < base → w'.heap[g]? = W.heap[g]?) ∧ (∀ B U, B ≤ base → Below B U W → Below B U w') ∧ W.heap.size < w'.heap.size ∧ (∀ g, g < W.heap.size → v.ownBlock ≠ some g → w'.heap[g]? = W.heap[g]?) ∧ (∀ k, v'.ownBlock = some k → v.ownBlock = some k ∨ W.heap.size < k)

theorem Grew.keep {W w' : World} {base : Nat} {v v' : Value} (h : Grew W w' base v v') {g : Nat} {o : Obj} (hg : g < base) (hc : W.heap[g]? = some o) : w'.heap[g]? = some o := (h.1 g hg).trans hc
theorem Grew.below {W w' U : World} {base B : Nat} {v v' : Value} (h : Grew W w' base v v') (hB : B ≤ base) (hb : Below B U W) : Below B U w' := h.2.1 B U hB hb
theorem Grew.lt {W w' : World} {base : Nat} {v v' : Value} (h : Grew W w' base v v') : W.heap.size < w'.heap.size := h.2.2.1
theorem Apart.turn {s v : Value} (h : Apart s v) : Apart v s := fun k hv hs => h k hs hv
theorem Apart.nil (v : Value) : Apart (.slice none 0 0) v := fun k hk => by cases hk
theorem Grew.own {W w' : World} {base base2 size n : Nat} {e : TypeId} {v v' s : Value} {xs : List Value} (h : Grew W w' base v v') (hs : W.ownsRow base2 e size s n xs) (ha : Apart s v) : w'.ownsRow base2 e size s n xs ∧ Apart s v' := by
  have hlt := World.ownsRow.lt hs
  refine ⟨?_, fun k hk hv => ?_⟩
  · refine ⟨hs.1, hs.2.imp id ?_⟩
    rintro ⟨g, cap, cur, rfl, hb, hg, r⟩
    exact ⟨g, cap, cur, rfl, hb, (h.2.2.2.1 g (hlt g rfl).2 (ha g rfl)).trans hg, r⟩
  · rcases h.2.2.2.2 k hv with h1 | h1
    · exact ha k hk h1
    · have := (hlt k hk).2; omega
theorem OwnI.nil (w : World) (base : Nat) : OwnI w base (.slice none 0 0) [] := World.ownsRow_nil _ _ _ _
theorem OwnB.nil (w : World) (base : Nat) : OwnB w base (.slice none 0 0) [] := World.ownsRow_nil _ _ _ _
theorem OwnI.alloc {w : World} {base : Nat} {v : Value} {xs : List Int} (h : OwnI w base v xs) (o : Obj) : OwnI (w.alloc o) base v xs := World.ownsRow.alloc h o
theorem OwnB.alloc {w : World} {base : Nat} {v : Value} {xs : List Bool} (h : OwnB w base v xs) (o : Obj) : OwnB (w.alloc o) base v xs := World.ownsRow.alloc h o
theorem OwnI.base {w : World} {base base' : Nat} {v : Value} {xs : List Int} (h : OwnI w base' v xs) (hb : base ≤ base') : OwnI w base v xs := own_base h hb
theorem OwnB.base {w : World} {base base' : Nat} {v : Value} {xs : List Bool} (h : OwnB w base' v xs) (hb : base ≤ base') : OwnB w base v xs := own_base h hb
theorem OwnI.below {w w' : World} {base : Nat} {v : Value} {xs : List Int} (h : OwnI w base v xs) (hb : Below w.heap.size w w') : OwnI w' base v xs := own_below h hb
theorem OwnB.below {w w' : World} {base : Nat} {v : Value} {xs : List Bool} (h : OwnB w base v xs) (hb : Below w.heap.size w w') : OwnB w' base v xs := own_below h hb
theorem OwnI.set {w : World} {base : Nat} {v : Value} {xs : List Int} (h : OwnI w base v xs) {p : Addr} (hp : p.block < base) (u : Value) : OwnI (w.setCell p u) base v xs := ownsRow_setCell_below h hp u
theorem OwnB.set {w : World} {base : Nat} {v : Value} {xs : List Bool} (h : OwnB w base v xs) {p : Addr} (hp : p.block < base) (u : Value) : OwnB (w.setCell p u) base v xs := ownsRow_setCell_below h hp u

theorem sl_of_own {w : World} {base size n : Nat} {e : TypeId} {v : Value} {xs : List Value} (h : w.ownsRow base e size v n xs) : ∃ A c, v = .slice A n c ∧ n ≤ c ∧ c ≤ maxLen := by
  rcases h.2 with ⟨rfl, rfl⟩ | ⟨g, cap, cur, rfl, _, _, hnc, hm, _⟩
  · exact ⟨none, 0, rfl, Nat.le_refl _, Nat.zero_le _⟩
  · exact ⟨_, _, rfl, hnc, hm⟩
theorem OwnI.isInts {w : World} {base : Nat} {v : Value} {xs : List Int} (h : OwnI w base v xs) (hn : xs.length ≤ 1000000) : ∃ A c, v = .slice A xs.length c ∧ xs.length ≤ c ∧ c ≤ maxLen ∧ IsInts w A xs.length xs :=
  isInts_of_own h (by omega)
theorem OwnB.isBools {w : World} {base : Nat} {v : Value} {xs : List Bool} (h : OwnB w base v xs) (hn : xs.length ≤ 1000000) : ∃ A c, v = .slice A xs.length c ∧ xs.length ≤ c ∧ c ≤ maxLen ∧ IsBools w A xs.length xs := by
  obtain ⟨A, c, rfl, h1, h2⟩ := sl_of_own h
  refine ⟨A, c, rfl, h1, h2, rfl, by omega, fun hh => ?_⟩
  rcases h.2 with ⟨e1, e2⟩ | ⟨g, cap, cur, e1, hb, hg, hnc, hm, hcs, ht⟩
  · omega
  · injection e1 with e1 _ _
    subst e1
    refine ⟨g, 0, rfl, (World.ownsRow.lt h g rfl).2, fun j hj => ?_⟩
    rw [Nat.zero_add, World.ownsRow.cellAt h j (by omega), bools_get hj]


theorem grew_of {W w' : World} {base n size : Nat} {e t : TypeId} {v v' u : Value} {xs : List Value} (hown : W.ownsRow base e size v n xs) (hbase : base ≤ W.heap.size) (hg : (W.alloc (.cells #[u] t)).grownBy w' v.ownBlock) (hv : v'.ownBlock = v.ownBlock ∨ v'.ownBlock = some (W.heap.size + 1)) : Grew W w' base v v' := by
  have hlt := fun k hk => (World.ownsRow.lt hown k hk).1
  refine ⟨fun g hgb => ?_, fun B U hB hb => ?_, ?_, fun g hgl hne => ?_, fun k hk => ?_⟩
  · rw [hg.block g (by simp; omega) (fun e => by have := hlt g e.symm; omega), Below.heap_alloc _ _ _ (by omega)]
  · exact (hb.alloc (by omega) _).grown hg (by simp; omega) (fun k hk => by have := hlt k hk; omega)
  · have := hg.size; simp at this; omega
  · rw [hg.block g (by simp; omega) (fun e => hne e.symm), Below.heap_alloc _ _ _ (by omega)]
  · rcases hv with h | h
    · exact .inl (h ▸ hk)
    · rw [h] at hk; injection hk with hk; exact .inr (by omega)

/-- Where the elements lie behind an append: where they lay, or in a new block. -/
theorem append_where {P : Program} {w : World} {base : Nat} {t ty e : TypeId} {i : TypeInfo} {z : Value} {size : Nat} (ht : P.underlying t = some (.slice e)) (hi : P.info? e = some i) (hz : i.zero = some z) (hsize : i.size = size)
    {v : Value} {n : Nat} {xs : List Value} (hown : w.ownsRow base e size v n xs) (ad : Addr) (m c : Nat) (news : List Value) (hl : news.length = m * size) (hnews : ∀ j u, news[j]? = some u → w.cell? (ad.add j) = some u) (h1 : ∀ u ∈ news, u.oneCell' = true) (hm : 0 < m)
    (h63 : n + m ≤ 9223372036854775807) (hb : (n + m) * i.bytes ≤ 140737488355328) {v' : Value} {w' : World} (hrun : (Builtin.append_ #[t, t] ty #[v, .slice (some ad) m c]).run P w = .ok v' w') : v'.ownBlock = v.ownBlock ∨ v'.ownBlock = some w.heap.size := by
  subst hsize
  rcases hown.2 with ⟨rfl, rfl⟩ | ⟨g, cap, cur, rfl, hbg, hg, hnc, hcm, hcs, htk⟩
  · have hr := Go.run_append_nil (P := P) w t ty e i z ht hi hz ad m c news hl hnews hm (by omega) (by have := hb; simp only [Nat.zero_add] at this; omega)
    rw [hr] at hrun
    injection hrun with e1 e2
    subst e1
    exact .inr rfl
  · by_cases hroom : n + m ≤ cap
    · have hfit : n * i.size + news.length ≤ cur.size := by rw [hl, hcs, ← Nat.add_mul]; exact Nat.mul_le_mul_right _ hroom
      have hr := run_append_room (P := P) w t ty e i ht hi g n cap cur hg ad m c news hl hnews h1 hroom hfit
      rw [hr] at hrun
      injection hrun with e1 e2
      subst e1
      exact .inl rfl
    · have hr := run_append_grow (P := P) w t ty e i z ht hi hz ⟨g, 0, none⟩ n cap xs hown.1 (World.ownsRow.cells hown rfl) ad m c news hl hnews (by omega) (by omega) (growslice_fits (by omega) hb)
      rw [hr] at hrun
      injection hrun with e1 e2
      subst e1
      exact .inr rfl

section
variable {w W : World} {ops : Array Oper} {rest : List Oper} {o : Oper} {a : Act} {Q : Exit → Act → World → Prop}
theorem wpList_append_mine {P : Program} (hgd : o.guard = none) (s x : Operand) (t : TypeId) (ho : o.op = .call { callee := .builtin .append, args := #[s, x], argTypes := #[t, t] })
    (e : TypeId) (i : TypeInfo) (z : Value) (size bytes : Nat) (ht : P.underlying t = some (.slice e)) (hi : P.info? e = some i) (hz : i.zero = some z) (hsize : i.size = size) (hby : i.bytes = bytes) (hzs : z.cells.size = size) (hsz : 0 < size)
    {base : Nat} {v : Value} {n : Nat} {xs : List Value} (hown : w.ownsRow base e size v n xs) (hs : a.eval s = v) (ad : Addr) (m c : Nat) (news : List Value) (hx : a.eval x = .slice (some ad) m c) (hl : news.length = m * size) (hnews : ∀ j u, news[j]? = some u → w.cell? (ad.add j) = some u) (h1 : ∀ u ∈ news, u.oneCell' = true) (hm : 0 < m)
    (h63 : n + m ≤ maxLen) (hbytes : (n + m) * bytes ≤ 140737488355328) (hbase : base ≤ w.heap.size)
    (h : ∀ v' w', w'.ownsRow base e size v' (n + m) (xs ++ news) → w.grownBy w' v.ownBlock → (v'.ownBlock = v.ownBlock ∨ v'.ownBlock = some w.heap.size) → wpList P ops Q rest (a.put o.dst v') w') : wpList P ops Q (o :: rest) a w := by
  refine wpList_plain hgd fun _ hK => ?_
  obtain ⟨v', w', hr, h2, h3, -⟩ := run_append_own (P := P) w base t o.type e i z size bytes ht hi hz hsize hby hzs hsz v n xs hown ad m c news hl hnews h1 h63 hbytes hbase
  have hw := append_where ht hi hz hsize hown ad m c news hl hnews h1 hm (by unfold maxLen at h63; omega) (by rw [hby]; exact hbytes) hr
  unfold Oper.wp execOp
  simp only [ho, resolve, invoke, builtin, Sem.run_bind, Sem.run_pure, Result.andThen_ok, List.map_toArray, List.map_cons, List.map_nil, hs, hx, hr]
  exact hK _ _ (h v' w' h2 h3 hw)
theorem one_at (W : World) (u : Value) (tt : TypeId) {j : Nat} {x : Value} (hj : [u][j]? = some x) : (W.alloc (.cells #[u] tt)).cell? ((⟨W.heap.size, 0, none⟩ : Addr).add j) = some x := by
  match j, hj with
  | 0, hj => simp at hj; subst hj; simp [Addr.add]
theorem wpList_pushI (hgd : o.guard = none) (s x : Operand) (ho : o.op = .call { callee := .builtin .append, args := #[s, x], argTypes := #[51, 51] })
    {base : Nat} {v : Value} {pre : List Int} (hown : OwnI W base v pre) (y : Int) (tt : TypeId) (hs : a.eval s = v) (hx : a.eval x = .slice (some ⟨W.heap.size, 0, none⟩) 1 1)
    (hn : pre.length ≤ 1000000) (hbase : base ≤ W.heap.size)
    (h : ∀ A' c' w', OwnI w' base (.slice A' (pre.length + 1) c') (pre ++ [y]) → Grew W w' base v (.slice A' (pre.length + 1) c') → wpList Tryz.prog ops Q rest (a.put o.dst (.slice A' (pre.length + 1) c')) w') :
    wpList Tryz.prog ops Q (o :: rest) a (W.alloc (.cells #[.int .i64 y] tt)) := by
  obtain ⟨i0, hI, hz0, hz1, hz2⟩ := info_parts info_int
  refine wpList_append_mine hgd s x 51 ho 3 i0 (.int .i64 0) 1 8 Tryz.underlying51 hI hz0 hz1 hz2 rfl (by decide) (World.ownsRow.alloc hown _) hs ⟨W.heap.size, 0, none⟩ 1 1 (ints [y]) hx rfl (fun j u hj => one_at W _ tt hj) (ints_one _) (by decide) (by unfold maxLen; omega) (by omega) (by simp; omega) ?_
  intro v' w' hown' hg hw
  obtain ⟨A', c', rfl, _, _⟩ := sl_of_own hown'
  exact h A' c' w' (by unfold OwnI; rw [List.length_append, ← ints_app]; exact hown') (grew_of hown hbase hg (by simpa using hw))
theorem wpList_pushB (hgd : o.guard = none) (s x : Operand) (ho : o.op = .call { callee := .builtin .append, args := #[s, x], argTypes := #[30, 30] })
    {base : Nat} {v : Value} {pre : List Bool} (hown : OwnB W base v pre) (y : Bool) (tt : TypeId) (hs : a.eval s = v) (hx : a.eval x = .slice (some ⟨W.heap.size, 0, none⟩) 1 1)
    (hn : pre.length ≤ 1000000) (hbase : base ≤ W.heap.size)
    (h : ∀ A' c' w', OwnB w' base (.slice A' (pre.length + 1) c') (pre ++ [y]) → Grew W w' base v (.slice A' (pre.length + 1) c') → wpList Tryz.prog ops Q rest (a.put o.dst (.slice A' (pre.length + 1) c')) w') :
    wpList Tryz.prog ops Q (o :: rest) a (W.alloc (.cells #[.bool y] tt)) := by
  obtain ⟨i0, hI, hz0, hz1, hz2⟩ := info_parts info_bool'
  refine wpList_append_mine hgd s x 30 ho 4 i0 (.bool false) 1 1 Tryz.underlying30 hI hz0 hz1 hz2 rfl (by decide) (World.ownsRow.alloc hown _) hs ⟨W.heap.size, 0, none⟩ 1 1 (bools [y]) hx rfl (fun j u hj => one_at W _ tt hj) (bools_one _) (by decide) (by unfold maxLen; omega) (by omega) (by simp; omega) ?_
  intro v' w' hown' hg hw
  obtain ⟨A', c', rfl, _, _⟩ := sl_of_own hown'
  exact h A' c' w' (by unfold OwnB; rw [List.length_append, ← bools_app]; exact hown') (grew_of hown hbase hg (by simpa using hw))
end

/-- A list that is not empty, and one shorter at its end. -/
theorem OwnI.open {w : World} {base : Nat} {v : Value} {xs : List Int} (h : OwnI w base v xs) (hn : 0 < xs.length) : ∃ (g cap : Nat), v = .slice (some ⟨g, 0, none⟩) xs.length cap ∧ xs.length ≤ cap ∧ cap ≤ maxLen ∧ g < w.heap.size ∧ (∀ j, j < xs.length → w.cell? ⟨g, j, none⟩ = some (.int .i64 (ix xs j))) ∧
    ∀ m, m ≤ xs.length → OwnI w base (.slice (some ⟨g, 0, none⟩) m cap) (xs.take m) := by
  have h0 := h
  rcases h.2 with ⟨rfl, e⟩ | ⟨g, cap, cur, rfl, hb, hg, hnc, hm, hcs, ht⟩
  · omega
  · refine ⟨g, cap, rfl, hnc, hm, (World.ownsRow.lt h0 g rfl).2, fun j hj => ?_, fun m hml => ?_⟩
    · rw [World.ownsRow.cellAt h0 j (by omega), ints_get hj]
    · have e1 : (xs.take m).length = m := by rw [List.length_take]; omega
      unfold OwnI World.ownsRow
      rw [e1]
      refine ⟨by simp [ints]; omega, .inr ⟨g, cap, cur, rfl, hb, hg, by omega, hm, hcs, ?_⟩⟩
      rw [Nat.mul_one] at ht ⊢
      have e2 : cur.toList.take m = (cur.toList.take xs.length).take m := by rw [List.take_take, Nat.min_eq_left hml]
      rw [e2, ht]
      simp [ints]
theorem OwnI.lit (W : World) (g base : Nat) (x : Int) (hg : g = W.heap.size) (hb : base ≤ g) : OwnI (W.alloc (.cells #[.int .i64 x] 3)) base (.slice (some ⟨g, 0, none⟩) 1 1) [x] := by
  subst hg; exact World.ownsRow_lit W #[.int .i64 x] 1 hb (by unfold maxLen; omega) rfl
end Go.Proofs.YtljloicgjgbplaaGreat
/- Walks: copies of lists and of a tree. Conditions: the lists have at most 1000 elements; the tree is not great. -/
namespace Go.Proofs.YtljloicgjgbplaaGreat
open Go.RowKit

def MadeIntRow (w : World) (n : Nat) (xs : List Int) (e : Ending) (w' : World) : Prop :=
  ∃ (A : Option Addr) (c : Nat), e = .returned (.slice A n c) ∧ w'.ownsRow w.heap.size 3 1 (.slice A n c) n (ints xs) ∧ Below w.heap.size w w'
theorem own_slice {w : World} {base size n : Nat} {e : TypeId} {v : Value} {xs : List Value} (h : w.ownsRow base e size v n xs) : ∃ A c, v = .slice A n c := by
  rcases h.2 with ⟨rfl, rfl⟩ | ⟨g, cap, cur, rfl, _⟩
  · exact ⟨none, 0, rfl⟩
  · exact ⟨_, _, rfl⟩

theorem cloneInts_ok (A : Option Addr) (n c : Nat) (xs : List Int) (w : World) (h : IsInts w A n xs) (hn : n ≤ 1000) :
    Calls Tryz.prog 131 #[.slice A n c] w (MadeIntRow w n xs) := by
  obtain ⟨i0, hI, hz0, hz1, hz2⟩ := info_parts info_int
  have he := fun W => Lib.run_eql_slice_nil (P := Tryz.prog) W 51 3 A n c 0 0 Tryz.underlying51
  have hi := hide h
  clear h
  cases A with
  | none =>
    obtain rfl := ints_none hi.out rfl
    go_enter Tryz.func131, Tryz.ntmps131
    go_wp2
    go_ret
    obtain rfl : xs = [] := List.eq_nil_of_length_eq_zero hi.out.1
    exact ⟨none, 0, rfl, World.ownsRow_nil _ _ _ _, Below.refl _ _⟩
  | some ad =>
    have hlen : (ints xs).length = n * 1 := by simp [ints, hi.out.1]
    have hlen' := hide hlen
    clear hlen
    go_enter Tryz.func131, Tryz.ntmps131
    go_wp2_with (at_builtin; refine wpList_append_from rfl _ _ 51 rfl w.heap.size 3 i0 (.int .i64 0) 1 8 Tryz.underlying51 hI hz0 hz1 hz2 rfl (by decide) _ _ _ rfl (World.ownsRow_lit w #[] 0 (Nat.le_refl _) (Nat.zero_le _) rfl) (some ad) n c (ints xs) rfl ?c0 ?c1 ?c2 ?c3 ?c4 ?c5 ?c6 ?_)
    case c0 => exact hlen'.out
    case c1 => exact fun h => by cases h
    case c2 => exact ints_at (hi.out.below (below_alloc (Below.refl _ _) _))
    case c3 => exact ints_one _
    case c4 => unfold maxLen; omega
    case c5 => omega
    case c6 => simp
    · intro v' w1 hown' hgrow
      have hown2 : w1.ownsRow w.heap.size 3 1 v' n (ints xs) := by simpa using hown'
      obtain ⟨A', c', rfl⟩ := own_slice hown2
      have hb := (below_alloc (Below.refl w.heap.size w) (.cells #[] 3)).grown hgrow (by simp) (fun k hk => by simp [Value.ownBlock] at hk; omega)
      clear hown' hgrow
      go_wp2
      go_ret
      exact ⟨A', c', rfl, hown2, hb⟩

theorem blk_set {w : World} {g : Nat} {t : TypeId} {cs : Array Value} (h : w.heap[g]? = some (.cells cs t (0, 0))) (i : Nat) (u : Value) : (w.setCell ⟨g, i, none⟩ u).heap[g]? = some (.cells (cs.setIfInBounds i u) t (0, 0)) := by
  simp [World.setCell, Array.getElem?_modify, h]
theorem blk_cell {w : World} {g : Nat} {t : TypeId} {cs : Array Value} (h : w.heap[g]? = some (.cells cs t (0, 0))) (i : Nat) : w.cell? ⟨g, i, none⟩ = cs[i]? := cell_of_row w g i cs t (0, 0) h
theorem blk_frozen {w : World} {g : Nat} {t : TypeId} {cs : Array Value} (h : w.heap[g]? = some (.cells cs t (0, 0))) (i : Nat) : w.frozen? ⟨g, i, none⟩ = false := by
  simp [World.frozen?, h]
theorem blk_alloc {w : World} {g : Nat} {t : TypeId} {cs : Array Value} (h : w.heap[g]? = some (.cells cs t (0, 0))) (o : Obj) : (w.alloc o).heap[g]? = some (.cells cs t (0, 0)) := by
  have hlt : g < w.heap.size := by
    rcases Nat.lt_or_ge g w.heap.size with h1 | h1
    · exact h1
    · rw [Array.getElem?_eq_none h1] at h; cases h
  rw [Below.heap_alloc _ _ _ hlt]; exact h
theorem blk_far {w : World} {g : Nat} {t : TypeId} {cs : Array Value} (h : w.heap[g]? = some (.cells cs t (0, 0))) {p : Addr} (hp : g ≠ p.block) (u : Value) : (w.setCell p u).heap[g]? = some (.cells cs t (0, 0)) := by
  rw [Below.heap_setCell _ _ _ _ hp]; exact h
theorem blk_new (w : World) (cs : Array Value) (t : TypeId) : (w.alloc (.cells cs t)).heap[w.heap.size]? = some (.cells cs t (0, 0)) := heap_alloc_new w _
theorem blk_at (w : World) (cs : Array Value) (t : TypeId) (g : Nat) (hg : g = w.heap.size) : (w.alloc (.cells cs t)).heap[g]? = some (.cells cs t (0, 0)) := by subst hg; exact blk_new w cs t
theorem OwnTree.set {w : World} {base k : Nat} {v : Value} {T : List ANode} (h : OwnTree w base v k T) {p : Addr} (hp : p.block < base) (u : Value) : OwnTree (w.setCell p u) base v k T := by
  obtain ⟨aA, cA, aC, cC, h1, h2, h3, h4, h5⟩ := h
  exact ⟨aA, cA, aC, cC, ownsRow_setCell_below h1 hp u, fun j hj => ownsRow_setCell_below (h2 j hj) hp u, fun j hj => ownsRow_setCell_below (h3 j hj) hp u, h4, h5⟩
theorem blk_lt {w : World} {g : Nat} {t : TypeId} {cs : Array Value} (h : w.heap[g]? = some (.cells cs t (0, 0))) : g < w.heap.size := by
  rcases Nat.lt_or_ge g w.heap.size with h1 | h1
  · exact h1
  · rw [Array.getElem?_eq_none h1] at h; cases h

end Go.Proofs.YtljloicgjgbplaaGreat
/- Lists of texts on memory: what lies somewhere, what the call has made, append of one. Condition: the list has at most a million elements. -/
namespace Go.Proofs.YtljloicgjgbplaaGreat
open Go.RowKit

theorem info_str : (Tryz.prog.info? 9).map (fun i => (i.zero, i.size, i.bytes)) = some (some (.string .empty), 1, 16) := by kernel_rfl
def sx (xs : List ByteArray) (j : Nat) : ByteArray := xs.getD j .empty
def strs (xs : List ByteArray) : List Value := xs.map Value.string
theorem strs_one (xs : List ByteArray) : ∀ u ∈ strs xs, u.oneCell' = true := by
  intro u hu
  obtain ⟨x, _, rfl⟩ := List.mem_map.1 hu
  rfl
theorem strs_app (xs ys : List ByteArray) : strs xs ++ strs ys = strs (xs ++ ys) := by simp [strs]
theorem strs_get {xs : List ByteArray} {j : Nat} (h : j < xs.length) : (strs xs)[j]? = some (.string (sx xs j)) := by
  simp [strs, sx, List.getD_eq_getElem?_getD, List.getElem?_eq_getElem h]
theorem sx_get {xs : List ByteArray} {j : Nat} (h : j < xs.length) : sx xs j = xs[j] := by
  unfold sx
  rw [List.getD_eq_getElem?_getD, List.getElem?_eq_getElem h]
  rfl
def IsStrs (w : World) (A : Option Addr) (n : Nat) (xs : List ByteArray) : Prop :=
  xs.length = n ∧ n ≤ 9223372036854775807 ∧ (0 < n → ∃ b off, A = some ⟨b, off, none⟩ ∧ b < w.heap.size ∧ ∀ j, j < n → w.cell? ⟨b, off + j, none⟩ = some (.string (sx xs j)))
theorem IsStrs.below {w w' : World} {A : Option Addr} {n : Nat} {xs : List ByteArray} (h : IsStrs w A n xs) (hb : Below w.heap.size w w') : IsStrs w' A n xs := by
  obtain ⟨h1, h2, h3⟩ := h
  refine ⟨h1, h2, fun hn => ?_⟩
  obtain ⟨b, off, ha, hbl, hc⟩ := h3 hn
  exact ⟨b, off, ha, Nat.lt_of_lt_of_le hbl hb.size, fun j hj => (old hb _ _ hbl).trans (hc j hj)⟩
def OwnS (w : World) (base : Nat) (v : Value) (xs : List ByteArray) : Prop := w.ownsRow base 9 1 v xs.length (strs xs)
theorem OwnS.nil (w : World) (base : Nat) : OwnS w base (.slice none 0 0) [] := World.ownsRow_nil _ _ _ _
theorem OwnS.below {w w' : World} {base : Nat} {v : Value} {xs : List ByteArray} (h : OwnS w base v xs) (hb : Below w.heap.size w w') : OwnS w' base v xs := own_below h hb
theorem OwnS.base {w : World} {base base' : Nat} {v : Value} {xs : List ByteArray} (h : OwnS w base' v xs) (hb : base ≤ base') : OwnS w base v xs := own_base h hb
theorem OwnS.isStrs {w : World} {base : Nat} {v : Value} {xs : List ByteArray} (h : OwnS w base v xs) (hn : xs.length ≤ 1000000) : ∃ A c, v = .slice A xs.length c ∧ xs.length ≤ c ∧ c ≤ maxLen ∧ IsStrs w A xs.length xs := by
  obtain ⟨A, c, rfl, h1, h2⟩ := sl_of_own h
  refine ⟨A, c, rfl, h1, h2, rfl, by omega, fun hh => ?_⟩
  rcases h.2 with ⟨e1, e2⟩ | ⟨g, cap, cur, e1, hb, hg, hnc, hm, hcs, ht⟩
  · omega
  · injection e1 with e1 _ _
    subst e1
    refine ⟨g, 0, rfl, (World.ownsRow.lt h g rfl).2, fun j hj => ?_⟩
    rw [Nat.zero_add, World.ownsRow.cellAt h j (by omega), strs_get hj]
section
variable {W : World} {ops : Array Oper} {rest : List Oper} {o : Oper} {a : Act} {Q : Exit → Act → World → Prop}
theorem wpList_pushS (hgd : o.guard = none) (s x : Operand) (ho : o.op = .call { callee := .builtin .append, args := #[s, x], argTypes := #[135, 135] })
    {base : Nat} {v : Value} {pre : List ByteArray} (hown : OwnS W base v pre) (y : ByteArray) (tt : TypeId) (hs : a.eval s = v) (hx : a.eval x = .slice (some ⟨W.heap.size, 0, none⟩) 1 1)
    (hn : pre.length ≤ 1000000) (hbase : base ≤ W.heap.size)
    (h : ∀ A' c' w', OwnS w' base (.slice A' (pre.length + 1) c') (pre ++ [y]) → Grew W w' base v (.slice A' (pre.length + 1) c') → wpList Tryz.prog ops Q rest (a.put o.dst (.slice A' (pre.length + 1) c')) w') :
    wpList Tryz.prog ops Q (o :: rest) a (W.alloc (.cells #[.string y] tt)) := by
  obtain ⟨i0, hI, hz0, hz1, hz2⟩ := info_parts info_str
  refine wpList_append_mine hgd s x 135 ho 9 i0 (.string .empty) 1 16 Tryz.underlying135 hI hz0 hz1 hz2 rfl (by decide) (World.ownsRow.alloc hown _) hs ⟨W.heap.size, 0, none⟩ 1 1 (strs [y]) hx rfl (fun j u hj => one_at W _ tt hj) (strs_one _) (by decide) (by unfold maxLen; omega) (by omega) (by simp; omega) ?_
  intro v' w' hown' hg hw
  obtain ⟨A', c', rfl, _, _⟩ := sl_of_own hown'
  exact h A' c' w' (by unfold OwnS; rw [List.length_append, ← strs_app]; exact hown') (grew_of hown hbase hg (by simpa using hw))
end
end Go.Proofs.YtljloicgjgbplaaGreat
