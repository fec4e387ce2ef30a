/- Words on memory that a call has made: a row of attributes, a whole tree. No condition. -/
import Derived.Test.YtfiiikbbiimdiaaWg
namespace Go.Proofs.Ytfiiikbbiimdiaa
open Go.RowKit

theorem info_attr : (Try.prog.info? 83).map (fun i => (i.zero, i.size, i.bytes)) = some (some (.agg #[.string .empty, .string .empty]), 2, 32) := by kernel_rfl
theorem info_node : (Try.prog.info? 61).map (fun i => (i.zero, i.size, i.bytes)) = some (some (.agg #[.string .empty, .slice none 0 0, .int .i64 0, .slice none 0 0]), 4, 72) := by kernel_rfl

def atts (l : List (ByteArray × ByteArray)) : List Value := l.flatMap fun x => [.string x.1, .string x.2]
theorem atts_len (l : List (ByteArray × ByteArray)) : (atts l).length = l.length * 2 := by
  induction l with
  | nil => rfl
  | cons x l ih => simp only [atts, List.flatMap_cons, List.length_append, List.length_cons, List.length_nil] at ih ⊢; omega
theorem atts_app (l m : List (ByteArray × ByteArray)) : atts l ++ atts m = atts (l ++ m) := by simp [atts]
theorem atts_one (l : List (ByteArray × ByteArray)) : ∀ u ∈ atts l, u.oneCell' = true := by
  intro u hu
  obtain ⟨x, _, h⟩ := List.mem_flatMap.1 hu
  simp at h
  rcases h with rfl | rfl <;> rfl
theorem atts_get (l : List (ByteArray × ByteArray)) : ∀ j, j < l.length → (atts l)[j * 2]? = some (.string (nm l j)) ∧ (atts l)[j * 2 + 1]? = some (.string (vl l j)) := by
  induction l with
  | nil => intro j hj; simp at hj
  | cons x l ih =>
    intro j hj
    cases j with
    | zero => simp [atts, nm, vl]
    | succ j =>
      have := ih j (by simpa using hj)
      rw [show (j + 1) * 2 = j * 2 + 2 by omega]
      simpa [atts, nm, vl] using this

theorem isAttrs_of_own {w : World} {base n : Nat} {v : Value} {xs : List (ByteArray × ByteArray)} (h : w.ownsRow base 83 2 v n (atts xs)) (hn : n ≤ 4611686018427387903)
    (hs : ∀ x ∈ xs, x.1.size ≤ 9223372036854775807 ∧ x.2.size ≤ 9223372036854775807) :
    ∃ A c, v = .slice A n c ∧ n ≤ c ∧ c ≤ maxLen ∧ IsAttrs w A n xs := by
  have hl : xs.length = n := by have := h.1; rw [atts_len] at this; omega
  have h0 := h
  rcases h.2 with ⟨rfl, rfl⟩ | ⟨g, cap, cur, rfl, hb, hg, hnc, hm, hcs, ht⟩
  · exact ⟨none, 0, rfl, Nat.le_refl _, by unfold maxLen; omega, hl, by omega, hs, fun hh => absurd hh (by omega)⟩
  · refine ⟨_, _, rfl, hnc, hm, hl, by omega, hs, fun hh => ⟨g, 0, rfl, (h.lt g rfl).2, fun j hj => ?_, fun j hj => ?_⟩⟩
    · rw [Nat.zero_add, h0.cellAt (j * 2) (by omega), (atts_get xs j (by omega)).1]
    · rw [Nat.zero_add, h0.cellAt (j * 2 + 1) (by omega), (atts_get xs j (by omega)).2]

section
variable {P : Program} {w : World}
theorem run_append_nil (base : Nat) (t ty e : TypeId) (i : TypeInfo) (size : Nat) (ht : P.underlying t = some (.slice e)) (hi : P.info? e = some i)
    (v : Value) (n : Nat) (xs : List Value) (hown : w.ownsRow base e size v n xs) (c : Nat) : (Builtin.append_ #[t, t] ty #[v, .slice none 0 c]).run P w = .ok v w := by
  rcases hown.2 with ⟨rfl, rfl⟩ | ⟨g, cap, cur, rfl, _, _, hnc, _⟩
  · simp [Builtin.append_, run_underlying ht, sizeOf, typeInfo, hi, Builtin.lenOf, Builtin.firstCells]
  · simp [Builtin.append_, run_underlying ht, sizeOf, typeInfo, hi, Builtin.lenOf, Builtin.firstCells, hnc, storeCells]

/-- append onto a row of the call's own, whatever the source is: nil, or cells that lie somewhere. -/
theorem wpList_append_from {ops : Array Oper} {rest : List Oper} {o : Oper} {a : Act} {Q : Exit → Act → World → Prop} (hgd : o.guard = none) (s x : Operand) (t : TypeId)
    (ho : o.op = .call { callee := .builtin .append, args := #[s, x], argTypes := #[t, t] })
    (base : Nat) (e : TypeId) (i : TypeInfo) (z : Value) (size bytes : Nat) (ht : P.underlying t = some (.slice e)) (hi : P.info? e = some i) (hz : i.zero = some z)
    (hsize : i.size = size) (hby : i.bytes = bytes) (hzs : z.cells.size = size) (hsz : 0 < size)
    (v : Value) (n : Nat) (xs : List Value) (hs : a.eval s = v) (hown : w.ownsRow base e size v n xs)
    (A : Option Addr) (m c : Nat) (news : List Value) (hx : a.eval x = .slice A m c) (hl : news.length = m * size) (hnone : A = none → m = 0) (hnews : ∀ ad, A = some ad → ∀ j u, news[j]? = some u → w.cell? (ad.add j) = some u) (h1 : ∀ u ∈ news, u.oneCell' = true)
    (h63 : n + m ≤ maxLen) (hbytes : (n + m) * bytes ≤ 140737488355328) (hbase : base ≤ w.heap.size)
    (h : ∀ v' w', w'.ownsRow base e size v' (n + m) (xs ++ news) → w.grownBy w' v.ownBlock → wpList P ops Q rest (a.put o.dst v') w') : wpList P ops Q (o :: rest) a w := by
  cases A with
  | some ad => exact wpList_append_own w hgd s x t ho base e i z size bytes ht hi hz hsize hby hzs hsz v n xs hs hown ad m c news hx hl (hnews ad rfl) h1 h63 hbytes hbase fun v' w' q1 q2 _ => h v' w' q1 q2
  | none =>
    obtain rfl := hnone rfl
    have hn : news = [] := List.eq_nil_of_length_eq_zero (by simpa using hl)
    subst hn
    refine wpList_plain hgd fun K hK => ?_
    have hrun := run_append_nil (P := P) (w := w) base t o.type e i size ht hi v n xs hown c
    unfold Oper.wp
    simp [execOp, ho, resolve, invoke, builtin, hs, hx, hrun, Result.andThen]
    exact hK _ _ (h v w (by simpa using hown) (World.grownBy.refl w _))
end

/-- The cells of a list of numbers that lies somewhere, as append asks for them. -/
theorem ints_at {w : World} {A : Option Addr} {n : Nat} {xs : List Int} (h : IsInts w A n xs) : ∀ ad, A = some ad → ∀ j u, (ints xs)[j]? = some u → w.cell? (ad.add j) = some u := by
  intro ad ha j u hj
  have hjl : j < xs.length := by
    rcases Nat.lt_or_ge j xs.length with h | h
    · exact h
    · rw [List.getElem?_eq_none (by simpa [ints] using h)] at hj; cases hj
  rw [ints_get hjl] at hj
  simp only [Option.some.injEq] at hj
  subst hj
  have hl := h.1
  obtain ⟨b, off, hA, hb, hc⟩ := h.2.2 (by omega)
  rw [hA] at ha
  injection ha with ha
  subst ha
  have := hc j (by omega)
  unfold Addr.add
  split
  · rename_i h0; subst h0; simpa using this
  · exact this
theorem ints_none {w : World} {A : Option Addr} {n : Nat} {xs : List Int} (h : IsInts w A n xs) (ha : A = none) : n = 0 := by
  rcases Nat.eq_zero_or_pos n with h0 | h0
  · exact h0
  · obtain ⟨b, off, hA, _⟩ := h.2.2 h0
    rw [ha] at hA; cases hA
theorem attrs_none {w : World} {A : Option Addr} {n : Nat} {xs : List (ByteArray × ByteArray)} (h : IsAttrs w A n xs) (ha : A = none) : n = 0 := by
  rcases Nat.eq_zero_or_pos n with h0 | h0
  · exact h0
  · obtain ⟨b, off, hA, _⟩ := h.2.2.2 h0
    rw [ha] at hA; cases hA
theorem attrs_at {w : World} {A : Option Addr} {n : Nat} {xs : List (ByteArray × ByteArray)} (h : IsAttrs w A n xs) : ∀ ad, A = some ad → ∀ j u, (atts xs)[j]? = some u → w.cell? (ad.add j) = some u := by
  intro ad ha j u hj
  have hjl : j < xs.length * 2 := by
    rcases Nat.lt_or_ge j (xs.length * 2) with h | h
    · exact h
    · rw [List.getElem?_eq_none (by rw [atts_len]; exact h)] at hj; cases hj
  have hl := h.1
  obtain ⟨b, off, hA, hb, hc, hd⟩ := h.2.2.2 (by omega)
  rw [hA] at ha
  injection ha with ha
  subst ha
  have hq : w.cell? ⟨b, off + j, none⟩ = some u := by
    rcases Nat.mod_two_eq_zero_or_one j with h2 | h2
    · obtain ⟨q, rfl⟩ : ∃ q, j = q * 2 := ⟨j / 2, by omega⟩
      rw [(atts_get xs q (by omega)).1] at hj
      simp only [Option.some.injEq] at hj
      subst hj
      exact hc q (by omega)
    · obtain ⟨q, rfl⟩ : ∃ q, j = q * 2 + 1 := ⟨j / 2, by omega⟩
      rw [(atts_get xs q (by omega)).2] at hj
      simp only [Option.some.injEq] at hj
      subst hj
      have := hd q (by omega)
      rwa [Nat.add_assoc] at this
  unfold Addr.add
  split
  · rename_i h0; subst h0; simpa using hq
  · exact hq

/-! ## A tree of the call's own -/
def node4 (T : List ANode) (aA cA : Nat → Option Addr) (aC cC : Nat → Nat) (j : Nat) : List Value :=
  [.string (nd T j).tag, .slice (aA j) (nd T j).attrs.length (aC j), .int .i64 (par T j), .slice (cA j) (kids T j).length (cC j)]
def nodes4 (T : List ANode) (aA cA : Nat → Option Addr) (aC cC : Nat → Nat) (k : Nat) : List Value := (List.range k).flatMap (node4 T aA cA aC cC)
theorem nodes4_succ (T : List ANode) (aA cA : Nat → Option Addr) (aC cC : Nat → Nat) (k : Nat) : nodes4 T aA cA aC cC (k + 1) = nodes4 T aA cA aC cC k ++ node4 T aA cA aC cC k := by
  simp [nodes4, List.range_succ]
theorem nodes4_len (T : List ANode) (aA cA : Nat → Option Addr) (aC cC : Nat → Nat) (k : Nat) : (nodes4 T aA cA aC cC k).length = k * 4 := by
  induction k with
  | zero => rfl
  | succ k ih => rw [nodes4_succ, List.length_append, ih]; simp [node4]; omega
theorem nodes4_congr {T T' : List ANode} {aA cA aA' cA' : Nat → Option Addr} {aC cC aC' cC' : Nat → Nat} {k : Nat} (h : ∀ j, j < k → node4 T aA cA aC cC j = node4 T' aA' cA' aC' cC' j) : nodes4 T aA cA aC cC k = nodes4 T' aA' cA' aC' cC' k := by
  induction k with
  | zero => rfl
  | succ k ih => rw [nodes4_succ, nodes4_succ, ih fun j hj => h j (by omega), h k (by omega)]
theorem nodes4_get (T : List ANode) (aA cA : Nat → Option Addr) (aC cC : Nat → Nat) {k j : Nat} (hj : j < k) (q : Nat) (hq : q < 4) : (nodes4 T aA cA aC cC k)[j * 4 + q]? = (node4 T aA cA aC cC j)[q]? := by
  induction k with
  | zero => omega
  | succ k ih =>
    rw [nodes4_succ]
    by_cases h : j < k
    · rw [List.getElem?_append_left (by rw [nodes4_len]; omega), ih h]
    · obtain rfl : j = k := by omega
      rw [List.getElem?_append_right (by rw [nodes4_len]; omega), nodes4_len]
      congr 1; omega

/-- The row of k nodes, each one's attributes and children, all made by the call from block 'base' on; no two share a row. -/
def OwnTree (w : World) (base : Nat) (v : Value) (k : Nat) (T : List ANode) : Prop :=
  ∃ (aA cA : Nat → Option Addr) (aC cC : Nat → Nat), w.ownsRow base 61 4 v k (nodes4 T aA cA aC cC k) ∧
    (∀ j, j < k → w.ownsRow base 83 2 (.slice (aA j) (nd T j).attrs.length (aC j)) (nd T j).attrs.length (atts (nd T j).attrs)) ∧
    (∀ j, j < k → w.ownsRow base 3 1 (.slice (cA j) (kids T j).length (cC j)) (kids T j).length (ints (kids T j))) ∧
    (∀ i j, i < j → j < k → ∀ g, (aA i).map (·.block) = some g → (aA j).map (·.block) ≠ some g) ∧
    (∀ i j, i < j → j < k → ∀ g, (cA i).map (·.block) = some g → (cA j).map (·.block) ≠ some g)

theorem ownBlock_slice (A : Option Addr) (n c : Nat) : (Value.slice A n c).ownBlock = A.map (·.block) := by cases A <;> rfl

theorem own_ne {w : World} {base base' size size' n n' : Nat} {e e' : TypeId} {v v' : Value} {xs xs' : List Value} (h : w.ownsRow base e size v n xs) (h' : w.ownsRow base' e' size' v' n' xs') (hne : e ≠ e') : v.ownBlock = none ∨ v.ownBlock ≠ v'.ownBlock := by
  rcases h.2 with ⟨rfl, _⟩ | ⟨g, cap, cur, rfl, _, hg, _⟩
  · exact .inl rfl
  · refine .inr fun he => ?_
    rcases h'.2 with ⟨rfl, _⟩ | ⟨g', cap', cur', rfl, _, hg', _⟩
    · simp [Value.ownBlock] at he
    · simp [Value.ownBlock] at he
      subst he
      rw [hg] at hg'
      injection hg' with hg'
      injection hg' with _ h2
      exact hne h2

theorem ownTree_nil (w : World) (base : Nat) (T : List ANode) : OwnTree w base (.slice none 0 0) 0 T :=
  ⟨fun _ => none, fun _ => none, fun _ => 0, fun _ => 0, World.ownsRow_nil _ _ _ _, fun _ h => absurd h (by omega), fun _ h => absurd h (by omega), fun _ _ _ h => absurd h (by omega), fun _ _ _ h => absurd h (by omega)⟩

theorem OwnTree.below {w w' : World} {base k : Nat} {v : Value} {T : List ANode} (h : OwnTree w base v k T) (hb : Below w.heap.size w w') : OwnTree w' base v k T := by
  obtain ⟨aA, cA, aC, cC, h1, h2, h3, h4, h5⟩ := h
  exact ⟨aA, cA, aC, cC, own_below h1 hb, fun j hj => own_below (h2 j hj) hb, fun j hj => own_below (h3 j hj) hb, h4, h5⟩

theorem OwnTree.base {w : World} {base base' k : Nat} {v : Value} {T : List ANode} (h : OwnTree w base' v k T) (hb : base ≤ base') : OwnTree w base v k T := by
  obtain ⟨aA, cA, aC, cC, h1, h2, h3, h4, h5⟩ := h
  exact ⟨aA, cA, aC, cC, own_base h1 hb, fun j hj => own_base (h2 j hj) hb, fun j hj => own_base (h3 j hj) hb, h4, h5⟩

theorem OwnTree.congr {w : World} {base k : Nat} {v : Value} {T T' : List ANode} (h : OwnTree w base v k T) (he : ∀ j, j < k → nd T j = nd T' j) : OwnTree w base v k T' := by
  obtain ⟨aA, cA, aC, cC, h1, h2, h3, h4, h5⟩ := h
  refine ⟨aA, cA, aC, cC, ?_, fun j hj => by rw [← he j hj]; exact h2 j hj, fun j hj => ?_, h4, h5⟩
  · have e := nodes4_congr (T := T) (T' := T') (aA := aA) (cA := cA) (aC := aC) (cC := cC) (aA' := aA) (cA' := cA) (aC' := aC) (cC' := cC) (k := k) fun j hj => by simp only [node4, par, kids, he j hj]
    rw [← e]; exact h1
  · have := h3 j hj; simp only [kids, he j hj] at this; exact this

/-- One node more is appended. ws: the world in which the tree stood; w: the world just before the append, in which the new node's rows have been made; w1: behind it. -/
theorem OwnTree.push {ws w w1 : World} {base k : Nat} {v v' : Value} {T T' : List ANode} {A1 A3 : Option Addr} {c1 c3 : Nat} (h : OwnTree ws base v k T) (hbase : base ≤ ws.heap.size) (hb : Below ws.heap.size ws w)
    (he : ∀ j, j < k → nd T j = nd T' j)
    (hA : w.ownsRow ws.heap.size 83 2 (.slice A1 (nd T' k).attrs.length c1) (nd T' k).attrs.length (atts (nd T' k).attrs))
    (hK : w.ownsRow ws.heap.size 3 1 (.slice A3 (kids T' k).length c3) (kids T' k).length (ints (kids T' k)))
    (hown : ∀ xs, ws.ownsRow base 61 4 v k xs → w1.ownsRow base 61 4 v' (k + 1) (xs ++ [.string (nd T' k).tag, .slice A1 (nd T' k).attrs.length c1, .int .i64 (par T' k), .slice A3 (kids T' k).length c3]))
    (hg : w.grownBy w1 v.ownBlock) : OwnTree w1 base v' (k + 1) T' := by
  obtain ⟨aA, cA, aC, cC, h1, h2, h3, h4, h5⟩ := h.congr he
  have hrow := own_below h1 hb
  refine ⟨fun j => if j = k then A1 else aA j, fun j => if j = k then A3 else cA j, fun j => if j = k then c1 else aC j, fun j => if j = k then c3 else cC j, ?_, fun j hj => ?_, fun j hj => ?_, fun i j hij hj g hgi => ?_, fun i j hij hj g hgi => ?_⟩
  · rw [nodes4_succ]
    have e1 : nodes4 T' (fun j => if j = k then A1 else aA j) (fun j => if j = k then A3 else cA j) (fun j => if j = k then c1 else aC j) (fun j => if j = k then c3 else cC j) k = nodes4 T' aA cA aC cC k :=
      nodes4_congr fun j hj => by simp only [node4]; rw [if_neg (by omega), if_neg (by omega), if_neg (by omega), if_neg (by omega)]
    rw [e1]
    have := hown _ h1
    simpa [node4] using this
  · by_cases hjk : j = k
    · subst hjk
      simp only [if_pos]
      exact (own_base hA hbase).kept hg (own_ne hA hrow (by decide))
    · simp only [if_neg hjk]
      have h6 := own_below (h2 j (by omega)) hb
      exact h6.kept hg (own_ne h6 hrow (by decide))
  · by_cases hjk : j = k
    · subst hjk
      simp only [if_pos]
      exact (own_base hK hbase).kept hg (own_ne hK hrow (by decide))
    · simp only [if_neg hjk]
      have h6 := own_below (h3 j (by omega)) hb
      exact h6.kept hg (own_ne h6 hrow (by decide))
  · have hik : ¬ i = k := by omega
    simp only [if_neg hik] at hgi
    by_cases hjk : j = k
    · subst hjk
      simp only [if_pos]
      intro hgj
      have l1 := (h2 i hij).lt g ((ownBlock_slice _ _ _).trans hgi)
      have l2 := hA.lt g ((ownBlock_slice _ _ _).trans hgj)
      omega
    · simp only [if_neg hjk]
      exact h4 i j hij (by omega) g hgi
  · have hik : ¬ i = k := by omega
    simp only [if_neg hik] at hgi
    by_cases hjk : j = k
    · subst hjk
      simp only [if_pos]
      intro hgj
      have l1 := (h3 i hij).lt g ((ownBlock_slice _ _ _).trans hgi)
      have l2 := hK.lt g ((ownBlock_slice _ _ _).trans hgj)
      omega
    · simp only [if_neg hjk]
      exact h5 i j hij (by omega) g hgi

/-- What a tree holds fits in memory. -/
def Fits (T : List ANode) : Prop := ∀ x ∈ T, x.tag.size ≤ 9223372036854775807 ∧ x.attrs.length ≤ 70 ∧ x.children.length ≤ 70 ∧ ∀ y ∈ x.attrs, y.1.size ≤ 9223372036854775807 ∧ y.2.size ≤ 9223372036854775807

theorem isTree_of_own {w : World} {base n : Nat} {v : Value} {T : List ANode} (h : OwnTree w base v n T) (hl : T.length = n) (hn : n ≤ 100) (hf : Fits T) : ∃ A c, v = .slice A n c ∧ n ≤ c ∧ c ≤ maxLen ∧ IsTree w A n T := by
  obtain ⟨aA, cA, aC, cC, h1, h2, h3, h4, h5⟩ := h
  have h0 := h1
  have hnd : ∀ j, j < n → nd T j ∈ T := fun j hj => by unfold nd; rw [List.getD_eq_getElem?_getD, List.getElem?_eq_getElem (by omega)]; exact List.getElem_mem _
  rcases h1.2 with ⟨rfl, rfl⟩ | ⟨g, cap, cur, rfl, hb, hg, hnc, hm, hcs, ht⟩
  · exact ⟨none, 0, rfl, Nat.le_refl _, by unfold maxLen; omega, hl, by omega, fun x hx => (hf x hx).1, fun hh => absurd hh (by omega)⟩
  · refine ⟨_, _, rfl, hnc, hm, hl, by omega, fun x hx => (hf x hx).1, fun hh => ⟨g, 0, aA, cA, aC, cC, rfl, (h1.lt g rfl).2, fun j hj => ?_, fun j hj => ?_, fun j hj => ?_, fun j hj => ?_, fun j hj => ?_, fun j hj => ?_⟩⟩
    · have := nodes4_get T aA cA aC cC hj 0 (by omega)
      rw [Nat.zero_add, h0.cellAt (j * 4) (by omega)]; simpa [node4] using this
    · rw [Nat.zero_add, h0.cellAt (j * 4 + 1) (by omega), nodes4_get T aA cA aC cC hj 1 (by omega)]; rfl
    · rw [Nat.zero_add, h0.cellAt (j * 4 + 2) (by omega), nodes4_get T aA cA aC cC hj 2 (by omega)]; rfl
    · rw [Nat.zero_add, h0.cellAt (j * 4 + 3) (by omega), nodes4_get T aA cA aC cC hj 3 (by omega)]; rfl
    · obtain ⟨A', c', hv, q1, q2, q3⟩ := isAttrs_of_own (h2 j hj) (by have := (hf _ (hnd j hj)).2.1; omega) (hf _ (hnd j hj)).2.2.2
      injection hv with e1 e2 e3
      subst e1; subst e3
      unfold maxLen at q2
      exact ⟨q3, q1, q2⟩
    · obtain ⟨A', c', hv, q1, q2, q3⟩ := isInts_of_own (h3 j hj) (by have := (hf _ (hnd j hj)).2.2.1; unfold kids; omega)
      injection hv with e1 e2 e3
      subst e1; subst e3
      unfold maxLen at q2
      exact ⟨q3, q1, q2⟩
end Go.Proofs.Ytfiiikbbiimdiaa
