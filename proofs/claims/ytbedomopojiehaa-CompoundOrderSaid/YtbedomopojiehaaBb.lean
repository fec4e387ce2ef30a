/- A list of lists of truth values that the call has made. Condition: not great. -/
import Derived.Test.YtbedomopojiehaaCw
import Derived.Test.YtbedomopojiehaaRv
namespace Go.Proofs.Ytbedomopojiehaa
open Go.RowKit

theorem info_bb : (Try.prog.info? 47).map (fun i => (i.zero, i.size, i.bytes)) = some (some (.slice none 0 0), 1, 24) := by kernel_rfl
def slicesR (R : List (List Bool)) (aA : Nat → Option Addr) (aC : Nat → Nat) (k : Nat) : List Value := (List.range k).map fun j => .slice (aA j) (rowB R j).length (aC j)
theorem slicesR_len (R : List (List Bool)) (aA : Nat → Option Addr) (aC : Nat → Nat) (k : Nat) : (slicesR R aA aC k).length = k := by simp [slicesR]
theorem slicesR_get (R : List (List Bool)) (aA : Nat → Option Addr) (aC : Nat → Nat) {k j : Nat} (h : j < k) : (slicesR R aA aC k)[j]? = some (.slice (aA j) (rowB R j).length (aC j)) := by simp [slicesR, h]
def OwnBB (w : World) (base : Nat) (v : Value) (k : Nat) (R : List (List Bool)) : Prop :=
  ∃ (aA : Nat → Option Addr) (aC : Nat → Nat), w.ownsRow base 47 1 v k (slicesR R aA aC k) ∧ ∀ j, j < k → w.ownsRow base 4 1 (.slice (aA j) (rowB R j).length (aC j)) (rowB R j).length (bools (rowB R j))
theorem OwnBB.below {w w' : World} {base k : Nat} {v : Value} {R : List (List Bool)} (h : OwnBB w base v k R) (hb : Below w.heap.size w w') : OwnBB w' base v k R := by
  obtain ⟨aA, aC, h1, h2⟩ := h
  exact ⟨aA, aC, own_below h1 hb, fun j hj => own_below (h2 j hj) hb⟩
theorem OwnBB.base {w : World} {base base' k : Nat} {v : Value} {R : List (List Bool)} (h : OwnBB w base' v k R) (hb : base ≤ base') : OwnBB w base v k R := by
  obtain ⟨aA, aC, h1, h2⟩ := h
  exact ⟨aA, aC, own_base h1 hb, fun j hj => own_base (h2 j hj) hb⟩
theorem own_typed {w : World} {base size n g i : Nat} {e t : TypeId} {v : Value} {xs : List Value} {cs : Array Value} (h : w.ownsRow base e size v n xs) (hb : w.heap[g]? = some (.cells cs t (0, 0))) (hne : e ≠ t) (u : Value) : (w.setCell ⟨g, i, none⟩ u).ownsRow base e size v n xs := by
  refine ⟨h.1, h.2.imp id ?_⟩
  rintro ⟨g', cap, cur, rfl, hbg, hg, r⟩
  refine ⟨g', cap, cur, rfl, hbg, ?_, r⟩
  have : g' ≠ g := fun e => by subst e; rw [hg] at hb; injection hb with hb; injection hb with _ h2; exact hne h2
  rw [Below.heap_setCell _ _ _ _ this]; exact hg
theorem OwnBB.set {w : World} {base k g i : Nat} {v : Value} {R : List (List Bool)} {t : TypeId} {cs : Array Value} (h : OwnBB w base v k R) (hb : w.heap[g]? = some (.cells cs t (0, 0))) (h1 : 47 ≠ t) (h2 : 4 ≠ t) (u : Value) : OwnBB (w.setCell ⟨g, i, none⟩ u) base v k R := by
  obtain ⟨aA, aC, q1, q2⟩ := h
  exact ⟨aA, aC, own_typed q1 hb h1 u, fun j hj => own_typed (q2 j hj) hb h2 u⟩
theorem own_apart2 {w : World} {base base' size size' n n' : Nat} {e e' : TypeId} {v v' : Value} {xs xs' : List Value} (h : w.ownsRow base e size v n xs) (h' : w.ownsRow base' e' size' v' n' xs') (hne : e ≠ e') : Apart v v' := fun k hk hk' => by
  rcases own_ne h h' hne with h1 | h1
  · rw [hk] at h1; cases h1
  · exact h1 (by rw [hk, hk'])

section
variable {W : World} {ops : Array Oper} {rest : List Oper} {o : Oper} {a : Act} {Q : Exit → Act → World → Prop}
set_option maxRecDepth 100000 in
theorem wpList_pushBB (hgd : o.guard = none) (s x : Operand) (ho : o.op = .call { callee := .builtin .append, args := #[s, x], argTypes := #[74, 74] })
    {base k : Nat} {v : Value} {R : List (List Bool)} (hown : OwnBB W base v k R) (A : Option Addr) (n c : Nat) (hn : n = (rowB R k).length) (hrow : W.ownsRow base 4 1 (.slice A n c) n (bools (rowB R k))) (tt : TypeId) (hs : a.eval s = v) (hx : a.eval x = .slice (some ⟨W.heap.size, 0, none⟩) 1 1)
    (hk : k ≤ 1000000) (hbase : base ≤ W.heap.size)
    (h : ∀ A' c' w', OwnBB w' base (.slice A' (k + 1) c') (k + 1) R → Grew W w' base v (.slice A' (k + 1) c') → wpList Try.prog ops Q rest (a.put o.dst (.slice A' (k + 1) c')) w') :
    wpList Try.prog ops Q (o :: rest) a (W.alloc (.cells #[.slice A n c] tt)) := by
  obtain ⟨i0, hI, hz0, hz1, hz2⟩ := info_parts info_bb
  obtain ⟨aA, aC, q1, q2⟩ := hown
  refine wpList_append_mine hgd s x 74 ho 47 i0 (.slice none 0 0) 1 24 Try.underlying74 hI hz0 hz1 hz2 rfl (by decide) (World.ownsRow.alloc q1 _) hs ⟨W.heap.size, 0, none⟩ 1 1 [.slice A n c] hx rfl (fun j u hj => one_at W _ tt hj) (fun u hu => by simp at hu; subst hu; rfl) (by decide) (by unfold maxLen; omega) (by omega) (by simp; omega) ?_
  intro v' w' hown' hg hw
  obtain ⟨A', c', rfl, _, _⟩ := sl_of_own hown'
  have hG := grew_of q1 hbase hg (by simpa using hw)
  refine h A' c' w' ⟨fun j => if j = k then A else aA j, fun j => if j = k then c else aC j, ?_, fun j hj => ?_⟩ hG
  · have e : slicesR R (fun j => if j = k then A else aA j) (fun j => if j = k then c else aC j) (k + 1) = slicesR R aA aC k ++ [.slice A n c] := by
      unfold slicesR
      rw [List.range_succ, List.map_append]
      congr 1
      · refine List.map_congr_left fun j hj => ?_
        have : j ≠ k := by have := List.mem_range.1 hj; omega
        simp [this]
      · simp [hn]
    rw [e]
    exact hown'
  · by_cases hjk : j = k
    · subst hjk
      simp only [if_pos]
      rw [← hn]
      exact (hG.own hrow (own_apart2 hrow q1 (by decide))).1
    · simp only [if_neg hjk]
      exact (hG.own (q2 j (by omega)) (own_apart2 (q2 j (by omega)) q1 (by decide))).1
end
/-- Row j of it, to read. -/
theorem OwnBB.open {w : World} {base k : Nat} {v : Value} {R : List (List Bool)} (h : OwnBB w base v k R) (hk : 0 < k) (hR : ∀ j, j < k → (rowB R j).length ≤ 1000000) : ∃ (g cap : Nat), v = .slice (some ⟨g, 0, none⟩) k cap ∧ k ≤ cap ∧ cap ≤ maxLen ∧ base ≤ g ∧ g < w.heap.size ∧
    ∀ j, j < k → ∃ (A : Option Addr) (c : Nat), w.cell? ⟨g, 0 + j, none⟩ = some (.slice A (rowB R j).length c) ∧ IsBools w A (rowB R j).length (rowB R j) ∧ (rowB R j).length ≤ c ∧ c ≤ maxLen := by
  obtain ⟨aA, aC, q1, q2⟩ := h
  obtain ⟨g, cap, cs, rfl, h1, h2, h3, h4⟩ := own_blk q1 hk
  refine ⟨g, cap, rfl, h1, h2, h3, blk_lt h4, fun j hj => ?_⟩
  obtain ⟨A, c, hv, hc1, hc2, hI⟩ := OwnB.isBools (xs := rowB R j) (q2 j hj) (hR j hj)
  injection hv with e1 e2 e3
  refine ⟨aA j, aC j, ?_, by rw [e1]; exact hI, by omega, by omega⟩
  rw [Nat.zero_add, World.ownsRow.cellAt q1 j (by omega), slicesR_get _ _ _ hj]
end Go.Proofs.Ytbedomopojiehaa
