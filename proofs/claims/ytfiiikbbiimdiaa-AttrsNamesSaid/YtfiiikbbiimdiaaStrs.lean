/- Lists of texts on memory: what lies somewhere, what the call has made, append of one. Condition: the list has at most a million elements. -/
import Derived.Test.YtfiiikbbiimdiaaPush
import Derived.Test.YtfiiikbbiimdiaaWi
namespace Go.Proofs.Ytfiiikbbiimdiaa
open Go.RowKit

theorem info_str : (Try.prog.info? 9).map (fun i => (i.zero, i.size, i.bytes)) = some (some (.string .empty), 1, 16) := by kernel_rfl
def sx (xs : List ByteArray) (j : Nat) : ByteArray := xs.getD j .empty
def strs (xs : List ByteArray) : List Value := xs.map Value.string
theorem strs_one (xs : List ByteArray) : ∀ u ∈ strs xs, u.oneCell' = true := by
  intro u hu
  obtain ⟨x, _, rfl⟩ := List.mem_map.1 hu
  rfl
theorem strs_app (xs ys : List ByteArray) : strs xs ++ strs ys = strs (xs ++ ys) := by simp [strs]
theorem strs_get {xs : List ByteArray} {j : Nat} (h : j < xs.length) : (strs xs)[j]? = some (.string (sx xs j)) := by
  simp [strs, sx, List.getD_eq_getElem?_getD, List.getElem?_eq_getElem h]
theorem sx_get {xs : List ByteArray} {j : Nat} (h : j < xs.length) : sx xs j = xs[j] := by
  unfold sx
  rw [List.getD_eq_getElem?_getD, List.getElem?_eq_getElem h]
  rfl
def IsStrs (w : World) (A : Option Addr) (n : Nat) (xs : List ByteArray) : Prop :=
  xs.length = n ∧ n ≤ 9223372036854775807 ∧ (0 < n → ∃ b off, A = some ⟨b, off, none⟩ ∧ b < w.heap.size ∧ ∀ j, j < n → w.cell? ⟨b, off + j, none⟩ = some (.string (sx xs j)))
theorem IsStrs.below {w w' : World} {A : Option Addr} {n : Nat} {xs : List ByteArray} (h : IsStrs w A n xs) (hb : Below w.heap.size w w') : IsStrs w' A n xs := by
  obtain ⟨h1, h2, h3⟩ := h
  refine ⟨h1, h2, fun hn => ?_⟩
  obtain ⟨b, off, ha, hbl, hc⟩ := h3 hn
  exact ⟨b, off, ha, Nat.lt_of_lt_of_le hbl hb.size, fun j hj => (old hb _ _ hbl).trans (hc j hj)⟩
def OwnS (w : World) (base : Nat) (v : Value) (xs : List ByteArray) : Prop := w.ownsRow base 9 1 v xs.length (strs xs)
theorem OwnS.nil (w : World) (base : Nat) : OwnS w base (.slice none 0 0) [] := World.ownsRow_nil _ _ _ _
theorem OwnS.below {w w' : World} {base : Nat} {v : Value} {xs : List ByteArray} (h : OwnS w base v xs) (hb : Below w.heap.size w w') : OwnS w' base v xs := own_below h hb
theorem OwnS.base {w : World} {base base' : Nat} {v : Value} {xs : List ByteArray} (h : OwnS w base' v xs) (hb : base ≤ base') : OwnS w base v xs := own_base h hb
theorem OwnS.isStrs {w : World} {base : Nat} {v : Value} {xs : List ByteArray} (h : OwnS w base v xs) (hn : xs.length ≤ 1000000) : ∃ A c, v = .slice A xs.length c ∧ xs.length ≤ c ∧ c ≤ maxLen ∧ IsStrs w A xs.length xs := by
  obtain ⟨A, c, rfl, h1, h2⟩ := sl_of_own h
  refine ⟨A, c, rfl, h1, h2, rfl, by omega, fun hh => ?_⟩
  rcases h.2 with ⟨e1, e2⟩ | ⟨g, cap, cur, e1, hb, hg, hnc, hm, hcs, ht⟩
  · omega
  · injection e1 with e1 _ _
    subst e1
    refine ⟨g, 0, rfl, (World.ownsRow.lt h g rfl).2, fun j hj => ?_⟩
    rw [Nat.zero_add, World.ownsRow.cellAt h j (by omega), strs_get hj]
section
variable {W : World} {ops : Array Oper} {rest : List Oper} {o : Oper} {a : Act} {Q : Exit → Act → World → Prop}
theorem wpList_pushS (hgd : o.guard = none) (s x : Operand) (ho : o.op = .call { callee := .builtin .append, args := #[s, x], argTypes := #[26, 26] })
    {base : Nat} {v : Value} {pre : List ByteArray} (hown : OwnS W base v pre) (y : ByteArray) (tt : TypeId) (hs : a.eval s = v) (hx : a.eval x = .slice (some ⟨W.heap.size, 0, none⟩) 1 1)
    (hn : pre.length ≤ 1000000) (hbase : base ≤ W.heap.size)
    (h : ∀ A' c' w', OwnS w' base (.slice A' (pre.length + 1) c') (pre ++ [y]) → Grew W w' base v (.slice A' (pre.length + 1) c') → wpList Try.prog ops Q rest (a.put o.dst (.slice A' (pre.length + 1) c')) w') :
    wpList Try.prog ops Q (o :: rest) a (W.alloc (.cells #[.string y] tt)) := by
  obtain ⟨i0, hI, hz0, hz1, hz2⟩ := info_parts info_str
  refine wpList_append_mine hgd s x 26 ho 9 i0 (.string .empty) 1 16 Try.underlying26 hI hz0 hz1 hz2 rfl (by decide) (World.ownsRow.alloc hown _) hs ⟨W.heap.size, 0, none⟩ 1 1 (strs [y]) hx rfl (fun j u hj => one_at W _ tt hj) (strs_one _) (by decide) (by unfold maxLen; omega) (by omega) (by simp; omega) ?_
  intro v' w' hown' hg hw
  obtain ⟨A', c', rfl, _, _⟩ := sl_of_own hown'
  exact h A' c' w' (by unfold OwnS; rw [List.length_append, ← strs_app]; exact hown') (grew_of hown hbase hg (by simpa using hw))
end
end Go.Proofs.Ytfiiikbbiimdiaa
