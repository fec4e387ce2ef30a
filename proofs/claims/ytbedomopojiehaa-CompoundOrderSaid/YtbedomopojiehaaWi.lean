/- Walks: copies of lists and of a tree. Conditions: the lists have at most 1000 elements; the tree is not great. -/
import Derived.Test.YtbedomopojiehaaOwn
namespace Go.Proofs.Ytbedomopojiehaa
open Go.RowKit

def MadeIntRow (w : World) (n : Nat) (xs : List Int) (e : Ending) (w' : World) : Prop :=
  ∃ (A : Option Addr) (c : Nat), e = .returned (.slice A n c) ∧ w'.ownsRow w.heap.size 3 1 (.slice A n c) n (ints xs) ∧ Below w.heap.size w w'
def MadeAttrRow (w : World) (n : Nat) (xs : List (ByteArray × ByteArray)) (e : Ending) (w' : World) : Prop :=
  ∃ (A : Option Addr) (c : Nat), e = .returned (.slice A n c) ∧ w'.ownsRow w.heap.size 97 2 (.slice A n c) n (atts xs) ∧ Below w.heap.size w w'

theorem own_slice {w : World} {base size n : Nat} {e : TypeId} {v : Value} {xs : List Value} (h : w.ownsRow base e size v n xs) : ∃ A c, v = .slice A n c := by
  rcases h.2 with ⟨rfl, rfl⟩ | ⟨g, cap, cur, rfl, _⟩
  · exact ⟨none, 0, rfl⟩
  · exact ⟨_, _, rfl⟩

theorem cloneInts_ok (A : Option Addr) (n c : Nat) (xs : List Int) (w : World) (h : IsInts w A n xs) (hn : n ≤ 1000) :
    Calls Try.prog 99 #[.slice A n c] w (MadeIntRow w n xs) := by
  obtain ⟨i0, hI, hz0, hz1, hz2⟩ := info_parts info_int
  have he := fun W => Lib.run_eql_slice_nil (P := Try.prog) W 84 3 A n c 0 0 Try.underlying84
  have hi := hide h
  clear h
  cases A with
  | none =>
    obtain rfl := ints_none hi.out rfl
    go_enter Try.func99, Try.ntmps99
    go_wp2
    go_ret
    obtain rfl : xs = [] := List.eq_nil_of_length_eq_zero hi.out.1
    exact ⟨none, 0, rfl, World.ownsRow_nil _ _ _ _, Below.refl _ _⟩
  | some ad =>
    have hlen : (ints xs).length = n * 1 := by simp [ints, hi.out.1]
    have hlen' := hide hlen
    clear hlen
    go_enter Try.func99, Try.ntmps99
    go_wp2_with (at_builtin; refine wpList_append_from rfl _ _ 84 rfl w.heap.size 3 i0 (.int .i64 0) 1 8 Try.underlying84 hI hz0 hz1 hz2 rfl (by decide) _ _ _ rfl (World.ownsRow_lit w #[] 0 (Nat.le_refl _) (Nat.zero_le _) rfl) (some ad) n c (ints xs) rfl ?c0 ?c1 ?c2 ?c3 ?c4 ?c5 ?c6 ?_)
    case c0 => exact hlen'.out
    case c1 => exact fun h => by cases h
    case c2 => exact ints_at (hi.out.below (below_alloc (Below.refl _ _) _))
    case c3 => exact ints_one _
    case c4 => unfold maxLen; omega
    case c5 => omega
    case c6 => simp
    · intro v' w1 hown' hgrow
      have hown2 : w1.ownsRow w.heap.size 3 1 v' n (ints xs) := by simpa using hown'
      obtain ⟨A', c', rfl⟩ := own_slice hown2
      have hb := (below_alloc (Below.refl w.heap.size w) (.cells #[] 3)).grown hgrow (by simp) (fun k hk => by simp [Value.ownBlock] at hk; omega)
      clear hown' hgrow
      go_wp2
      go_ret
      exact ⟨A', c', rfl, hown2, hb⟩

theorem cloneAttrs_ok (A : Option Addr) (n c : Nat) (xs : List (ByteArray × ByteArray)) (w : World) (h : IsAttrs w A n xs) (hn : n ≤ 1000) :
    Calls Try.prog 98 #[.slice A n c] w (MadeAttrRow w n xs) := by
  obtain ⟨i0, hI, hz0, hz1, hz2⟩ := info_parts info_attr
  have he := fun W => Lib.run_eql_slice_nil (P := Try.prog) W 83 97 A n c 0 0 Try.underlying83
  have hi := hide h
  clear h
  cases A with
  | none =>
    obtain rfl := attrs_none hi.out rfl
    go_enter Try.func98, Try.ntmps98
    go_wp2
    go_ret
    obtain rfl : xs = [] := List.eq_nil_of_length_eq_zero hi.out.1
    exact ⟨none, 0, rfl, World.ownsRow_nil _ _ _ _, Below.refl _ _⟩
  | some ad =>
    have hlen : (atts xs).length = n * 2 := by rw [atts_len, hi.out.1]
    have hlen' := hide hlen
    clear hlen
    go_enter Try.func98, Try.ntmps98
    go_wp2_with (at_builtin; refine wpList_append_from rfl _ _ 83 rfl w.heap.size 97 i0 (.agg #[.string .empty, .string .empty]) 2 32 Try.underlying83 hI hz0 hz1 hz2 rfl (by decide) _ _ _ rfl (World.ownsRow_lit w #[] 0 (Nat.le_refl _) (Nat.zero_le _) rfl) (some ad) n c (atts xs) rfl ?c0 ?c1 ?c2 ?c3 ?c4 ?c5 ?c6 ?_)
    case c0 => exact hlen'.out
    case c1 => exact fun h => by cases h
    case c2 => exact attrs_at (hi.out.below (below_alloc (Below.refl _ _) _))
    case c3 => exact atts_one _
    case c4 => unfold maxLen; omega
    case c5 => omega
    case c6 => simp
    · intro v' w1 hown' hgrow
      have hown2 : w1.ownsRow w.heap.size 97 2 v' n (atts xs) := by simpa using hown'
      obtain ⟨A', c', rfl⟩ := own_slice hown2
      have hb := (below_alloc (Below.refl w.heap.size w) (.cells #[] 97)).grown hgrow (by simp) (fun k hk => by simp [Value.ownBlock] at hk; omega)
      clear hown' hgrow
      go_wp2
      go_ret
      exact ⟨A', c', rfl, hown2, hb⟩

theorem own_unique {w : World} {base base' size n : Nat} {e e' : TypeId} {v : Value} {xs ys : List Value} (h : w.ownsRow base e size v n xs) (h' : w.ownsRow base' e' size v n ys) : xs = ys := by
  rcases h.2 with ⟨rfl, rfl⟩ | ⟨g, cap, cur, rfl, _, hg, _, _, _, ht⟩
  · have h1 := h.1
    have h2 := h'.1
    rw [Nat.zero_mul] at h1 h2
    rw [List.eq_nil_of_length_eq_zero h1, List.eq_nil_of_length_eq_zero h2]
  · rcases h'.2 with ⟨h2, _⟩ | ⟨g', cap', cur', h2, _, hg', _, _, _, ht'⟩
    · cases h2
    · simp only [Value.slice.injEq, Option.some.injEq, Addr.mk.injEq, and_true, true_and] at h2
      obtain ⟨rfl, rfl⟩ := h2
      rw [hg] at hg'
      injection hg' with hg'
      injection hg' with h3
      subst h3
      rw [← ht, ← ht']

theorem blk_set {w : World} {g : Nat} {t : TypeId} {cs : Array Value} (h : w.heap[g]? = some (.cells cs t (0, 0))) (i : Nat) (u : Value) : (w.setCell ⟨g, i, none⟩ u).heap[g]? = some (.cells (cs.setIfInBounds i u) t (0, 0)) := by
  simp [World.setCell, Array.getElem?_modify, h]
theorem blk_cell {w : World} {g : Nat} {t : TypeId} {cs : Array Value} (h : w.heap[g]? = some (.cells cs t (0, 0))) (i : Nat) : w.cell? ⟨g, i, none⟩ = cs[i]? := cell_of_row w g i cs t (0, 0) h
theorem blk_frozen {w : World} {g : Nat} {t : TypeId} {cs : Array Value} (h : w.heap[g]? = some (.cells cs t (0, 0))) (i : Nat) : w.frozen? ⟨g, i, none⟩ = false := by
  simp [World.frozen?, h]
theorem blk_grown {w w1 : World} {base size n g : Nat} {e t : TypeId} {v : Value} {xs : List Value} {cs : Array Value} (h : w.ownsRow base e size v n xs) (hg : w.grownBy w1 v.ownBlock) (hp : g < base) (hc : w.heap[g]? = some (.cells cs t (0, 0))) : w1.heap[g]? = some (.cells cs t (0, 0)) := by
  have hlt : g < w.heap.size := by
    rcases Nat.lt_or_ge g w.heap.size with h1 | h1
    · exact h1
    · rw [Array.getElem?_eq_none h1] at hc; cases hc
  rw [hg.block g hlt (fun e => by have := (h.lt _ e.symm).1; omega)]; exact hc
theorem blk_alloc {w : World} {g : Nat} {t : TypeId} {cs : Array Value} (h : w.heap[g]? = some (.cells cs t (0, 0))) (o : Obj) : (w.alloc o).heap[g]? = some (.cells cs t (0, 0)) := by
  have hlt : g < w.heap.size := by
    rcases Nat.lt_or_ge g w.heap.size with h1 | h1
    · exact h1
    · rw [Array.getElem?_eq_none h1] at h; cases h
  rw [Below.heap_alloc _ _ _ hlt]; exact h
theorem blk_far {w : World} {g : Nat} {t : TypeId} {cs : Array Value} (h : w.heap[g]? = some (.cells cs t (0, 0))) {p : Addr} (hp : g ≠ p.block) (u : Value) : (w.setCell p u).heap[g]? = some (.cells cs t (0, 0)) := by
  rw [Below.heap_setCell _ _ _ _ hp]; exact h
theorem blk_new (w : World) (cs : Array Value) (t : TypeId) : (w.alloc (.cells cs t)).heap[w.heap.size]? = some (.cells cs t (0, 0)) := heap_alloc_new w _
theorem blk_at (w : World) (cs : Array Value) (t : TypeId) (g : Nat) (hg : g = w.heap.size) : (w.alloc (.cells cs t)).heap[g]? = some (.cells cs t (0, 0)) := by subst hg; exact blk_new w cs t
theorem own_lit0 (w : World) (g base : Nat) (e : TypeId) (size : Nat) (hg : g = w.heap.size) (hb : base ≤ g) : (w.alloc (.cells #[] e)).ownsRow base e size (.slice (some ⟨g, 0, none⟩) 0 0) 0 [] := by
  subst hg; exact World.ownsRow_lit w #[] 0 hb (Nat.zero_le _) (by simp)
theorem OwnTree.set {w : World} {base k : Nat} {v : Value} {T : List ANode} (h : OwnTree w base v k T) {p : Addr} (hp : p.block < base) (u : Value) : OwnTree (w.setCell p u) base v k T := by
  obtain ⟨aA, cA, aC, cC, h1, h2, h3, h4, h5⟩ := h
  exact ⟨aA, cA, aC, cC, ownsRow_setCell_below h1 hp u, fun j hj => ownsRow_setCell_below (h2 j hj) hp u, fun j hj => ownsRow_setCell_below (h3 j hj) hp u, h4, h5⟩
theorem blk_lt {w : World} {g : Nat} {t : TypeId} {cs : Array Value} (h : w.heap[g]? = some (.cells cs t (0, 0))) : g < w.heap.size := by
  rcases Nat.lt_or_ge g w.heap.size with h1 | h1
  · exact h1
  · rw [Array.getElem?_eq_none h1] at h; cases h

theorem smallT_bounds {T : List ANode} (h : smallTB T = true) : T.length ≤ 70 ∧ Fits T := by
  obtain ⟨h1, h2⟩ := (smallTB_iff T).1 h
  refine ⟨h1, fun x hx => ?_⟩
  obtain ⟨i, hi, rfl⟩ := List.getElem_of_mem hx
  have hnd : nd T i = T[i] := by unfold nd; rw [List.getD_eq_getElem?_getD, List.getElem?_eq_getElem hi]; rfl
  have := h2 i hi
  simp only [smallN, kids, hnd] at this
  refine ⟨by omega, by omega, by omega, fun y hy => ?_⟩
  obtain ⟨j, hj, rfl⟩ := List.getElem_of_mem hy
  have h3 := this.2.2.2 j hj
  simp only [nm, vl, List.getD_eq_getElem?_getD, List.getElem?_eq_getElem hj, Option.getD_some] at h3
  omega

/-- A tree that the call has made. -/
def MadeOwn (w : World) (n : Nat) (T : List ANode) (e : Ending) (w' : World) : Prop :=
  ∃ (A : Option Addr) (c : Nat), e = .returned (.agg #[.slice A n c]) ∧ OwnTree w' w.heap.size (.slice A n c) n T ∧ IsTree w' A n T ∧ Below w.heap.size w w'

end Go.Proofs.Ytbedomopojiehaa
