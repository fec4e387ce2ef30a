/- Walks: copies of lists and of a tree. Conditions: the lists have at most 1000 elements; the tree is not great. -/
import Derived.Test.YtfiiikbbiimdiaaOwn
namespace Go.Proofs.Ytfiiikbbiimdiaa
open Go.RowKit

def MadeIntRow (w : World) (n : Nat) (xs : List Int) (e : Ending) (w' : World) : Prop :=
  ∃ (A : Option Addr) (c : Nat), e = .returned (.slice A n c) ∧ w'.ownsRow w.heap.size 3 1 (.slice A n c) n (ints xs) ∧ Below w.heap.size w w'
def MadeAttrRow (w : World) (n : Nat) (xs : List (ByteArray × ByteArray)) (e : Ending) (w' : World) : Prop :=
  ∃ (A : Option Addr) (c : Nat), e = .returned (.slice A n c) ∧ w'.ownsRow w.heap.size 83 2 (.slice A n c) n (atts xs) ∧ Below w.heap.size w w'

theorem own_slice {w : World} {base size n : Nat} {e : TypeId} {v : Value} {xs : List Value} (h : w.ownsRow base e size v n xs) : ∃ A c, v = .slice A n c := by
  rcases h.2 with ⟨rfl, rfl⟩ | ⟨g, cap, cur, rfl, _⟩
  · exact ⟨none, 0, rfl⟩
  · exact ⟨_, _, rfl⟩

theorem cloneInts_ok (A : Option Addr) (n c : Nat) (xs : List Int) (w : World) (h : IsInts w A n xs) (hn : n ≤ 1000) :
    Calls Try.prog 89 #[.slice A n c] w (MadeIntRow w n xs) := by
  obtain ⟨i0, hI, hz0, hz1, hz2⟩ := info_parts info_int
  have he := fun W => Lib.run_eql_slice_nil (P := Try.prog) W 51 3 A n c 0 0 Try.underlying51
  have hi := hide h
  clear h
  cases A with
  | none =>
    obtain rfl := ints_none hi.out rfl
    go_enter Try.func89, Try.ntmps89
    go_wp2
    go_ret
    obtain rfl : xs = [] := List.eq_nil_of_length_eq_zero hi.out.1
    exact ⟨none, 0, rfl, World.ownsRow_nil _ _ _ _, Below.refl _ _⟩
  | some ad =>
    have hlen : (ints xs).length = n * 1 := by simp [ints, hi.out.1]
    have hlen' := hide hlen
    clear hlen
    go_enter Try.func89, Try.ntmps89
    go_wp2_with (at_builtin; refine wpList_append_from rfl _ _ 51 rfl w.heap.size 3 i0 (.int .i64 0) 1 8 Try.underlying51 hI hz0 hz1 hz2 rfl (by decide) _ _ _ rfl (World.ownsRow_lit w #[] 0 (Nat.le_refl _) (Nat.zero_le _) rfl) (some ad) n c (ints xs) rfl ?c0 ?c1 ?c2 ?c3 ?c4 ?c5 ?c6 ?_)
    case c0 => exact hlen'.out
    case c1 => exact fun h => by cases h
    case c2 => exact ints_at (hi.out.below (below_alloc (Below.refl _ _) _))
    case c3 => exact ints_one _
    case c4 => unfold maxLen; omega
    case c5 => omega
    case c6 => simp
    · intro v' w1 hown' hgrow
      have hown2 : w1.ownsRow w.heap.size 3 1 v' n (ints xs) := by simpa using hown'
      obtain ⟨A', c', rfl⟩ := own_slice hown2
      have hb := (below_alloc (Below.refl w.heap.size w) (.cells #[] 3)).grown hgrow (by simp) (fun k hk => by simp [Value.ownBlock] at hk; omega)
      clear hown' hgrow
      go_wp2
      go_ret
      exact ⟨A', c', rfl, hown2, hb⟩

theorem cloneAttrs_ok (A : Option Addr) (n c : Nat) (xs : List (ByteArray × ByteArray)) (w : World) (h : IsAttrs w A n xs) (hn : n ≤ 1000) :
    Calls Try.prog 87 #[.slice A n c] w (MadeAttrRow w n xs) := by
  obtain ⟨i0, hI, hz0, hz1, hz2⟩ := info_parts info_attr
  have he := fun W => Lib.run_eql_slice_nil (P := Try.prog) W 59 83 A n c 0 0 Try.underlying59
  have hi := hide h
  clear h
  cases A with
  | none =>
    obtain rfl := attrs_none hi.out rfl
    go_enter Try.func87, Try.ntmps87
    go_wp2
    go_ret
    obtain rfl : xs = [] := List.eq_nil_of_length_eq_zero hi.out.1
    exact ⟨none, 0, rfl, World.ownsRow_nil _ _ _ _, Below.refl _ _⟩
  | some ad =>
    have hlen : (atts xs).length = n * 2 := by rw [atts_len, hi.out.1]
    have hlen' := hide hlen
    clear hlen
    go_enter Try.func87, Try.ntmps87
    go_wp2_with (at_builtin; refine wpList_append_from rfl _ _ 59 rfl w.heap.size 83 i0 (.agg #[.string .empty, .string .empty]) 2 32 Try.underlying59 hI hz0 hz1 hz2 rfl (by decide) _ _ _ rfl (World.ownsRow_lit w #[] 0 (Nat.le_refl _) (Nat.zero_le _) rfl) (some ad) n c (atts xs) rfl ?c0 ?c1 ?c2 ?c3 ?c4 ?c5 ?c6 ?_)
    case c0 => exact hlen'.out
    case c1 => exact fun h => by cases h
    case c2 => exact attrs_at (hi.out.below (below_alloc (Below.refl _ _) _))
    case c3 => exact atts_one _
    case c4 => unfold maxLen; omega
    case c5 => omega
    case c6 => simp
    · intro v' w1 hown' hgrow
      have hown2 : w1.ownsRow w.heap.size 83 2 v' n (atts xs) := by simpa using hown'
      obtain ⟨A', c', rfl⟩ := own_slice hown2
      have hb := (below_alloc (Below.refl w.heap.size w) (.cells #[] 83)).grown hgrow (by simp) (fun k hk => by simp [Value.ownBlock] at hk; omega)
      clear hown' hgrow
      go_wp2
      go_ret
      exact ⟨A', c', rfl, hown2, hb⟩

theorem own_unique {w : World} {base base' size n : Nat} {e e' : TypeId} {v : Value} {xs ys : List Value} (h : w.ownsRow base e size v n xs) (h' : w.ownsRow base' e' size v n ys) : xs = ys := by
  rcases h.2 with ⟨rfl, rfl⟩ | ⟨g, cap, cur, rfl, _, hg, _, _, _, ht⟩
  · have h1 := h.1
    have h2 := h'.1
    rw [Nat.zero_mul] at h1 h2
    rw [List.eq_nil_of_length_eq_zero h1, List.eq_nil_of_length_eq_zero h2]
  · rcases h'.2 with ⟨h2, _⟩ | ⟨g', cap', cur', h2, _, hg', _, _, _, ht'⟩
    · cases h2
    · simp only [Value.slice.injEq, Option.some.injEq, Addr.mk.injEq, and_true, true_and] at h2
      obtain ⟨rfl, rfl⟩ := h2
      rw [hg] at hg'
      injection hg' with hg'
      injection hg' with h3
      subst h3
      rw [← ht, ← ht']

theorem blk_set {w : World} {g : Nat} {t : TypeId} {cs : Array Value} (h : w.heap[g]? = some (.cells cs t (0, 0))) (i : Nat) (u : Value) : (w.setCell ⟨g, i, none⟩ u).heap[g]? = some (.cells (cs.setIfInBounds i u) t (0, 0)) := by
  simp [World.setCell, Array.getElem?_modify, h]
theorem blk_cell {w : World} {g : Nat} {t : TypeId} {cs : Array Value} (h : w.heap[g]? = some (.cells cs t (0, 0))) (i : Nat) : w.cell? ⟨g, i, none⟩ = cs[i]? := cell_of_row w g i cs t (0, 0) h
theorem blk_frozen {w : World} {g : Nat} {t : TypeId} {cs : Array Value} (h : w.heap[g]? = some (.cells cs t (0, 0))) (i : Nat) : w.frozen? ⟨g, i, none⟩ = false := by
  simp [World.frozen?, h]
theorem blk_grown {w w1 : World} {base size n g : Nat} {e t : TypeId} {v : Value} {xs : List Value} {cs : Array Value} (h : w.ownsRow base e size v n xs) (hg : w.grownBy w1 v.ownBlock) (hp : g < base) (hc : w.heap[g]? = some (.cells cs t (0, 0))) : w1.heap[g]? = some (.cells cs t (0, 0)) := by
  have hlt : g < w.heap.size := by
    rcases Nat.lt_or_ge g w.heap.size with h1 | h1
    · exact h1
    · rw [Array.getElem?_eq_none h1] at hc; cases hc
  rw [hg.block g hlt (fun e => by have := (h.lt _ e.symm).1; omega)]; exact hc
theorem blk_alloc {w : World} {g : Nat} {t : TypeId} {cs : Array Value} (h : w.heap[g]? = some (.cells cs t (0, 0))) (o : Obj) : (w.alloc o).heap[g]? = some (.cells cs t (0, 0)) := by
  have hlt : g < w.heap.size := by
    rcases Nat.lt_or_ge g w.heap.size with h1 | h1
    · exact h1
    · rw [Array.getElem?_eq_none h1] at h; cases h
  rw [Below.heap_alloc _ _ _ hlt]; exact h
theorem blk_far {w : World} {g : Nat} {t : TypeId} {cs : Array Value} (h : w.heap[g]? = some (.cells cs t (0, 0))) {p : Addr} (hp : g ≠ p.block) (u : Value) : (w.setCell p u).heap[g]? = some (.cells cs t (0, 0)) := by
  rw [Below.heap_setCell _ _ _ _ hp]; exact h
theorem blk_new (w : World) (cs : Array Value) (t : TypeId) : (w.alloc (.cells cs t)).heap[w.heap.size]? = some (.cells cs t (0, 0)) := heap_alloc_new w _
theorem blk_at (w : World) (cs : Array Value) (t : TypeId) (g : Nat) (hg : g = w.heap.size) : (w.alloc (.cells cs t)).heap[g]? = some (.cells cs t (0, 0)) := by subst hg; exact blk_new w cs t
theorem own_lit0 (w : World) (g base : Nat) (e : TypeId) (size : Nat) (hg : g = w.heap.size) (hb : base ≤ g) : (w.alloc (.cells #[] e)).ownsRow base e size (.slice (some ⟨g, 0, none⟩) 0 0) 0 [] := by
  subst hg; exact World.ownsRow_lit w #[] 0 hb (Nat.zero_le _) (by simp)
theorem OwnTree.set {w : World} {base k : Nat} {v : Value} {T : List ANode} (h : OwnTree w base v k T) {p : Addr} (hp : p.block < base) (u : Value) : OwnTree (w.setCell p u) base v k T := by
  obtain ⟨aA, cA, aC, cC, h1, h2, h3, h4, h5⟩ := h
  exact ⟨aA, cA, aC, cC, ownsRow_setCell_below h1 hp u, fun j hj => ownsRow_setCell_below (h2 j hj) hp u, fun j hj => ownsRow_setCell_below (h3 j hj) hp u, h4, h5⟩
theorem blk_lt {w : World} {g : Nat} {t : TypeId} {cs : Array Value} (h : w.heap[g]? = some (.cells cs t (0, 0))) : g < w.heap.size := by
  rcases Nat.lt_or_ge g w.heap.size with h1 | h1
  · exact h1
  · rw [Array.getElem?_eq_none h1] at h; cases h

theorem smallT_bounds {T : List ANode} (h : smallTB T = true) : T.length ≤ 70 ∧ Fits T := by
  obtain ⟨h1, h2⟩ := (smallTB_iff T).1 h
  refine ⟨h1, fun x hx => ?_⟩
  obtain ⟨i, hi, rfl⟩ := List.getElem_of_mem hx
  have hnd : nd T i = T[i] := by unfold nd; rw [List.getD_eq_getElem?_getD, List.getElem?_eq_getElem hi]; rfl
  have := h2 i hi
  simp only [smallN, kids, hnd] at this
  refine ⟨by omega, by omega, by omega, fun y hy => ?_⟩
  obtain ⟨j, hj, rfl⟩ := List.getElem_of_mem hy
  have h3 := this.2.2.2 j hj
  simp only [nm, vl, List.getD_eq_getElem?_getD, List.getElem?_eq_getElem hj, Option.getD_some] at h3
  omega

/-- A tree that the call has made. -/
def MadeOwn (w : World) (n : Nat) (T : List ANode) (e : Ending) (w' : World) : Prop :=
  ∃ (A : Option Addr) (c : Nat), e = .returned (.agg #[.slice A n c]) ∧ OwnTree w' w.heap.size (.slice A n c) n T ∧ IsTree w' A n T ∧ Below w.heap.size w w'

set_option maxRecDepth 100000 in
set_option maxHeartbeats 4000000 in
theorem twin_ok (A : Option Addr) (n c : Nat) (T : List ANode) (w : World) (h : IsTree w A n T) (hn : n ≤ 70) (hf : Fits T) :
    Calls Try.prog 39 #[.agg #[.slice A n c]] w (MadeOwn w n T) := by
  obtain ⟨i0, hI, hz0, hz1, hz2⟩ := info_parts info_int
  obtain ⟨ia, hIa, hza0, hza1, hza2⟩ := info_parts info_attr
  obtain ⟨ix, hIx, hzx0, hzx1, hzx2⟩ := info_parts info_node
  have hl := h.1
  have ho := hide h.2.2.2
  have hf' := hide hf
  clear h hf
  go_enter Try.func39, Try.ntmps39
  go_wp2
  go_loopw [4] (fun s wr => ∃ (k : Nat) (v : Value), k ≤ n ∧ s = .int .i64 k ∧ Below w.heap.size w wr ∧ wr.heap[w.heap.size]? = some (.cells #[.slice A n c] 24 (0, 0)) ∧ wr.heap[w.heap.size + 1]? = some (.cells #[.slice none 0 0] 24 (0, 0)) ∧ wr.heap[w.heap.size + 2]? = some (.cells #[v] 24 (0, 0)) ∧ OwnTree wr (w.heap.size + 3) v k T) (fun s _ => n - (intOf s).toNat)
  case atStart =>
    refine ⟨0, .slice none 0 0, Nat.zero_le _, rfl, below_alloc (below_alloc (below_alloc (Below.refl _ _) _) _) _, ?_, ?_, ?_, ownTree_nil _ _ _⟩
    · exact blk_alloc (blk_alloc (blk_new _ _ _) _) _
    · exact blk_alloc (blk_at _ _ _ _ (by simp)) _
    · exact blk_at _ _ _ _ (by simp)
  case round =>
    obtain ⟨k, v, hk, rfl, hb, hk0, hk1, hk2, hO⟩ := hrel
    have fb : wr.cell? ⟨w.heap.size, 0, none⟩ = some (.slice A n c) := by rw [blk_cell hk0]; rfl
    have fo : wr.cell? ⟨w.heap.size + 2, 0, none⟩ = some v := by rw [blk_cell hk2]; rfl
    have lb : w.heap.size + 2 < wr.heap.size := blk_lt hk2
    have lb0 : w.heap.size < wr.heap.size := by omega
    by_cases hlt : k < n
    · obtain ⟨b, off, aA, cA, aC, cC, rfl, hbl, c0, c1, c2, c3, hA, hC⟩ := ho.out (by omega)
      have g0 := (old hb _ _ hbl).trans (c0 k hlt)
      have g1 := (old hb _ _ hbl).trans (c1 k hlt)
      have g2 := (old hb _ _ hbl).trans (c2 k hlt)
      have g3 := (old hb _ _ hbl).trans (c3 k hlt)
      have hbr : b < wr.heap.size := Nat.lt_of_lt_of_le hbl hb.size
      have hgA := hide ((hA k hlt).1.below hb)
      have hgC := hide ((hC k hlt).1.below hb)
      have hfk := hf'.out (nd T k) (by unfold nd; rw [List.getD_eq_getElem?_getD, List.getElem?_eq_getElem (by omega)]; exact List.getElem_mem _)
      have hna : (nd T k).attrs.length ≤ 70 := hfk.2.1
      have hnk : (kids T k).length ≤ 70 := hfk.2.2.1
      have hO' := hide hO
      generalize aA k = AA at g1 hgA
      generalize cA k = CA at g3 hgC
      generalize aC k = ac at g1
      generalize cC k = cc at g3
      clear c0 c1 c2 c3 hA hC hfk hO
      have hal : Hid ((atts (nd T k).attrs).length = (nd T k).attrs.length * 2) := atts_len _
      have hil : Hid ((ints (kids T k)).length = (kids T k).length * 1) := by show _ = _; simp [ints]
      go_wp2_with (at_builtin; refine wpList_append_from rfl (.tmp 18) (.tmp 20) 59 rfl (wr.heap.size + 1) 83 ia (.agg #[.string .empty, .string .empty]) 2 32 Try.underlying59 hIa hza0 hza1 hza2 rfl (by decide) _ _ _ rfl (own_lit0 _ (wr.heap.size + 1) (wr.heap.size + 1) _ _ (by simp) (Nat.le_refl _)) AA (nd T k).attrs.length ac (atts (nd T k).attrs) rfl ?c0 ?c1 ?c2 ?c3 ?c4 ?c5 ?c6 ?_)
      case c0 => exact hal.out
      case c1 => exact attrs_none hgA.out
      case c2 => exact attrs_at (hgA.out.below (below_alloc (below_alloc (Below.refl _ _) _) _))
      case c3 => exact atts_one _
      case c4 => unfold maxLen; omega
      case c5 => omega
      case c6 => simp
      · intro v3 w3 hown3 hgr3
        have hd3 := own_lit0 (wr.alloc (.cells #[.string (nd T k).tag, .slice AA (nd T k).attrs.length ac, .int .i64 (par T k), .slice CA (kids T k).length cc] 61)) (wr.heap.size + 1) (wr.heap.size + 1) 83 2 (by simp) (Nat.le_refl _)
        have hn3 := hide (blk_grown hd3 hgr3 (Nat.lt_succ_self wr.heap.size) (blk_alloc (blk_new _ _ _) _))
        have hk0_3 := hide (blk_grown hd3 hgr3 (by omega) (blk_alloc (blk_alloc hk0 _) _))
        have hk1_3 := hide (blk_grown hd3 hgr3 (by omega) (blk_alloc (blk_alloc hk1 _) _))
        have hk2_3 := hide (blk_grown hd3 hgr3 (by omega) (blk_alloc (blk_alloc hk2 _) _))
        have hb3 : Below wr.heap.size wr w3 := (below_alloc (below_alloc (Below.refl _ _) _) _).grown hgr3 (by simp; omega) (fun q hq => by have := (hd3.lt q hq).1; omega)
        obtain ⟨A3, c3, rfl⟩ := own_slice hown3
        have hA3 := hide hown3
        have m1 : w3.cell? ⟨wr.heap.size, 1, none⟩ = some (.slice AA (nd T k).attrs.length ac) := by rw [blk_cell hn3.out]; rfl
        have m3 : w3.cell? ⟨wr.heap.size, 3, none⟩ = some (.slice CA (kids T k).length cc) := by rw [blk_cell hn3.out]; rfl
        have mf : w3.frozen? ⟨wr.heap.size, 1, none⟩ = false := blk_frozen hn3.out 1
        have lw3 : wr.heap.size < w3.heap.size := blk_lt hn3.out
        clear hown3 hgr3 hd3
        go_wp2_with (at_builtin; refine wpList_append_from rfl (.tmp 23) (.tmp 25) 51 rfl (wr.heap.size + 1) 3 i0 (.int .i64 0) 1 8 Try.underlying51 hI hz0 hz1 hz2 rfl (by decide) _ _ _ rfl (own_lit0 _ w3.heap.size (wr.heap.size + 1) _ _ (by simp) (by omega)) CA (kids T k).length cc (ints (kids T k)) rfl ?d0 ?d1 ?d2 ?d3 ?d4 ?d5 ?d6 ?_)
        case d0 => exact hil.out
        case d1 => exact ints_none hgC.out
        case d2 => exact ints_at (hgC.out.below (below_alloc (hb3.setCell (by simp) _) _))
        case d3 => exact ints_one _
        case d4 => unfold maxLen; omega
        case d5 => omega
        case d6 => simp; omega
        · intro v4 w4 hown4 hgr4
          have hd4 := own_lit0 (w3.setCell ⟨wr.heap.size, 1, none⟩ (.slice A3 (nd T k).attrs.length c3)) w3.heap.size (wr.heap.size + 1) 3 1 (by simp) (by omega)
          have hn4 := hide (blk_grown hd4 hgr4 (Nat.lt_succ_self wr.heap.size) (blk_alloc (blk_set hn3.out 1 (.slice A3 (nd T k).attrs.length c3)) _))
          have hk0_4 := hide (blk_grown hd4 hgr4 (by omega) (blk_alloc (blk_far hk0_3.out (p := ⟨wr.heap.size, 1, none⟩) (by simp; omega) (.slice A3 (nd T k).attrs.length c3)) _))
          have hk1_4 := hide (blk_grown hd4 hgr4 (by omega) (blk_alloc (blk_far hk1_3.out (p := ⟨wr.heap.size, 1, none⟩) (by simp; omega) (.slice A3 (nd T k).attrs.length c3)) _))
          have hk2_4 := hide (blk_grown hd4 hgr4 (by omega) (blk_alloc (blk_far hk2_3.out (p := ⟨wr.heap.size, 1, none⟩) (by simp; omega) (.slice A3 (nd T k).attrs.length c3)) _))
          have hb4 : Below wr.heap.size wr w4 := (below_alloc (hb3.setCell (p := ⟨wr.heap.size, 1, none⟩) (by simp) (.slice A3 (nd T k).attrs.length c3)) _).grown hgr4 (by simp; omega) (fun q hq => by have := (hd4.lt q hq).1; omega)
          have hA4 := hide (((ownsRow_setCell_below hA3.out (a := ⟨wr.heap.size, 1, none⟩) (by simp) (.slice A3 (nd T k).attrs.length c3)).alloc (.cells #[] 3)).kept hgr4 (own_ne ((ownsRow_setCell_below hA3.out (a := ⟨wr.heap.size, 1, none⟩) (by simp) (.slice A3 (nd T k).attrs.length c3)).alloc (.cells #[] 3)) hd4 (by decide)))
          obtain ⟨A4, c4, rfl⟩ := own_slice hown4
          have hK4 := hide hown4
          have p0 : w4.cell? ⟨wr.heap.size, 0, none⟩ = some (.string (nd T k).tag) := by rw [blk_cell hn4.out]; rfl
          have p1 : w4.cell? ⟨wr.heap.size, 1, none⟩ = some (.slice A3 (nd T k).attrs.length c3) := by rw [blk_cell hn4.out]; rfl
          have p2 : w4.cell? ⟨wr.heap.size, 2, none⟩ = some (.int .i64 (par T k)) := by rw [blk_cell hn4.out]; rfl
          have p3 : w4.cell? ⟨wr.heap.size, 3, none⟩ = some (.slice CA (kids T k).length cc) := by rw [blk_cell hn4.out]; rfl
          have pf : w4.frozen? ⟨wr.heap.size, 3, none⟩ = false := blk_frozen hn4.out 3
          have po : w4.cell? ⟨w.heap.size + 2, 0, none⟩ = some v := by rw [blk_cell hk2_4.out]; rfl
          have lw4 : wr.heap.size < w4.heap.size := blk_lt hn4.out
          have lw5 : w.heap.size + 2 < w4.heap.size := by omega
          obtain ⟨bA, bC, bc, bd, hrow, hra, hrk, hr4, hr5⟩ := id hO'.out
          have hb5 : Below wr.heap.size wr ((w4.setCell ⟨wr.heap.size, 3, none⟩ (.slice A4 (kids T k).length c4)).alloc (.cells #[.string (nd T k).tag, .slice A3 (nd T k).attrs.length c3, .int .i64 (par T k), .slice A4 (kids T k).length c4] 61)) := below_alloc (hb4.setCell (by simp) _) _
          have hrow5 := own_below hrow hb5
          clear hown4 hgr4 hd4 hra hrk hr4 hr5 m1 m3 mf
          go_wp2_with (at_builtin; refine wpList_append_own _ rfl (.tmp 29) (.tmp 31) 22 rfl (w.heap.size + 3) 61 ix _ 4 72 Try.underlying22 hIx hzx0 hzx1 hzx2 rfl (by decide) _ _ _ rfl hrow5 ⟨w4.heap.size, 0, none⟩ 1 1 [.string (nd T k).tag, .slice A3 (nd T k).attrs.length c3, .int .i64 (par T k), .slice A4 (kids T k).length c4] rfl rfl ?e1 ?e2 ?e3 ?e4 ?e5 ?_)
          case e1 =>
            intro j u hj
            have hj4 : j < 4 := by
              rcases Nat.lt_or_ge j 4 with h | h
              · exact h
              · rw [List.getElem?_eq_none (by simpa using h)] at hj; cases hj
            rw [show (⟨w4.heap.size, 0, none⟩ : Addr).add j = ⟨w4.heap.size, j, none⟩ by unfold Addr.add; split <;> simp_all]
            rw [blk_cell (blk_at _ _ _ _ (by simp)) j, ← hj]
            obtain rfl | rfl | rfl | rfl : j = 0 ∨ j = 1 ∨ j = 2 ∨ j = 3 := by omega
            all_goals rfl
          case e2 => intro u hu; simp at hu; rcases hu with rfl | rfl | rfl | rfl <;> rfl
          case e3 => unfold maxLen; omega
          case e4 => omega
          case e5 => simp; omega
          · intro v6 w6 hown6 hgr6 _
            obtain ⟨A6, c6, rfl⟩ := own_slice hown6
            have hT6 := hide (OwnTree.push hO'.out (by omega) hb5 (fun _ _ => rfl)
              (own_base ((ownsRow_setCell_below hA4.out (a := ⟨wr.heap.size, 3, none⟩) (by simp) _).alloc _) (by omega))
              (own_base ((ownsRow_setCell_below hK4.out (a := ⟨wr.heap.size, 3, none⟩) (by simp) _).alloc _) (by omega))
              (fun xs hx => by rw [own_unique hx hrow]; exact hown6) hgr6)
            have hk0_6 := hide (blk_grown hrow5 hgr6 (by omega) (blk_alloc (blk_far hk0_4.out (p := ⟨wr.heap.size, 3, none⟩) (by simp; omega) _) _))
            have hk1_6 := hide (blk_grown hrow5 hgr6 (by omega) (blk_alloc (blk_far hk1_4.out (p := ⟨wr.heap.size, 3, none⟩) (by simp; omega) _) _))
            have hk2_6 := hide (blk_grown hrow5 hgr6 (by omega) (blk_alloc (blk_far hk2_4.out (p := ⟨wr.heap.size, 3, none⟩) (by simp; omega) _) _))
            have hb6 : Below w.heap.size w w6 := (hb.trans (hb5.mono (by omega))).grown hgr6 (by simp; omega) (fun q hq => by have := (hrow5.lt q hq).1; omega)
            have po6 : w6.cell? ⟨w.heap.size + 2, 0, none⟩ = some v := by rw [blk_cell hk2_6.out]; rfl
            have pf6 : w6.frozen? ⟨w.heap.size + 2, 0, none⟩ = false := blk_frozen hk2_6.out 0
            clear hown6 hgr6 hrow5 hrow p0 p1 p2 p3 pf po
            go_wp2
            go_roundw
            case rel => exact ⟨k + 1, .slice A6 (k + 1) c6, by omega, by go_num, hb6.setCell (p := ⟨w.heap.size + 2, 0, none⟩) (by show w.heap.size ≤ w.heap.size + 2; omega) _, blk_far hk0_6.out (by intro e; have e2 : w.heap.size = w.heap.size + 2 := e; omega) _, blk_far hk1_6.out (by intro e; have e2 : w.heap.size + 1 = w.heap.size + 2 := e; omega) _, blk_set hk2_6.out 0 _, hT6.out.set (by simp) _⟩
            case measure => simp [intOf]; omega
    · obtain rfl : k = n := by omega
      have ff : wr.frozen? ⟨w.heap.size + 1, 0, none⟩ = false := blk_frozen hk1 0
      have f1 : wr.cell? ⟨w.heap.size + 1, 0, none⟩ = some (.slice none 0 0) := by rw [blk_cell hk1]; rfl
      obtain ⟨A', c', rfl, hc1, hc2, hT'⟩ := isTree_of_own hO hl (by omega) hf'.out
      have hres : (wr.setCell ⟨w.heap.size + 1, 0, none⟩ (.slice A' k c')).cell? ⟨w.heap.size + 1, 0, none⟩ = some (.slice A' k c') := by go_simp
      have hO2 := hide (hO.set (p := ⟨w.heap.size + 1, 0, none⟩) (by simp) (.slice A' k c'))
      have hT2 := hide hT'
      clear hO hT'
      go_wp2
      refine bodyPost_ret (v := .agg #[.slice A' k c']) (by simp [results, Try.results39, go_sem, hres]) rfl ?_
      obtain ⟨A2, c2, hv, _, _, hT3⟩ := isTree_of_own hO2.out hl (by omega) hf'.out
      injection hv with e1 e2 e3
      subst e1
      exact ⟨_, _, rfl, hO2.out.base (by omega), hT3, hb.setCell (by simp) _⟩
end Go.Proofs.Ytfiiikbbiimdiaa
