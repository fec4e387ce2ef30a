/- Walks: a tree with a root, a tree with one element more. Conditions: the tree is not great, the text is a Go text. -/
import Derived.Test.YtmdccplhmniiiaaGreatWi
import Derived.Deep.RegionWith
namespace Go.Proofs.YtmdccplhmniiiaaGreat
open Go.RowKit

/-- A tree and a number that the call has made. -/
def MadeOwn2 (w : World) (T : List ANode) (code : Int) (e : Ending) (w' : World) : Prop :=
  ∃ (A : Option Addr) (c : Nat), e = .returned (.tuple #[.agg #[.slice A T.length c], .int .i64 code]) ∧ OwnTree w' w.heap.size (.slice A T.length c) T.length T ∧ IsTree w' A T.length T ∧ Below w.heap.size w w'
def MadeOwn3 (w : World) (T : List ANode) (m code : Int) (e : Ending) (w' : World) : Prop :=
  ∃ (A : Option Addr) (c : Nat), e = .returned (.tuple #[.agg #[.slice A T.length c], .int .i64 m, .int .i64 code]) ∧ OwnTree w' w.heap.size (.slice A T.length c) T.length T ∧ IsTree w' A T.length T ∧ Below w.heap.size w w'

def rootT (tag : ByteArray) : ANode := ⟨tag, [], -1, []⟩
def newT (tag : ByteArray) : List ANode := if namedB tag = true then [rootT tag] else []
def newE (tag : ByteArray) : Int := if namedB tag = true then 0 else 2

theorem fits_nil : Fits [] := fun x hx => by simp at hx
theorem fits_root {tag : ByteArray} (h : tag.size ≤ 9223372036854775807) : Fits [rootT tag] := fun x hx => by
  simp at hx; subst hx; exact ⟨h, by simp [rootT], by simp [rootT], fun y hy => by simp [rootT] at hy⟩
theorem fits_app {T S : List ANode} (h : Fits T) (h' : Fits S) : Fits (T ++ S) := fun x hx => (List.mem_append.1 hx).elim (h x) (h' x)

theorem ownTree_one (W : World) (g base : Nat) (tag : ByteArray) (hg : g = W.heap.size) (hb : base ≤ g) :
    OwnTree (W.alloc (.cells #[.string tag, .slice none 0 0, .int .i64 (-1), .slice none 0 0] 58)) base (.slice (some ⟨g, 0, none⟩) 1 1) 1 [rootT tag] := by
  subst hg
  refine ⟨fun _ => none, fun _ => none, fun _ => 0, fun _ => 0, ?_, fun j hj => ?_, fun j hj => ?_, fun i j hij hj => by omega, fun i j hij hj => by omega⟩
  · exact World.ownsRow_lit (base := base) (e := 58) (size := 4) W #[.string tag, .slice none 0 0, .int .i64 (-1), .slice none 0 0] 1 hb (by unfold maxLen; omega) rfl
  · obtain rfl : j = 0 := by omega
    exact World.ownsRow_nil _ _ _ _
  · obtain rfl : j = 0 := by omega
    exact World.ownsRow_nil _ _ _ _

theorem new_ok (tag : ByteArray) (w : World) (hs : tag.size ≤ 9223372036854775807) : Calls Tryz.prog 5 #[.string tag] w (MadeOwn2 w (newT tag) (newE tag)) := by
  cases hn : namedB tag
  · have h1 : newT tag = [] := by simp [newT, hn]
    have h2 : newE tag = 2 := by simp [newE, hn]
    rw [h1, h2]
    go_enter Tryz.func5, Tryz.ntmps5
    go_wp2_with (go_at_call 19; refine (named_ok _ _ hs).mono ?_; rintro e w1 ⟨rfl, rfl⟩)
    refine bodyPost_ret (v := .tuple #[.agg #[.slice none 0 0], .int .i64 2]) (by simp [results, Tryz.results5, go_sem]) rfl ?_
    exact ⟨none, 0, rfl, ownTree_nil _ _ _, ⟨rfl, by decide, fun x hx => by simp at hx, fun h => absurd h (by decide)⟩, below_alloc (Below.refl _ _) _⟩
  · have h1 : newT tag = [rootT tag] := by simp [newT, hn]
    have h2 : newE tag = 0 := by simp [newE, hn]
    rw [h1, h2]
    go_enter Tryz.func5, Tryz.ntmps5
    go_wp2_with (go_at_call 19; refine (named_ok _ _ hs).mono ?_; rintro e w1 ⟨rfl, rfl⟩)
    refine bodyPost_ret (v := .tuple #[.agg #[.slice (some ⟨w.heap.size + 1, 0, none⟩) 1 1], .int .i64 0]) (by simp [results, Tryz.results5, go_sem]) rfl ?_
    have hO := ownTree_one (w.alloc (.cells #[.slice (some ⟨w.heap.size + 1, 0, none⟩) 1 1] 26)) (w.heap.size + 1) w.heap.size tag (by simp) (by omega)
    obtain ⟨A', c', hv, _, _, hT⟩ := isTree_of_own hO rfl (by omega) (fits_root hs)
    injection hv with e1 e2 e3
    subst e1
    exact ⟨_, _, rfl, hO, hT, below_alloc (below_alloc (Below.refl _ _) _) _⟩

theorem own_set_typed {w : World} {base size n g i : Nat} {e t : TypeId} {v : Value} {xs : List Value} {cs : Array Value} (h : w.ownsRow base e size v n xs) (hb : w.heap[g]? = some (.cells cs t (0, 0))) (hne : e ≠ t) (u : Value) : (w.setCell ⟨g, i, none⟩ u).ownsRow base e size v n xs := by
  refine ⟨h.1, ?_⟩
  rcases h.2 with hn | ⟨g', cap, cur, rfl, hbb, hg, rest⟩
  · exact .inl hn
  · refine .inr ⟨g', cap, cur, rfl, hbb, ?_, rest⟩
    have : g' ≠ g := by
      rintro rfl
      rw [hg] at hb
      injection hb with hb
      injection hb with _ h2
      exact hne h2
    rw [Below.heap_setCell _ _ _ _ this]; exact hg
theorem OwnTree.set_typed {w : World} {base k g i : Nat} {v : Value} {T : List ANode} {cs : Array Value} (h : OwnTree w base v k T) (hb : w.heap[g]? = some (.cells cs 26 (0, 0))) (u : Value) : OwnTree (w.setCell ⟨g, i, none⟩ u) base v k T := by
  obtain ⟨aA, cA, aC, cC, h1, h2, h3, h4, h5⟩ := h
  exact ⟨aA, cA, aC, cC, own_set_typed h1 hb (by decide) u, fun j hj => own_set_typed (h2 j hj) hb (by decide) u, fun j hj => own_set_typed (h3 j hj) hb (by decide) u, h4, h5⟩

theorem nd_app_lt {T S : List ANode} {j : Nat} (h : j < T.length) : nd (T ++ S) j = nd T j := by
  unfold nd; rw [List.getD_eq_getElem?_getD, List.getD_eq_getElem?_getD, List.getElem?_append_left h]
theorem nd_app_at (T : List ANode) (x : ANode) : nd (T ++ [x]) T.length = x := by
  unfold nd; rw [List.getD_eq_getElem?_getD, List.getElem?_append_right (Nat.le_refl _)]; simp

set_option maxHeartbeats 1000000 in
theorem added_ok (A : Option Addr) (n c : Nat) (T : List ANode) (tag : ByteArray) (w : World) (h : IsTree w A n T) (hn : n ≤ 70) (hf : Fits T) (hs : tag.size ≤ 9223372036854775807) :
    Calls Tryz.prog 20 #[.agg #[.slice A n c], .string tag] w (MadeOwn w (n + 1) (T ++ [rootT tag])) := by
  obtain ⟨ix, hIx, hzx0, hzx1, hzx2⟩ := info_parts info_node
  have hT := hide h
  have hl := h.1
  have hf' := hide hf
  clear h hf
  have hB0 : Below w.heap.size w ((w.alloc (.cells #[.slice A n c] 26)).alloc (.cells #[.slice none 0 0] 26)) := below_alloc (below_alloc (Below.refl _ _) _) _
  go_enter Tryz.func20, Tryz.ntmps20
  go_wp2_with fail
  refine (twin_ok _ _ _ T _ (hT.out.below hB0) hn hf'.out).mono ?_
  rintro e w1 ⟨A1, c1, rfl, hO1, hT1, hb1⟩
  have hB1 := Below.on hB0 hb1
  have hk1 : w1.heap[w.heap.size + 1]? = some (.cells #[.slice none 0 0] 26 (0, 0)) := by
    rw [hb1.block _ (by simp)]; exact blk_at _ _ _ _ (by simp)
  have l1 : w.heap.size + 1 < w1.heap.size := blk_lt hk1
  have hO1 := hO1.base (base := w.heap.size + 2) (by simp)
  obtain ⟨aA, cA, aC, cC, hrow, hra, hrk, hr4, hr5⟩ := id hO1
  have hw : Below w1.heap.size w1 ((w1.alloc (.cells #[.slice A1 n c1] 26)).alloc (.cells #[.string tag, .slice none 0 0, .int .i64 (-1), .slice none 0 0] 58)) := below_alloc (below_alloc (Below.refl _ _) _) _
  have hrow2 := own_below hrow hw
  have hO1' := hide hO1
  have hrow' := hide hrow
  clear hra hrk hr4 hr5 hO1 hT1 hrow
  go_wp2_with (at_builtin; refine wpList_append_own _ rfl _ _ 24 rfl _ 58 ix _ 4 72 Tryz.underlying24 hIx hzx0 hzx1 hzx2 rfl (by decide) _ _ _ rfl hrow2 ⟨w1.heap.size + 1, 0, none⟩ 1 1 [.string tag, .slice none 0 0, .int .i64 (-1), .slice none 0 0] rfl rfl ?e1 ?e2 ?e3 ?e4 ?e5 ?_)
  case e1 =>
    intro j u hj
    have hj4 : j < 4 := by
      rcases Nat.lt_or_ge j 4 with h | h
      · exact h
      · rw [List.getElem?_eq_none (by simpa using h)] at hj; cases hj
    rw [show (⟨w1.heap.size + 1, 0, none⟩ : Addr).add j = ⟨w1.heap.size + 1, j, none⟩ by unfold Addr.add; split <;> simp_all]
    rw [blk_cell (blk_at _ _ _ _ (by simp)) j, ← hj]
    obtain rfl | rfl | rfl | rfl : j = 0 ∨ j = 1 ∨ j = 2 ∨ j = 3 := by omega
    all_goals rfl
  case e2 => intro u hu; simp at hu; rcases hu with rfl | rfl | rfl | rfl <;> rfl
  case e3 => unfold maxLen; omega
  case e4 => omega
  case e5 => simp; omega
  · intro v6 w6 hown6 hgr6 _
    obtain ⟨A6, c6, rfl⟩ := own_slice hown6
    have hT6 := hide (OwnTree.push (T' := T ++ [rootT tag]) (A1 := none) (A3 := none) (c1 := 0) (c3 := 0) hO1'.out (by omega) hw (fun j hj => (nd_app_lt (by omega)).symm)
      (by have := nd_app_at T (rootT tag); rw [hl] at this; rw [this]; exact World.ownsRow_nil _ _ _ _)
      (by have := nd_app_at T (rootT tag); rw [hl] at this; rw [kids, this]; exact World.ownsRow_nil _ _ _ _)
      (fun xs hx => by have := nd_app_at T (rootT tag); rw [hl] at this; rw [kids, par, this, own_unique hx hrow'.out]; exact hown6) hgr6)
    have hlen : (T ++ [rootT tag]).length = n + 1 := by simp [hl]
    have hlen' := hide hlen
    have hfit := hide (fits_app hf'.out (fits_root hs))
    have hk6 := hide (blk_grown hrow2 hgr6 (by omega) (blk_alloc (blk_alloc hk1 _) _))
    have ho6 := hide (show w6.heap[w1.heap.size]? = some (.cells #[.slice A1 n c1] 26 (0, 0)) by
      rw [hgr6.block w1.heap.size (by simp; omega) (fun e => by have := (hrow'.out.lt _ e.symm).2; omega)]
      exact blk_alloc (blk_new _ _ _) _)
    have hb6 : Below w.heap.size w w6 := (hB1.trans (hw.mono (by omega))).grown hgr6 (by simp; omega) (fun q hq => by have := (hrow2.lt q hq).1; omega)
    have p1 : w6.cell? ⟨w1.heap.size, 0, none⟩ = some (.slice A1 n c1) := by rw [blk_cell ho6.out]; rfl
    have p2 : w6.frozen? ⟨w1.heap.size, 0, none⟩ = false := blk_frozen ho6.out 0
    have p3 : w6.cell? ⟨w.heap.size + 1, 0, none⟩ = some (.slice none 0 0) := by rw [blk_cell hk6.out]; rfl
    have p4 : w6.frozen? ⟨w.heap.size + 1, 0, none⟩ = false := blk_frozen hk6.out 0
    clear hown6 hgr6 hrow2 hlen
    go_wp2
    have hk7 := blk_far hk6.out (p := ⟨w1.heap.size, 0, none⟩) (by intro e; have e2 : w.heap.size + 1 = w1.heap.size := e; omega) (.slice A6 (n + 1) c6)
    have hk8 := blk_set hk7 0 (.slice A6 (n + 1) c6)
    have hres : ((w6.setCell ⟨w1.heap.size, 0, none⟩ (.slice A6 (n + 1) c6)).setCell ⟨w.heap.size + 1, 0, none⟩ (.slice A6 (n + 1) c6)).cell? ⟨w.heap.size + 1, 0, none⟩ = some (.slice A6 (n + 1) c6) := by rw [blk_cell hk8]; rfl
    refine bodyPost_ret (v := .agg #[.slice A6 (n + 1) c6]) (by simp [results, Tryz.results20, go_sem, hres]) rfl ?_
    have hO := ((hT6.out.set_typed (i := 0) ho6.out (.slice A6 (n + 1) c6)).set_typed (i := 0) hk7 (.slice A6 (n + 1) c6)).base (base := w.heap.size) (by omega)
    obtain ⟨A2, c2, hv, _, _, hT3⟩ := isTree_of_own hO hlen'.out (by omega) hfit.out
    injection hv with e1 e2 e3
    subst e1
    exact ⟨_, _, rfl, hO, hT3, (hb6.setCell (p := ⟨w1.heap.size, 0, none⟩) (by show w.heap.size ≤ w1.heap.size; omega) _).setCell (p := ⟨w.heap.size + 1, 0, none⟩) (by show w.heap.size ≤ w.heap.size + 1; omega) _⟩

def addE (T : List ANode) (tag : ByteArray) : Int := if goodB T = true then (if namedB tag = true then (if T.length = 64 then 18 else 0) else 2) else 8
def addT (T : List ANode) (tag : ByteArray) : List ANode := if addE T tag = 0 then T ++ [rootT tag] else []
def addN (T : List ANode) (tag : ByteArray) : Int := if addE T tag = 0 then T.length else 0

theorem made_nil {w w' : World} {v : Value} {m code : Int} (hv : v = .tuple #[.agg #[.slice none 0 0], .int .i64 m, .int .i64 code]) (hb : Below w.heap.size w w') : MadeOwn3 w [] m code (.returned v) w' :=
  ⟨none, 0, by rw [hv]; rfl, ownTree_nil _ _ _, ⟨rfl, by decide, fun x hx => by simp at hx, fun h => absurd h (by decide)⟩, hb⟩

end Go.Proofs.YtmdccplhmniiiaaGreat
