/- Walks: a tree with a root, a tree with one element more. Conditions: the tree is not great, the text is a Go text. -/
import Derived.Test.YtfiiikbbiimdiaaWi
import Derived.Deep.RegionWith
namespace Go.Proofs.Ytfiiikbbiimdiaa
open Go.RowKit

/-- A tree and a number that the call has made. -/
def MadeOwn2 (w : World) (T : List ANode) (code : Int) (e : Ending) (w' : World) : Prop :=
  ∃ (A : Option Addr) (c : Nat), e = .returned (.tuple #[.agg #[.slice A T.length c], .int .i64 code]) ∧ OwnTree w' w.heap.size (.slice A T.length c) T.length T ∧ IsTree w' A T.length T ∧ Below w.heap.size w w'
def MadeOwn3 (w : World) (T : List ANode) (m code : Int) (e : Ending) (w' : World) : Prop :=
  ∃ (A : Option Addr) (c : Nat), e = .returned (.tuple #[.agg #[.slice A T.length c], .int .i64 m, .int .i64 code]) ∧ OwnTree w' w.heap.size (.slice A T.length c) T.length T ∧ IsTree w' A T.length T ∧ Below w.heap.size w w'

def rootT (tag : ByteArray) : ANode := ⟨tag, [], -1, []⟩
def newT (tag : ByteArray) : List ANode := if namedB tag = true then [rootT tag] else []
def newE (tag : ByteArray) : Int := if namedB tag = true then 0 else 2

theorem fits_nil : Fits [] := fun x hx => by simp at hx
theorem fits_root {tag : ByteArray} (h : tag.size ≤ 9223372036854775807) : Fits [rootT tag] := fun x hx => by
  simp at hx; subst hx; exact ⟨h, by simp [rootT], by simp [rootT], fun y hy => by simp [rootT] at hy⟩
theorem fits_app {T S : List ANode} (h : Fits T) (h' : Fits S) : Fits (T ++ S) := fun x hx => (List.mem_append.1 hx).elim (h x) (h' x)

theorem ownTree_one (W : World) (g base : Nat) (tag : ByteArray) (hg : g = W.heap.size) (hb : base ≤ g) :
    OwnTree (W.alloc (.cells #[.string tag, .slice none 0 0, .int .i64 (-1), .slice none 0 0] 61)) base (.slice (some ⟨g, 0, none⟩) 1 1) 1 [rootT tag] := by
  subst hg
  refine ⟨fun _ => none, fun _ => none, fun _ => 0, fun _ => 0, ?_, fun j hj => ?_, fun j hj => ?_, fun i j hij hj => by omega, fun i j hij hj => by omega⟩
  · exact World.ownsRow_lit (base := base) (e := 61) (size := 4) W #[.string tag, .slice none 0 0, .int .i64 (-1), .slice none 0 0] 1 hb (by unfold maxLen; omega) rfl
  · obtain rfl : j = 0 := by omega
    exact World.ownsRow_nil _ _ _ _
  · obtain rfl : j = 0 := by omega
    exact World.ownsRow_nil _ _ _ _

theorem new_ok (tag : ByteArray) (w : World) (hs : tag.size ≤ 9223372036854775807) : Calls Try.prog 70 #[.string tag] w (MadeOwn2 w (newT tag) (newE tag)) := by
  cases hn : namedB tag
  · have h1 : newT tag = [] := by simp [newT, hn]
    have h2 : newE tag = 2 := by simp [newE, hn]
    rw [h1, h2]
    go_enter Try.func70, Try.ntmps70
    go_wp2_with (go_at_call 91; refine (named_ok _ _ hs).mono ?_; rintro e w1 ⟨rfl, rfl⟩)
    refine bodyPost_ret (v := .tuple #[.agg #[.slice none 0 0], .int .i64 2]) (by simp [results, Try.results70, go_sem]) rfl ?_
    exact ⟨none, 0, rfl, ownTree_nil _ _ _, ⟨rfl, by decide, fun x hx => by simp at hx, fun h => absurd h (by decide)⟩, below_alloc (Below.refl _ _) _⟩
  · have h1 : newT tag = [rootT tag] := by simp [newT, hn]
    have h2 : newE tag = 0 := by simp [newE, hn]
    rw [h1, h2]
    go_enter Try.func70, Try.ntmps70
    go_wp2_with (go_at_call 91; refine (named_ok _ _ hs).mono ?_; rintro e w1 ⟨rfl, rfl⟩)
    refine bodyPost_ret (v := .tuple #[.agg #[.slice (some ⟨w.heap.size + 1, 0, none⟩) 1 1], .int .i64 0]) (by simp [results, Try.results70, go_sem]) rfl ?_
    have hO := ownTree_one (w.alloc (.cells #[.slice (some ⟨w.heap.size + 1, 0, none⟩) 1 1] 24)) (w.heap.size + 1) w.heap.size tag (by simp) (by omega)
    obtain ⟨A', c', hv, _, _, hT⟩ := isTree_of_own hO rfl (by omega) (fits_root hs)
    injection hv with e1 e2 e3
    subst e1
    exact ⟨_, _, rfl, hO, hT, below_alloc (below_alloc (Below.refl _ _) _) _⟩

theorem own_set_typed {w : World} {base size n g i : Nat} {e t : TypeId} {v : Value} {xs : List Value} {cs : Array Value} (h : w.ownsRow base e size v n xs) (hb : w.heap[g]? = some (.cells cs t (0, 0))) (hne : e ≠ t) (u : Value) : (w.setCell ⟨g, i, none⟩ u).ownsRow base e size v n xs := by
  refine ⟨h.1, ?_⟩
  rcases h.2 with hn | ⟨g', cap, cur, rfl, hbb, hg, rest⟩
  · exact .inl hn
  · refine .inr ⟨g', cap, cur, rfl, hbb, ?_, rest⟩
    have : g' ≠ g := by
      rintro rfl
      rw [hg] at hb
      injection hb with hb
      injection hb with _ h2
      exact hne h2
    rw [Below.heap_setCell _ _ _ _ this]; exact hg
theorem OwnTree.set_typed {w : World} {base k g i : Nat} {v : Value} {T : List ANode} {cs : Array Value} (h : OwnTree w base v k T) (hb : w.heap[g]? = some (.cells cs 24 (0, 0))) (u : Value) : OwnTree (w.setCell ⟨g, i, none⟩ u) base v k T := by
  obtain ⟨aA, cA, aC, cC, h1, h2, h3, h4, h5⟩ := h
  exact ⟨aA, cA, aC, cC, own_set_typed h1 hb (by decide) u, fun j hj => own_set_typed (h2 j hj) hb (by decide) u, fun j hj => own_set_typed (h3 j hj) hb (by decide) u, h4, h5⟩

theorem nd_app_lt {T S : List ANode} {j : Nat} (h : j < T.length) : nd (T ++ S) j = nd T j := by
  unfold nd; rw [List.getD_eq_getElem?_getD, List.getD_eq_getElem?_getD, List.getElem?_append_left h]
theorem nd_app_at (T : List ANode) (x : ANode) : nd (T ++ [x]) T.length = x := by
  unfold nd; rw [List.getD_eq_getElem?_getD, List.getElem?_append_right (Nat.le_refl _)]; simp

def addE (T : List ANode) (tag : ByteArray) : Int := if goodB T = true then (if namedB tag = true then (if T.length = 64 then 18 else 0) else 2) else 8
def addT (T : List ANode) (tag : ByteArray) : List ANode := if addE T tag = 0 then T ++ [rootT tag] else []
def addN (T : List ANode) (tag : ByteArray) : Int := if addE T tag = 0 then T.length else 0

theorem made_nil {w w' : World} {v : Value} {m code : Int} (hv : v = .tuple #[.agg #[.slice none 0 0], .int .i64 m, .int .i64 code]) (hb : Below w.heap.size w w') : MadeOwn3 w [] m code (.returned v) w' :=
  ⟨none, 0, by rw [hv]; rfl, ownTree_nil _ _ _, ⟨rfl, by decide, fun x hx => by simp at hx, fun h => absurd h (by decide)⟩, hb⟩

end Go.Proofs.Ytfiiikbbiimdiaa
