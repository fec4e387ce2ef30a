/- Walks: lists in document order, what is above an element, the comparison of two elements, by the reference. No condition. -/
import Derived.Test.YtmdccplhmniiiaaGreatOc
import Derived.Test.YtmdccplhmniiiaaGreatOa
namespace Go.Proofs.YtmdccplhmniiiaaGreat
open Go.RowKit

def lenV : Value → Nat
  | .slice _ n _ => n
  | _ => 0

theorem OwnI.lenV {w : World} {base : Nat} {v : Value} {xs : List Int} (h : OwnI w base v xs) : lenV v = xs.length := by
  obtain ⟨A, c, rfl, _⟩ := sl_of_own h
  rfl
theorem flat_len {T : List ANode} (hg : goodB T = true) {l : List Int} (h : ∀ x ∈ l, ∃ q : Nat, x = (q : Int) ∧ q < T.length) : l.length ≤ (l.flatMap (preT T)).length := by
  induction l with
  | nil => simp
  | cons a l ih =>
    obtain ⟨q, rfl, hq⟩ := h a (by simp)
    have h1 := ih fun x hx => h x (by simp [hx])
    have h2 : 1 ≤ (preT T q).length := by rw [preT_cons hg hq]; simp
    rw [List.flatMap_cons, List.length_append, List.length_cons]
    omega

theorem sameInts_yes (A B : Option Addr) (n m c d : Nat) (xs : List Int) (w : World) (h : IsInts w A n xs) (h' : IsInts w B m xs) :
    Calls Tryz.prog 18 #[.slice A n c, .slice B m d] w fun e w' => e = .returned (.bool true) ∧ Below w.heap.size w w' := by
  refine (sameInts_ok A B n m c d xs xs w h h').mono ?_
  rintro e w' ⟨rfl, q, rfl⟩
  exact ⟨by simp, below_drewN (Below.refl _ _) q⟩
theorem isInts_lit (W : World) (g : Nat) (t : TypeId) (xs : List Int) (hn : xs.length ≤ 1000) (hg : g = W.heap.size) : IsInts (W.alloc (.cells (ints xs).toArray t)) (some ⟨g, 0, none⟩) xs.length xs := by
  subst hg
  refine ⟨rfl, by omega, fun _ => ⟨W.heap.size, 0, rfl, by simp, fun j hj => ?_⟩⟩
  rw [Nat.zero_add, World.cell?_alloc_at _ _ _ _ rfl]
  simpa using ints_get hj
theorem two_nil {w w' : World} {code : Int} (hb : Below w.heap.size w w') : MadeIntsE w [] code (.returned (.tuple #[.slice none 0 0, .int .i64 code])) w' := madeIntsE_nil hb

def MadeIntsR (w : World) (xs : List Int) (code : Int) (e : Ending) (w' : World) : Prop :=
  ∃ (A : Option Addr) (c : Nat), e = .returned (.tuple #[.slice A xs.length c, .int .i64 code]) ∧ IsInts w' A xs.length xs ∧ Below w.heap.size w w'
theorem madeIntsR_nil {w w' : World} {code : Int} (hb : Below w.heap.size w w') : MadeIntsR w [] code (.returned (.tuple #[.slice none 0 0, .int .i64 code])) w' :=
  ⟨none, 0, rfl, ⟨rfl, by simp, fun h => absurd h (by simp)⟩, hb⟩

theorem sgn_self (a : Int) : sgn a a = 0 := by unfold sgn; rw [if_neg (by omega), if_neg (by omega)]

end Go.Proofs.YtmdccplhmniiiaaGreat
