/- Walks: siblings and places, by the program and by the reference. No condition. -/
import Derived.Test.YtfiiikbbiimdiaaWg
namespace Go.Proofs.Ytfiiikbbiimdiaa
open Go.RowKit

/-- The siblings of an element of a good tree, itself among them. -/
def sibs (T : List ANode) (i : Nat) : List Int := if par T i < 0 then [(i : Int)] else kids T (par T i).toNat
def placeE (T : List ANode) (i : Int) : Int := if askI T [i] = 0 then posn (sibs T i.toNat) i else 0
def besF (T : List ANode) (i : Nat) (d : Int) : Int :=
  if posn (sibs T i) i + d < 0 ∨ (sibs T i).length ≤ posn (sibs T i) i + d then -1 else ix (sibs T i) (posn (sibs T i) i + d).toNat
def besE (T : List ANode) (i d : Int) : Int := if askI T [i] = 0 then besF T i.toNat d else 0

theorem kids_len {T : List ANode} (hg : goodB T = true) {p : Nat} (hp : p < T.length) : (kids T p).length ≤ 64 := by
  have h1 := ((good_ref T).1 hg).2.2.2.1 p hp
  have h2 := ((goodB_iff T).1 hg).2.1
  omega
theorem sibs_len {T : List ANode} (hg : goodB T = true) {i : Nat} (hi : i < T.length) : (sibs T i).length ≤ 64 := by
  unfold sibs
  split
  · simp
  · have := (good_par hg hi).2
    exact kids_len hg (by omega)

theorem ocheck_ok (A : Option Addr) (n c : Nat) (T : List ANode) (i : Int) (w : World) (h : IsTree w A n T) :
    Calls Try.prog 66 #[.agg #[.slice A n c], .int .i64 i] w fun e w' => e = .returned (.int .i64 (askI T [i])) ∧ Below w.heap.size w w' := by
  have hT := hide h
  clear h
  have hB0 := below_alloc (Below.refl w.heap.size w) (.cells #[.slice A n c] 24)
  go_enter Try.func66, Try.ntmps66
  go_wp2_with fail
  refine (depth_ok _ _ _ T _ _ (hT.out.below hB0)).mono ?_
  rintro e w1 ⟨rfl, hb1⟩
  have hB1 := Below.on hB0 hb1
  go_wp2
  go_ret
  exact ⟨rfl, hB1⟩

/-- The siblings and the place, as they come back. -/
def MadeSib (w : World) (xs : List Int) (p : Int) (e : Ending) (w' : World) : Prop :=
  ∃ (A : Option Addr) (c : Nat), e = .returned (.tuple #[.slice A xs.length c, .int .i64 p]) ∧ IsInts w' A xs.length xs ∧ Below w.heap.size w w'
def MadeInts0 (w : World) (xs : List Int) (e : Ending) (w' : World) : Prop :=
  ∃ (A : Option Addr) (c : Nat), e = .returned (.slice A xs.length c) ∧ IsInts w' A xs.length xs ∧ Below w.heap.size w w'

end Go.Proofs.Ytfiiikbbiimdiaa
/- Walks: the sibling before and behind, by the program and by the reference; the reference's places. No condition. -/
namespace Go.Proofs.Ytfiiikbbiimdiaa
open Go.RowKit

end Go.Proofs.Ytfiiikbbiimdiaa
