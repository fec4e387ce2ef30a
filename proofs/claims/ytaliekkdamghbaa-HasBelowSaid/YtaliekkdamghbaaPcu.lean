/- Plain laws on what matches behind one compound: one step up, one step back. Condition: the tree is good. -/
import Derived.Test.YtaliekkdamghbaaCr
import Derived.Test.YtaliekkdamghbaaSib
namespace Go.Proofs.Ytaliekkdamghbaa
open Go.RowKit

theorem prevL_at (T : List ANode) (i : Nat) : prevL T i = ((sibs T i).take (posn (sibs T i) i).toNat).reverse := by
  unfold prevL
  by_cases h : par T i < 0
  · rw [if_pos h]
    have e : sibs T i = [(i : Int)] := if_pos h
    rw [e]; simp [posn]
  · rw [if_neg h]
    have e : sibs T i = kids T (par T i).toNat := if_neg h
    rw [e]
/-- The previous siblings are the one just before, and its own. -/
theorem prevL_cons {T : List ANode} (hg : goodB T = true) {i : Nat} (hi : i < T.length) : (besE T i (-1) < 0 ∧ prevL T i = []) ∨ ∃ q : Nat, besE T i (-1) = q ∧ q < T.length ∧ prevL T i = (q : Int) :: prevL T q := by
  obtain ⟨x, hx, hxi, hp⟩ := sibs_pos hg hi
  rw [← hxi]
  cases x with
  | zero =>
    refine .inl ⟨by rw [bes_first hg hi hx]; decide, ?_⟩
    rw [prevL_at T, hp]; rfl
  | succ x =>
    obtain ⟨q, hq, hql, hqs, -⟩ := sibs_mem hg hi (ix_mem (l := sibs T i) (j := x) (by omega))
    refine .inr ⟨q, by rw [bes_prev hg hi hx, hq], hql, ?_⟩
    have hpq := sibs_posn hg hi (j := x) (by omega)
    rw [hq] at hpq
    rw [prevL_at T, prevL_at T, hp, hqs, hpq, Int.toNat_natCast, Int.toNat_natCast, take_snoc' _ _ (by omega), List.reverse_append, ← ix_get (by omega), hq]
    rfl
/-- What is told of one compound in front of all elements. -/
def twoH (B : List Bool) (n : Nat) : List (List Bool) := [B, List.replicate n true]
theorem two_rch {T : List ANode} (c : Int) (B : List Bool) {i : Nat} (hi : i < T.length) : rchF T [c] (twoH B T.length) 1 i = (prtF T i c).any (hitB B) := by
  show (bx (rowB (twoH B T.length) 1) i && _) = _
  have h1 : bx (rowB (twoH B T.length) 1) i = true := by simp [twoH, rowB, bx, hi]
  rw [h1, Bool.true_and]
  rfl
theorem two_told {T : List ANode} {c : Int} (B : List Bool) (hB : B.length = T.length) (h1 : 1 ≤ c) (h4 : c ≤ 4) : toldB T.length [c] (twoH B T.length) = true := by
  rw [toldB_iff]
  refine ⟨by show 1 ≤ 2; omega, by show 2 ≤ 64; omega, rfl, fun j hj => ?_, fun j hj => ?_⟩
  · have : j = 0 := by simp at hj; omega
    subst this
    exact ⟨h1, h4⟩
  · have : j = 0 ∨ j = 1 := by simp [twoH] at hj; omega
    rcases this with rfl | rfl
    · exact hB
    · simp [twoH, rowB]
theorem two_ask {T : List ANode} (hg : goodB T = true) {c : Int} (B : List Bool) (hB : B.length = T.length) (h1 : 1 ≤ c) (h4 : c ≤ 4) {i : Nat} (hi : i < T.length) : cask T i [c] (twoH B T.length) = 0 :=
  cask_zero.2 ⟨hg, ⟨by omega, by omega⟩, two_told B hB h1 h4⟩
theorem two_mat {T : List ANode} (hg : goodB T = true) {c : Int} (B : List Bool) (hB : B.length = T.length) (h1 : 1 ≤ c) (h4 : c ≤ 4) {i : Nat} (hi : i < T.length) : (if cask T i [c] (twoH B T.length) = 0 then rchF T [c] (twoH B T.length) [c].length (i : Int).toNat else false) = (prtF T i c).any (hitB B) := by
  rw [if_pos (two_ask hg B hB h1 h4 hi), Int.toNat_natCast]
  exact two_rch c B hi
theorem up_any {T : List ANode} (hg : goodB T = true) (B : List Bool) {i p : Nat} (hp : par T i = p) (hpl : p < T.length) : (prtF T i 1).any (hitB B) = (bx B p || (prtF T p 1).any (hitB B)) := by
  show (anc T (par T i)).any (hitB B) = (bx B p || (anc T (par T p)).any (hitB B))
  rw [hp, anc_cons hg hpl, List.any_cons]
  unfold hitB
  rw [Int.toNat_natCast]
theorem up_none {T : List ANode} (B : List Bool) {i : Nat} (hp : par T i < 0) : (prtF T i 1).any (hitB B) = false := by
  show (anc T (par T i)).any (hitB B) = false
  rw [anc_neg hp]; rfl
theorem back_any {T : List ANode} (B : List Bool) {i q : Nat} (h : prevL T i = (q : Int) :: prevL T q) : (prtF T i 4).any (hitB B) = (bx B q || (prtF T q 4).any (hitB B)) := by
  show (prevL T i).any (hitB B) = (bx B q || (prevL T q).any (hitB B))
  rw [h, List.any_cons]
  unfold hitB
  rw [Int.toNat_natCast]
theorem back_none {T : List ANode} (B : List Bool) {i : Nat} (h : prevL T i = []) : (prtF T i 4).any (hitB B) = false := by
  show (prevL T i).any (hitB B) = false
  rw [h]; rfl
end Go.Proofs.Ytaliekkdamghbaa
