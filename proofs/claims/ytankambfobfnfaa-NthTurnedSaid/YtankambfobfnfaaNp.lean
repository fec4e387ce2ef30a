/- Plain laws on counted places. Condition: the tree is good. -/
import Derived.Test.YtankambfobfnfaaNa
import Derived.Test.YtankambfobfnfaaSib
namespace Go.Proofs.Ytankambfobfnfaa
open Go.RowKit

/-- The siblings that count, and how many of the first ones do. -/
def inb (B : List Bool) (x : Int) : Bool := bx B x.toNat
def cntd (T : List ANode) (i : Nat) (B : List Bool) : List Int := (sibs T i).filter (inb B)
def pfx (B : List Bool) (l : List Int) (k : Nat) : Nat := ((l.take k).filter (inb B)).length
/-- The counted place of an element, or 0. -/
def atF (T : List ANode) (i : Nat) (last : Bool) (B : List Bool) : Int :=
  if inb B i then (if last then ((pfx B (sibs T i) (sibs T i).length : Nat) : Int) - pfx B (sibs T i) (posn (sibs T i) i).toNat else (pfx B (sibs T i) (posn (sibs T i) i).toNat : Int) + 1) else 0

theorem pfx_succ (B : List Bool) (l : List Int) (k : Nat) (h : k < l.length) : pfx B l (k + 1) = pfx B l k + (if inb B (ix l k) then 1 else 0) := by
  unfold pfx
  rw [take_snoc' l k h, ← ix_get h, List.filter_append, List.length_append]
  congr 1
  by_cases hb : inb B (ix l k) = true
  · rw [if_pos hb, List.filter_cons, if_pos hb]; rfl
  · rw [if_neg hb, List.filter_cons, if_neg hb]; rfl
theorem pfx_zero (B : List Bool) (l : List Int) : pfx B l 0 = 0 := by simp [pfx]
theorem pfx_le (B : List Bool) (l : List Int) (k : Nat) : pfx B l k ≤ k := Nat.le_trans (List.length_filter_le _ _) (List.length_take_le _ _)
theorem pfx_mono (B : List Bool) (l : List Int) {a b : Nat} (h : a ≤ b) : pfx B l a ≤ pfx B l b := by
  unfold pfx
  have h1 : l.take a = (l.take b).take a := by rw [List.take_take, Nat.min_eq_left h]
  rw [h1]
  exact ((List.take_sublist _ _).filter _).length_le
theorem pfx_all (B : List Bool) (l : List Int) : pfx B l l.length = (l.filter (inb B)).length := by simp [pfx]
/-- The place of a counted element among those that count. -/
theorem posn_filter {B : List Bool} {l : List Int} (hn : l.Nodup) {p : Nat} (hp : p < l.length) (hb : inb B (ix l p) = true) : posn (l.filter (inb B)) (ix l p) = pfx B l p := by
  have hs : l.filter (inb B) = (l.take p).filter (inb B) ++ ix l p :: (l.drop (p + 1)).filter (inb B) := by
    conv => lhs; rw [← List.take_append_drop p l, List.drop_eq_getElem_cons hp, ← ix_get hp, List.filter_append, List.filter_cons, if_pos hb]
  rw [hs]
  refine posn_at (k := pfx B l p) (by simp [pfx]) (by simp [ix, pfx]) fun j hj he => ?_
  have hm : ix l p ∈ (l.take p).filter (inb B) := by
    rw [← he]
    have e : ix ((l.take p).filter (inb B) ++ ix l p :: (l.drop (p + 1)).filter (inb B)) j = ix ((l.take p).filter (inb B)) j := by
      unfold ix
      rw [List.getD_eq_getElem?_getD, List.getElem?_append_left (by simpa [pfx] using hj), ← List.getD_eq_getElem?_getD]
    rw [e]
    exact ix_mem (by simpa [pfx] using hj)
  exact nodup_take hn p hp (List.mem_filter.1 hm).1

theorem nodup_ix {l : List Int} (hn : l.Nodup) {a b : Nat} (ha : a < l.length) (hb : b < l.length) (h : ix l a = ix l b) : a = b := by
  rw [ix_get ha, ix_get hb] at h
  have hp := List.pairwise_iff_getElem.1 (List.nodup_iff_pairwise_ne.1 hn)
  rcases Nat.lt_trichotomy a b with hab | hab | hab
  · exact absurd h (hp a b ha hb hab)
  · exact hab
  · exact absurd h.symm (hp b a hb ha hab)
section
variable {T : List ANode} (hg : goodB T = true)
include hg
theorem atF_bd {i : Nat} (hi : i < T.length) (last : Bool) (B : List Bool) : 0 ≤ atF T i last B ∧ atF T i last B ≤ 64 ∧ (1 ≤ atF T i last B ↔ inb B i = true) := by
  obtain ⟨j, hj, he, hp⟩ := sibs_pos hg hi
  have h1 := pfx_le B (sibs T i) j
  have h2 := pfx_le B (sibs T i) (sibs T i).length
  have h3 := sibs_len hg hi
  have h4 := pfx_mono B (sibs T i) (show j + 1 ≤ (sibs T i).length by omega)
  have h5 := pfx_succ B (sibs T i) j hj
  rw [he] at h5
  unfold atF
  rw [hp, Int.toNat_natCast]
  by_cases hb : inb B i = true
  · rw [if_pos hb] at h5 ⊢
    cases last
    · rw [if_neg (by decide)]
      exact ⟨by omega, by omega, fun _ => hb, fun _ => by omega⟩
    · rw [if_pos rfl]
      exact ⟨by omega, by omega, fun _ => hb, fun _ => by omega⟩
  · rw [if_neg hb]
    simp [hb]
/-- As the reference counts. -/
theorem atF_ref {i : Nat} (hi : i < T.length) (last : Bool) (B : List Bool) : atF T i last B = if posn (cntd T i B) i < 0 then 0 else if last then ((cntd T i B).length : Int) - posn (cntd T i B) i else posn (cntd T i B) i + 1 := by
  obtain ⟨j, hj, he, hp⟩ := sibs_pos hg hi
  unfold atF
  rw [hp, Int.toNat_natCast]
  by_cases hb : inb B i = true
  · have h := posn_filter (B := B) (sibs_nodup hg hi) hj (by rw [he]; exact hb)
    rw [he] at h
    unfold cntd
    rw [if_pos hb, h, if_neg (show ¬ ((pfx B (sibs T i) j : Nat) : Int) < 0 by omega), pfx_all]
  · rw [if_neg hb]
    unfold cntd
    rw [posn_no, if_pos (by decide)]
    intro k hk h
    have := ix_mem hk
    rw [h] at this
    exact hb (List.mem_filter.1 this).2
end
end Go.Proofs.Ytankambfobfnfaa
