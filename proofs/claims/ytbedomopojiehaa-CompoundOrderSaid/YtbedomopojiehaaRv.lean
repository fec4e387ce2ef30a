/- Walks: a row of numbers that the call has made, turned around in its place; a copy of a list of truth values. Conditions: at most 1000 elements. -/
import Derived.Test.YtbedomopojiehaaPush
import Derived.Test.YtbedomopojiehaaWi
namespace Go.Proofs.Ytbedomopojiehaa
open Go.RowKit

/-- The list after so many swaps from both ends. -/
def rvA (xs : List Int) (q : Nat) : List Int := (List.range xs.length).map fun t => if t < q ∨ xs.length - 1 - t < q then ix xs (xs.length - 1 - t) else ix xs t
theorem rvA_len (xs : List Int) (q : Nat) : (rvA xs q).length = xs.length := by simp [rvA]
theorem rvA_ix (xs : List Int) (q t : Nat) (h : t < xs.length) : ix (rvA xs q) t = if t < q ∨ xs.length - 1 - t < q then ix xs (xs.length - 1 - t) else ix xs t := by
  rw [ix_get (by rw [rvA_len]; exact h)]
  unfold rvA
  rw [List.getElem_map, List.getElem_range]
theorem ints_ext {xs ys : List Int} (hl : xs.length = ys.length) (h : ∀ t, t < xs.length → ix xs t = ix ys t) : xs = ys := by
  refine List.ext_getElem hl fun t h1 h2 => ?_
  have := h t h1
  rwa [ix_get h1, ix_get h2] at this
theorem ix_set (xs : List Int) {a : Nat} (x : Int) (t : Nat) (ha : a < xs.length) : ix (xs.set a x) t = if t = a then x else ix xs t := by
  unfold ix
  rw [List.getD_eq_getElem?_getD, List.getD_eq_getElem?_getD, List.getElem?_set]
  by_cases h : a = t
  · subst h; rw [if_pos rfl, if_pos ha, if_pos rfl]; rfl
  · rw [if_neg h, if_neg (fun e => h e.symm)]
theorem rvA_zero (xs : List Int) : rvA xs 0 = xs := by
  refine ints_ext (rvA_len _ _) fun t ht => ?_
  rw [rvA_len] at ht
  rw [rvA_ix _ _ _ ht, if_neg (by omega)]
theorem rvA_step {xs : List Int} {q : Nat} (h : q < xs.length - 1 - q) : ((rvA xs q).set q (ix (rvA xs q) (xs.length - 1 - q))).set (xs.length - 1 - q) (ix (rvA xs q) q) = rvA xs (q + 1) := by
  refine ints_ext (by rw [List.length_set, List.length_set, rvA_len, rvA_len]) fun t ht => ?_
  rw [List.length_set, List.length_set, rvA_len] at ht
  rw [ix_set _ _ _ (by rw [List.length_set, rvA_len]; omega), ix_set _ _ _ (by rw [rvA_len]; omega), rvA_ix _ _ _ (by omega), rvA_ix _ _ _ (by omega), rvA_ix _ _ _ ht, rvA_ix _ _ _ ht]
  rw [if_neg (by omega : ¬ (xs.length - 1 - q < q ∨ xs.length - 1 - (xs.length - 1 - q) < q)), if_neg (by omega : ¬ (q < q ∨ xs.length - 1 - q < q))]
  by_cases h1 : t = xs.length - 1 - q
  · rw [if_pos h1, if_pos (by omega)]; congr 1; omega
  · rw [if_neg h1]
    by_cases h2 : t = q
    · rw [if_pos h2, if_pos (by omega)]; congr 1; omega
    · rw [if_neg h2]
      by_cases h3 : t < q ∨ xs.length - 1 - t < q
      · rw [if_pos h3, if_pos (by omega)]
      · rw [if_neg h3, if_neg (by omega)]
theorem rvA_end {xs : List Int} {q : Nat} (h : ¬ q < xs.length - 1 - q) (h2 : 2 * q ≤ xs.length + 1) : rvA xs q = xs.reverse := by
  refine ints_ext (by rw [rvA_len, List.length_reverse]) fun t ht => ?_
  rw [rvA_len] at ht
  rw [rvA_ix _ _ _ ht]
  have e : ix xs.reverse t = ix xs (xs.length - 1 - t) := by
    rw [ix_get (by rw [List.length_reverse]; exact ht), ix_get (by omega), List.getElem_reverse]
  rw [e]
  split
  · rfl
  · congr 1; omega

def RevI (W : World) (base : Nat) (A : Option Addr) (n c : Nat) (ys : List Int) (en : Ending) (w' : World) : Prop :=
  en = .returned (.tuple #[]) ∧ w'.ownsRow base 3 1 (.slice A n c) n (ints ys) ∧ W.grownBy w' (A.map (·.block))

theorem own_blk {w : World} {base size n : Nat} {e : TypeId} {v : Value} {xs : List Value} (h : w.ownsRow base e size v n xs) (hn : 0 < n) : ∃ g cap cs, v = .slice (some ⟨g, 0, none⟩) n cap ∧ n ≤ cap ∧ cap ≤ maxLen ∧ base ≤ g ∧ w.heap[g]? = some (.cells cs e (0, 0)) := by
  rcases h.2 with ⟨-, h0⟩ | ⟨g, cap, cur, h0, hb, hg, hn, hm, hs, ht⟩
  · omega
  · exact ⟨g, cap, cur, h0, hn, hm, hb, hg⟩
theorem own_upd {w : World} {base size n g cap o : Nat} {e : TypeId} {xs : List Value} (h : w.ownsRow base e size (.slice (some ⟨g, 0, none⟩) n cap) n xs) (u : Value) : (w.setCell ⟨g, o, none⟩ u).ownsRow base e size (.slice (some ⟨g, 0, none⟩) n cap) n (xs.set o u) := by
  rcases h.2 with ⟨h0, -⟩ | ⟨g', cap', cur, h0, hb, hg, hn, hm, hs, ht⟩
  · cases h0
  · cases h0
    have hx := h.1
    refine ⟨by rw [List.length_set]; exact hx, .inr ⟨g, cap, cur.setIfInBounds o u, rfl, hb, blk_set hg o u, hn, hm, by simpa using hs, ?_⟩⟩
    rw [Array.toList_setIfInBounds, List.take_set, ht]
theorem grown_cell (w : World) (g o : Nat) (u : Value) : w.grownBy (w.setCell ⟨g, o, none⟩ u) (some g) :=
  ⟨rfl, rfl, rfl, by simp [World.setCell], fun k _ hk => Below.heap_setCell _ _ _ _ fun h => hk (by rw [h])⟩
theorem grown_trans {a b c : World} {row : Option Nat} (h : a.grownBy b row) (k : b.grownBy c row) : a.grownBy c row :=
  ⟨k.os.trans h.os, k.tape.trans h.tape, k.output.trans h.output, Nat.le_trans h.size k.size, fun q hq hne => (k.block q (Nat.lt_of_lt_of_le hq h.size) hne).trans (h.block q hq hne)⟩

/-! ## A copy of a list of truth values -/
def MadeBoolRow (w : World) (n : Nat) (xs : List Bool) (e : Ending) (w' : World) : Prop :=
  ∃ (A : Option Addr) (c : Nat), e = .returned (.slice A n c) ∧ w'.ownsRow w.heap.size 4 1 (.slice A n c) n (bools xs) ∧ Below w.heap.size w w'
theorem bools_none {w : World} {A : Option Addr} {n : Nat} {xs : List Bool} (h : IsBools w A n xs) (ha : A = none) : n = 0 := by
  rcases Nat.eq_zero_or_pos n with h0 | h0
  · exact h0
  · obtain ⟨b, off, hA, -⟩ := h.2.2 h0
    rw [ha] at hA; cases hA
theorem bools_at {w : World} {A : Option Addr} {n : Nat} {xs : List Bool} (h : IsBools w A n xs) : ∀ ad, A = some ad → ∀ j u, (bools xs)[j]? = some u → w.cell? (ad.add j) = some u := by
  intro ad had j u hj
  have hjl : j < xs.length := by
    rcases Nat.lt_or_ge j xs.length with h0 | h0
    · exact h0
    · rw [List.getElem?_eq_none (by simp [bools]; omega)] at hj; cases hj
  have hn : j < n := by have := h.1; omega
  obtain ⟨b, off, hA, hb, hc⟩ := h.2.2 (by omega)
  rw [hA] at had
  injection had with had
  subst had
  rw [bools_get hjl] at hj
  have hk := hc j hn
  rw [show (⟨b, off, none⟩ : Addr).add j = ⟨b, off + j, none⟩ by unfold Addr.add; split <;> simp_all, hk]
  exact hj
end Go.Proofs.Ytbedomopojiehaa
