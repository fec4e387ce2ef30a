/- Plain laws on siblings. Condition: the tree is good. -/
import Derived.Test.YtankambfobfnfaaPreb
import Derived.Test.YtankambfobfnfaaOa
namespace Go.Proofs.Ytankambfobfnfaa
open Go.RowKit

section
variable {T : List ANode} (hg : goodB T = true)
include hg
theorem sibs_nodup {i : Nat} (hi : i < T.length) : (sibs T i).Nodup := by
  unfold sibs
  split
  · simp
  · obtain ⟨p, hp⟩ := Int.eq_ofNat_of_zero_le (show 0 ≤ par T i by omega)
    have := (good_par hg hi).2
    rw [hp]
    exact kids_nodup hg (by simp; omega)
theorem sibs_self {i : Nat} (hi : i < T.length) : (i : Int) ∈ sibs T i := by
  unfold sibs
  split
  · simp
  · exact par_kid hg hi (by omega)
theorem sibs_mem {i : Nat} (hi : i < T.length) {x : Int} (hx : x ∈ sibs T i) : ∃ q : Nat, x = (q : Int) ∧ q < T.length ∧ sibs T q = sibs T i ∧ par T q = par T i := by
  by_cases h : par T i < 0
  · unfold sibs at hx
    rw [if_pos h] at hx
    simp at hx
    exact ⟨i, hx, hi, rfl, rfl⟩
  · obtain ⟨p, hp⟩ := Int.eq_ofNat_of_zero_le (show 0 ≤ par T i by omega)
    have hpl := (good_par hg hi).2
    have hx' := hx
    unfold sibs at hx'
    rw [if_neg h, hp] at hx'
    obtain ⟨q, h1, h2, h3⟩ := good_kid hg (by omega : p < T.length) hx'
    refine ⟨q, h1, h2, ?_, by rw [h3, hp]⟩
    unfold sibs
    rw [h3, if_neg (by omega), if_neg h, hp]
theorem sibs_posn {i : Nat} (hi : i < T.length) {j : Nat} (hj : j < (sibs T i).length) : posn (sibs T i) (ix (sibs T i) j) = j := by
  refine posn_at hj rfl fun k hk he => ?_
  have := nodup_take (sibs_nodup hg hi) j hj
  rw [← he, ix_get (by omega)] at this
  exact this (List.mem_take_iff_getElem.2 ⟨k, by omega, rfl⟩)
theorem sibs_pos {i : Nat} (hi : i < T.length) : ∃ j, j < (sibs T i).length ∧ ix (sibs T i) j = i ∧ posn (sibs T i) i = j := by
  obtain ⟨j, hj, he⟩ := mem_ix (sibs_self hg hi)
  refine ⟨j, hj, he, ?_⟩
  have := sibs_posn hg hi hj
  rwa [he] at this
theorem bes_next {i : Nat} (hi : i < T.length) {j : Nat} (hj : j < (sibs T i).length) : besE T (ix (sibs T i) j) 1 = if j + 1 < (sibs T i).length then ix (sibs T i) (j + 1) else -1 := by
  obtain ⟨q, h1, h2, h3, -⟩ := sibs_mem hg hi (ix_mem hj)
  have hp := sibs_posn hg hi hj
  have ha : askI T [ix (sibs T i) j] = 0 := by rw [h1]; exact askI_ok hg (by simp; omega)
  unfold besE
  rw [if_pos ha, h1]
  unfold besF
  rw [Int.toNat_natCast, h3, ← h1, hp]
  by_cases h : j + 1 < (sibs T i).length
  · rw [if_neg (by omega), if_pos h]; congr 1
  · rw [if_pos (by omega), if_neg h]
theorem bes_prev {i : Nat} (hi : i < T.length) {j : Nat} (hj : j + 1 < (sibs T i).length) : besE T (ix (sibs T i) (j + 1)) (-1) = ix (sibs T i) j := by
  obtain ⟨q, h1, h2, h3, -⟩ := sibs_mem hg hi (ix_mem hj)
  have hp := sibs_posn hg hi hj
  have ha : askI T [ix (sibs T i) (j + 1)] = 0 := by rw [h1]; exact askI_ok hg (by simp; omega)
  unfold besE
  rw [if_pos ha, h1]
  unfold besF
  rw [Int.toNat_natCast, h3, ← h1, hp, if_neg (by omega)]
  congr 1
  omega
theorem bes_first {i : Nat} (hi : i < T.length) (h0 : 0 < (sibs T i).length) : besE T (ix (sibs T i) 0) (-1) = -1 := by
  obtain ⟨q, h1, h2, h3, -⟩ := sibs_mem hg hi (ix_mem h0)
  have hp := sibs_posn hg hi h0
  have ha : askI T [ix (sibs T i) 0] = 0 := by rw [h1]; exact askI_ok hg (by simp; omega)
  unfold besE
  rw [if_pos ha, h1]
  unfold besF
  rw [Int.toNat_natCast, h3, ← h1, hp, if_pos (by omega)]
theorem cmp_parts' {x y : Nat} (hx : x < T.length) (hy : y < T.length) : cmpE T x y = (if topF T x = topF T y then 0 else 6) := by
  unfold cmpE
  rw [if_pos (askI_ok hg (by simp; omega)), if_pos (askI_ok hg (by simp; omega))]
theorem sibs_cmp {i : Nat} (hi : i < T.length) {j : Nat} (hj : j + 1 < (sibs T i).length) : cmpE T (ix (sibs T i) j) (ix (sibs T i) (j + 1)) = 0 ∧ cmpV T (ix (sibs T i) j) (ix (sibs T i) (j + 1)) = -1 := by
  have hs := sub_get hj
  obtain ⟨x, hx, hxl, -, hxp⟩ := sibs_mem hg hi (ix_mem (l := sibs T i) (j := j) (by omega))
  obtain ⟨y, hy, hyl, -, hyp⟩ := sibs_mem hg hi (ix_mem hj)
  by_cases h : par T i < 0
  · exfalso
    unfold sibs at hj
    rw [if_pos h] at hj
    simp at hj
  · obtain ⟨p, hp⟩ := Int.eq_ofNat_of_zero_le (show 0 ≤ par T i by omega)
    have hpl := (good_par hg hi).2
    have hpT : p < T.length := by omega
    rw [hx, hy] at hs ⊢
    have hax : (p : Int) ∈ anc T x := by rw [kid_anc hg hxl (by rw [hxp, hp] : par T x = (p : Int))]; exact List.mem_cons_of_mem _ (anc_self_mem hg hpT)
    have hay : (p : Int) ∈ anc T y := by rw [kid_anc hg hyl (by rw [hyp, hp] : par T y = (p : Int))]; exact List.mem_cons_of_mem _ (anc_self_mem hg hpT)
    have hsk : [(x : Int), (y : Int)].Sublist (kids T p) := by
      unfold sibs at hs
      rwa [if_neg h, hp] at hs
    have hsp : [(x : Int), (y : Int)].Sublist (preT T p) := by
      rw [preT_cons hg hpT]
      refine (sub_flat hsk fun z hz => ?_).trans (List.sublist_cons_self _ _)
      obtain ⟨q, h1, h2, -⟩ := good_kid hg hpT hz
      rw [h1]; exact preT_self hg h2
    have h1 := cmp_parts' hg hxl hyl
    rw [top_same hg hpT hxl hax, top_same hg hpT hyl hay, if_pos rfl] at h1
    refine ⟨h1, ?_⟩
    unfold cmpV
    rw [if_pos h1]
    exact cmpF_sub hg hpT hxl hax hsp
end
end Go.Proofs.Ytankambfobfnfaa
