/- Plain laws: what is known where putting or taking out has no error. Conditions: the elements and the tree have no error. -/
import Derived.Test.YtkimjpcmcfnmkaaMug
namespace Go.Proofs.Ytkimjpcmcfnmkaa
open Go.RowKit

section
variable {T : List ANode} {p k m : Nat}
theorem move_self {i j : Int} (h : moveI T i j = 0) : moveI T i i = 0 := by
  obtain ⟨hg, h1, -⟩ := moveI_zero h
  exact moveI_ok hg h1 (by omega)
theorem app_zero (h0 : moveI T k p = 0) (he : appE T p k = 0) : (k : Int) ∉ anc T p ∧ appT T p k = putT T p k (-1) ∧ goodB (putT T p k (-1)) = true := by
  obtain ⟨hg, hir, hjr⟩ := moveI_zero h0
  unfold appE putE at he
  rw [if_pos h0, Int.toNat_natCast, Int.toNat_natCast] at he
  have hc : cycB T p k = false := by
    cases h : cycB T p k
    · rfl
    · rw [h] at he; exact absurd he (by decide)
  have hn : (k : Int) ∉ anc T p := by unfold cycB at hc; simpa using hc
  refine ⟨hn, ?_, good_put hg (by omega) (by omega) (by omega) _ hn⟩
  unfold appT putV
  rw [if_pos h0, Int.toNat_natCast, Int.toNat_natCast, hc]; rfl
theorem app_code (h0 : moveI T k p = 0) : appE T p k = 0 ∨ (appE T p k = 40 ∧ (k : Int) ∈ anc T p) := by
  unfold appE putE
  rw [if_pos h0, Int.toNat_natCast, Int.toNat_natCast]
  cases h : cycB T p k
  · exact .inl rfl
  · exact .inr ⟨rfl, by unfold cycB at h; simpa using h⟩
theorem bef_zero (h0 : moveI T k m = 0) (he : befE T k m = 0) : ∃ p : Nat, par T m = p ∧ p < T.length ∧ k ≠ m ∧ (k : Int) ∉ anc T p ∧ befT T k m = putT T p k m ∧ goodB (putT T p k m) = true := by
  obtain ⟨hg, hir, hjr⟩ := moveI_zero h0
  have hX : befT T k m = (if (k : Int) = (m : Int) then [] else if par T m < 0 then [] else putV T (par T m).toNat k m) := by unfold befT; rw [if_pos h0, Int.toNat_natCast, Int.toNat_natCast]
  unfold befE at he
  rw [if_pos h0, Int.toNat_natCast, Int.toNat_natCast] at he
  split at he
  · cases he
  · rename_i hkm
    rw [if_neg hkm] at hX
    split at he
    · cases he
    · rename_i hp
      rw [if_neg hp] at hX
      have hpr := good_par hg (by omega : m < T.length)
      obtain ⟨p, hpe⟩ := Int.eq_ofNat_of_zero_le (by omega : 0 ≤ par T m)
      rw [hpe, Int.toNat_natCast] at he hX
      unfold putE at he
      have hc : cycB T p k = false := by
        cases h : cycB T p k
        · rfl
        · rw [h] at he; exact absurd he (by decide)
      have hn : (k : Int) ∉ anc T p := by unfold cycB at hc; simpa using hc
      refine ⟨p, hpe, by omega, by omega, hn, ?_, good_put hg (by omega) (by omega) (by omega) _ hn⟩
      rw [hX]
      unfold putV
      rw [hc]; rfl
theorem tak_code (h0 : moveI T k k = 0) : takeE T k = if par T k < 0 then 6 else 0 := by unfold takeE; rw [if_pos h0, Int.toNat_natCast]
theorem tak_zero (h0 : moveI T k k = 0) (hp : ¬ par T k < 0) : takeE T k = 0 ∧ takeT T k = takenT T k ∧ goodB (takenT T k) = true := by
  obtain ⟨hg, hir, -⟩ := moveI_zero h0
  have he : takeE T k = 0 := by rw [tak_code h0, if_neg hp]
  refine ⟨he, ?_, good_taken hg (by omega)⟩
  unfold takeT
  rw [if_pos he, Int.toNat_natCast]
theorem tak_six (h0 : moveI T k k = 0) (hp : par T k < 0) : takeE T k = 6 ∧ takeT T k = [] := by
  have he : takeE T k = 6 := by rw [tak_code h0, if_pos hp]
  refine ⟨he, ?_⟩
  unfold takeT
  rw [he]; rfl
end
end Go.Proofs.Ytkimjpcmcfnmkaa
