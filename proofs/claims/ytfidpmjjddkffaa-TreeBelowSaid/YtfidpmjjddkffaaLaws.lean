/- Plain laws: being below, depth and top in a good tree. Condition: the tree is good. -/
import Derived.Test.YtfidpmjjddkffaaEx
namespace Go.Proofs.Ytfidpmjjddkffaa

section
variable {T : List ANode} (hg : goodB T = true)
include hg
theorem bel_iff {i k : Nat} (hi : i < T.length) (hk : k < T.length) : belE T i k = decide ((k : Int) ∈ anc T (par T i)) := by
  have : askI T [(i : Int), (k : Int)] = 0 := askI_ok hg (by simp; omega)
  simp [belE, this]
theorem dep_eq {i : Nat} (hi : i < T.length) : depE T i = ((anc T (par T i)).length : Nat) := by
  have : askI T [(i : Int)] = 0 := askI_ok hg (by simp; omega)
  simp [depE, this]
theorem bel_self {i : Nat} (hi : i < T.length) : belE T i i = false := by
  rw [bel_iff hg hi hi]; simpa using anc_self hg hi
theorem bel_dep {i k : Nat} (hi : i < T.length) (hk : k < T.length) (h : belE T i k = true) : depE T k < depE T i := by
  rw [bel_iff hg hi hk, decide_eq_true_eq] at h
  rw [dep_eq hg hi, dep_eq hg hk]
  rcases Int.lt_or_le (par T i) 0 with hp | hp
  · rw [anc_neg hp] at h; simp at h
  · obtain ⟨p, hp'⟩ := Int.eq_ofNat_of_zero_le hp
    have hpl := (good_par hg hi).2
    rw [hp'] at h hpl ⊢
    have h1 := anc_sub hg (by omega : p < T.length) h
    have h2 := anc_len_lt hg hk
    omega
theorem bel_up {i k : Nat} (hi : i < T.length) (hk : k < T.length) (hp : 0 ≤ par T i) : belE T i k = ((par T i == (k : Int)) || belE T (par T i) k) := by
  obtain ⟨p, hp'⟩ := Int.eq_ofNat_of_zero_le hp
  have hpl := (good_par hg hi).2
  rw [hp'] at hpl
  have hpn : p < T.length := by omega
  rw [bel_iff hg hi hk, hp', bel_iff hg hpn hk, anc_cons hg hpn]
  rw [Bool.eq_iff_iff]
  simp only [decide_eq_true_eq, List.mem_cons, Bool.or_eq_true, beq_iff_eq]
  exact ⟨fun h => h.elim (fun h => .inl h.symm) .inr, fun h => h.elim (fun h => .inl h.symm) .inr⟩
theorem dep_up {i : Nat} (hi : i < T.length) (hp : 0 ≤ par T i) : depE T i = depE T (par T i) + 1 := by
  obtain ⟨p, hp'⟩ := Int.eq_ofNat_of_zero_le hp
  have hpl := (good_par hg hi).2
  rw [hp'] at hpl
  have hpn : p < T.length := by omega
  rw [dep_eq hg hi, hp', dep_eq hg hpn, anc_cons hg hpn]
  simp
theorem bel_top {i k : Nat} (hi : i < T.length) (hk : k < T.length) (hp : par T i < 0) : belE T i k = false := by
  rw [bel_iff hg hi hk, anc_neg hp]; simp
theorem dep_top {i : Nat} (hi : i < T.length) (hp : par T i < 0) : depE T i = 0 := by
  rw [dep_eq hg hi, anc_neg hp]; simp
end

end Go.Proofs.Ytfidpmjjddkffaa
