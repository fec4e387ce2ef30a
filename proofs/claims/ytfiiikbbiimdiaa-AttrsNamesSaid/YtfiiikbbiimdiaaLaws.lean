/- Plain laws: being below, depth and top in a good tree. Condition: the tree is good. -/
import Derived.Test.YtfiiikbbiimdiaaEx
namespace Go.Proofs.Ytfiiikbbiimdiaa

section
variable {T : List ANode} (hg : goodB T = true)
include hg
theorem bel_iff {i k : Nat} (hi : i < T.length) (hk : k < T.length) : belE T i k = decide ((k : Int) ∈ anc T (par T i)) := by
  have : askI T [(i : Int), (k : Int)] = 0 := askI_ok hg (by simp; omega)
  simp [belE, this]
theorem dep_eq {i : Nat} (hi : i < T.length) : depE T i = ((anc T (par T i)).length : Nat) := by
  have : askI T [(i : Int)] = 0 := askI_ok hg (by simp; omega)
  simp [depE, this]
theorem bel_self {i : Nat} (hi : i < T.length) : belE T i i = false := by
  rw [bel_iff hg hi hi]; simpa using anc_self hg hi
theorem bel_dep {i k : Nat} (hi : i < T.length) (hk : k < T.length) (h : belE T i k = true) : depE T k < depE T i := by
  rw [bel_iff hg hi hk, decide_eq_true_eq] at h
  rw [dep_eq hg hi, dep_eq hg hk]
  rcases Int.lt_or_le (par T i) 0 with hp | hp
  · rw [anc_neg hp] at h; simp at h
  · obtain ⟨p, hp'⟩ := Int.eq_ofNat_of_zero_le hp
    have hpl := (good_par hg hi).2
    rw [hp'] at h hpl ⊢
    have h1 := anc_sub hg (by omega : p < T.length) h
    have h2 := anc_len_lt hg hk
    omega
theorem bel_up {i k : Nat} (hi : i < T.length) (hk : k < T.length) (hp : 0 ≤ par T i) : belE T i k = ((par T i == (k : Int)) || belE T (par T i) k) := by
  obtain ⟨p, hp'⟩ := Int.eq_ofNat_of_zero_le hp
  have hpl := (good_par hg hi).2
  rw [hp'] at hpl
  have hpn : p < T.length := by omega
  rw [bel_iff hg hi hk, hp', bel_iff hg hpn hk, anc_cons hg hpn]
  rw [Bool.eq_iff_iff]
  simp only [decide_eq_true_eq, List.mem_cons, Bool.or_eq_true, beq_iff_eq]
  exact ⟨fun h => h.elim (fun h => .inl h.symm) .inr, fun h => h.elim (fun h => .inl h.symm) .inr⟩
theorem dep_up {i : Nat} (hi : i < T.length) (hp : 0 ≤ par T i) : depE T i = depE T (par T i) + 1 := by
  obtain ⟨p, hp'⟩ := Int.eq_ofNat_of_zero_le hp
  have hpl := (good_par hg hi).2
  rw [hp'] at hpl
  have hpn : p < T.length := by omega
  rw [dep_eq hg hi, hp', dep_eq hg hpn, anc_cons hg hpn]
  simp
theorem bel_top {i k : Nat} (hi : i < T.length) (hk : k < T.length) (hp : par T i < 0) : belE T i k = false := by
  rw [bel_iff hg hi hk, anc_neg hp]; simp
theorem dep_top {i : Nat} (hi : i < T.length) (hp : par T i < 0) : depE T i = 0 := by
  rw [dep_eq hg hi, anc_neg hp]; simp
end

section
variable {T : List ANode} (hg : goodB T = true)
include hg
theorem topF_range {i : Nat} (hi : i < T.length) : 0 ≤ topF T i ∧ topF T i < T.length ∧ par T (topF T i).toNat = -1 := by
  generalize hm : (anc T (i : Int)).length = m
  induction m using Nat.strongRecOn generalizing i with
  | _ m ih =>
    have hr := good_par hg hi
    rcases Int.lt_or_le (par T i) 0 with hp | hp
    · rw [topF_top hg hi hp]
      simp; omega
    · rw [topF_up hg hi hp]
      obtain ⟨p, hp'⟩ := Int.eq_ofNat_of_zero_le hp
      have hl := anc_len_lt hg hi
      rw [hp'] at hl hr ⊢
      exact ih _ (by omega) (by omega) rfl
theorem top_only {i k : Nat} (hi : i < T.length) (hp : par T k < 0) : (k : Int) ∈ anc T i ↔ (k : Int) = topF T i := by
  generalize hm : (anc T (i : Int)).length = m
  induction m using Nat.strongRecOn generalizing i with
  | _ m ih =>
    have hr := good_par hg hi
    rw [anc_cons hg hi, List.mem_cons]
    rcases Int.lt_or_le (par T i) 0 with hpi | hpi
    · rw [topF_top hg hi hpi, anc_neg hpi]; simp
    · rw [topF_up hg hi hpi]
      have hne : ¬ (k : Int) = i := fun e => by
        have : k = i := by omega
        subst this; omega
      obtain ⟨p, hp'⟩ := Int.eq_ofNat_of_zero_le hpi
      have hl := anc_len_lt hg hi
      rw [hp'] at hl hr ⊢
      rw [← ih _ (by omega) (by omega : p < T.length) rfl]
      exact ⟨fun h => h.resolve_left hne, .inr⟩
theorem bel_topk {i k : Nat} (hi : i < T.length) (hk : k < T.length) (hp : par T k < 0) : (belE T i k = true ∨ (i : Int) = k) ↔ (k : Int) = topF T i := by
  rw [← top_only hg hi hp, anc_cons hg hi, List.mem_cons, bel_iff hg hi hk, decide_eq_true_eq]
  exact ⟨fun h => h.elim .inr (fun h => .inl h.symm), fun h => h.elim (fun h => .inr h.symm) .inl⟩
theorem topE_eq {i : Nat} (hi : i < T.length) : topE T i = topF T i := by
  have : askI T [(i : Int)] = 0 := askI_ok hg (by simp; omega)
  simp [topE, this]
end
end Go.Proofs.Ytfiiikbbiimdiaa
