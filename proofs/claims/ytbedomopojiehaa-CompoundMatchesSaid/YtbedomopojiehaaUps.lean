/- Plain laws: the elements above one, in a good tree. Condition: the tree is good. -/
import Derived.Test.YtbedomopojiehaaWe
namespace Go.Proofs.Ytbedomopojiehaa
open Go.RowKit

def ups (T : List ANode) : Nat → Int → List Int
  | 0, _ => []
  | k + 1, x => if x < 0 then [] else x :: ups T k (par T x.toNat)
/-- The elements from x on, up to the top. -/
def anc (T : List ANode) (x : Int) : List Int := ups T T.length x
def topF (T : List ANode) (x : Int) : Int := ((anc T x).getLast?).getD x
/-- The error of a tree and elements. -/
def askI (T : List ANode) (l : List Int) : Int := if goodB T = true then (if ∀ x ∈ l, 0 ≤ x ∧ x < T.length then 0 else 2) else 8

theorem ups_neg (T : List ANode) (k : Nat) (x : Int) (h : x < 0) : ups T k x = [] := by cases k <;> simp [ups, h]
theorem ups_more (T : List ANode) (m d : Nat) (x : Int) (h : up T m x < 0) : ups T (m + d) x = ups T m x := by
  induction m generalizing x with
  | zero => simp only [up] at h; rw [ups_neg _ _ _ h, ups_neg _ _ _ h]
  | succ m ih =>
    rw [show m + 1 + d = (m + d) + 1 by omega, ups, ups]
    split
    · rfl
    · rename_i hx
      rw [ih]
      rwa [up, if_neg hx] at h

section
variable {T : List ANode} (hg : goodB T = true)
include hg
theorem good_par {i : Nat} (hi : i < T.length) : -1 ≤ par T i ∧ par T i < T.length :=
  let h := (linkedB_iff T i).1 (((goodB_iff T).1 hg).2.2.1 i hi).2.2
  ⟨h.1, h.2.1⟩
theorem good_out {x : Int} (hx : x < T.length) : up T T.length x < 0 := by
  rcases Int.lt_or_le x 0 with h | h
  · rw [up_neg _ _ _ h]; exact h
  · obtain ⟨i, rfl⟩ := Int.eq_ofNat_of_zero_le h
    have := ((goodB_iff T).1 hg).2.2.2 i (by omega)
    simpa [outB] using this
omit hg in
theorem anc_neg {x : Int} (h : x < 0) : anc T x = [] := ups_neg _ _ _ h
theorem anc_cons {i : Nat} (hi : i < T.length) : anc T i = (i : Int) :: anc T (par T i) := by
  have h1 := ups_more T T.length 1 i (good_out hg (by omega))
  rw [ups, if_neg (by omega)] at h1
  exact h1.symm
theorem anc_mem {x y : Int} (hx : x < T.length) (h : y ∈ anc T x) : 0 ≤ y ∧ y < T.length := by
  have key : ∀ (k : Nat) (x : Int), x < T.length → y ∈ ups T k x → 0 ≤ y ∧ y < T.length := by
    intro k
    induction k with
    | zero => intro x _ h; simp [ups] at h
    | succ k ih =>
      intro x hx h
      rw [ups] at h
      split at h
      · simp at h
      · rcases List.mem_cons.1 h with rfl | h
        · omega
        · obtain ⟨i, rfl⟩ := Int.eq_ofNat_of_zero_le (show 0 ≤ x by omega)
          exact ih _ (good_par hg (by simpa using hx)).2 h
  exact key _ _ hx h
theorem anc_len_lt {i : Nat} (hi : i < T.length) : (anc T (par T i)).length < (anc T i).length := by
  rw [anc_cons hg hi]; simp
theorem anc_sub {i : Nat} (hi : i < T.length) {y : Nat} (h : (y : Int) ∈ anc T i) : (anc T y).length ≤ (anc T i).length := by
  generalize hm : (anc T (i : Int)).length = m
  induction m using Nat.strongRecOn generalizing i with
  | _ m ih =>
    rw [anc_cons hg hi] at h
    rcases List.mem_cons.1 h with h | h
    · have : y = i := by omega
      subst this; omega
    · rcases Int.lt_or_le (par T i) 0 with hp | hp
      · rw [anc_neg hp] at h; simp at h
      · obtain ⟨p, hp'⟩ := Int.eq_ofNat_of_zero_le hp
        have hl := anc_len_lt hg hi
        have hpl := (good_par hg hi).2
        rw [hp'] at h hl hpl
        have := ih _ (by omega) (by omega : p < T.length) h rfl
        omega
theorem anc_self {i : Nat} (hi : i < T.length) : (i : Int) ∉ anc T (par T i) := by
  intro h
  rcases Int.lt_or_le (par T i) 0 with hp | hp
  · rw [anc_neg hp] at h; simp at h
  · obtain ⟨p, hp'⟩ := Int.eq_ofNat_of_zero_le hp
    have hl := anc_len_lt hg hi
    have hpl := (good_par hg hi).2
    rw [hp'] at h hl hpl
    have := anc_sub hg (by omega : p < T.length) h
    omega
theorem anc_nodup {x : Int} (hx : x < T.length) : (anc T x).Nodup := by
  generalize hm : (anc T x).length = m
  induction m using Nat.strongRecOn generalizing x with
  | _ m ih =>
    rcases Int.lt_or_le x 0 with h | h
    · rw [anc_neg h]; simp
    · obtain ⟨i, rfl⟩ := Int.eq_ofNat_of_zero_le h
      have hi : i < T.length := by omega
      have hl := anc_len_lt hg hi
      rw [anc_cons hg hi]
      exact List.nodup_cons.2 ⟨anc_self hg hi, ih _ (by omega) (good_par hg hi).2 rfl⟩
theorem anc_le {x : Int} (hx : x < T.length) : (anc T x).length ≤ T.length :=
  nodup_range_le _ _ (anc_nodup hg hx) fun _ hy => anc_mem hg hx hy
theorem topF_up {i : Nat} (hi : i < T.length) (h : 0 ≤ par T i) : topF T i = topF T (par T i) := by
  obtain ⟨p, hp⟩ := Int.eq_ofNat_of_zero_le h
  have hpl := (good_par hg hi).2
  rw [hp] at hpl
  unfold topF
  rw [anc_cons hg hi, hp, anc_cons hg (by omega : p < T.length)]
  simp [List.getLast?_cons]
theorem topF_top {i : Nat} (hi : i < T.length) (h : par T i < 0) : topF T i = i := by
  unfold topF
  rw [anc_cons hg hi, anc_neg h]
  rfl
theorem count_anc {x : Int} (hx : x < T.length) (y : Int) : (anc T x).count y = if y ∈ anc T x then 1 else 0 := (anc_nodup hg hx).count
end
theorem askI_zero {T : List ANode} {l : List Int} : askI T l = 0 ↔ goodB T = true ∧ ∀ x ∈ l, 0 ≤ x ∧ x < T.length := by
  unfold askI
  by_cases hg : goodB T = true
  · by_cases ha : ∀ x ∈ l, 0 ≤ x ∧ x < T.length
    · rw [if_pos hg, if_pos ha]; exact ⟨fun _ => ⟨hg, ha⟩, fun _ => rfl⟩
    · rw [if_pos hg, if_neg ha]; exact ⟨fun h => by omega, fun h => absurd h.2 ha⟩
  · rw [if_neg hg]; exact ⟨fun h => by omega, fun h => absurd h.1 hg⟩
theorem askI_bad {T : List ANode} {l : List Int} (h : ¬ goodB T = true) : askI T l = 8 := if_neg h
theorem askI_no {T : List ANode} {l : List Int} (h : goodB T = true) (x : Int) (hx : x ∈ l) (hb : ¬ (0 ≤ x ∧ x < T.length)) : askI T l = 2 := by
  unfold askI; rw [if_pos h, if_neg (fun hh => hb (hh x hx))]
theorem askI_ok {T : List ANode} {l : List Int} (h : goodB T = true) (hb : ∀ x ∈ l, 0 ≤ x ∧ x < T.length) : askI T l = 0 := by
  unfold askI; rw [if_pos h, if_pos hb]
end Go.Proofs.Ytbedomopojiehaa
