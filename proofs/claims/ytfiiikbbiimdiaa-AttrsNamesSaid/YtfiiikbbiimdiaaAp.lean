/- Plain laws on sorted attributes: where a name is, or would be. No condition but those of the laws. -/
import Derived.Test.YtfiiikbbiimdiaaWg
import Derived.Lib.Bytealg
import Derived.WideShapes
namespace Go.Proofs.Ytfiiikbbiimdiaa
open Go.RowKit

theorem cmp_lt : ∀ (a b : List UInt8), (Lib.compareBytes a b < 0 ↔ Op.bytesLess a b = true) ∧ (Lib.compareBytes a b = 0 ↔ a = b)
  | [], [] => by simp [Lib.compareBytes, Op.bytesLess]
  | [], _ :: _ => by simp [Lib.compareBytes, Op.bytesLess]
  | _ :: _, [] => by simp [Lib.compareBytes, Op.bytesLess]
  | x :: a, y :: b => by
    obtain ⟨h1, h2⟩ := cmp_lt a b
    unfold Lib.compareBytes Op.bytesLess
    by_cases hxy : x < y
    · rw [if_pos hxy]
      refine ⟨by simp [hxy], by simp; rintro rfl; exact absurd hxy (UInt8.lt_irrefl x)⟩
    · rw [if_neg hxy]
      by_cases hyx : y < x
      · rw [if_pos hyx]
        have hne : ¬ x = y := by rintro rfl; exact UInt8.lt_irrefl x hyx
        simp [hxy, hne]
      · rw [if_neg hyx]
        have he : x = y := UInt8.le_antisymm (UInt8.not_lt.1 hyx) (UInt8.not_lt.1 hxy)
        subst he
        simp [hxy, h1, h2]
theorem less_irr : ∀ (a : List UInt8), Op.bytesLess a a = false
  | [] => rfl
  | x :: a => by unfold Op.bytesLess; simp [less_irr a, UInt8.lt_irrefl]
theorem less_trans : ∀ {a b c : List UInt8}, Op.bytesLess a b = true → Op.bytesLess b c = true → Op.bytesLess a c = true
  | _, [], _, h, _ => by unfold Op.bytesLess at h; simp at h
  | _, _ :: _, [], _, h => by unfold Op.bytesLess at h; simp at h
  | [], _ :: _, _ :: _, _, _ => by unfold Op.bytesLess; rfl
  | x :: a, y :: b, z :: c, h1, h2 => by
    unfold Op.bytesLess at h1 h2 ⊢
    simp only [Bool.or_eq_true, Bool.and_eq_true, decide_eq_true_eq, beq_iff_eq] at h1 h2 ⊢
    rcases h1 with h1 | ⟨rfl, h1⟩
    · rcases h2 with h2 | ⟨rfl, h2⟩
      · exact .inl (UInt8.lt_trans h1 h2)
      · exact .inl h1
    · rcases h2 with h2 | ⟨rfl, h2⟩
      · exact .inl h2
      · exact .inr ⟨rfl, less_trans h1 h2⟩
theorem less_total : ∀ (a b : List UInt8), Op.bytesLess a b = true ∨ a = b ∨ Op.bytesLess b a = true
  | [], [] => .inr (.inl rfl)
  | [], _ :: _ => .inl (by unfold Op.bytesLess; rfl)
  | _ :: _, [] => .inr (.inr (by unfold Op.bytesLess; rfl))
  | x :: a, y :: b => by
    unfold Op.bytesLess
    simp only [Bool.or_eq_true, Bool.and_eq_true, decide_eq_true_eq, beq_iff_eq]
    by_cases hxy : x < y
    · exact .inl (.inl hxy)
    · by_cases hyx : y < x
      · exact .inr (.inr (.inl hyx))
      · obtain rfl : x = y := UInt8.le_antisymm (UInt8.not_lt.1 hyx) (UInt8.not_lt.1 hxy)
        rcases less_total a b with h | h | h
        · exact .inl (.inr ⟨rfl, h⟩)
        · subst h; exact .inr (.inl rfl)
        · exact .inr (.inr (.inr ⟨rfl, h⟩))

/-- One text before another one. -/
def before (a b : ByteArray) : Bool := Op.bytesLess a.toList b.toList
theorem toList_inj {a b : ByteArray} (h : a.toList = b.toList) : a = b := by
  rw [ByteArray.toList_eq, ByteArray.toList_eq] at h
  exact Go.WideShapes.bytes_inj h
/-- Names in order, each one once. -/
def Sorted (l : List (ByteArray × ByteArray)) : Prop := ∀ j, 0 < j → j < l.length → before (nm l (j - 1)) (nm l j) = true
theorem sorted_attrs {l : List (ByteArray × ByteArray)} (h : attrsB l = true) : Sorted l := by
  unfold attrsB at h
  simp only [Bool.and_eq_true, decide_eq_true_eq] at h
  exact fun j h0 hj => (h.2 j hj).2.2 h0
theorem sorted_lt {l : List (ByteArray × ByteArray)} (h : Sorted l) {i j : Nat} (hij : i < j) (hj : j < l.length) : before (nm l i) (nm l j) = true := by
  induction j with
  | zero => omega
  | succ j ih =>
    have h1 := h (j + 1) (by omega) hj
    rw [show j + 1 - 1 = j by omega] at h1
    by_cases he : i = j
    · subst he; exact h1
    · exact less_trans (ih (by omega) (by omega)) h1
/-- How many names come before one, and whether it is there. -/
def lowA (l : List (ByteArray × ByteArray)) (s : ByteArray) : Nat := (l.filter fun x => before x.1 s).length
def hasA (l : List (ByteArray × ByteArray)) (s : ByteArray) : Bool := decide (lowA l s < l.length) && decide (nm l (lowA l s) = s)
theorem lowA_at {l : List (ByteArray × ByteArray)} {s : ByteArray} {k : Nat} (hk : k ≤ l.length) (h1 : ∀ j, j < k → before (nm l j) s = true) (h2 : ∀ j, k ≤ j → j < l.length → before (nm l j) s = false) : lowA l s = k := by
  have hg : ∀ (j : Nat) (hj : j < l.length), l[j].1 = nm l j := fun j hj => by unfold nm; rw [List.getD_eq_getElem?_getD, List.getElem?_eq_getElem hj]; rfl
  unfold lowA
  conv => lhs; rw [← List.take_append_drop k l, List.filter_append, List.length_append]
  have e1 : ((l.take k).filter fun x => before x.1 s) = l.take k := by
    rw [List.filter_eq_self]
    intro x hx
    obtain ⟨j, hj, rfl⟩ := List.mem_take_iff_getElem.1 hx
    rw [hg]; exact h1 j (by omega)
  have e2 : ((l.drop k).filter fun x => before x.1 s) = [] := by
    rw [List.filter_eq_nil_iff]
    intro x hx
    obtain ⟨j, hj, rfl⟩ := List.mem_drop_iff_getElem.1 hx
    rw [hg, h2 (k + j) (by omega) (by omega)]; simp
  rw [e1, e2, List.length_take]
  simp; omega
theorem low_split {l : List (ByteArray × ByteArray)} (h : Sorted l) (s : ByteArray) : lowA l s ≤ l.length ∧ (∀ j, j < lowA l s → before (nm l j) s = true) ∧ (∀ j, lowA l s ≤ j → j < l.length → before (nm l j) s = false) := by
  -- the first place whose name isn't before s
  have key : ∀ d, d ≤ l.length → (∀ j, j < d → before (nm l j) s = true) ∨ ∃ k, k < d ∧ (∀ j, j < k → before (nm l j) s = true) ∧ before (nm l k) s = false := by
    intro d
    induction d with
    | zero => exact fun _ => .inl fun j hj => absurd hj (by omega)
    | succ d ih =>
      intro hd
      rcases ih (by omega) with h1 | ⟨k, h1, h2⟩
      · cases hb : before (nm l d) s
        · exact .inr ⟨d, by omega, h1, hb⟩
        · refine .inl fun j hj => ?_
          rcases Nat.lt_or_ge j d with h3 | h3
          · exact h1 j h3
          · obtain rfl : j = d := by omega
            exact hb
      · exact .inr ⟨k, by omega, h2⟩
  rcases key l.length (Nat.le_refl _) with h1 | ⟨k, h1, h2, h3⟩
  · have := lowA_at (Nat.le_refl _) h1 (fun j a b => absurd b (by omega))
    rw [this]
    exact ⟨Nat.le_refl _, h1, fun j a b => absurd b (by omega)⟩
  · have hafter : ∀ j, k ≤ j → j < l.length → before (nm l j) s = false := by
      intro j hj hjl
      rcases Nat.lt_or_ge k j with h4 | h4
      · have h5 := sorted_lt h h4 hjl
        cases hb : before (nm l j) s
        · rfl
        · have := less_trans h5 hb
          unfold before at h3
          rw [this] at h3; cases h3
      · obtain rfl : j = k := by omega
        exact h3
    have := lowA_at (by omega) h2 hafter
    rw [this]
    exact ⟨by omega, h2, hafter⟩
theorem hasA_iff {l : List (ByteArray × ByteArray)} (h : Sorted l) (s : ByteArray) : hasA l s = true ↔ ∃ j, j < l.length ∧ nm l j = s := by
  obtain ⟨h1, h2, h3⟩ := low_split h s
  unfold hasA
  simp only [Bool.and_eq_true, decide_eq_true_eq]
  constructor
  · rintro ⟨a, b⟩; exact ⟨_, a, b⟩
  · rintro ⟨j, hj, rfl⟩
    have hj1 : lowA l (nm l j) ≤ j := by
      rcases Nat.lt_or_ge j (lowA l (nm l j)) with h4 | h4
      · have := h2 j h4
        unfold before at this
        rw [less_irr] at this; cases this
      · exact h4
    have hj2 : ¬ lowA l (nm l j) < j := fun h4 => by
      have h5 := sorted_lt h h4 hj
      rw [h3 _ (Nat.le_refl _) (by omega)] at h5; cases h5
    have : lowA l (nm l j) = j := by omega
    rw [this]
    exact ⟨hj, rfl⟩
theorem has_at {l : List (ByteArray × ByteArray)} (h : Sorted l) {j : Nat} (hj : j < l.length) : lowA l (nm l j) = j ∧ hasA l (nm l j) = true := by
  have h1 := (hasA_iff h (nm l j)).2 ⟨j, hj, rfl⟩
  refine ⟨?_, h1⟩
  unfold hasA at h1
  simp only [Bool.and_eq_true, decide_eq_true_eq] at h1
  obtain ⟨a, b⟩ := h1
  rcases Nat.lt_trichotomy (lowA l (nm l j)) j with h2 | h2 | h2
  · have := sorted_lt h h2 hj
    rw [b] at this
    unfold before at this
    rw [less_irr] at this; cases this
  · exact h2
  · have := sorted_lt h h2 a
    rw [b] at this
    unfold before at this
    rw [less_irr] at this; cases this
def cmpS (a b : ByteArray) : Int := Lib.compareBytes a.data.toList b.data.toList
theorem cmpS_neg (a b : ByteArray) : (cmpS a b < 0) ↔ before a b = true := by
  unfold cmpS before
  rw [ByteArray.toList_eq, ByteArray.toList_eq]
  exact (cmp_lt _ _).1
theorem cmpS_zero (a b : ByteArray) : (cmpS a b = 0) ↔ a = b := by
  unfold cmpS
  rw [(cmp_lt _ _).2]
  exact ⟨fun h => Go.WideShapes.bytes_inj h, fun h => by rw [h]⟩
end Go.Proofs.Ytfiiikbbiimdiaa
