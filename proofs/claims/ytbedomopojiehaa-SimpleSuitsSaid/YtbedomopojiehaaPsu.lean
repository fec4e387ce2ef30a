/- Plain laws on what suits an attribute selector: folding, words, beginnings and ends are inside. No condition. -/
import Derived.Test.YtbedomopojiehaaSo
import Derived.Test.YtbedomopojiehaaSq
namespace Go.Proofs.Ytbedomopojiehaa
open Go.RowKit

theorem fold_list (s : ByteArray) : (foldS s).data.toList = s.data.toList.map fold8 := by simp [foldS]
theorem foldS_bs (l : List UInt8) : foldS (bs l) = bs (l.map fold8) := by
  apply Go.WideShapes.bytes_inj
  rw [fold_list]
  simp [bs]
theorem fold_dash (q : ByteArray) : foldS (q ++ dash) = foldS q ++ dash := by
  apply Go.WideShapes.bytes_inj
  rw [fold_list]
  simp [dash, fold_list, show fold8 45 = 45 by decide]
theorem fold_sp (c : UInt8) : sp8 (fold8 c) = sp8 c := by
  have h : ∀ n : Fin 256, sp8 (fold8 (UInt8.ofNat n.val)) = sp8 (UInt8.ofNat n.val) := by decide +kernel
  have := h ⟨c.toNat, c.toNat_lt⟩
  simpa using this
theorem finW_mem (out : List ByteArray) (cur : List UInt8) (y : ByteArray) : y ∈ finW out cur ↔ y ∈ out ∨ (cur ≠ [] ∧ y = bs cur) := by
  unfold finW
  by_cases h : cur = [] ∨ bs cur ∈ out
  · rw [if_pos h]
    constructor
    · exact .inl
    · rintro (h1 | ⟨h1, rfl⟩)
      · exact h1
      · exact h.resolve_left h1
  · rw [if_neg h, List.mem_append, List.mem_singleton]
    constructor
    · rintro (h1 | h1)
      · exact .inl h1
      · exact .inr ⟨fun h2 => h (.inl h2), h1⟩
    · rintro (h1 | ⟨-, h1⟩)
      · exact .inl h1
      · exact .inr h1
theorem split_fold : ∀ (l cur : List UInt8) (out out' : List ByteArray), (∀ y ∈ out, foldS y ∈ out') → ∀ x ∈ splitW l cur out, foldS x ∈ splitW (l.map fold8) (cur.map fold8) out' := by
  have hf : ∀ (cur : List UInt8) (out out' : List ByteArray), (∀ y ∈ out, foldS y ∈ out') → ∀ x ∈ finW out cur, foldS x ∈ finW out' (cur.map fold8) := fun cur out out' h x hx => by
    rw [finW_mem] at hx ⊢
    rcases hx with hx | ⟨h1, rfl⟩
    · exact .inl (h x hx)
    · exact .inr ⟨by simpa using h1, foldS_bs cur⟩
  intro l
  induction l with
  | nil => intro cur out out' h; exact hf cur out out' h
  | cons c l ih =>
    intro cur out out' h x hx
    rw [List.map_cons]
    unfold splitW at hx ⊢
    rw [fold_sp]
    cases hc : sp8 c
    · rw [hc] at hx
      simp only [Bool.false_eq_true, if_false] at hx ⊢
      have := ih (cur ++ [c]) out out' h x hx
      rwa [List.map_append] at this
    · rw [hc] at hx
      simp only [if_true] at hx ⊢
      exact ih [] _ _ (hf cur out out' h) x hx
theorem words_fold {q v : ByteArray} (h : q ∈ wordsS v) : foldS q ∈ wordsS (foldS v) := by
  have := split_fold v.data.toList [] [] [] (fun y hy => by simp at hy) q h
  unfold wordsS
  rw [fold_list]
  exact this
theorem split_infix (v : List UInt8) : ∀ (l cur : List UInt8) (out : List ByteArray) (p : List UInt8), v = p ++ cur ++ l → (∀ y ∈ out, y.data.toList <:+: v) → ∀ x ∈ splitW l cur out, x.data.toList <:+: v := by
  have hf : ∀ (cur r p : List UInt8) (out : List ByteArray), v = p ++ cur ++ r → (∀ y ∈ out, y.data.toList <:+: v) → ∀ x ∈ finW out cur, x.data.toList <:+: v := fun cur r p out hv h x hx => by
    rw [finW_mem] at hx
    rcases hx with hx | ⟨-, rfl⟩
    · exact h x hx
    · exact ⟨p, r, by simp [bs, hv]⟩
  intro l
  induction l with
  | nil => intro cur out p hv h; exact hf cur [] p out hv h
  | cons c l ih =>
    intro cur out p hv h x hx
    unfold splitW at hx
    cases hc : sp8 c
    · rw [hc] at hx
      simp only [Bool.false_eq_true, if_false] at hx
      exact ih (cur ++ [c]) out p (by rw [hv]; simp) h x hx
    · rw [hc] at hx
      simp only [if_true] at hx
      exact ih [] _ (p ++ cur ++ [c]) (by rw [hv]; simp) (hf cur (c :: l) p out hv h) x hx
theorem contains_iff (s p : List UInt8) : Lib.contains s p = true ↔ p <:+: s := by
  unfold Lib.contains
  rw [decide_eq_true_eq]
  constructor
  · intro h
    rcases Lib.index_spec s p with ⟨h1, -⟩ | ⟨i, h1, h2, h3, h4⟩
    · omega
    · obtain ⟨t, ht⟩ := List.isPrefixOf_iff_prefix.1 (show p.isPrefixOf (s.drop i) = true from h3)
      exact ⟨s.take i, t, by rw [List.append_assoc, ht, List.take_append_drop]⟩
  · rintro ⟨a, b, h⟩
    rcases Lib.index_spec s p with ⟨h1, h2⟩ | ⟨i, h1, -⟩
    · have h3 := h2 a.length (by rw [← h]; simp)
      have h4 : Lib.occAt s p a.length = true := by
        show p.isPrefixOf (s.drop a.length) = true
        rw [← h, List.append_assoc, List.drop_left]
        exact List.isPrefixOf_iff_prefix.2 ⟨b, rfl⟩
      rw [h4] at h3
      cases h3
    · omega
theorem pre_iff (s p : List UInt8) : Lib.hasPrefix s p = true ↔ p <+: s := List.isPrefixOf_iff_prefix
theorem suf_iff (s p : List UInt8) : Lib.hasSuffix s p = true ↔ p <:+ s := List.isSuffixOf_iff_suffix
theorem infix_map {f : UInt8 → UInt8} {p s : List UInt8} (h : p <:+: s) : p.map f <:+: s.map f := by
  obtain ⟨a, b, rfl⟩ := h
  exact ⟨a.map f, b.map f, by simp⟩
/-- What suits suits when folded. -/
theorem suit_fold {op : Int} {q v : ByteArray} (h : suitF op q v = true) : suitF op (foldS q) (foldS v) = true := by
  unfold suitF at h ⊢
  rw [foldS_size, ← fold_dash]
  by_cases h0 : op = 0
  · rw [if_pos h0]
  · rw [if_neg h0] at h ⊢
    by_cases h1 : op = 1
    · rw [if_pos h1] at h ⊢
      rw [decide_eq_true_eq] at h ⊢
      rw [h]
    · rw [if_neg h1] at h ⊢
      by_cases h3 : op = 3
      · rw [if_pos h3] at h ⊢
        rw [Bool.or_eq_true, decide_eq_true_eq, pre_iff] at h ⊢
        rcases h with h | h
        · exact .inl (by rw [h])
        · refine .inr ?_
          rw [fold_list, fold_list]
          obtain ⟨t, ht⟩ := h
          exact ⟨t.map fold8, by rw [← ht, List.map_append]⟩
      · rw [if_neg h3] at h ⊢
        by_cases hz : q.size = 0
        · rw [if_pos hz] at h; cases h
        · rw [if_neg hz] at h ⊢
          by_cases h2 : op = 2
          · rw [if_pos h2] at h ⊢
            rw [decide_eq_true_eq] at h ⊢
            exact words_fold h
          · rw [if_neg h2] at h ⊢
            by_cases h4 : op = 4
            · rw [if_pos h4] at h ⊢
              rw [pre_iff] at h ⊢
              rw [fold_list, fold_list]
              obtain ⟨t, ht⟩ := h
              exact ⟨t.map fold8, by rw [← ht, List.map_append]⟩
            · rw [if_neg h4] at h ⊢
              by_cases h5 : op = 5
              · rw [if_pos h5] at h ⊢
                rw [suf_iff] at h ⊢
                rw [fold_list, fold_list]
                obtain ⟨t, ht⟩ := h
                exact ⟨t.map fold8, by rw [← ht, List.map_append]⟩
              · rw [if_neg h5] at h ⊢
                rw [contains_iff] at h ⊢
                rw [fold_list, fold_list]
                exact infix_map h
theorem suit_one (q v : ByteArray) : suitF 1 q v = decide (v = q) := rfl
theorem suit_13 {q v : ByteArray} (h : suitF 1 q v = true) : suitF 3 q v = true := by
  rw [suit_one, decide_eq_true_eq] at h
  show (decide (v = q) || _) = true
  rw [decide_eq_true h, Bool.true_or]
theorem suit_empty {q v : ByteArray} (h : q.size = 0) : suitF 2 q v = false ∧ suitF 4 q v = false ∧ suitF 5 q v = false ∧ suitF 6 q v = false := by
  refine ⟨?_, ?_, ?_, ?_⟩ <;> simp [suitF, h]
section
variable {q v : ByteArray} (hz : ¬ q.size = 0)
include hz
theorem suit4 : suitF 4 q v = Lib.hasPrefix v.data.toList q.data.toList := by simp [suitF, hz]
theorem suit5 : suitF 5 q v = Lib.hasSuffix v.data.toList q.data.toList := by simp [suitF, hz]
theorem suit6 : suitF 6 q v = Lib.contains v.data.toList q.data.toList := by simp [suitF, hz]
theorem suit_14 (h : suitF 1 q v = true) : suitF 4 q v = true ∧ suitF 5 q v = true := by
  rw [suit_one, decide_eq_true_eq] at h
  rw [suit4 hz, suit5 hz, h, pre_iff, suf_iff]
  exact ⟨List.prefix_rfl, List.suffix_rfl⟩
theorem suit_34 (h : suitF 3 q v = true) : suitF 4 q v = true := by
  have h' : (decide (v = q) || Lib.hasPrefix v.data.toList (q ++ dash).data.toList) = true := h
  rw [Bool.or_eq_true, decide_eq_true_eq, pre_iff] at h'
  rw [suit4 hz, pre_iff]
  rcases h' with h | h
  · rw [h]; exact List.prefix_rfl
  · refine List.IsPrefix.trans ?_ h
    exact ⟨dash.data.toList, by simp⟩
theorem suit_in (h : suitF 2 q v = true ∨ suitF 4 q v = true ∨ suitF 5 q v = true) : suitF 6 q v = true := by
  rw [suit6 hz, contains_iff]
  rcases h with h | h | h
  · have h2 : q ∈ wordsS v := by simpa [suitF, hz] using h
    exact split_infix v.data.toList v.data.toList [] [] [] (by simp) (fun y hy => by simp at hy) q h2
  · rw [suit4 hz, pre_iff] at h; exact h.isInfix
  · rw [suit5 hz, suf_iff] at h; exact h.isInfix
end
end Go.Proofs.Ytbedomopojiehaa
