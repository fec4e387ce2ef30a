/- Plain laws on counted places and what is told; a list of truth values that the call has copied, with one of them changed. Condition: the tree is good. -/
import Derived.Test.YtankambfobfnfaaNg
namespace Go.Proofs.Ytankambfobfnfaa
open Go.RowKit

theorem pfx_congr {B C : List Bool} {l : List Int} (h : ∀ x ∈ l, inb B x = inb C x) (k : Nat) : pfx B l k = pfx C l k := by
  unfold pfx
  rw [List.filter_congr (q := inb C) (fun x hx => h x (List.mem_of_mem_take hx))]
theorem atF_congr {T : List ANode} (hg : goodB T = true) {i : Nat} (hi : i < T.length) {B C : List Bool} (h : ∀ x ∈ sibs T i, inb B x = inb C x) (last : Bool) : atF T i last B = atF T i last C := by
  unfold atF
  rw [h i (sibs_self hg hi), pfx_congr h, pfx_congr h]
theorem inb_set {B : List Bool} {k : Nat} {x : Int} {v : Bool} (h : x.toNat ≠ k) : inb (B.set k v) x = inb B x := by
  unfold inb bx
  rw [List.getD_eq_getElem?_getD, List.getD_eq_getElem?_getD, List.getElem?_set_ne (by omega)]
theorem nmatF_set {T : List ANode} (hg : goodB T = true) {i k : Nat} (hi : i < T.length) (hk : k < T.length) (hik : i ≠ k) (hp : ¬ (0 ≤ par T i ∧ par T i = par T k)) (B : List Bool) (v : Bool) (a b : Int) (last : Bool) : nmatF T i a b last (B.set k v) = nmatF T i a b last B := by
  have h : atF T i last (B.set k v) = atF T i last B := by
    refine atF_congr hg hi (fun x hx => inb_set fun e => ?_) last
    obtain ⟨q, h1, h2, h3, h4⟩ := sibs_mem hg hi hx
    have : q = k := by rw [h1] at e; simpa using e
    subst this
    by_cases h0 : 0 ≤ par T i
    · exact hp ⟨h0, h4.symm⟩
    · unfold sibs at hx
      rw [if_pos (by omega)] at hx
      simp at hx
      omega
  unfold nmatF
  rw [h]

/-- The first (or last) counted one of a list of siblings. -/
def oneN (B : List Bool) (l : List Int) (last : Bool) (j : Nat) : Nat := if last then (if 0 < pfx B l l.length ∧ pfx B l j = pfx B l l.length then 1 else 0) else min (pfx B l j) 1
theorem one_is {T : List ANode} (hg : goodB T = true) {i : Nat} (hi : i < T.length) {j : Nat} (hj : j < (sibs T i).length) {q : Nat} (hq : ix (sibs T i) j = q) (B : List Bool) (last : Bool) :
    nmatF T q 0 1 last B = (inb B q && (if last then decide (pfx B (sibs T i) (j + 1) = pfx B (sibs T i) (sibs T i).length) else decide (pfx B (sibs T i) j = 0))) := by
  obtain ⟨r, h1, h2, h3, -⟩ := sibs_mem hg hi (ix_mem hj)
  have : r = q := by omega
  subst this
  have hp := sibs_posn hg hi hj
  rw [hq] at hp
  have h5 := pfx_succ B (sibs T i) j hj
  rw [hq] at h5
  have h6 := pfx_mono B (sibs T i) (show j + 1 ≤ (sibs T i).length by omega)
  unfold nmatF
  rw [Bool.eq_iff_iff]
  simp only [Bool.and_eq_true, decide_eq_true_eq, has_zero]
  unfold atF
  rw [h3, hp, Int.toNat_natCast]
  by_cases hb : inb B r = true
  · rw [if_pos hb] at h5 ⊢
    cases last
    · simp only [Bool.false_eq_true, if_false, decide_eq_true_eq, hb, true_and]
      omega
    · simp only [if_true, decide_eq_true_eq, hb, true_and]
      omega
  · rw [if_neg hb]
    simp [hb]
theorem oneN_succ {T : List ANode} (hg : goodB T = true) {i : Nat} (hi : i < T.length) {j : Nat} (hj : j < (sibs T i).length) {q : Nat} (hq : ix (sibs T i) j = q) (B : List Bool) (last : Bool) :
    oneN B (sibs T i) last (j + 1) = oneN B (sibs T i) last j + (if nmatF T q 0 1 last B = true then 1 else 0) := by
  rw [one_is hg hi hj hq]
  have h5 := pfx_succ B (sibs T i) j hj
  rw [hq] at h5
  have h6 := pfx_mono B (sibs T i) (show j + 1 ≤ (sibs T i).length by omega)
  unfold oneN
  by_cases hb : inb B q = true
  · rw [if_pos hb] at h5
    simp only [hb, Bool.true_and]
    cases last
    · simp only [Bool.false_eq_true, if_false, decide_eq_true_eq]
      by_cases h0 : pfx B (sibs T i) j = 0
      · rw [if_pos h0, h5, h0]; rfl
      · rw [if_neg h0]; omega
    · simp only [if_true, decide_eq_true_eq]
      by_cases h0 : pfx B (sibs T i) (j + 1) = pfx B (sibs T i) (sibs T i).length
      · rw [if_pos ⟨by omega, h0⟩, if_neg (by omega), if_pos h0]
      · rw [if_neg (fun h => h0 h.2), if_neg (by omega), if_neg h0]
  · rw [if_neg hb] at h5
    have hbf : inb B q = false := by simpa using hb
    simp only [hbf, Bool.false_and, Bool.false_eq_true, if_false, Nat.add_zero] at h5 ⊢
    rw [h5]
theorem oneN_end (B : List Bool) (l : List Int) (last : Bool) : oneN B l last l.length = min (pfx B l l.length) 1 := by
  unfold oneN
  cases last
  · rfl
  · rw [if_pos rfl]
    split <;> omega
theorem oneN_zero (B : List Bool) (l : List Int) (last : Bool) : oneN B l last 0 = 0 := by
  unfold oneN
  rw [pfx_zero]
  cases last
  · rfl
  · rw [if_pos rfl, if_neg (by omega)]
theorem oneN_le (B : List Bool) (l : List Int) (last : Bool) (j : Nat) : oneN B l last j ≤ 1 := by
  unfold oneN
  cases last
  · rw [if_neg (by decide)]; omega
  · rw [if_pos rfl]; split <;> omega

/-- A copied list whose element k is changed. -/
theorem OwnB.change {w : World} {base : Nat} {v : Value} {B : List Bool} (h : OwnB w base v B) (hn : B.length ≤ 1000) {k : Nat} (hk : k < B.length) (x : Bool) :
    ∃ g c, v = .slice (some ⟨g, 0, none⟩) B.length c ∧ base ≤ g ∧ g < w.heap.size ∧ w.frozen? ⟨g, k, none⟩ = false ∧ w.cell? ⟨g, k, none⟩ = some (.bool (bx B k)) ∧ IsBools (w.setCell ⟨g, k, none⟩ (.bool x)) (some ⟨g, 0, none⟩) B.length (B.set k x) := by
  have h0 := h
  rcases h.2 with ⟨e1, e2⟩ | ⟨g, cap, cur, rfl, hb, hg, hnc, hm, hcs, ht⟩
  · omega
  · have hgl := (World.ownsRow.lt h0 g rfl).2
    have hcell : ∀ j, j < B.length → w.cell? ⟨g, j, none⟩ = some (.bool (bx B j)) := fun j hj => by rw [World.ownsRow.cellAt h0 j (by omega), bools_get hj]
    refine ⟨g, cap, rfl, hb, hgl, blk_frozen hg k, hcell k hk, by simp, by omega, fun _ => ⟨g, 0, rfl, by simpa [World.setCell] using hgl, fun j hj => ?_⟩⟩
    rw [Nat.zero_add, blk_cell (blk_set hg k (.bool x)) j]
    have hcj := hcell j hj
    rw [blk_cell hg j] at hcj
    by_cases hjk : j = k
    · subst hjk
      have hlt : j < cur.size := by
        rcases Nat.lt_or_ge j cur.size with h | h
        · exact h
        · rw [Array.getElem?_eq_none h] at hcj; cases hcj
      rw [Array.getElem?_setIfInBounds_self_of_lt hlt]
      simp [bx, hj]
    · rw [Array.getElem?_setIfInBounds_ne (by omega), hcj]
      simp only [bx]
      rw [List.getD_eq_getElem?_getD, List.getD_eq_getElem?_getD, List.getElem?_set_ne (by omega)]
theorem bools_at {w : World} {A : Option Addr} {n : Nat} {xs : List Bool} (h : IsBools w A n xs) : ∀ ad, A = some ad → ∀ j u, (bools xs)[j]? = some u → w.cell? (ad.add j) = some u := by
  intro ad ha j u hj
  have hjl : j < xs.length := by
    rcases Nat.lt_or_ge j xs.length with h | h
    · exact h
    · rw [List.getElem?_eq_none (by simpa [bools] using h)] at hj; cases hj
  rw [bools_get hjl] at hj
  simp only [Option.some.injEq] at hj
  subst hj
  have hl := h.1
  obtain ⟨b, off, hA, hb, hc⟩ := h.2.2 (by omega)
  rw [hA] at ha
  injection ha with ha
  subst ha
  have := hc j (by omega)
  unfold Addr.add
  split
  · rename_i h0; subst h0; simpa using this
  · exact this
theorem bools_none {w : World} {A : Option Addr} {n : Nat} {xs : List Bool} (h : IsBools w A n xs) (ha : A = none) : n = 0 := by
  rcases Nat.eq_zero_or_pos n with h0 | h0
  · exact h0
  · obtain ⟨b, off, hA, _⟩ := h.2.2 h0
    rw [ha] at hA; cases hA

section
variable {W : World} {ops : Array Oper} {rest : List Oper} {o : Oper} {a : Act} {Q : Exit → Act → World → Prop}
/-- 'append([]bool{}, in...)'. -/
theorem wpList_dupB (hgd : o.guard = none) (s x : Operand) (ho : o.op = .call { callee := .builtin .append, args := #[s, x], argTypes := #[52, 52] })
    {A : Option Addr} {n c : Nat} {B : List Bool} (hL : IsBools W A n B) (hn : n ≤ 1000) (tt : TypeId) (htt : tt = 4) (hs : a.eval s = .slice (some ⟨W.heap.size, 0, none⟩) 0 0) (hx : a.eval x = .slice A n c)
    (h : ∀ v' w', OwnB w' W.heap.size v' B → Below W.heap.size W w' → wpList Try.prog ops Q rest (a.put o.dst v') w') : wpList Try.prog ops Q (o :: rest) a (W.alloc (.cells #[] tt)) := by
  subst htt
  obtain ⟨i0, hI, hz0, hz1, hz2⟩ := info_parts info_bool'
  have hbl := hL.1
  have hb := bools_at (hL.below (below_alloc (Below.refl _ _) (.cells #[] 4)))
  refine wpList_append_from hgd s x 52 ho W.heap.size 4 i0 (.bool false) 1 1 Try.underlying52 hI hz0 hz1 hz2 rfl (by decide) _ _ _ hs (World.ownsRow_lit W #[] 0 (Nat.le_refl _) (Nat.zero_le _) rfl) A n c (bools B) hx (by simp [bools, hbl]) (bools_none hL) hb (bools_one _) (by unfold maxLen; omega) (by omega) (by simp) ?_
  intro v' w' hown' hgrow
  refine h v' w' (by unfold OwnB; rw [hbl]; simpa using hown') ((below_alloc (Below.refl W.heap.size W) (.cells #[] 4)).grown hgrow (by simp) (fun k hk => by simp [Value.ownBlock] at hk; omega))
end
end Go.Proofs.Ytankambfobfnfaa
