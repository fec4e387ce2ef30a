/- A tree of the call's own: one node's attributes, children or parent are changed. Conditions as each states. -/
import Derived.Test.YtfiiikbbiimdiaaRow
import Derived.Test.YtfiiikbbiimdiaaWj
namespace Go.Proofs.Ytfiiikbbiimdiaa
open Go.RowKit

def setA (T : List ANode) (i : Nat) (l : List (ByteArray × ByteArray)) : List ANode := T.set i { nd T i with attrs := l }
def setK (T : List ANode) (i : Nat) (l : List Int) : List ANode := T.set i { nd T i with children := l }
def setP (T : List ANode) (i : Nat) (x : Int) : List ANode := T.set i { nd T i with parent := x }
theorem nd_set {T : List ANode} {i : Nat} (hi : i < T.length) (x : ANode) (j : Nat) : nd (T.set i x) j = if j = i then x else nd T j := by
  unfold nd
  rw [List.getD_eq_getElem?_getD, List.getD_eq_getElem?_getD, List.getElem?_set]
  by_cases h : j = i
  · subst h; simp [hi]
  · rw [if_neg (fun e => h e.symm), if_neg h]
theorem setA_len (T : List ANode) (i : Nat) (l : List (ByteArray × ByteArray)) : (setA T i l).length = T.length := List.length_set ..
theorem setK_len (T : List ANode) (i : Nat) (l : List Int) : (setK T i l).length = T.length := List.length_set ..
theorem setP_len (T : List ANode) (i : Nat) (x : Int) : (setP T i x).length = T.length := List.length_set ..

theorem own_keep {w w' : World} {base size n : Nat} {e : TypeId} {v : Value} {xs : List Value} (h : w.ownsRow base e size v n xs) (hk : ∀ q, v.ownBlock = some q → w'.heap[q]? = w.heap[q]?) : w'.ownsRow base e size v n xs := by
  refine ⟨h.1, h.2.imp id ?_⟩
  rintro ⟨g, cap, cur, rfl, hb, hg, r⟩
  exact ⟨g, cap, cur, rfl, hb, (hk g rfl).trans hg, r⟩
theorem own_setCell {w : World} {base size n g cap o : Nat} {e : TypeId} {xs : List Value} (h : w.ownsRow base e size (.slice (some ⟨g, 0, none⟩) n cap) n xs) (_ : o < n * size) (u : Value) : (w.setCell ⟨g, o, none⟩ u).ownsRow base e size (.slice (some ⟨g, 0, none⟩) n cap) n (xs.set o u) := by
  rcases h.2 with ⟨h0, -⟩ | ⟨g', cap', cur, h0, hb, hg, hn, hm, hs, ht⟩
  · cases h0
  · cases h0
    refine own_row (blk_set hg o u) hb hn hm (by simpa using hs) ?_
    rw [Array.toList_setIfInBounds, List.take_set, ht]
theorem own_block {w : World} {base size n : Nat} {e : TypeId} {v : Value} {xs : List Value} (h : w.ownsRow base e size v n xs) (hn : 0 < n) : ∃ g cap cs, v = .slice (some ⟨g, 0, none⟩) n cap ∧ n ≤ cap ∧ cap ≤ maxLen ∧ base ≤ g ∧ w.heap[g]? = some (.cells cs e (0, 0)) := by
  rcases h.2 with ⟨-, h0⟩ | ⟨g, cap, cur, h0, hb, hg, hn, hm, hs, ht⟩
  · omega
  · exact ⟨g, cap, cur, h0, hn, hm, hb, hg⟩

theorem nodes4_ext {T : List ANode} {aA cA : Nat → Option Addr} {aC cC : Nat → Nat} {k : Nat} {xs : List Value} (hl : xs.length = k * 4) (h : ∀ j q, j < k → q < 4 → xs[j * 4 + q]? = (node4 T aA cA aC cC j)[q]?) : xs = nodes4 T aA cA aC cC k := by
  refine List.ext_getElem? fun m => ?_
  by_cases hm : m < k * 4
  · have e : m = m / 4 * 4 + m % 4 := by omega
    rw [e, h _ _ (by omega) (by omega), nodes4_get _ _ _ _ _ (by omega) _ (by omega)]
  · rw [List.getElem?_eq_none (by omega), List.getElem?_eq_none (by rw [nodes4_len]; omega)]

section
variable {w w' : World} {base k i : Nat} {T : List ANode}
/-- What is known of node i of a tree of the call's own, and how the tree stands behind a change of it. -/
structure NodeAt (w : World) (base : Nat) (v : Value) (k : Nat) (T : List ANode) (i g cap : Nat) (A : Option Addr) (ac : Nat) (C : Option Addr) (cc : Nat) : Prop where
  val : v = .slice (some ⟨g, 0, none⟩) k cap
  room : k ≤ cap
  cap63 : cap ≤ 9223372036854775807
  low : base ≤ g
  lt : g < w.heap.size
  c0 : w.cell? ⟨g, i * 4, none⟩ = some (.string (nd T i).tag)
  c1 : w.cell? ⟨g, i * 4 + 1, none⟩ = some (.slice A (nd T i).attrs.length ac)
  c2 : w.cell? ⟨g, i * 4 + 2, none⟩ = some (.int .i64 (par T i))
  c3 : w.cell? ⟨g, i * 4 + 3, none⟩ = some (.slice C (kids T i).length cc)
  fz : ∀ o, w.frozen? ⟨g, o, none⟩ = false
  rowA : w.ownsRow base 83 2 (.slice A (nd T i).attrs.length ac) (nd T i).attrs.length (atts (nd T i).attrs)
  rowK : w.ownsRow base 3 1 (.slice C (kids T i).length cc) (kids T i).length (ints (kids T i))
  typ : ∃ cs, w.heap[g]? = some (.cells cs 61 (0, 0))
  isA : A.map (·.block) ≠ some g
  isK : C.map (·.block) ≠ some g
  onA : ∀ (w' : World) (A' : Option Addr) (c' : Nat) (l : List (ByteArray × ByteArray)), (∀ q, q < w.heap.size → A.map (·.block) ≠ some q → w'.heap[q]? = w.heap[q]?) →
    w'.ownsRow base 83 2 (.slice A' l.length c') l.length (atts l) → (∀ q, A'.map (·.block) = some q → A.map (·.block) = some q ∨ w.heap.size ≤ q) →
    OwnTree (w'.setCell ⟨g, i * 4 + 1, none⟩ (.slice A' l.length c')) base v k (setA T i l)
  inA : ∀ (w' : World) (l : List (ByteArray × ByteArray)), l.length = (nd T i).attrs.length → (∀ q, q < w.heap.size → A.map (·.block) ≠ some q → w'.heap[q]? = w.heap[q]?) →
    w'.ownsRow base 83 2 (.slice A l.length ac) l.length (atts l) → OwnTree w' base v k (setA T i l)
  onK : ∀ (w' : World) (C' : Option Addr) (c' : Nat) (l : List Int), (∀ q, q < w.heap.size → C.map (·.block) ≠ some q → w'.heap[q]? = w.heap[q]?) →
    w'.ownsRow base 3 1 (.slice C' l.length c') l.length (ints l) → (∀ q, C'.map (·.block) = some q → C.map (·.block) = some q ∨ w.heap.size ≤ q) →
    OwnTree (w'.setCell ⟨g, i * 4 + 3, none⟩ (.slice C' l.length c')) base v k (setK T i l)
  inK : ∀ (w' : World) (l : List Int), l.length = (kids T i).length → (∀ q, q < w.heap.size → C.map (·.block) ≠ some q → w'.heap[q]? = w.heap[q]?) →
    w'.ownsRow base 3 1 (.slice C l.length cc) l.length (ints l) → OwnTree w' base v k (setK T i l)
  onP : ∀ x : Int, OwnTree (w.setCell ⟨g, i * 4 + 2, none⟩ (.int .i64 x)) base v k (setP T i x)

theorem own_lt {w : World} {base size n : Nat} {e : TypeId} {A : Option Addr} {c : Nat} {xs : List Value} (h : w.ownsRow base e size (.slice A n c) n xs) : ∀ q, A.map (·.block) = some q → base ≤ q ∧ q < w.heap.size := fun q hq => World.ownsRow.lt h q ((ownBlock_slice _ _ _).trans hq)
theorem own_diff {w : World} {base base' size size' n n' : Nat} {e e' : TypeId} {A B : Option Addr} {c d : Nat} {xs xs' : List Value} (h : w.ownsRow base e size (.slice A n c) n xs) (h' : w.ownsRow base' e' size' (.slice B n' d) n' xs') (hne : e ≠ e') : ∀ q, A.map (·.block) = some q → B.map (·.block) ≠ some q := fun q hq hB => by
  rcases own_ne h h' hne with h1 | h1
  · rw [ownBlock_slice, hq] at h1; cases h1
  · rw [ownBlock_slice, ownBlock_slice, hq, hB] at h1; exact h1 rfl

theorem OwnTree.node {v : Value} (h : OwnTree w base v k T) (hi : i < k) (hl : T.length = k) : ∃ g cap A ac C cc, NodeAt w base v k T i g cap A ac C cc := by
  obtain ⟨aA, cA, aC, cC, h1, h2, h3, h4, h5⟩ := h
  obtain ⟨g, cap, cs, rfl, hkc, hcm, hbg, hg⟩ := own_block h1 (by omega)
  have hgl : g < w.heap.size := blk_lt hg
  have hiT : i < T.length := by omega
  have hgA : ∀ j, j < k → (aA j).map (·.block) ≠ some g := fun j hj e => own_diff (h2 j hj) h1 (by decide) g e rfl
  have hgK : ∀ j, j < k → (cA j).map (·.block) ≠ some g := fun j hj e => own_diff (h3 j hj) h1 (by decide) g e rfl
  have hAA : ∀ j, j < k → j ≠ i → ∀ q, (aA j).map (·.block) = some q → (aA i).map (·.block) ≠ some q := fun j hj hji q hq hq' => by
    rcases Nat.lt_or_ge j i with hlt | hge
    · exact h4 j i hlt hi q hq hq'
    · exact h4 i j (by omega) hj q hq' hq
  have hKK : ∀ j, j < k → j ≠ i → ∀ q, (cA j).map (·.block) = some q → (cA i).map (·.block) ≠ some q := fun j hj hji q hq hq' => by
    rcases Nat.lt_or_ge j i with hlt | hge
    · exact h5 j i hlt hi q hq hq'
    · exact h5 i j (by omega) hj q hq' hq
  have cell : ∀ q, q < 4 → w.cell? ⟨g, i * 4 + q, none⟩ = (node4 T aA cA aC cC i)[q]? := fun q hq => by
    rw [h1.cellAt (i * 4 + q) (by omega), nodes4_get _ _ _ _ _ hi q hq]
  refine ⟨g, cap, aA i, aC i, cA i, cC i, rfl, hkc, by unfold maxLen at hcm; omega, hbg, hgl, cell 0 (by omega), cell 1 (by omega), cell 2 (by omega), cell 3 (by omega), fun o => blk_frozen hg o, h2 i hi, h3 i hi, ⟨cs, hg⟩, hgA i hi, hgK i hi, ?_, ?_, ?_, ?_, ?_⟩
  · intro w' A' c' l hk hrow hap
    have hg' : w'.heap[g]? = some (.cells cs 61 (0, 0)) := (hk g hgl (hgA i hi)).trans hg
    have hrow' := own_setCell (own_keep h1 fun q hq => by cases hq; exact hk g hgl (hgA i hi)) (o := i * 4 + 1) (by omega) (.slice A' l.length c')
    have nat : ∀ j, nd (setA T i l) j = if j = i then { nd T i with attrs := l } else nd T j := nd_set hiT _
    refine ⟨fun j => if j = i then A' else aA j, cA, fun j => if j = i then c' else aC j, cC, ?_, fun j hj => ?_, fun j hj => ?_, fun a b hab hb q hqa hqb => ?_, h5⟩
    · rw [← nodes4_ext (xs := (nodes4 T aA cA aC cC k).set (i * 4 + 1) (.slice A' l.length c')) (by rw [List.length_set, nodes4_len]) (fun j q hj hq => ?_)]
      · exact hrow'
      · rw [List.getElem?_set, nodes4_len]
        by_cases hji : j = i
        · subst hji
          by_cases hq1 : q = 1
          · subst hq1; rw [if_pos rfl, if_pos (by omega)]; simp [node4, nat]
          · rw [if_neg (by omega), nodes4_get _ _ _ _ _ hj q hq]
            obtain rfl | rfl | rfl : q = 0 ∨ q = 2 ∨ q = 3 := by omega
            all_goals simp [node4, nat, par, kids]
        · rw [if_neg (by omega), nodes4_get _ _ _ _ _ hj q hq]
          simp [node4, nat, par, kids, hji]
    · by_cases hji : j = i
      · subst hji
        simp only [nat, if_pos]
        exact own_set_typed hrow hg' (by decide) _
      · simp only [nat, if_neg hji]
        exact own_set_typed (own_keep (h2 j hj) fun q hq => by rw [ownBlock_slice] at hq; exact hk q (own_lt (h2 j hj) q hq).2 (hAA j hj hji q hq)) hg' (by decide) _
    · have e : kids (setA T i l) j = kids T j := by unfold kids; rw [nat]; split <;> simp_all
      rw [e]
      exact own_set_typed (own_keep (h3 j hj) fun q hq => by rw [ownBlock_slice] at hq; exact hk q (own_lt (h3 j hj) q hq).2 (own_diff (h3 j hj) (h2 i hi) (by decide) q hq)) hg' (by decide) _
    · by_cases ha : a = i
      · subst ha
        simp only [if_pos, if_neg (show b ≠ a by omega)] at hqa hqb
        rcases hap q hqa with h | h
        · exact hAA b hb (by omega) q hqb h
        · have := (own_lt (h2 b hb) q hqb).2; omega
      · simp only [if_neg ha] at hqa
        by_cases hb' : b = i
        · subst hb'
          simp only [if_pos] at hqb
          rcases hap q hqb with h | h
          · exact hAA a (by omega) ha q hqa h
          · have := (own_lt (h2 a (by omega)) q hqa).2; omega
        · simp only [if_neg hb'] at hqb
          exact h4 a b hab hb q hqa hqb
  · intro w' l hl' hk hrow
    have nat : ∀ j, nd (setA T i l) j = if j = i then { nd T i with attrs := l } else nd T j := nd_set hiT _
    refine ⟨aA, cA, aC, cC, ?_, fun j hj => ?_, fun j hj => ?_, h4, h5⟩
    · rw [show nodes4 (setA T i l) aA cA aC cC k = nodes4 T aA cA aC cC k from nodes4_congr fun j hj => by
        simp only [node4, nat, par, kids]
        by_cases hji : j = i
        · subst hji; simp [hl']
        · simp [hji]]
      exact own_keep h1 fun q hq => by cases hq; exact hk g hgl (hgA i hi)
    · by_cases hji : j = i
      · subst hji; simp only [nat, if_pos]; exact hrow
      · simp only [nat, if_neg hji]
        exact own_keep (h2 j hj) fun q hq => by rw [ownBlock_slice] at hq; exact hk q (own_lt (h2 j hj) q hq).2 (hAA j hj hji q hq)
    · have e : kids (setA T i l) j = kids T j := by unfold kids; rw [nat]; split <;> simp_all
      rw [e]
      exact own_keep (h3 j hj) fun q hq => by rw [ownBlock_slice] at hq; exact hk q (own_lt (h3 j hj) q hq).2 (own_diff (h3 j hj) (h2 i hi) (by decide) q hq)
  · intro w' A' c' l hk hrow hap
    have hg' : w'.heap[g]? = some (.cells cs 61 (0, 0)) := (hk g hgl (hgK i hi)).trans hg
    have hrow' := own_setCell (own_keep h1 fun q hq => by cases hq; exact hk g hgl (hgK i hi)) (o := i * 4 + 3) (by omega) (.slice A' l.length c')
    have nat : ∀ j, nd (setK T i l) j = if j = i then { nd T i with children := l } else nd T j := nd_set hiT _
    refine ⟨aA, fun j => if j = i then A' else cA j, aC, fun j => if j = i then c' else cC j, ?_, fun j hj => ?_, fun j hj => ?_, h4, fun a b hab hb q hqa hqb => ?_⟩
    · rw [← nodes4_ext (xs := (nodes4 T aA cA aC cC k).set (i * 4 + 3) (.slice A' l.length c')) (by rw [List.length_set, nodes4_len]) (fun j q hj hq => ?_)]
      · exact hrow'
      · rw [List.getElem?_set, nodes4_len]
        by_cases hji : j = i
        · subst hji
          by_cases hq1 : q = 3
          · subst hq1; rw [if_pos rfl, if_pos (by omega)]; simp [node4, nat, kids]
          · rw [if_neg (by omega), nodes4_get _ _ _ _ _ hj q hq]
            obtain rfl | rfl | rfl : q = 0 ∨ q = 1 ∨ q = 2 := by omega
            all_goals simp [node4, nat, par, kids]
        · rw [if_neg (by omega), nodes4_get _ _ _ _ _ hj q hq]
          simp [node4, nat, par, kids, hji]
    · have e : (nd (setK T i l) j).attrs = (nd T j).attrs := by rw [nat]; split <;> simp_all
      rw [e]
      exact own_set_typed (own_keep (h2 j hj) fun q hq => by rw [ownBlock_slice] at hq; exact hk q (own_lt (h2 j hj) q hq).2 (own_diff (h2 j hj) (h3 i hi) (by decide) q hq)) hg' (by decide) _
    · by_cases hji : j = i
      · subst hji
        simp only [kids, nat, if_pos]
        exact own_set_typed hrow hg' (by decide) _
      · simp only [kids, nat, if_neg hji]
        exact own_set_typed (own_keep (h3 j hj) fun q hq => by rw [ownBlock_slice] at hq; exact hk q (own_lt (h3 j hj) q hq).2 (hKK j hj hji q hq)) hg' (by decide) _
    · by_cases ha : a = i
      · subst ha
        simp only [if_pos, if_neg (show b ≠ a by omega)] at hqa hqb
        rcases hap q hqa with h | h
        · exact hKK b hb (by omega) q hqb h
        · have := (own_lt (h3 b hb) q hqb).2; omega
      · simp only [if_neg ha] at hqa
        by_cases hb' : b = i
        · subst hb'
          simp only [if_pos] at hqb
          rcases hap q hqb with h | h
          · exact hKK a (by omega) ha q hqa h
          · have := (own_lt (h3 a (by omega)) q hqa).2; omega
        · simp only [if_neg hb'] at hqb
          exact h5 a b hab hb q hqa hqb
  · intro w' l hl' hk hrow
    have nat : ∀ j, nd (setK T i l) j = if j = i then { nd T i with children := l } else nd T j := nd_set hiT _
    refine ⟨aA, cA, aC, cC, ?_, fun j hj => ?_, fun j hj => ?_, h4, h5⟩
    · rw [show nodes4 (setK T i l) aA cA aC cC k = nodes4 T aA cA aC cC k from nodes4_congr fun j hj => by
        simp only [node4, nat, par, kids]
        by_cases hji : j = i
        · subst hji; simp [hl', kids]
        · simp [hji]]
      exact own_keep h1 fun q hq => by cases hq; exact hk g hgl (hgK i hi)
    · have e : (nd (setK T i l) j).attrs = (nd T j).attrs := by rw [nat]; split <;> simp_all
      rw [e]
      exact own_keep (h2 j hj) fun q hq => by rw [ownBlock_slice] at hq; exact hk q (own_lt (h2 j hj) q hq).2 (own_diff (h2 j hj) (h3 i hi) (by decide) q hq)
    · by_cases hji : j = i
      · subst hji; simp only [kids, nat, if_pos]; exact hrow
      · simp only [kids, nat, if_neg hji]
        exact own_keep (h3 j hj) fun q hq => by rw [ownBlock_slice] at hq; exact hk q (own_lt (h3 j hj) q hq).2 (hKK j hj hji q hq)
  · intro x
    have hrow' := own_setCell h1 (o := i * 4 + 2) (by omega) (.int .i64 x)
    have nat : ∀ j, nd (setP T i x) j = if j = i then { nd T i with parent := x } else nd T j := nd_set hiT _
    refine ⟨aA, cA, aC, cC, ?_, fun j hj => ?_, fun j hj => ?_, h4, h5⟩
    · rw [← nodes4_ext (xs := (nodes4 T aA cA aC cC k).set (i * 4 + 2) (.int .i64 x)) (by rw [List.length_set, nodes4_len]) (fun j q hj hq => ?_)]
      · exact hrow'
      · rw [List.getElem?_set, nodes4_len]
        by_cases hji : j = i
        · subst hji
          by_cases hq1 : q = 2
          · subst hq1; rw [if_pos rfl, if_pos (by omega)]; simp [node4, nat, par]
          · rw [if_neg (by omega), nodes4_get _ _ _ _ _ hj q hq]
            obtain rfl | rfl | rfl : q = 0 ∨ q = 1 ∨ q = 3 := by omega
            all_goals simp [node4, nat, par, kids]
        · rw [if_neg (by omega), nodes4_get _ _ _ _ _ hj q hq]
          simp [node4, nat, par, kids, hji]
    · have e : (nd (setP T i x) j).attrs = (nd T j).attrs := by rw [nat]; split <;> simp_all
      rw [e]
      exact own_set_typed (h2 j hj) hg (by decide) _
    · have e : kids (setP T i x) j = kids T j := by unfold kids; rw [nat]; split <;> simp_all
      rw [e]
      exact own_set_typed (h3 j hj) hg (by decide) _
end
end Go.Proofs.Ytfiiikbbiimdiaa
