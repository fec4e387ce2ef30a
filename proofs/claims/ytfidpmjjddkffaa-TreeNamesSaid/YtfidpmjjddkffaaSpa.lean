/- The chapter's example as a tree of the call's own; what a change of one node makes of it. Conditions as each states. -/
import Derived.Test.YtfidpmjjddkffaaTset
import Derived.Test.YtfidpmjjddkffaaEx
namespace Go.Proofs.Ytfidpmjjddkffaa
open Go.RowKit

def setG (T : List ANode) (i : Nat) (s : ByteArray) : List ANode := T.set i { nd T i with tag := s }
section
variable {W : World} {base n g cap i : Nat} {T : List ANode}
theorem OwnTree.at (h : OwnTree W base (.slice (some ⟨g, 0, none⟩) n cap) n T) (hi : i < n) (hl : T.length = n) : ∃ A ac C cc, NodeAt W base (.slice (some ⟨g, 0, none⟩) n cap) n T i g cap A ac C cc := by
  obtain ⟨g', cap', A, ac, C, cc, hN⟩ := h.node hi hl
  have hv := hN.val
  injection hv with e1 e2 e3
  injection e1 with e1
  injection e1 with e1
  subst e1 e3
  exact ⟨A, ac, C, cc, hN⟩
/-- A node's tag is another one. -/
theorem OwnTree.newG (h : OwnTree W base (.slice (some ⟨g, 0, none⟩) n cap) n T) (hi : i < n) (hl : T.length = n) (s : ByteArray) : OwnTree (W.setCell ⟨g, i * 4, none⟩ (.string s)) base (.slice (some ⟨g, 0, none⟩) n cap) n (setG T i s) := by
  obtain ⟨aA, cA, aC, cC, h1, h2, h3, h4, h5⟩ := h
  obtain ⟨g', cap', cs, hv, hkc, hcm, hbg, hg⟩ := own_block h1 (by omega)
  injection hv with e1 e2 e3
  injection e1 with e1
  injection e1 with e1
  subst e1 e3
  have hiT : i < T.length := by omega
  have hrow' := own_setCell h1 (o := i * 4) (by omega) (.string s)
  have nat : ∀ j, nd (setG T i s) j = if j = i then { nd T i with tag := s } else nd T j := nd_set hiT _
  refine ⟨aA, cA, aC, cC, ?_, fun j hj => ?_, fun j hj => ?_, h4, h5⟩
  · rw [← nodes4_ext (xs := (nodes4 T aA cA aC cC n).set (i * 4) (.string s)) (by rw [List.length_set, nodes4_len]) (fun j q hj hq => ?_)]
    · exact hrow'
    · rw [List.getElem?_set, nodes4_len]
      by_cases hji : j = i
      · subst hji
        by_cases hq1 : q = 0
        · subst hq1; rw [Nat.add_zero, if_pos rfl, if_pos (by omega)]; simp [node4, nat]
        · rw [if_neg (by omega), nodes4_get _ _ _ _ _ hj q hq]
          obtain rfl | rfl | rfl : q = 1 ∨ q = 2 ∨ q = 3 := by omega
          all_goals simp [node4, nat, par, kids]
      · rw [if_neg (by omega), nodes4_get _ _ _ _ _ hj q hq]
        simp [node4, nat, par, kids, hji]
  · have e : (nd (setG T i s) j).attrs = (nd T j).attrs := by rw [nat]; split <;> simp_all
    rw [e]
    exact own_set_typed (h2 j hj) hg (by decide) _
  · have e : kids (setG T i s) j = kids T j := by unfold kids; rw [nat]; split <;> simp_all
    rw [e]
    exact own_set_typed (h3 j hj) hg (by decide) _
theorem OwnTree.newP (h : OwnTree W base (.slice (some ⟨g, 0, none⟩) n cap) n T) (hi : i < n) (hl : T.length = n) (x : Int) : OwnTree (W.setCell ⟨g, i * 4 + 2, none⟩ (.int .i64 x)) base (.slice (some ⟨g, 0, none⟩) n cap) n (setP T i x) := by
  obtain ⟨A, ac, C, cc, hN⟩ := h.at hi hl
  exact hN.onP x
/-- A node's children are a list that is made for them. -/
theorem OwnTree.newK (h : OwnTree W base (.slice (some ⟨g, 0, none⟩) n cap) n T) (hi : i < n) (hl : T.length = n) (hb : base ≤ W.heap.size) (l : List Int) {m : Nat} (hm : l.length = m) (hm2 : m ≤ 1000) :
    OwnTree ((W.alloc (.cells (ints l).toArray 3)).setCell ⟨g, i * 4 + 3, none⟩ (.slice (some ⟨W.heap.size, 0, none⟩) m m)) base (.slice (some ⟨g, 0, none⟩) n cap) n (setK T i l) := by
  obtain ⟨A, ac, C, cc, hN⟩ := h.at hi hl
  subst hm
  have hrow := World.ownsRow_lit W (e := 3) (size := 1) (base := base) (ints l).toArray l.length hb (by unfold maxLen; omega) (by simp [ints])
  exact hN.onK _ (some ⟨W.heap.size, 0, none⟩) l.length l (fun q hq _ => heap_alloc_old W _ hq) (by simpa using hrow) (fun q hq => .inr (by injection hq with hq; exact Nat.le_of_eq hq))
theorem OwnTree.newA (h : OwnTree W base (.slice (some ⟨g, 0, none⟩) n cap) n T) (hi : i < n) (hl : T.length = n) (hb : base ≤ W.heap.size) (l : List (ByteArray × ByteArray)) {m : Nat} (hm : l.length = m) (hm2 : m ≤ 1000) :
    OwnTree ((W.alloc (.cells (atts l).toArray 62)).setCell ⟨g, i * 4 + 1, none⟩ (.slice (some ⟨W.heap.size, 0, none⟩) m m)) base (.slice (some ⟨g, 0, none⟩) n cap) n (setA T i l) := by
  obtain ⟨A, ac, C, cc, hN⟩ := h.at hi hl
  subst hm
  have hrow := World.ownsRow_lit W (e := 62) (size := 2) (base := base) (atts l).toArray l.length hb (by unfold maxLen; omega) (by simp [atts_len])
  exact hN.onA _ (some ⟨W.heap.size, 0, none⟩) l.length l (fun q hq _ => heap_alloc_old W _ hq) (by simpa using hrow) (fun q hq => .inr (by injection hq with hq; exact Nat.le_of_eq hq))
end

/-- The chapter's example, as it is made: its nodes in block g. -/
def MadeExO (w : World) (e : Ending) (w' : World) : Prop :=
  ∃ g, e = .returned (.agg #[.slice (some ⟨g, 0, none⟩) 5 5]) ∧ w.heap.size ≤ g ∧ g < w'.heap.size ∧ OwnTree w' w.heap.size (.slice (some ⟨g, 0, none⟩) 5 5) 5 exT ∧ Below w.heap.size w w'
set_option maxRecDepth 100000 in
theorem example_own (w : World) : Calls Try.prog 29 #[] w (MadeExO w) := by
  go_enter Try.func29, Try.ntmps29
  go_wp2
  refine bodyPost_ret (v := .agg #[.slice (some ⟨w.heap.size + 1 + 1 + 1, 0, none⟩) 5 5]) (by simp [results, Try.results29, go_sem]) rfl ⟨_, rfl, by omega, by simp, ?_, below_alloc (below_alloc (below_alloc (below_alloc (Below.refl _ _) _) _) _) _⟩
  have hR : ((((w.alloc (.cells #[.slice (some ⟨w.heap.size + 1 + 1 + 1, 0, none⟩) 5 5] 24)).alloc (.cells #[.int .i64 2, .int .i64 1] 3)).alloc (.cells #[.int .i64 3] 3)).alloc (.cells (exCells (w.heap.size + 1) (w.heap.size + 1 + 1)) 53)).ownsRow w.heap.size 53 4 (.slice (some ⟨w.heap.size + 1 + 1 + 1, 0, none⟩) 5 5) 5 (exCells (w.heap.size + 1) (w.heap.size + 1 + 1)).toList := by
    have := World.ownsRow_lit (((w.alloc (.cells #[.slice (some ⟨w.heap.size + 1 + 1 + 1, 0, none⟩) 5 5] 24)).alloc (.cells #[.int .i64 2, .int .i64 1] 3)).alloc (.cells #[.int .i64 3] 3)) (e := 53) (size := 4) (base := w.heap.size) (exCells (w.heap.size + 1) (w.heap.size + 1 + 1)) 5 (by simp; omega) (by unfold maxLen; omega) rfl
    simpa using this
  have hK0 : ((w.alloc (.cells #[.slice (some ⟨w.heap.size + 1 + 1 + 1, 0, none⟩) 5 5] 24)).alloc (.cells #[.int .i64 2, .int .i64 1] 3)).ownsRow w.heap.size 3 1 (.slice (some ⟨w.heap.size + 1, 0, none⟩) 2 2) 2 (ints [2, 1]) := by
    have := World.ownsRow_lit (w.alloc (.cells #[.slice (some ⟨w.heap.size + 1 + 1 + 1, 0, none⟩) 5 5] 24)) (e := 3) (size := 1) (base := w.heap.size) #[.int .i64 2, .int .i64 1] 2 (by simp) (by unfold maxLen; omega) rfl
    simpa [ints] using this
  have hK2 : (((w.alloc (.cells #[.slice (some ⟨w.heap.size + 1 + 1 + 1, 0, none⟩) 5 5] 24)).alloc (.cells #[.int .i64 2, .int .i64 1] 3)).alloc (.cells #[.int .i64 3] 3)).ownsRow w.heap.size 3 1 (.slice (some ⟨w.heap.size + 1 + 1, 0, none⟩) 1 1) 1 (ints [3]) := by
    have := World.ownsRow_lit ((w.alloc (.cells #[.slice (some ⟨w.heap.size + 1 + 1 + 1, 0, none⟩) 5 5] 24)).alloc (.cells #[.int .i64 2, .int .i64 1] 3)) (e := 3) (size := 1) (base := w.heap.size) #[.int .i64 3] 1 (by simp; omega) (by unfold maxLen; omega) rfl
    simpa [ints] using this
  have hK0' := (hK0.alloc (.cells #[.int .i64 3] 3)).alloc (.cells (exCells (w.heap.size + 1) (w.heap.size + 1 + 1)) 53)
  have hK2' := hK2.alloc (.cells (exCells (w.heap.size + 1) (w.heap.size + 1 + 1)) 53)
  refine ⟨fun _ => none, fun j => if j = 0 then some ⟨w.heap.size + 1, 0, none⟩ else if j = 2 then some ⟨w.heap.size + 1 + 1, 0, none⟩ else none, fun _ => 0, fun j => if j = 0 then 2 else if j = 2 then 1 else 0, hR, fun j hj => ?_, fun j hj => ?_, (fun i j _ _ q hq => by cases hq), fun i j hij hj q hi hj' => ?_⟩
  · have ha : (nd exT j).attrs = [] := by rcases lt5 hj with rfl | rfl | rfl | rfl | rfl <;> rfl
    rw [ha]
    exact World.ownsRow_nil _ _ _ _
  · rcases lt5 hj with rfl | rfl | rfl | rfl | rfl
    · exact hK0'
    · exact World.ownsRow_nil _ _ _ _
    · exact hK2'
    · exact World.ownsRow_nil _ _ _ _
    · exact World.ownsRow_nil _ _ _ _
  · by_cases h0 : i = 0
    · by_cases h2 : j = 2
      · subst h0 h2
        simp at hi hj'
        omega
      · simp only [if_neg h2, if_neg (show ¬ j = 0 by omega)] at hj'
        cases hj'
    · by_cases h2 : i = 2
      · simp only [if_neg (show ¬ j = 0 by omega), if_neg (show ¬ j = 2 by omega)] at hj'
        cases hj'
      · simp only [if_neg h0, if_neg h2] at hi
        cases hi
end Go.Proofs.Ytfidpmjjddkffaa
