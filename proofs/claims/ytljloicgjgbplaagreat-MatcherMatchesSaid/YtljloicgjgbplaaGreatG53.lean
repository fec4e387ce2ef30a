/- Walks: whether an element matches a simple selector, by chapter 23's reference: what is said of the selectors of its list is given. Conditions: the tree is good, the selector is right, the element is in the tree. -/
import Derived.Test.YtljloicgjgbplaaGreatG51
import Derived.Test.YtljloicgjgbplaaGreatG52
namespace Go.Proofs.YtljloicgjgbplaaGreat
open Go.RowKit

section
variable {X : Type} {V : Lies X} {Wf : Nat → Bool → Bool → X → Bool} {T : List ANode} {m : Int} {L : X → Int} {C : X → List Int} {R : X → List (List Bool)} (hK : Knows V Wf T L C R) (hI : RInT V Wf T m C R) (hA : RAhdT V Wf T m C R) (hg : goodB T = true)
include hI
omit hK hA hg in
set_option maxRecDepth 100000 in
set_option maxHeartbeats 1000000 in
theorem rsim11_ok (k : Int) (hk : k = 11 ∨ k = 12) (hV : Stays V) (A : Option Addr) (n c i : Nat) (nm : ByteArray) (op : Int) (vl : ByteArray) (fo : Bool) (a b : Int) (f : Bool) (LA : Option Addr) (ln lc : Nat) (l : List X) (w : World) (h : IsTree w A n T) (hrow : IsRow V w LA ln l) (hal : ∃ d h r, l.all (Wf d h r) = true) (hi : i < n) :
    Calls Tryz.prog 118 #[.agg #[.slice A n c], .int .i64 i, .agg #[.int .u8 k, .string nm, .int .u8 op, .string vl, .bool fo, .int .i64 a, .int .i64 b, .bool f, .slice LA ln lc], .int .i64 m] w fun e w' => e = .returned (.bool (anyI T C R l i)) ∧ Below w.heap.size w w' := by
  have hin := hide (fun (W : World) (hW : Below w.heap.size w W) => hI A n c i LA ln lc l W (h.below hW) (hrow.below hV hW) hal hi)
  clear h hrow hal hI hV
  generalize anyI T C R l i = rv at *
  rcases hk with rfl | rfl
  · have hB0 := below_alloc (below_alloc (Below.refl w.heap.size w) (.cells #[.slice A n c] 24)) (.cells #[.int .u8 11, .string nm, .int .u8 op, .string vl, .bool fo, .int .i64 a, .int .i64 b, .bool f, .slice LA ln lc] 41)
    have hX : ((w.alloc (.cells #[.slice A n c] 24)).alloc (.cells #[.int .u8 11, .string nm, .int .u8 op, .string vl, .bool fo, .int .i64 a, .int .i64 b, .bool f, .slice LA ln lc] 41)).heap[w.heap.size + 1]? = some (.cells #[.int .u8 11, .string nm, .int .u8 op, .string vl, .bool fo, .int .i64 a, .int .i64 b, .bool f, .slice LA ln lc] 41 (0, 0)) := blk_at _ _ _ _ (by simp)
    have e0 : ((w.alloc (.cells #[.slice A n c] 24)).alloc (.cells #[.int .u8 11, .string nm, .int .u8 op, .string vl, .bool fo, .int .i64 a, .int .i64 b, .bool f, .slice LA ln lc] 41)).cell? ⟨w.heap.size, 0, none⟩ = some (.slice A n c) := blk_cell (blk_alloc (blk_new _ _ _) _) 0
    have s0 := blk_cell hX 0
    have s1 := blk_cell hX 1
    have s2 := blk_cell hX 2
    have s3 := blk_cell hX 3
    have s4 := blk_cell hX 4
    have s5 := blk_cell hX 5
    have s6 := blk_cell hX 6
    have s7 := blk_cell hX 7
    have s8 := blk_cell hX 8
    simp only [List.getElem?_toArray, List.getElem?_cons_succ, List.getElem?_cons_zero] at s0 s1 s2 s3 s4 s5 s6 s7 s8
    clear hX
    go_enter Tryz.func118, Tryz.ntmps118
    go_wp2_with fail
    (with_reducible refine (hin.out _ hB0).mono ?_)
    rintro e w1 ⟨rfl, hb1⟩
    have hB1 := Below.on hB0 hb1
    go_wp2
    go_ret
    exact ⟨rfl, hB1⟩
  · have hB0 := below_alloc (below_alloc (Below.refl w.heap.size w) (.cells #[.slice A n c] 24)) (.cells #[.int .u8 12, .string nm, .int .u8 op, .string vl, .bool fo, .int .i64 a, .int .i64 b, .bool f, .slice LA ln lc] 41)
    have hX : ((w.alloc (.cells #[.slice A n c] 24)).alloc (.cells #[.int .u8 12, .string nm, .int .u8 op, .string vl, .bool fo, .int .i64 a, .int .i64 b, .bool f, .slice LA ln lc] 41)).heap[w.heap.size + 1]? = some (.cells #[.int .u8 12, .string nm, .int .u8 op, .string vl, .bool fo, .int .i64 a, .int .i64 b, .bool f, .slice LA ln lc] 41 (0, 0)) := blk_at _ _ _ _ (by simp)
    have e0 : ((w.alloc (.cells #[.slice A n c] 24)).alloc (.cells #[.int .u8 12, .string nm, .int .u8 op, .string vl, .bool fo, .int .i64 a, .int .i64 b, .bool f, .slice LA ln lc] 41)).cell? ⟨w.heap.size, 0, none⟩ = some (.slice A n c) := blk_cell (blk_alloc (blk_new _ _ _) _) 0
    have s0 := blk_cell hX 0
    have s1 := blk_cell hX 1
    have s2 := blk_cell hX 2
    have s3 := blk_cell hX 3
    have s4 := blk_cell hX 4
    have s5 := blk_cell hX 5
    have s6 := blk_cell hX 6
    have s7 := blk_cell hX 7
    have s8 := blk_cell hX 8
    simp only [List.getElem?_toArray, List.getElem?_cons_succ, List.getElem?_cons_zero] at s0 s1 s2 s3 s4 s5 s6 s7 s8
    clear hX
    go_enter Tryz.func118, Tryz.ntmps118
    go_wp2_with fail
    (with_reducible refine (hin.out _ hB0).mono ?_)
    rintro e w1 ⟨rfl, hb1⟩
    have hB1 := Below.on hB0 hb1
    go_wp2
    go_ret
    exact ⟨rfl, hB1⟩
omit hK hA hg in
set_option maxRecDepth 100000 in
set_option maxHeartbeats 1000000 in
theorem rsim13_ok (hV : Stays V) (A : Option Addr) (n c i : Nat) (nm : ByteArray) (op : Int) (vl : ByteArray) (fo : Bool) (a b : Int) (f : Bool) (LA : Option Addr) (ln lc : Nat) (l : List X) (w : World) (h : IsTree w A n T) (hrow : IsRow V w LA ln l) (hal : ∃ d h r, l.all (Wf d h r) = true) (hi : i < n) :
    Calls Tryz.prog 118 #[.agg #[.slice A n c], .int .i64 i, .agg #[.int .u8 13, .string nm, .int .u8 op, .string vl, .bool fo, .int .i64 a, .int .i64 b, .bool f, .slice LA ln lc], .int .i64 m] w fun e w' => e = .returned (.bool (!(anyI T C R l i))) ∧ Below w.heap.size w w' := by
  have hin := hide (fun (W : World) (hW : Below w.heap.size w W) => hI A n c i LA ln lc l W (h.below hW) (hrow.below hV hW) hal hi)
  clear h hrow hal hI hV
  generalize anyI T C R l i = rv at *
  have hB0 := below_alloc (below_alloc (Below.refl w.heap.size w) (.cells #[.slice A n c] 24)) (.cells #[.int .u8 13, .string nm, .int .u8 op, .string vl, .bool fo, .int .i64 a, .int .i64 b, .bool f, .slice LA ln lc] 41)
  have hX : ((w.alloc (.cells #[.slice A n c] 24)).alloc (.cells #[.int .u8 13, .string nm, .int .u8 op, .string vl, .bool fo, .int .i64 a, .int .i64 b, .bool f, .slice LA ln lc] 41)).heap[w.heap.size + 1]? = some (.cells #[.int .u8 13, .string nm, .int .u8 op, .string vl, .bool fo, .int .i64 a, .int .i64 b, .bool f, .slice LA ln lc] 41 (0, 0)) := blk_at _ _ _ _ (by simp)
  have e0 : ((w.alloc (.cells #[.slice A n c] 24)).alloc (.cells #[.int .u8 13, .string nm, .int .u8 op, .string vl, .bool fo, .int .i64 a, .int .i64 b, .bool f, .slice LA ln lc] 41)).cell? ⟨w.heap.size, 0, none⟩ = some (.slice A n c) := blk_cell (blk_alloc (blk_new _ _ _) _) 0
  have s0 := blk_cell hX 0
  have s1 := blk_cell hX 1
  have s2 := blk_cell hX 2
  have s3 := blk_cell hX 3
  have s4 := blk_cell hX 4
  have s5 := blk_cell hX 5
  have s6 := blk_cell hX 6
  have s7 := blk_cell hX 7
  have s8 := blk_cell hX 8
  simp only [List.getElem?_toArray, List.getElem?_cons_succ, List.getElem?_cons_zero] at s0 s1 s2 s3 s4 s5 s6 s7 s8
  clear hX
  go_enter Tryz.func118, Tryz.ntmps118
  go_wp2_with fail
  (with_reducible refine (hin.out _ hB0).mono ?_)
  rintro e w1 ⟨rfl, hb1⟩
  have hB1 := Below.on hB0 hb1
  go_wp2
  go_ret
  exact ⟨rfl, hB1⟩
omit hK hA hg in
set_option maxRecDepth 100000 in
set_option maxHeartbeats 1000000 in
theorem rsim9_ok (hg : goodB T = true) (hV : Stays V) (A : Option Addr) (n c i : Nat) (nm : ByteArray) (op : Int) (vl : ByteArray) (fo : Bool) (a b : Int) (f : Bool) (LA : Option Addr) (ln lc : Nat) (l : List X) (w : World) (h : IsTree w A n T) (hrow : IsRow V w LA ln l) (hal : ∃ d h r, l.all (Wf d h r) = true) (hi : i < n) (hab : anbB a b = true) :
    Calls Tryz.prog 118 #[.agg #[.slice A n c], .int .i64 i, .agg #[.int .u8 9, .string nm, .int .u8 op, .string vl, .bool fo, .int .i64 a, .int .i64 b, .bool f, .slice LA ln lc], .int .i64 m] w fun e w' => e = .returned (.bool (nmatF T i a b false (rowOf T fun j => anyI T C R l j || !f))) ∧ Below w.heap.size w w' := by
  have hpl := hide (fun (W : World) (hW : Below w.heap.size w W) => rplace23_ok hV hI hg 9 A n c i nm op vl fo a b f LA ln lc l W (h.below hW) (hrow.below hV hW) hal hi)
  have hbd := atF_bd hg (show i < T.length by have := h.1; omega) false (rowOf T fun j => anyI T C R l j || !f)
  unfold nmatF
  clear h hrow hal hI hV hg
  obtain ⟨P, hP⟩ : ∃ P, atF T i false (rowOf T fun j => anyI T C R l j || !f) = P := ⟨_, rfl⟩
  have hP2 : atF T i (decide ((9 : Int) = 10)) (rowOf T fun j => anyI T C R l j || !f) = P := hP
  rw [hP2] at hpl
  rw [hP] at hbd ⊢
  obtain ⟨hb0, hb64, -⟩ := hbd
  have hha := hide (fun W => rhas_ok a b P W hab (by omega) (by omega))
  clear hP hP2 hab
  have hB0 := below_alloc (below_alloc (Below.refl w.heap.size w) (.cells #[.slice A n c] 24)) (.cells #[.int .u8 9, .string nm, .int .u8 op, .string vl, .bool fo, .int .i64 a, .int .i64 b, .bool f, .slice LA ln lc] 41)
  have hX : ((w.alloc (.cells #[.slice A n c] 24)).alloc (.cells #[.int .u8 9, .string nm, .int .u8 op, .string vl, .bool fo, .int .i64 a, .int .i64 b, .bool f, .slice LA ln lc] 41)).heap[w.heap.size + 1]? = some (.cells #[.int .u8 9, .string nm, .int .u8 op, .string vl, .bool fo, .int .i64 a, .int .i64 b, .bool f, .slice LA ln lc] 41 (0, 0)) := blk_at _ _ _ _ (by simp)
  have e0 : ((w.alloc (.cells #[.slice A n c] 24)).alloc (.cells #[.int .u8 9, .string nm, .int .u8 op, .string vl, .bool fo, .int .i64 a, .int .i64 b, .bool f, .slice LA ln lc] 41)).cell? ⟨w.heap.size, 0, none⟩ = some (.slice A n c) := blk_cell (blk_alloc (blk_new _ _ _) _) 0
  have s0 := blk_cell hX 0
  have s1 := blk_cell hX 1
  have s2 := blk_cell hX 2
  have s3 := blk_cell hX 3
  have s4 := blk_cell hX 4
  have s5 := blk_cell hX 5
  have s6 := blk_cell hX 6
  have s7 := blk_cell hX 7
  have s8 := blk_cell hX 8
  simp only [List.getElem?_toArray, List.getElem?_cons_succ, List.getElem?_cons_zero] at s0 s1 s2 s3 s4 s5 s6 s7 s8
  clear hX
  by_cases h1 : 0 < P
  · have hr : Hid ((decide (1 ≤ P) && hasB a b P) = hasB a b P) := by show _ = _; rw [decide_eq_true (by omega)]; rfl
    rw [hr.out]
    generalize hasB a b P = rv at *
    go_enter Tryz.func118, Tryz.ntmps118
    go_wp2_with fail
    (with_reducible refine (hpl.out _ hB0).mono ?_)
    rintro e w1 ⟨rfl, hb1⟩
    have hB1 := Below.on hB0 hb1
    have t5 := cell_later hb1 s5
    have t6 := cell_later hb1 s6
    go_wp2_with fail
    (with_reducible refine (hha.out _).mono ?_)
    rintro e w2 ⟨rfl, hb2⟩
    have hB2 := Below.on hB1 hb2
    go_wp2
    go_ret
    exact ⟨rfl, hB2⟩
  · have hr : Hid ((decide (1 ≤ P) && hasB a b P) = false) := by show _ = _; rw [decide_eq_false (by omega)]; rfl
    rw [hr.out]
    have d0 : decide (0 < P) = false := decide_eq_false h1
    go_enter Tryz.func118, Tryz.ntmps118
    go_wp2_with fail
    (with_reducible refine (hpl.out _ hB0).mono ?_)
    rintro e w1 ⟨rfl, hb1⟩
    have hB1 := Below.on hB0 hb1
    go_wp2
    go_ret
    exact ⟨rfl, hB1⟩
omit hK hA hg in
set_option maxRecDepth 100000 in
set_option maxHeartbeats 1000000 in
theorem rsim10_ok (hg : goodB T = true) (hV : Stays V) (A : Option Addr) (n c i : Nat) (nm : ByteArray) (op : Int) (vl : ByteArray) (fo : Bool) (a b : Int) (f : Bool) (LA : Option Addr) (ln lc : Nat) (l : List X) (w : World) (h : IsTree w A n T) (hrow : IsRow V w LA ln l) (hal : ∃ d h r, l.all (Wf d h r) = true) (hi : i < n) (hab : anbB a b = true) :
    Calls Tryz.prog 118 #[.agg #[.slice A n c], .int .i64 i, .agg #[.int .u8 10, .string nm, .int .u8 op, .string vl, .bool fo, .int .i64 a, .int .i64 b, .bool f, .slice LA ln lc], .int .i64 m] w fun e w' => e = .returned (.bool (nmatF T i a b true (rowOf T fun j => anyI T C R l j || !f))) ∧ Below w.heap.size w w' := by
  have hpl := hide (fun (W : World) (hW : Below w.heap.size w W) => rplace23_ok hV hI hg 10 A n c i nm op vl fo a b f LA ln lc l W (h.below hW) (hrow.below hV hW) hal hi)
  have hbd := atF_bd hg (show i < T.length by have := h.1; omega) true (rowOf T fun j => anyI T C R l j || !f)
  unfold nmatF
  clear h hrow hal hI hV hg
  obtain ⟨P, hP⟩ : ∃ P, atF T i true (rowOf T fun j => anyI T C R l j || !f) = P := ⟨_, rfl⟩
  have hP2 : atF T i (decide ((10 : Int) = 10)) (rowOf T fun j => anyI T C R l j || !f) = P := hP
  rw [hP2] at hpl
  rw [hP] at hbd ⊢
  obtain ⟨hb0, hb64, -⟩ := hbd
  have hha := hide (fun W => rhas_ok a b P W hab (by omega) (by omega))
  clear hP hP2 hab
  have hB0 := below_alloc (below_alloc (Below.refl w.heap.size w) (.cells #[.slice A n c] 24)) (.cells #[.int .u8 10, .string nm, .int .u8 op, .string vl, .bool fo, .int .i64 a, .int .i64 b, .bool f, .slice LA ln lc] 41)
  have hX : ((w.alloc (.cells #[.slice A n c] 24)).alloc (.cells #[.int .u8 10, .string nm, .int .u8 op, .string vl, .bool fo, .int .i64 a, .int .i64 b, .bool f, .slice LA ln lc] 41)).heap[w.heap.size + 1]? = some (.cells #[.int .u8 10, .string nm, .int .u8 op, .string vl, .bool fo, .int .i64 a, .int .i64 b, .bool f, .slice LA ln lc] 41 (0, 0)) := blk_at _ _ _ _ (by simp)
  have e0 : ((w.alloc (.cells #[.slice A n c] 24)).alloc (.cells #[.int .u8 10, .string nm, .int .u8 op, .string vl, .bool fo, .int .i64 a, .int .i64 b, .bool f, .slice LA ln lc] 41)).cell? ⟨w.heap.size, 0, none⟩ = some (.slice A n c) := blk_cell (blk_alloc (blk_new _ _ _) _) 0
  have s0 := blk_cell hX 0
  have s1 := blk_cell hX 1
  have s2 := blk_cell hX 2
  have s3 := blk_cell hX 3
  have s4 := blk_cell hX 4
  have s5 := blk_cell hX 5
  have s6 := blk_cell hX 6
  have s7 := blk_cell hX 7
  have s8 := blk_cell hX 8
  simp only [List.getElem?_toArray, List.getElem?_cons_succ, List.getElem?_cons_zero] at s0 s1 s2 s3 s4 s5 s6 s7 s8
  clear hX
  by_cases h1 : 0 < P
  · have hr : Hid ((decide (1 ≤ P) && hasB a b P) = hasB a b P) := by show _ = _; rw [decide_eq_true (by omega)]; rfl
    rw [hr.out]
    generalize hasB a b P = rv at *
    go_enter Tryz.func118, Tryz.ntmps118
    go_wp2_with fail
    (with_reducible refine (hpl.out _ hB0).mono ?_)
    rintro e w1 ⟨rfl, hb1⟩
    have hB1 := Below.on hB0 hb1
    have t5 := cell_later hb1 s5
    have t6 := cell_later hb1 s6
    go_wp2_with fail
    (with_reducible refine (hha.out _).mono ?_)
    rintro e w2 ⟨rfl, hb2⟩
    have hB2 := Below.on hB1 hb2
    go_wp2
    go_ret
    exact ⟨rfl, hB2⟩
  · have hr : Hid ((decide (1 ≤ P) && hasB a b P) = false) := by show _ = _; rw [decide_eq_false (by omega)]; rfl
    rw [hr.out]
    have d0 : decide (0 < P) = false := decide_eq_false h1
    go_enter Tryz.func118, Tryz.ntmps118
    go_wp2_with fail
    (with_reducible refine (hpl.out _ hB0).mono ?_)
    rintro e w1 ⟨rfl, hb1⟩
    have hB1 := Below.on hB0 hb1
    go_wp2
    go_ret
    exact ⟨rfl, hB1⟩
omit hK hA hI in
set_option maxRecDepth 100000 in
set_option maxHeartbeats 1000000 in
theorem rsim0_ok (k : Int) (hk : ¬ (9 ≤ k ∧ k ≤ 14)) (hg : goodB T = true) (A : Option Addr) (n c i : Nat) (nm : ByteArray) (op : Int) (vl : ByteArray) (fo : Bool) (a b : Int) (f : Bool) (LA : Option Addr) (ln lc : Nat) (w : World) (h : IsTree w A n T) (hi : i < n) (hvl : vl.size ≤ 1000) :
    Calls Tryz.prog 118 #[.agg #[.slice A n c], .int .i64 i, .agg #[.int .u8 k, .string nm, .int .u8 op, .string vl, .bool fo, .int .i64 a, .int .i64 b, .bool f, .slice LA ln lc], .int .i64 m] w fun e w' => e = .returned (.bool (matS T i ⟨k, nm, op, vl, fo, a, b, f, LA, ln, lc⟩ m)) ∧ Below w.heap.size w w' := by
  have hma := hide (fun (W : World) (hW : Below w.heap.size w W) => rsmatch_ok A n c T i k nm op vl fo a b f LA ln lc m W (h.below hW) hi hg hvl)
  have g1 : (k == 11) = false := by rw [beq_eq_false_iff_ne]; omega
  have g2 : (k == 12) = false := by rw [beq_eq_false_iff_ne]; omega
  have g3 : (k == 13) = false := by rw [beq_eq_false_iff_ne]; omega
  have g4 : (k == 9) = false := by rw [beq_eq_false_iff_ne]; omega
  have g5 : (k == 10) = false := by rw [beq_eq_false_iff_ne]; omega
  have g6 : (k == 14) = false := by rw [beq_eq_false_iff_ne]; omega
  clear hk h hg
  generalize matS T i ⟨k, nm, op, vl, fo, a, b, f, LA, ln, lc⟩ m = rv at *
  have hB0 := below_alloc (below_alloc (Below.refl w.heap.size w) (.cells #[.slice A n c] 24)) (.cells #[.int .u8 k, .string nm, .int .u8 op, .string vl, .bool fo, .int .i64 a, .int .i64 b, .bool f, .slice LA ln lc] 41)
  have hX : ((w.alloc (.cells #[.slice A n c] 24)).alloc (.cells #[.int .u8 k, .string nm, .int .u8 op, .string vl, .bool fo, .int .i64 a, .int .i64 b, .bool f, .slice LA ln lc] 41)).heap[w.heap.size + 1]? = some (.cells #[.int .u8 k, .string nm, .int .u8 op, .string vl, .bool fo, .int .i64 a, .int .i64 b, .bool f, .slice LA ln lc] 41 (0, 0)) := blk_at _ _ _ _ (by simp)
  have e0 : ((w.alloc (.cells #[.slice A n c] 24)).alloc (.cells #[.int .u8 k, .string nm, .int .u8 op, .string vl, .bool fo, .int .i64 a, .int .i64 b, .bool f, .slice LA ln lc] 41)).cell? ⟨w.heap.size, 0, none⟩ = some (.slice A n c) := blk_cell (blk_alloc (blk_new _ _ _) _) 0
  have s0 := blk_cell hX 0
  have s1 := blk_cell hX 1
  have s2 := blk_cell hX 2
  have s3 := blk_cell hX 3
  have s4 := blk_cell hX 4
  have s5 := blk_cell hX 5
  have s6 := blk_cell hX 6
  have s7 := blk_cell hX 7
  have s8 := blk_cell hX 8
  simp only [List.getElem?_toArray, List.getElem?_cons_succ, List.getElem?_cons_zero] at s0 s1 s2 s3 s4 s5 s6 s7 s8
  clear hX
  go_enter Tryz.func118, Tryz.ntmps118
  go_wp2_with fail
  (with_reducible refine (hma.out _ hB0).mono ?_)
  rintro e w1 ⟨rfl, hb1⟩
  have hB1 := Below.on hB0 hb1
  go_wp2
  go_ret
  exact ⟨rfl, hB1⟩
include hK hA hg
omit hI in
set_option maxRecDepth 100000 in
set_option maxHeartbeats 2000000 in
theorem rsim14_ok (A : Option Addr) (n c i : Nat) (nm : ByteArray) (op : Int) (vl : ByteArray) (fo : Bool) (a b : Int) (f : Bool) (LA : Option Addr) (ln lc : Nat) (l : List X) (w : World) (h : IsTree w A n T) (hrow : IsRow V w LA ln l) (hal : ∃ d h, l.all (Wf d h true) = true) (hi : i < n) :
    Calls Tryz.prog 118 #[.agg #[.slice A n c], .int .i64 i, .agg #[.int .u8 14, .string nm, .int .u8 op, .string vl, .bool fo, .int .i64 a, .int .i64 b, .bool f, .slice LA ln lc], .int .i64 m] w fun e w' => e = .returned (.bool (anyH T L C R l i)) ∧ Below w.heap.size w w' := by
  obtain ⟨d0, h0, hall⟩ := hal
  have hT := hide h
  have hTl := h.1
  have hll := hrow.1
  have hln := hrow.2.1
  have hrow' := hide hrow
  have hg' := hide hg
  have hK' := hide hK
  have hA' := hide hA
  have hall' := hide hall
  have hn64 : T.length ≤ 64 := ((goodB_iff T).1 hg).2.1
  obtain ⟨rv, hrv⟩ : ∃ rv, anyH T L C R l i = rv := ⟨_, rfl⟩
  rw [hrv]
  have hrv' := hide (show l.any (fun x => isH T L C R x i) = rv from hrv)
  have hB0 := below_alloc (below_alloc (Below.refl w.heap.size w) (.cells #[.slice A n c] 24)) (.cells #[.int .u8 14, .string nm, .int .u8 op, .string vl, .bool fo, .int .i64 a, .int .i64 b, .bool f, .slice LA ln lc] 41)
  have hX : ((w.alloc (.cells #[.slice A n c] 24)).alloc (.cells #[.int .u8 14, .string nm, .int .u8 op, .string vl, .bool fo, .int .i64 a, .int .i64 b, .bool f, .slice LA ln lc] 41)).heap[w.heap.size + 1]? = some (.cells #[.int .u8 14, .string nm, .int .u8 op, .string vl, .bool fo, .int .i64 a, .int .i64 b, .bool f, .slice LA ln lc] 41 (0, 0)) := blk_at _ _ _ _ (by simp)
  have e0 : ((w.alloc (.cells #[.slice A n c] 24)).alloc (.cells #[.int .u8 14, .string nm, .int .u8 op, .string vl, .bool fo, .int .i64 a, .int .i64 b, .bool f, .slice LA ln lc] 41)).cell? ⟨w.heap.size, 0, none⟩ = some (.slice A n c) := blk_cell (blk_alloc (blk_new _ _ _) _) 0
  have s0 := blk_cell hX 0
  have s1 := blk_cell hX 1
  have s2 := blk_cell hX 2
  have s3 := blk_cell hX 3
  have s4 := blk_cell hX 4
  have s5 := blk_cell hX 5
  have s6 := blk_cell hX 6
  have s7 := blk_cell hX 7
  have s8 := blk_cell hX 8
  simp only [List.getElem?_toArray, List.getElem?_cons_succ, List.getElem?_cons_zero] at s0 s1 s2 s3 s4 s5 s6 s7 s8
  clear hX
  clear h hrow hall hK hA hg hrv s0 s1 s2 s3 s4 s5 s6 s7
  obtain ⟨W2, hW2⟩ : ∃ W2, W2 = (w.alloc (.cells #[.slice A n c] 24)).alloc (.cells #[.int .u8 14, .string nm, .int .u8 op, .string vl, .bool fo, .int .i64 a, .int .i64 b, .bool f, .slice LA ln lc] 41) := ⟨_, rfl⟩
  have k0 : ((w.alloc (.cells #[.slice A n c] 24)).alloc (.cells #[.int .u8 14, .string nm, .int .u8 op, .string vl, .bool fo, .int .i64 a, .int .i64 b, .bool f, .slice LA ln lc] 41)).cell? ⟨w.heap.size + 1, 0, none⟩ = some (.int .u8 14) := blk_cell (blk_at _ _ _ _ (by simp)) 0
  go_enter Tryz.func118, Tryz.ntmps118
  go_wp2_with fail
  rw [← hW2] at hB0 e0 s8 ⊢
  clear k0 hW2
  go_loopw [10] (fun s wr => ∃ q : Nat, q ≤ ln ∧ s = .int .i64 q ∧ Hid ((l.take q).any (fun x => isH T L C R x i) = false) ∧ Below W2.heap.size W2 wr) (fun s _ => ln - (intOf s).toNat)
  case atStart => exact ⟨0, Nat.zero_le _, rfl, rfl, Below.refl _ _⟩
  case round =>
    obtain ⟨q, hq, rfl, hno, hb⟩ := hrel
    have hBw := Below.on hB0 hb
    have b0 := cell_later hb e0
    have b8 := cell_later hb s8
    by_cases hlt : q < ln
    · obtain ⟨b5, o5, ld, PA, pn, pc, KA, kn, kc, rfl, hbl, c0, c1, c2, hv⟩ := hrow'.out.at hlt hll
      have g0 := cell_later hBw c0
      have g1 := cell_later hBw c1
      have g2 := cell_later hBw c2
      have hxm : l[q]'(by omega) ∈ l := List.getElem_mem _
      have hwx := List.all_eq_true.1 hall'.out _ hxm
      have htk : Hid ((l.take (q + 1)).any (fun x => isH T L C R x i) = ((l.take q).any (fun x => isH T L C R x i) || isH T L C R (l[q]'(by omega)) i)) := take_any (by omega)
      have hyes : Hid (isH T L C R (l[q]'(by omega)) i = true → rv = true) := fun h => by rw [← hrv'.out]; exact List.any_eq_true.2 ⟨_, hxm, h⟩
      generalize l[q] = x at *
      obtain ⟨hld, hl0, hU⟩ := hK'.out.read _ _ _ _ _ _ _ _ _ hv
      obtain ⟨ht, hLr⟩ := hK'.out.told d0 h0 true x hwx
      have hL0 := (hLr rfl).1
      have hL4 := (hLr rfl).2
      have hl1 : 1 ≤ ld := by omega
      have hl4 : ld ≤ 4 := by omega
      have hbg : Hid (isH T L C R x i = (nearH T i ld).any fun z => begF T (C x) (R x) (C x).length 0 z.toNat) := by show isH T L C R x i = _; unfold isH; rw [has_beg hg'.out ht (by omega), hld]
      have hnr := fun z hz => near_range hg'.out (i := i) (by omega) (c := ld) (x := z) hz
      have hnear := hide (rnear_ok A n c T i ld wr.drew (hT.out.below hBw.drew) hg'.out hi hl1 hl4)
      have hah := hide (fun (W : World) (j : Nat) (hj : j < n) (hW : Below w.heap.size w W) => (show Calls Tryz.prog 151 #[.agg #[.slice A n c], .int .i64 j, .agg #[.int .u8 ld, .slice PA pn pc, .slice KA kn kc], .int .i64 0, .int .i64 m] W fun e w' => e = .returned (.bool (begF T (C x) (R x) (C x).length 0 j)) ∧ Below W.heap.size W w' from hA'.out A n c (C x).length 0 j ld PA pn pc KA kn kc x W (hT.out.below hW) (hK'.out.stays _ _ _ _ _ _ _ _ _ _ hW hv) ⟨d0, h0, true, hwx⟩ hj (Nat.zero_add _)))
      obtain ⟨F, hF⟩ : ∃ F, (fun z : Nat => begF T (C x) (R x) (C x).length 0 z) = F := ⟨_, rfl⟩
      have hF' := fun z : Nat => congrFun hF z
      simp only [hF'] at hah hbg
      obtain ⟨N, hN⟩ : ∃ N, nearH T i ld = N := ⟨_, rfl⟩
      simp only [hN] at hnear hnr hbg
      have hnr' := hide hnr
      obtain ⟨G, hG⟩ : ∃ G, isH T L C R x i = G := ⟨_, rfl⟩
      simp only [hG] at hbg htk hyes
      have x0 : (0 : Int) ≤ (q : Int) := by omega
      have x1 : (q : Int) < (ln : Int) := by omega
      clear hF hF' hN hnr hxm hwx hv hU ht hLr hld hL0 hL4 hG c0 c1 c2
      go_wp2
      go_region_held3 (fun X => X.cell? ⟨w.heap.size, 0, none⟩ = some (.slice A n c) ∧ X.cell? ⟨w.heap.size + 1, 8, none⟩ = some (.slice (some ⟨b5, o5, none⟩) ln lc) ∧ X.cell? ⟨b5, o5 + q * 3, none⟩ = some (.int .u8 ld)) (first | exact ⟨b0, b8, g0⟩ | exact ⟨r0, r8, t0⟩) (first | (go_at_call 150; (with_reducible refine hnear.out.mono ?_); rintro e5 w5 ⟨A5, c5, rfl, hI5, hb5⟩; have r0 := cell_later hb5 b0; have r8 := cell_later hb5 b8; have t0 := cell_later hb5 g0; have t1 := cell_later hb5 g1; have t2 := cell_later hb5 g2))
      have hI5' := hide hI5
      have hB5 := hide (Below.on (w1 := wr.drew) hb.drew hb5)
      have hC5 := Below.on (w1 := wr.drew) hBw.drew hb5
      have hL63 : N.length ≤ 9223372036854775807 := hI5'.out.2.1
      generalize wr = wo at *
      clear hI5 hnear hb5 b0 b8 g0 g1 g2
      go_wp2
      go_loopw [12] (fun s wr => ∃ x : Nat, x ≤ N.length ∧ s = .int .i64 x ∧ Hid (∀ j, j < x → F (ix N j).toNat = false) ∧ Below w5.heap.size w5 wr) (fun s _ => N.length - (intOf s).toNat)
      case atStart => exact ⟨0, Nat.zero_le _, rfl, fun j hj => absurd hj (by omega), Below.refl _ _⟩
      case round =>
        obtain ⟨q9, hx, rfl, hno9, hb9⟩ := hrel
        have b0 := cell_later hb9 r0
        have b8 := cell_later hb9 r8
        have g0 := cell_later hb9 t0
        have g1 := cell_later hb9 t1
        have g2 := cell_later hb9 t2
        have hB9 := Below.on hC5 hb9
        by_cases hlt9 : q9 < N.length
        · obtain ⟨b6, o6, rfl, hb6, hc6⟩ := hI5'.out.2.2 (by omega)
          have gz := (old hb9 _ _ hb6).trans (hc6 q9 hlt9)
          obtain ⟨zz, hzz, hzn⟩ := hnr'.out _ (ix_mem hlt9)
          rw [hzz] at gz
          have hzn' : zz < n := by omega
          have x3 : (0 : Int) ≤ (q9 : Int) := by omega
          have x4 : (q9 : Int) < (N.length : Int) := by omega
          have hz := hah.out wr.drew zz hzn' hB9.drew
          have hzz' := hide hzz
          have hS8 := hide (fun (W : World) (hW : Below wr.heap.size wr W) => (show W.cell? ⟨w.heap.size, 0, none⟩ = some (.slice A n c) ∧ W.cell? ⟨w.heap.size + 1, 8, none⟩ = some (.slice (some ⟨b5, o5, none⟩) ln lc) ∧ W.cell? ⟨b5, o5 + q * 3, none⟩ = some (.int .u8 ld) ∧ W.cell? ⟨b5, o5 + q * 3 + 1, none⟩ = some (.slice PA pn pc) ∧ W.cell? ⟨b5, o5 + q * 3 + 2, none⟩ = some (.slice KA kn kc) ∧ W.cell? ⟨b6, o6 + q9, none⟩ = some (.int .i64 zz) from ⟨cell_later hW b0, cell_later hW b8, cell_later hW g0, cell_later hW g1, cell_later hW g2, cell_later hW gz⟩))
          cases hr : F zz
          · rw [hr] at hz
            have hz' := hide hz
            have hno2 : Hid (∀ j, j < q9 + 1 → F (ix N j).toNat = false) := by
              intro j hj
              by_cases h : j = q9
              · subst h; rw [hzz'.out, Int.toNat_natCast]; exact hr
              · exact hno9.out j (by omega)
            clear hc6 hzz hr hz
            go_wp2
            go_region_held3 (fun X => X.cell? ⟨w.heap.size, 0, none⟩ = some (.slice A n c) ∧ X.cell? ⟨w.heap.size + 1, 8, none⟩ = some (.slice (some ⟨b5, o5, none⟩) ln lc) ∧ X.cell? ⟨b5, o5 + q * 3, none⟩ = some (.int .u8 ld) ∧ X.cell? ⟨b5, o5 + q * 3 + 1, none⟩ = some (.slice PA pn pc) ∧ X.cell? ⟨b5, o5 + q * 3 + 2, none⟩ = some (.slice KA kn kc) ∧ X.cell? ⟨b6, o6 + q9, none⟩ = some (.int .i64 zz)) (first | exact ⟨b0, b8, g0, g1, g2, gz⟩ | exact hS8.out _ (Below.on (w1 := wr.drew) (Below.refl _ _).drew hb7)) (first | (go_at_call 151; (with_reducible refine hz'.out.mono ?_); rintro e7 w7 ⟨rfl, hb7⟩))
            have hb7' := hide (Below.on (w1 := wr.drew) hb9.drew hb7)
            clear hb7
            go_wp2
            go_roundw
            case rel => exact ⟨q9 + 1, by omega, by go_num, hno2.out, hb7'.out⟩
            case measure => simp [intOf]; omega
          · rw [hr] at hz
            have hz' := hide hz
            have hrt : Hid (rv = true) := by
              refine hyes.out ?_
              rw [hbg.out, List.any_eq_true]
              exact ⟨_, ix_mem hlt9, by rw [hzz, Int.toNat_natCast]; exact hr⟩
            clear hc6 hzz hr hz
            go_wp2
            go_region_held3 (fun X => X.cell? ⟨w.heap.size, 0, none⟩ = some (.slice A n c) ∧ X.cell? ⟨w.heap.size + 1, 8, none⟩ = some (.slice (some ⟨b5, o5, none⟩) ln lc) ∧ X.cell? ⟨b5, o5 + q * 3, none⟩ = some (.int .u8 ld) ∧ X.cell? ⟨b5, o5 + q * 3 + 1, none⟩ = some (.slice PA pn pc) ∧ X.cell? ⟨b5, o5 + q * 3 + 2, none⟩ = some (.slice KA kn kc) ∧ X.cell? ⟨b6, o6 + q9, none⟩ = some (.int .i64 zz)) (first | exact ⟨b0, b8, g0, g1, g2, gz⟩ | exact hS8.out _ (Below.on (w1 := wr.drew) (Below.refl _ _).drew hb7)) (first | (go_at_call 151; (with_reducible refine hz'.out.mono ?_); rintro e7 w7 ⟨rfl, hb7⟩))
            have hb7' := hide (Below.on (w1 := wr.drew) hB9.drew hb7)
            clear hb7
            go_wp2
            go_ret
            exact ⟨ret_bool hrt.out.symm, hb7'.out⟩
        · have hG : Hid (G = false) := by
            show _ = _
            rw [hbg.out, List.any_eq_false]
            intro z hz
            obtain ⟨j, hj, rfl⟩ := mem_ix hz
            rw [hno9.out j (by omega)]
            decide
          have hno2 : Hid ((l.take (q + 1)).any (fun x => isH T L C R x i) = false) := by show _ = _; rw [htk.out, hno.out, hG.out]; rfl
          have hbb := hide (Below.on hB5.out hb9)
          clear hG
          go_wp2
          go_roundw
          case rel => exact ⟨q + 1, by omega, by go_num, hno2.out, hbb.out⟩
          case measure => simp [intOf]; omega
    · obtain rfl : ln = q := by omega
      have hrt : Hid (rv = false) := by
        show _ = _
        rw [← hrv'.out]
        have := hno.out
        rwa [← hll, List.take_length] at this
      go_wp2
      go_ret
      exact ⟨ret_bool hrt.out.symm, hBw⟩
include hI
theorem rsimM_ok : RSimM V Wf T m L C R := by
  intro A n c i s x w h hr hB hi
  obtain ⟨d, hh, hB⟩ := hB
  have hsame := hr.same
  by_cases hk : 9 ≤ x.kind ∧ x.kind ≤ 14
  · have hal := simR_list hB hk
    have hal' : ∃ d h r, x.list.all (Wf d h r) = true := ⟨_, _, _, hal⟩
    obtain ⟨k, nm, op, vl, fo, a, b, f, LA, ln, lc⟩ := s
    obtain ⟨k', nm', op', vl', fo', a', b', f', l⟩ := x
    obtain ⟨e1, e2, e3, e4, e5, e6, e7, e8, hl, -, -, -, -, -, -, -, -, hrow⟩ := hr
    simp only at e1 e2 e3 e4 e5 e6 e7 e8 hl hrow hk hal hal'
    subst e1 e2 e3 e4 e5 e6 e7 e8
    simp only
    obtain rfl | rfl | rfl | rfl | rfl | rfl : k = 9 ∨ k = 10 ∨ k = 11 ∨ k = 12 ∨ k = 13 ∨ k = 14 := by omega
    · exact rsim9_ok hI hg hK.stays A n c i nm op vl fo a b f LA ln lc l w h hrow hal' hi (simR_anb hB (.inl rfl))
    · exact rsim10_ok hI hg hK.stays A n c i nm op vl fo a b f LA ln lc l w h hrow hal' hi (simR_anb hB (.inr rfl))
    · exact rsim11_ok hI 11 (.inl rfl) hK.stays A n c i nm op vl fo a b f LA ln lc l w h hrow hal' hi
    · exact rsim11_ok hI 12 (.inr rfl) hK.stays A n c i nm op vl fo a b f LA ln lc l w h hrow hal' hi
    · exact rsim13_ok hI hK.stays A n c i nm op vl fo a b f LA ln lc l w h hrow hal' hi
    · exact rsim14_ok hK hA hg A n c i nm op vl fo a b f LA ln lc l w h hrow ⟨_, _, hal⟩ hi
  · have hvl : s.val.size ≤ 1000 := by
      rcases simB_okS hsame hB with h1 | h1
      · rw [hsame.lis, decide_eq_true_eq] at h1; exact absurd h1 hk
      · have := (chkS_val h1).1; omega
    rw [simM_plain T m L C R hk, ← hsame.mat]
    exact rsim0_ok s.kind (by rw [hsame.kind]; exact hk) hg A n c i s.name s.op s.val s.fold s.a s.b s.of s.LA s.ln s.lc w h hi hvl
end
end Go.Proofs.YtljloicgjgbplaaGreat
