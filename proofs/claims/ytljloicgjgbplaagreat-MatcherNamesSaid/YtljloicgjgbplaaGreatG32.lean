/- Walks: which elements match a simple selector with a list, by the program: what is told of the compounds below is given. Conditions: the tree is good, the mode right, the selector is right; the variable of the library that strings.Contains reads holds a number. -/
import Derived.Test.YtljloicgjgbplaaGreatG31
namespace Go.Proofs.YtljloicgjgbplaaGreat
open Go.RowKit

/-- A list of truth values, with its capacity. -/
def MadeB1 (w : World) (xs : List Bool) (e : Ending) (w' : World) : Prop :=
  ∃ (A : Option Addr) (c : Nat), e = .returned (.slice A xs.length c) ∧ IsBools w' A xs.length xs ∧ xs.length ≤ c ∧ c ≤ 9223372036854775807 ∧ Below w.heap.size w w'
theorem madeB1_row {w w' : World} {T : List ANode} {n g : Nat} {f f' : Nat → Bool} (hl : T.length = n) (hn : n ≤ 64) (h : Bs w' g n n f) (hb : Below w.heap.size w w') (hf : ∀ i, i < n → f' i = f i) : MadeB1 w (rowOf T f') (.returned (.slice (some ⟨g, 0, none⟩) n n)) w' := by
  have hI := (h.congr hf).isBools (by omega)
  have hr : rowOf T f' = (List.range n).map f' := by unfold rowOf; rw [hl]
  have hrl : (rowOf T f').length = n := by rw [rowOf_len, hl]
  refine ⟨some ⟨g, 0, none⟩, n, by rw [hrl], ?_, by omega, by omega, hb⟩
  rw [hrl, hr]; exact hI
theorem madeB1_nil {w w' : World} (hb : Below w.heap.size w w') : MadeB1 w [] (.returned (.slice none 0 0)) w' := ⟨none, 0, rfl, ⟨rfl, by decide, fun h => absurd h (by decide)⟩, Nat.le_refl _, by omega, hb⟩
def ToldT {X : Type} (V : Lies X) (Wf : Nat → Bool → Bool → X → Bool) (T : List ANode) (m : Int) (L : X → Int) (C : X → List Int) (R : X → List (List Bool)) : Prop :=
  ∀ (A : Option Addr) (n c : Nat) (s : Sim) (x : SimX X) (W : World), IsTree W A n T → HasMax W → SimRel V W s x → (∃ d h, simB Wf d h x = true) →
    Calls Tryz.prog 73 #[.agg #[.slice A n c, .int .i64 m], .agg #[.int .u8 s.kind, .string s.name, .int .u8 s.op, .string s.val, .bool s.fold, .int .i64 s.a, .int .i64 s.b, .bool s.of, .slice s.LA s.ln s.lc]] W (MadeB1 W (toldM T m L C R x))
section
variable {X : Type} {V : Lies X} {Wf : Nat → Bool → Bool → X → Bool} {T : List ANode} {m : Int} {L : X → Int} {C : X → List Int} {R : X → List (List Bool)} (hK : Knows V Wf T L C R) (hP : PartsT V Wf T m R) (hg : goodB T = true)
include hK hP hg
set_option maxRecDepth 100000 in
set_option maxHeartbeats 2000000 in
theorem told11_ok (k : Int) (hk : k = 11 ∨ k = 12) (A : Option Addr) (n c : Nat) (nm : ByteArray) (op : Int) (vl : ByteArray) (fo : Bool) (a b : Int) (f : Bool) (LA : Option Addr) (ln lc : Nat) (l : List X) (w : World) (h : IsTree w A n T) (hmx : HasMax w) (hrow : IsRow V w LA ln l) (hal : ∃ d h r, l.all (Wf d h r) = true) :
    Calls Tryz.prog 73 #[.agg #[.slice A n c, .int .i64 m], .agg #[.int .u8 k, .string nm, .int .u8 op, .string vl, .bool fo, .int .i64 a, .int .i64 b, .bool f, .slice LA ln lc]] w (MadeB1 w (rowOf T (anyI T C R l))) := by
  have hl := h.1
  have hn64 : n ≤ 64 := by have := ((goodB_iff T).1 hg).2.1; omega
  have hli := hide (fun (W : World) (hW : Below w.heap.size w W) => listT_ok hK hP hg A n c LA ln lc l W (h.below hW) (hmx.below hW) (hrow.below hK.stays hW) hal)
  clear h hmx hrow hal hK hP hg
  rcases hk with rfl | rfl
  · have e0 : ((w.alloc (.cells #[.slice A n c, .int .i64 m] 77)).alloc (.cells #[.int .u8 11, .string nm, .int .u8 op, .string vl, .bool fo, .int .i64 a, .int .i64 b, .bool f, .slice LA ln lc] 41)).cell? ⟨w.heap.size, 0, none⟩ = some (.slice A n c) := blk_cell (blk_alloc (blk_new _ _ _) _) 0
    have e1 : ((w.alloc (.cells #[.slice A n c, .int .i64 m] 77)).alloc (.cells #[.int .u8 11, .string nm, .int .u8 op, .string vl, .bool fo, .int .i64 a, .int .i64 b, .bool f, .slice LA ln lc] 41)).cell? ⟨w.heap.size, 1, none⟩ = some (.int .i64 m) := blk_cell (blk_alloc (blk_new _ _ _) _) 1
    have hX : ((w.alloc (.cells #[.slice A n c, .int .i64 m] 77)).alloc (.cells #[.int .u8 11, .string nm, .int .u8 op, .string vl, .bool fo, .int .i64 a, .int .i64 b, .bool f, .slice LA ln lc] 41)).heap[w.heap.size + 1]? = some (.cells #[.int .u8 11, .string nm, .int .u8 op, .string vl, .bool fo, .int .i64 a, .int .i64 b, .bool f, .slice LA ln lc] 41 (0, 0)) := blk_at _ _ _ _ (by simp)
    have hB0 := below_alloc (below_alloc (Below.refl w.heap.size w) (.cells #[.slice A n c, .int .i64 m] 77)) (.cells #[.int .u8 11, .string nm, .int .u8 op, .string vl, .bool fo, .int .i64 a, .int .i64 b, .bool f, .slice LA ln lc] 41)
    have s0 := blk_cell hX 0
    have s5 := blk_cell hX 5
    have s6 := blk_cell hX 6
    have s7 := blk_cell hX 7
    have s8 := blk_cell hX 8
    simp only [List.getElem?_toArray, List.getElem?_cons_succ, List.getElem?_cons_zero] at s0 s5 s6 s7 s8
    clear hX
    go_enter Tryz.func73, Tryz.ntmps73
    go_wp2_with fail
    (with_reducible refine (hli.out _ hB0).mono ?_)
    rintro e w1 ⟨g, rfl, hg0, hBs, hb1⟩
    have hB1 := Below.on hB0 hb1
    clear e0 e1 s0 s5 s6 s7 s8 hB0 hb1
    go_wp2
    go_ret
    exact madeB1_row hl hn64 hBs hB1 fun _ _ => rfl
  · have e0 : ((w.alloc (.cells #[.slice A n c, .int .i64 m] 77)).alloc (.cells #[.int .u8 12, .string nm, .int .u8 op, .string vl, .bool fo, .int .i64 a, .int .i64 b, .bool f, .slice LA ln lc] 41)).cell? ⟨w.heap.size, 0, none⟩ = some (.slice A n c) := blk_cell (blk_alloc (blk_new _ _ _) _) 0
    have e1 : ((w.alloc (.cells #[.slice A n c, .int .i64 m] 77)).alloc (.cells #[.int .u8 12, .string nm, .int .u8 op, .string vl, .bool fo, .int .i64 a, .int .i64 b, .bool f, .slice LA ln lc] 41)).cell? ⟨w.heap.size, 1, none⟩ = some (.int .i64 m) := blk_cell (blk_alloc (blk_new _ _ _) _) 1
    have hX : ((w.alloc (.cells #[.slice A n c, .int .i64 m] 77)).alloc (.cells #[.int .u8 12, .string nm, .int .u8 op, .string vl, .bool fo, .int .i64 a, .int .i64 b, .bool f, .slice LA ln lc] 41)).heap[w.heap.size + 1]? = some (.cells #[.int .u8 12, .string nm, .int .u8 op, .string vl, .bool fo, .int .i64 a, .int .i64 b, .bool f, .slice LA ln lc] 41 (0, 0)) := blk_at _ _ _ _ (by simp)
    have hB0 := below_alloc (below_alloc (Below.refl w.heap.size w) (.cells #[.slice A n c, .int .i64 m] 77)) (.cells #[.int .u8 12, .string nm, .int .u8 op, .string vl, .bool fo, .int .i64 a, .int .i64 b, .bool f, .slice LA ln lc] 41)
    have s0 := blk_cell hX 0
    have s5 := blk_cell hX 5
    have s6 := blk_cell hX 6
    have s7 := blk_cell hX 7
    have s8 := blk_cell hX 8
    simp only [List.getElem?_toArray, List.getElem?_cons_succ, List.getElem?_cons_zero] at s0 s5 s6 s7 s8
    clear hX
    go_enter Tryz.func73, Tryz.ntmps73
    go_wp2_with fail
    (with_reducible refine (hli.out _ hB0).mono ?_)
    rintro e w1 ⟨g, rfl, hg0, hBs, hb1⟩
    have hB1 := Below.on hB0 hb1
    clear e0 e1 s0 s5 s6 s7 s8 hB0 hb1
    go_wp2
    go_ret
    exact madeB1_row hl hn64 hBs hB1 fun _ _ => rfl
set_option maxRecDepth 100000 in
set_option maxHeartbeats 2000000 in
theorem told13_ok (A : Option Addr) (n c : Nat) (nm : ByteArray) (op : Int) (vl : ByteArray) (fo : Bool) (a b : Int) (f : Bool) (LA : Option Addr) (ln lc : Nat) (l : List X) (w : World) (h : IsTree w A n T) (hmx : HasMax w) (hrow : IsRow V w LA ln l) (hal : ∃ d h r, l.all (Wf d h r) = true) :
    Calls Tryz.prog 73 #[.agg #[.slice A n c, .int .i64 m], .agg #[.int .u8 13, .string nm, .int .u8 op, .string vl, .bool fo, .int .i64 a, .int .i64 b, .bool f, .slice LA ln lc]] w (MadeB1 w (rowOf T fun i => !(anyI T C R l i))) := by
  have hl := h.1
  have hn64 : n ≤ 64 := by have := ((goodB_iff T).1 hg).2.1; omega
  have hli := hide (fun (W : World) (hW : Below w.heap.size w W) => listT_ok hK hP hg A n c LA ln lc l W (h.below hW) (hmx.below hW) (hrow.below hK.stays hW) hal)
  clear h hmx hrow hal hK hP hg
  generalize anyI T C R l = F at *
  have e0 : ((w.alloc (.cells #[.slice A n c, .int .i64 m] 77)).alloc (.cells #[.int .u8 13, .string nm, .int .u8 op, .string vl, .bool fo, .int .i64 a, .int .i64 b, .bool f, .slice LA ln lc] 41)).cell? ⟨w.heap.size, 0, none⟩ = some (.slice A n c) := blk_cell (blk_alloc (blk_new _ _ _) _) 0
  have e1 : ((w.alloc (.cells #[.slice A n c, .int .i64 m] 77)).alloc (.cells #[.int .u8 13, .string nm, .int .u8 op, .string vl, .bool fo, .int .i64 a, .int .i64 b, .bool f, .slice LA ln lc] 41)).cell? ⟨w.heap.size, 1, none⟩ = some (.int .i64 m) := blk_cell (blk_alloc (blk_new _ _ _) _) 1
  have hX : ((w.alloc (.cells #[.slice A n c, .int .i64 m] 77)).alloc (.cells #[.int .u8 13, .string nm, .int .u8 op, .string vl, .bool fo, .int .i64 a, .int .i64 b, .bool f, .slice LA ln lc] 41)).heap[w.heap.size + 1]? = some (.cells #[.int .u8 13, .string nm, .int .u8 op, .string vl, .bool fo, .int .i64 a, .int .i64 b, .bool f, .slice LA ln lc] 41 (0, 0)) := blk_at _ _ _ _ (by simp)
  have hB0 := below_alloc (below_alloc (Below.refl w.heap.size w) (.cells #[.slice A n c, .int .i64 m] 77)) (.cells #[.int .u8 13, .string nm, .int .u8 op, .string vl, .bool fo, .int .i64 a, .int .i64 b, .bool f, .slice LA ln lc] 41)
  have s0 := blk_cell hX 0
  have s5 := blk_cell hX 5
  have s6 := blk_cell hX 6
  have s7 := blk_cell hX 7
  have s8 := blk_cell hX 8
  simp only [List.getElem?_toArray, List.getElem?_cons_succ, List.getElem?_cons_zero] at s0 s5 s6 s7 s8
  clear hX
  go_enter Tryz.func73, Tryz.ntmps73
  go_wp2_with fail
  (with_reducible refine (hli.out _ hB0).mono ?_)
  rintro e w1 ⟨g, rfl, hg0, hBs, hb1⟩
  have hB1 := Below.on hB0 hb1
  have hgw : w.heap.size ≤ g := by simp at hg0; omega
  clear e0 e1 s0 s5 s6 s7 s8 hB0 hb1 hg0
  go_wp2
  go_loopw [35] (fun i wr => ∃ k : Nat, k ≤ n ∧ i = .int .i64 k ∧ Bs wr g n n (fun j => if j < k then !(F j) else F j) ∧ Below w.heap.size w wr) (fun i _ => n - (intOf i).toNat)
  case atStart => exact ⟨0, Nat.zero_le _, rfl, hBs.congr fun j _ => by simp, hB1⟩
  case round =>
    clear hBs hB1
    obtain ⟨q, hq, rfl, hBs, hb⟩ := hrel
    by_cases hlt : q < n
    · have c0 := hBs.cell hlt
      rw [if_neg (by omega)] at c0
      have f0 := hBs.free q
      have hlg := hBs.lt
      have hu := hide (hBs.upd (k := q) (v := !(F q)) (f' := fun j => if j < q + 1 then !(F j) else F j) (by simp) (fun j _ hj => by
        by_cases h1 : j < q
        · simp only [if_pos h1, if_pos (show j < q + 1 by omega)]
        · simp only [if_neg h1, if_neg (show ¬ j < q + 1 by omega)]))
      clear hBs
      go_wp2
      go_roundw
      case rel => exact ⟨q + 1, by omega, by go_num, hu.out, hb.setCell hgw _⟩
      case measure => simp [intOf]; omega
    · obtain rfl : n = q := by omega
      go_wp2
      go_ret
      exact madeB1_row hl hn64 hBs hb fun j hj => by simp [hj]
set_option maxRecDepth 100000 in
set_option maxHeartbeats 2000000 in
theorem told9_ok (A : Option Addr) (n c : Nat) (nm : ByteArray) (op : Int) (vl : ByteArray) (fo : Bool) (a b : Int) (f : Bool) (LA : Option Addr) (ln lc : Nat) (l : List X) (w : World) (h : IsTree w A n T) (hmx : HasMax w) (hrow : IsRow V w LA ln l) (hal : ∃ d h r, l.all (Wf d h r) = true) (hab : anbB a b = true) :
    Calls Tryz.prog 73 #[.agg #[.slice A n c, .int .i64 m], .agg #[.int .u8 9, .string nm, .int .u8 op, .string vl, .bool fo, .int .i64 a, .int .i64 b, .bool f, .slice LA ln lc]] w (MadeB1 w (rowOf T fun i => nmatF T i a b false (rowOf T fun j => anyI T C R l j || !f))) := by
  have hl := h.1
  have hn64 : n ≤ 64 := by have := ((goodB_iff T).1 hg).2.1; omega
  have hli := hide (fun (W : World) (hW : Below w.heap.size w W) => listT_ok hK hP hg A n c LA ln lc l W (h.below hW) (hmx.below hW) (hrow.below hK.stays hW) hal)
  have hnt := hide (fun (W : World) (AB : Option Addr) (B : List Bool) (hW : Below w.heap.size w W) (hI : IsBools W AB n B) => nAllO_ok A AB n c n n T B a b false W (h.below hW) hI (tolE_zero.2 ⟨hg, by omega⟩) hab)
  clear h hmx hrow hal hK hP hg hab
  generalize anyI T C R l = F at *
  have e0 : ((w.alloc (.cells #[.slice A n c, .int .i64 m] 77)).alloc (.cells #[.int .u8 9, .string nm, .int .u8 op, .string vl, .bool fo, .int .i64 a, .int .i64 b, .bool f, .slice LA ln lc] 41)).cell? ⟨w.heap.size, 0, none⟩ = some (.slice A n c) := blk_cell (blk_alloc (blk_new _ _ _) _) 0
  have e1 : ((w.alloc (.cells #[.slice A n c, .int .i64 m] 77)).alloc (.cells #[.int .u8 9, .string nm, .int .u8 op, .string vl, .bool fo, .int .i64 a, .int .i64 b, .bool f, .slice LA ln lc] 41)).cell? ⟨w.heap.size, 1, none⟩ = some (.int .i64 m) := blk_cell (blk_alloc (blk_new _ _ _) _) 1
  have hX : ((w.alloc (.cells #[.slice A n c, .int .i64 m] 77)).alloc (.cells #[.int .u8 9, .string nm, .int .u8 op, .string vl, .bool fo, .int .i64 a, .int .i64 b, .bool f, .slice LA ln lc] 41)).heap[w.heap.size + 1]? = some (.cells #[.int .u8 9, .string nm, .int .u8 op, .string vl, .bool fo, .int .i64 a, .int .i64 b, .bool f, .slice LA ln lc] 41 (0, 0)) := blk_at _ _ _ _ (by simp)
  have hB0 := below_alloc (below_alloc (Below.refl w.heap.size w) (.cells #[.slice A n c, .int .i64 m] 77)) (.cells #[.int .u8 9, .string nm, .int .u8 op, .string vl, .bool fo, .int .i64 a, .int .i64 b, .bool f, .slice LA ln lc] 41)
  have s0 := blk_cell hX 0
  have s5 := blk_cell hX 5
  have s6 := blk_cell hX 6
  have s7 := blk_cell hX 7
  have s8 := blk_cell hX 8
  simp only [List.getElem?_toArray, List.getElem?_cons_succ, List.getElem?_cons_zero] at s0 s5 s6 s7 s8
  clear hX
  go_enter Tryz.func73, Tryz.ntmps73
  go_wp2_with fail
  (with_reducible refine (hli.out _ hB0).mono ?_)
  rintro e w1 ⟨g, rfl, hg0, hBs, hb1⟩
  have hB1 := Below.on hB0 hb1
  have hgw : w.heap.size + 1 < g := by simp at hg0; omega
  have e0' := cell_later hb1 e0
  have s0' := cell_later hb1 s0
  have s5' := cell_later hb1 s5
  have s6' := cell_later hb1 s6
  have s7' := cell_later hb1 s7
  clear e0 e1 s0 s5 s6 s7 s8 hB0 hb1 hg0
  go_wp2
  go_loopw [57] (fun i wr => ∃ k : Nat, k ≤ n ∧ i = .int .i64 k ∧ Bs wr g n n (fun j => if j < k then (F j || !f) else F j) ∧ Below w.heap.size w wr ∧ wr.cell? ⟨w.heap.size, 0, none⟩ = some (.slice A n c) ∧ wr.cell? ⟨w.heap.size + 1, 0, none⟩ = some (.int .u8 9) ∧ wr.cell? ⟨w.heap.size + 1, 5, none⟩ = some (.int .i64 a) ∧ wr.cell? ⟨w.heap.size + 1, 6, none⟩ = some (.int .i64 b) ∧ wr.cell? ⟨w.heap.size + 1, 7, none⟩ = some (.bool f)) (fun i _ => n - (intOf i).toNat)
  case atStart => exact ⟨0, Nat.zero_le _, rfl, hBs.congr fun j _ => by simp, hB1, e0', s0', s5', s6', s7'⟩
  case round =>
    clear hBs hB1 e0' s0' s5' s6' s7'
    obtain ⟨q, hq, rfl, hBs, hb, e0, s0, s5, s6, s7⟩ := hrel
    have hlg := hBs.lt
    by_cases hlt : q < n
    · have c0 := hBs.cell hlt
      rw [if_neg (by omega)] at c0
      have f0 := hBs.free q
      have hu := hide (fun (v : Bool) (hv : v = (F q || !f)) => hBs.upd (k := q) (v := v) (f' := fun j => if j < q + 1 then (F j || !f) else F j) (by simp [hv]) (fun j _ hj => by
        by_cases h1 : j < q
        · simp only [if_pos h1, if_pos (show j < q + 1 by omega)]
        · simp only [if_neg h1, if_neg (show ¬ j < q + 1 by omega)]))
      have far := hide (fun (o : Nat) (u v : Value) (hc : wr.cell? ⟨w.heap.size + 1, o, none⟩ = some u) => (World.cell?_setCell_far wr ⟨g, q, none⟩ ⟨w.heap.size + 1, o, none⟩ v (by simp; omega)).trans hc)
      have far' := hide (fun (v : Value) => (World.cell?_setCell_far wr ⟨g, q, none⟩ ⟨w.heap.size, 0, none⟩ v (by simp; omega)).trans e0)
      have hS := hide (And.intro s0 (And.intro s5 (And.intro s6 s7)))
      clear hBs s0 s5 s6
      generalize F q = v at *
      cases v
      · go_wp2
        go_roundw
        case rel => exact ⟨q + 1, by omega, by go_num, hu.out _ (by simp), hb.setCell (by show w.heap.size ≤ g; omega) _, far'.out _, far.out _ _ _ hS.out.1, far.out _ _ _ hS.out.2.1, far.out _ _ _ hS.out.2.2.1, far.out _ _ _ hS.out.2.2.2⟩
        case measure => simp [intOf]; omega
      · go_wp2
        go_roundw
        case rel => exact ⟨q + 1, by omega, by go_num, hu.out _ (by simp), hb.setCell (by show w.heap.size ≤ g; omega) _, far'.out _, far.out _ _ _ hS.out.1, far.out _ _ _ hS.out.2.1, far.out _ _ _ hS.out.2.2.1, far.out _ _ _ hS.out.2.2.2⟩
        case measure => simp [intOf]; omega
    · obtain rfl : n = q := by omega
      have hI := (hBs.congr (f' := fun j => F j || !f) fun j hj => by simp [hj]).isBools (by omega)
      have hrow : rowOf T (fun j => F j || !f) = (List.range n).map fun j => F j || !f := by unfold rowOf; rw [hl]
      rw [← hrow] at hI
      have hn := hide (hnt.out wr _ _ hb hI)
      clear hI hBs hrow
      go_wp2_with fail
      (with_reducible refine hn.out.mono ?_)
      rintro e w2 ⟨A2, c2, rfl, hO, hb2⟩
      obtain ⟨A3, c3, hv3, h31, h32, hI3⟩ := hO.isBools (by simp; omega)
      injection hv3 with v1 v2 v3
      subst v1 v3
      have hI3' := hide hI3
      have hB2 := Below.on hb hb2
      clear hI3 hO hn hb2
      go_wp2
      go_ret
      exact ⟨A2, c2, by rw [rowOf_len, hl]; rfl, hI3'.out, h31, by unfold maxLen at h32; omega, hB2⟩
set_option maxRecDepth 100000 in
set_option maxHeartbeats 2000000 in
theorem told10_ok (A : Option Addr) (n c : Nat) (nm : ByteArray) (op : Int) (vl : ByteArray) (fo : Bool) (a b : Int) (f : Bool) (LA : Option Addr) (ln lc : Nat) (l : List X) (w : World) (h : IsTree w A n T) (hmx : HasMax w) (hrow : IsRow V w LA ln l) (hal : ∃ d h r, l.all (Wf d h r) = true) (hab : anbB a b = true) :
    Calls Tryz.prog 73 #[.agg #[.slice A n c, .int .i64 m], .agg #[.int .u8 10, .string nm, .int .u8 op, .string vl, .bool fo, .int .i64 a, .int .i64 b, .bool f, .slice LA ln lc]] w (MadeB1 w (rowOf T fun i => nmatF T i a b true (rowOf T fun j => anyI T C R l j || !f))) := by
  have hl := h.1
  have hn64 : n ≤ 64 := by have := ((goodB_iff T).1 hg).2.1; omega
  have hli := hide (fun (W : World) (hW : Below w.heap.size w W) => listT_ok hK hP hg A n c LA ln lc l W (h.below hW) (hmx.below hW) (hrow.below hK.stays hW) hal)
  have hnt := hide (fun (W : World) (AB : Option Addr) (B : List Bool) (hW : Below w.heap.size w W) (hI : IsBools W AB n B) => nAllO_ok A AB n c n n T B a b true W (h.below hW) hI (tolE_zero.2 ⟨hg, by omega⟩) hab)
  clear h hmx hrow hal hK hP hg hab
  generalize anyI T C R l = F at *
  have e0 : ((w.alloc (.cells #[.slice A n c, .int .i64 m] 77)).alloc (.cells #[.int .u8 10, .string nm, .int .u8 op, .string vl, .bool fo, .int .i64 a, .int .i64 b, .bool f, .slice LA ln lc] 41)).cell? ⟨w.heap.size, 0, none⟩ = some (.slice A n c) := blk_cell (blk_alloc (blk_new _ _ _) _) 0
  have e1 : ((w.alloc (.cells #[.slice A n c, .int .i64 m] 77)).alloc (.cells #[.int .u8 10, .string nm, .int .u8 op, .string vl, .bool fo, .int .i64 a, .int .i64 b, .bool f, .slice LA ln lc] 41)).cell? ⟨w.heap.size, 1, none⟩ = some (.int .i64 m) := blk_cell (blk_alloc (blk_new _ _ _) _) 1
  have hX : ((w.alloc (.cells #[.slice A n c, .int .i64 m] 77)).alloc (.cells #[.int .u8 10, .string nm, .int .u8 op, .string vl, .bool fo, .int .i64 a, .int .i64 b, .bool f, .slice LA ln lc] 41)).heap[w.heap.size + 1]? = some (.cells #[.int .u8 10, .string nm, .int .u8 op, .string vl, .bool fo, .int .i64 a, .int .i64 b, .bool f, .slice LA ln lc] 41 (0, 0)) := blk_at _ _ _ _ (by simp)
  have hB0 := below_alloc (below_alloc (Below.refl w.heap.size w) (.cells #[.slice A n c, .int .i64 m] 77)) (.cells #[.int .u8 10, .string nm, .int .u8 op, .string vl, .bool fo, .int .i64 a, .int .i64 b, .bool f, .slice LA ln lc] 41)
  have s0 := blk_cell hX 0
  have s5 := blk_cell hX 5
  have s6 := blk_cell hX 6
  have s7 := blk_cell hX 7
  have s8 := blk_cell hX 8
  simp only [List.getElem?_toArray, List.getElem?_cons_succ, List.getElem?_cons_zero] at s0 s5 s6 s7 s8
  clear hX
  go_enter Tryz.func73, Tryz.ntmps73
  go_wp2_with fail
  (with_reducible refine (hli.out _ hB0).mono ?_)
  rintro e w1 ⟨g, rfl, hg0, hBs, hb1⟩
  have hB1 := Below.on hB0 hb1
  have hgw : w.heap.size + 1 < g := by simp at hg0; omega
  have e0' := cell_later hb1 e0
  have s0' := cell_later hb1 s0
  have s5' := cell_later hb1 s5
  have s6' := cell_later hb1 s6
  have s7' := cell_later hb1 s7
  clear e0 e1 s0 s5 s6 s7 s8 hB0 hb1 hg0
  go_wp2
  go_loopw [57] (fun i wr => ∃ k : Nat, k ≤ n ∧ i = .int .i64 k ∧ Bs wr g n n (fun j => if j < k then (F j || !f) else F j) ∧ Below w.heap.size w wr ∧ wr.cell? ⟨w.heap.size, 0, none⟩ = some (.slice A n c) ∧ wr.cell? ⟨w.heap.size + 1, 0, none⟩ = some (.int .u8 10) ∧ wr.cell? ⟨w.heap.size + 1, 5, none⟩ = some (.int .i64 a) ∧ wr.cell? ⟨w.heap.size + 1, 6, none⟩ = some (.int .i64 b) ∧ wr.cell? ⟨w.heap.size + 1, 7, none⟩ = some (.bool f)) (fun i _ => n - (intOf i).toNat)
  case atStart => exact ⟨0, Nat.zero_le _, rfl, hBs.congr fun j _ => by simp, hB1, e0', s0', s5', s6', s7'⟩
  case round =>
    clear hBs hB1 e0' s0' s5' s6' s7'
    obtain ⟨q, hq, rfl, hBs, hb, e0, s0, s5, s6, s7⟩ := hrel
    have hlg := hBs.lt
    by_cases hlt : q < n
    · have c0 := hBs.cell hlt
      rw [if_neg (by omega)] at c0
      have f0 := hBs.free q
      have hu := hide (fun (v : Bool) (hv : v = (F q || !f)) => hBs.upd (k := q) (v := v) (f' := fun j => if j < q + 1 then (F j || !f) else F j) (by simp [hv]) (fun j _ hj => by
        by_cases h1 : j < q
        · simp only [if_pos h1, if_pos (show j < q + 1 by omega)]
        · simp only [if_neg h1, if_neg (show ¬ j < q + 1 by omega)]))
      have far := hide (fun (o : Nat) (u v : Value) (hc : wr.cell? ⟨w.heap.size + 1, o, none⟩ = some u) => (World.cell?_setCell_far wr ⟨g, q, none⟩ ⟨w.heap.size + 1, o, none⟩ v (by simp; omega)).trans hc)
      have far' := hide (fun (v : Value) => (World.cell?_setCell_far wr ⟨g, q, none⟩ ⟨w.heap.size, 0, none⟩ v (by simp; omega)).trans e0)
      have hS := hide (And.intro s0 (And.intro s5 (And.intro s6 s7)))
      clear hBs s0 s5 s6
      generalize F q = v at *
      cases v
      · go_wp2
        go_roundw
        case rel => exact ⟨q + 1, by omega, by go_num, hu.out _ (by simp), hb.setCell (by show w.heap.size ≤ g; omega) _, far'.out _, far.out _ _ _ hS.out.1, far.out _ _ _ hS.out.2.1, far.out _ _ _ hS.out.2.2.1, far.out _ _ _ hS.out.2.2.2⟩
        case measure => simp [intOf]; omega
      · go_wp2
        go_roundw
        case rel => exact ⟨q + 1, by omega, by go_num, hu.out _ (by simp), hb.setCell (by show w.heap.size ≤ g; omega) _, far'.out _, far.out _ _ _ hS.out.1, far.out _ _ _ hS.out.2.1, far.out _ _ _ hS.out.2.2.1, far.out _ _ _ hS.out.2.2.2⟩
        case measure => simp [intOf]; omega
    · obtain rfl : n = q := by omega
      have hI := (hBs.congr (f' := fun j => F j || !f) fun j hj => by simp [hj]).isBools (by omega)
      have hrow : rowOf T (fun j => F j || !f) = (List.range n).map fun j => F j || !f := by unfold rowOf; rw [hl]
      rw [← hrow] at hI
      have hn := hide (hnt.out wr _ _ hb hI)
      clear hI hBs hrow
      go_wp2_with fail
      (with_reducible refine hn.out.mono ?_)
      rintro e w2 ⟨A2, c2, rfl, hO, hb2⟩
      obtain ⟨A3, c3, hv3, h31, h32, hI3⟩ := hO.isBools (by simp; omega)
      injection hv3 with v1 v2 v3
      subst v1 v3
      have hI3' := hide hI3
      have hB2 := Below.on hb hb2
      clear hI3 hO hn hb2
      go_wp2
      go_ret
      exact ⟨A2, c2, by rw [rowOf_len, hl]; rfl, hI3'.out, h31, by unfold maxLen at h32; omega, hB2⟩
end
end Go.Proofs.YtljloicgjgbplaaGreat
