/- Walks: the chapter's tree, with too many elements. No condition. -/
import Derived.Test.YtfidpmjjddkffaaSpc
namespace Go.Proofs.Ytfidpmjjddkffaa
open Go.RowKit

/-- How long the list in a box is. -/
def boxLen (w : World) (b : Nat) : Nat := match w.cell? ⟨b, 0, none⟩ with | some (.slice _ n _) => n | _ => 0
theorem boxLen_at {w : World} {b : Nat} {A : Option Addr} {n c : Nat} (h : w.cell? ⟨b, 0, none⟩ = some (.slice A n c)) : boxLen w b = n := by unfold boxLen; rw [h]
def pN : ANode := ⟨bs [112], [], -1, []⟩
/-- The chapter's tree with so many more elements. -/
def exP (k : Nat) : List ANode := exT ++ List.replicate (k - 5) pN
theorem exP_len {k : Nat} (h : 5 ≤ k) : (exP k).length = k := by simp [exP, exT]; omega
theorem exP_succ {k : Nat} (h : 5 ≤ k) : exP (k + 1) = exP k ++ [pN] := by
  unfold exP
  rw [show k + 1 - 5 = (k - 5) + 1 by omega, List.replicate_succ', List.append_assoc]
theorem nd_exP_at {k : Nat} (h : 5 ≤ k) : nd (exP (k + 1)) k = pN := by
  rw [exP_succ h]; have := nd_app_at (exP k) pN; rw [exP_len h] at this; exact this

set_option maxRecDepth 100000 in
set_option maxHeartbeats 2000000 in
theorem spoilt17 (w : World) : Calls Try.prog 27 #[.int .i64 17] w (MadeSp w 65 (exP 65)) := by
  obtain ⟨ix, hIx, hzx0, hzx1, hzx2⟩ := info_parts info_node
  go_enter Try.func27, Try.ntmps27
  go_wp2_with fail
  refine (example_own _).mono ?_
  rintro e w1 ⟨g, rfl, hbg, hgl, hO1, hb1⟩
  have hB2 := below_alloc (Below.on (below_alloc (Below.refl w.heap.size w) (.cells #[.slice none 0 0] 24)) hb1) (.cells #[.slice (some ⟨g, 0, none⟩) 5 5] 24)
  have k1 := (hb1.block w.heap.size (by simp)).trans (blk_new w #[.slice none 0 0] 24)
  have k2 := blk_alloc k1 (.cells #[.slice (some ⟨g, 0, none⟩) 5 5] 24)
  have hw1 : w.heap.size < w1.heap.size := blk_lt k1
  have hbg' : w.heap.size + 1 ≤ g := by simpa using hbg
  have hO2 : OwnTree (w1.alloc (.cells #[.slice (some ⟨g, 0, none⟩) 5 5] 24)) (w.heap.size + 1) (.slice (some ⟨g, 0, none⟩) 5 5) 5 exT := by
    have := hO1.below (below_alloc (Below.refl _ _) (.cells #[.slice (some ⟨g, 0, none⟩) 5 5] 24))
    simpa using this
  have n1 : ¬ g = w1.heap.size := by omega
  have n2 : ¬ w1.heap.size = g := by omega
  have n3 : ¬ g = w.heap.size := by omega
  have n4 : ¬ w.heap.size = g := by omega
  have n5 : ¬ w.heap.size = w1.heap.size := by omega
  have n6 : ¬ w1.heap.size = w.heap.size := by omega
  have p1 := bx_cell k1
  have p2 : w1.frozen? ⟨w.heap.size, 0, none⟩ = false := blk_frozen k1 0
  have hB1 := Below.on (below_alloc (Below.refl w.heap.size w) (.cells #[.slice none 0 0] 24)) hb1
  have hO1' : Hid (OwnTree w1 (w.heap.size + 1) (.slice (some ⟨g, 0, none⟩) 5 5) 5 exT) := by
    have := hO1
    show OwnTree _ _ _ _ _
    simpa using this
  have hO2' := hide hO2
  have kb : w.heap.size + 1 ≤ (w.alloc (.cells #[.slice none 0 0] 24)).heap.size := by simp
  clear hbg hb1 k1 hO1 hO2
  go_wp2_with fail
  go_loopw [] (fun wr => ∃ (k : Nat) (A : Option Addr) (c : Nat), 5 ≤ k ∧ k ≤ 65 ∧ Below w.heap.size w wr ∧ wr.heap[w1.heap.size]? = some (.cells #[.slice A k c] 24 (0, 0)) ∧ wr.heap[w.heap.size]? = some (.cells #[.slice none 0 0] 24 (0, 0)) ∧ OwnTree wr (w.heap.size + 1) (.slice A k c) k (exP k)) (fun wr => 65 - boxLen wr w1.heap.size)
  case atStart => exact ⟨5, _, _, by omega, by omega, hB2, blk_new _ _ _, k2, hO2'.out⟩
  case round =>
    obtain ⟨k, A, c, hk5, hk, hb, hx1, hx2, hO⟩ := hrel
    have hxb := bx_cell hx1
    have hxf : wr.frozen? ⟨w1.heap.size, 0, none⟩ = false := blk_frozen hx1 0
    have hyb := bx_cell hx2
    have hyf : wr.frozen? ⟨w.heap.size, 0, none⟩ = false := blk_frozen hx2 0
    clear hO1' hO2' hB2 k2 p1 p2
    by_cases hlt : k < 65
    · have h5b : w.heap.size + 1 ≤ wr.heap.size := blk_lt hx2
      have hw : Below wr.heap.size wr (wr.alloc (.cells #[.string (bs [112]), .slice none 0 0, .int .i64 (-1), .slice none 0 0] 53)) := below_alloc (Below.refl _ _) _
      obtain ⟨aA, cA, aC, cC, hrow, hra, hrk, hr4, hr5⟩ := id hO
      have hrow2 := own_below hrow hw
      have hO' := hide hO
      have hrow' := hide hrow
      clear hra hrk hr4 hr5 hO hrow
      go_wp2_with (at_builtin; refine wpList_append_own _ rfl _ _ 22 rfl _ 53 ix _ 4 72 Try.underlying22 hIx hzx0 hzx1 hzx2 rfl (by decide) _ _ _ rfl hrow2 ⟨wr.heap.size, 0, none⟩ 1 1 [.string (bs [112]), .slice none 0 0, .int .i64 (-1), .slice none 0 0] rfl rfl ?e1 ?e2 ?e3 ?e4 ?e5 ?_)
      case e1 =>
        intro j u hj
        have hj4 : j < 4 := by
          rcases Nat.lt_or_ge j 4 with h | h
          · exact h
          · rw [List.getElem?_eq_none (by simpa using h)] at hj; cases hj
        rw [show (⟨wr.heap.size, 0, none⟩ : Addr).add j = ⟨wr.heap.size, j, none⟩ by unfold Addr.add; split <;> simp_all]
        rw [blk_cell (blk_at _ _ _ _ (by simp)) j, ← hj]
        obtain rfl | rfl | rfl | rfl : j = 0 ∨ j = 1 ∨ j = 2 ∨ j = 3 := by omega
        all_goals rfl
      case e2 => intro u hu; simp at hu; rcases hu with rfl | rfl | rfl | rfl <;> rfl
      case e3 => unfold maxLen; omega
      case e4 => omega
      case e5 => simp; omega
      intro v6 w6 hown6 hgr6 _
      obtain ⟨A6, c6, rfl⟩ := own_slice hown6
      have hT6 := hide (OwnTree.push (T' := exP (k + 1)) (A1 := none) (A3 := none) (c1 := 0) (c3 := 0) hO'.out (by omega) hw (fun j hj => by rw [exP_succ hk5]; exact (nd_app_lt (by rw [exP_len hk5]; omega)).symm)
        (by rw [nd_exP_at hk5]; exact World.ownsRow_nil _ _ _ _)
        (by rw [kids, nd_exP_at hk5]; exact World.ownsRow_nil _ _ _ _)
        (fun xs hx => by rw [kids, par, nd_exP_at hk5, own_unique hx hrow'.out]; exact hown6) hgr6)
      have hne6 : (Value.slice A k c).ownBlock ≠ some w1.heap.size := fun e => by
        obtain ⟨g', cap', cs', hv, _, _, _, hg'⟩ := own_block hrow'.out (by omega)
        rw [hv] at e
        have e2 : g' = w1.heap.size := by injection e
        subst e2
        rw [hx1] at hg'; injection hg' with hg'; injection hg' with _ e4; exact absurd e4 (by decide)
      have hx6 := blk_grown hrow2 hgr6 (by omega) (blk_alloc hx2 _)
      have ho6 : w6.heap[w1.heap.size]? = some (.cells #[.slice A k c] 24 (0, 0)) := by
        rw [hgr6.block w1.heap.size (by have := blk_lt hx1; simp; omega) (fun e => hne6 e.symm)]
        exact blk_alloc hx1 _
      have hb6 : Below w.heap.size w w6 := (hb.trans (hw.mono (by have := hb.size; omega))).grown hgr6 (by have := hb.size; simp; omega) (fun q hq => by have := (hrow2.lt q hq).1; omega)
      have p1 := bx_cell ho6
      have p2 : w6.frozen? ⟨w1.heap.size, 0, none⟩ = false := blk_frozen ho6 0
      have p3 := bx_cell hx6
      have p4 : w6.frozen? ⟨w.heap.size, 0, none⟩ = false := blk_frozen hx6 0
      have hz := hide (hT6.out.set_typed (i := 0) ho6 (.slice A6 (k + 1) c6))
      have hx7 := blk_set ho6 0 (.slice A6 (k + 1) c6)
      have hx8 := blk_far hx6 (p := ⟨w1.heap.size, 0, none⟩) (fun e => n5 e) (.slice A6 (k + 1) c6)
      have hx7' := hide hx7
      have hx8' := hide hx8
      have e0 := boxLen_at hxb
      clear hx7 hx8 hT6 hown6 hgr6 hrow2 hx1 hx2 hxb hxf hyb hyf hO' hrow' hw hx6
      go_wp2
      go_roundw
      case rel => exact ⟨k + 1, A6, c6, by omega, by omega, hb6.setCell (by show w.heap.size ≤ w1.heap.size; omega) _, hx7'.out, hx8'.out, hz.out⟩
      case measure =>
        have e1 := boxLen_at (bx_cell hx7'.out)
        rw [e1, e0]
        omega
    · obtain rfl : 65 = k := by omega
      go_wp2
      refine bodyPost_ret (v := .agg #[.slice A 65 c]) (by simp only [results, Try.results27]; go_simp) rfl ⟨_, _, rfl, ?_, ?_⟩
      · exact hO.set (by simp) _
      · exact hb.setCell (by simp) _
instance (T : List ANode) : Decidable (Fits T) := by unfold Fits; infer_instance
/-- A tree that comes back and is not valid. -/
def MadeBad (w : World) (e : Ending) (w' : World) : Prop :=
  ∃ (A : Option Addr) (n c : Nat) (T : List ANode), e = .returned (.agg #[.slice A n c]) ∧ IsTree w' A n T ∧ n ≤ 70 ∧ Fits T ∧ goodB T = false ∧ Below w.heap.size w w'
theorem MadeSp.bad {w : World} {n : Nat} {T : List ANode} (hl : T.length = n) (hn : n ≤ 70) (hf : decide (Fits T) = true) (hg : goodB T = false) {e : Ending} {w' : World} (h : MadeSp w n T e w') : MadeBad w e w' := by
  obtain ⟨A, c, rfl, hO, hb⟩ := h
  have hf' := of_decide_eq_true hf
  obtain ⟨A', c', hv, _, _, hT⟩ := isTree_of_own hO hl (by omega) hf'
  injection hv with e1 _ _
  subst e1
  exact ⟨A, n, c, T, rfl, hT, hn, hf', hg, hb⟩
end Go.Proofs.Ytfidpmjjddkffaa
