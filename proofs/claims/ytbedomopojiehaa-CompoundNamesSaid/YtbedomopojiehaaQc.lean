/- Tables of compounds that are not right, as chapter 19's laws check them. No condition. -/
import Derived.Test.YtbedomopojiehaaVi
import Derived.Test.YtbedomopojiehaaLn
namespace Go.Proofs.Ytbedomopojiehaa
open Go.RowKit

def zS : Sim := ⟨0, .empty, 0, .empty, false, 0, 0, false, none, 0, 0⟩
def s7 : Sim := ⟨7, .empty, 0, .empty, false, 0, 0, false, none, 0, 0⟩
def kS (k : Int) : Sim := ⟨k, ⟨#[]⟩, 0, ⟨#[]⟩, false, 0, 0, false, none, 0, 0⟩
def zC : Array Value := #[.int .u8 0, .string .empty, .int .u8 0, .string .empty, .bool false, .int .i64 0, .int .i64 0, .bool false, .slice none 0 0]
def badTag (j : Nat) : ByteArray := [(⟨#[]⟩ : ByteArray), longS 65, ⟨#[]⟩, ⟨#[97]⟩, ⟨#[97]⟩, ⟨#[]⟩].getD j .empty
def badSims (j : Nat) : List Sim := [([] : List Sim), [], [zS], [kS 15], [kS 1], List.replicate 65 s7].getD j []
theorem lt6 {j : Nat} (h : j < 6) : j = 0 ∨ j = 1 ∨ j = 2 ∨ j = 3 ∨ j = 4 ∨ j = 5 := by omega
theorem bad19_ck : ∀ j : Nat, j < 6 → ckC (badTag j) (badSims j) = 12 := by
  intro j hj
  rcases lt6 hj with rfl | rfl | rfl | rfl | rfl | rfl <;> kernel_rfl
def CompTab (w : World) (A : Option Addr) : Prop := ∃ b off, A = some ⟨b, off, none⟩ ∧ b < w.heap.size ∧ ∀ j, j < 6 → ∃ (SA : Option Addr) (sn sc : Nat), w.cell? ⟨b, off + j * 2, none⟩ = some (.string (badTag j)) ∧ w.cell? ⟨b, off + j * 2 + 1, none⟩ = some (.slice SA sn sc) ∧ IsSims w SA sn (badSims j) ∧ sn ≤ sc ∧ sc ≤ 9223372036854775807
theorem CompTab.below {w w' : World} {A : Option Addr} (h : CompTab w A) (hb : Below w.heap.size w w') : CompTab w' A := by
  obtain ⟨b, off, rfl, hl, hc⟩ := h
  refine ⟨b, off, rfl, Nat.lt_of_lt_of_le hl hb.size, fun j hj => ?_⟩
  obtain ⟨SA, sn, sc, h0, h1, h2, h3, h4⟩ := hc j hj
  exact ⟨SA, sn, sc, cell_later hb h0, cell_later hb h1, h2.below hb, h3, h4⟩
theorem made_get (j r n : Nat) (hr : r < 9) (hj : j * 9 + r < n) : (madeCells zC n)[j * 9 + r]? = zC[r]? := by
  unfold madeCells
  rw [Array.getElem?_map, Array.getElem?_range, if_pos hj]
  have h9 : zC.size = 9 := rfl
  have e : (j * 9 + r) % zC.size = r := by rw [h9]; omega
  rw [Option.map_some, e, getElem!_pos zC r (by rw [h9]; omega), Array.getElem?_eq_getElem (by rw [h9]; omega)]
/-- 65 simple selectors in a block of their own, of which the first k have the kind 7. -/
def S7 (w : World) (g k : Nat) : Prop := ∃ cs : Array Value, w.heap[g]? = some (.cells cs 26 (0, 0)) ∧ cs.size = 585 ∧ ∀ j r, j < 65 → r < 9 → cs[j * 9 + r]? = if r = 0 then some (.int .u8 (if j < k then 7 else 0)) else zC[r]?
theorem S7.of {w : World} {g : Nat} (h : w.heap[g]? = some (.cells (madeCells zC 585) 26 (0, 0))) : S7 w g 0 := by
  refine ⟨_, h, size_madeCells _ _, fun j r hj hr => ?_⟩
  rw [made_get j r 585 hr (by omega)]
  by_cases h0 : r = 0
  · subst h0; rfl
  · rw [if_neg h0]
theorem S7.set {w : World} {g k : Nat} (h : S7 w g k) (hk : k < 65) : S7 (w.setCell ⟨g, k * 9, none⟩ (.int .u8 7)) g (k + 1) := by
  obtain ⟨cs, h1, h2, h3⟩ := h
  refine ⟨_, blk_set h1 (k * 9) _, by simp [h2], fun j r hj hr => ?_⟩
  by_cases h0 : j * 9 + r = k * 9
  · obtain rfl : r = 0 := by omega
    obtain rfl : j = k := by omega
    rw [Nat.add_zero, Array.getElem?_setIfInBounds_self_of_lt (by omega), if_pos rfl, if_pos (by omega)]
  · rw [Array.getElem?_setIfInBounds_ne (by omega), h3 j r hj hr]
    by_cases hr0 : r = 0
    · subst hr0
      rw [if_pos rfl, if_pos rfl]
      by_cases hjk : j < k
      · rw [if_pos hjk, if_pos (by omega)]
      · rw [if_neg hjk, if_neg (by omega)]
    · rw [if_neg hr0, if_neg hr0]
theorem S7.sims {w : World} {g : Nat} (h : S7 w g 65) : IsSims w (some ⟨g, 0, none⟩) 65 (List.replicate 65 s7) := by
  obtain ⟨cs, h1, h2, h3⟩ := h
  refine ⟨by simp, by omega, fun _ => ⟨g, 0, rfl, blk_lt h1, fun j hj => ?_⟩⟩
  have e : sm (List.replicate 65 s7) j = s7 := by unfold sm; rw [List.getD_eq_getElem?_getD, List.getElem?_replicate, if_pos hj]; rfl
  have c : ∀ r, r < 9 → w.cell? ⟨g, j * 9 + r, none⟩ = if r = 0 then some (.int .u8 7) else zC[r]? := fun r hr => by rw [blk_cell h1, h3 j r hj hr, if_pos hj]
  rw [e, Nat.zero_add]
  exact ⟨c 0 (by omega), c 1 (by omega), c 2 (by omega), c 3 (by omega), c 4 (by omega), c 5 (by omega), c 6 (by omega), c 7 (by omega), c 8 (by omega)⟩
theorem S7.blk {w : World} {g k : Nat} (h : S7 w g k) : ∃ cs, w.heap[g]? = some (.cells cs 26 (0, 0)) ∧ cs.size = 585 := by
  obtain ⟨cs, h1, h2, -⟩ := h
  exact ⟨cs, h1, h2⟩
theorem S7.below {w w' : World} {g k : Nat} (h : S7 w g k) (hb : Below w.heap.size w w') : S7 w' g k := by
  obtain ⟨cs, h1, h2, h3⟩ := h
  exact ⟨cs, (hb.block g (blk_lt h1)).trans h1, h2, h3⟩
theorem IsSims.take {w : World} {A : Option Addr} {n : Nat} {S : List Sim} (h : IsSims w A n S) (m : Nat) (hm : m ≤ n) : IsSims w A m (S.take m) := by
  obtain ⟨h1, h2, h3⟩ := h
  refine ⟨by rw [List.length_take]; omega, by omega, fun h0 => ?_⟩
  obtain ⟨b, off, ha, hbl, hc⟩ := h3 (by omega)
  refine ⟨b, off, ha, hbl, fun j hj => ?_⟩
  have e : sm (S.take m) j = sm S j := by unfold sm; rw [List.getD_eq_getElem?_getD, List.getD_eq_getElem?_getD, List.getElem?_take_of_lt hj]
  rw [e]
  exact hc j (by omega)
theorem one_sims {w : World} {g : Nat} {cs : Array Value} {s : Sim} (h : w.heap[g]? = some (.cells cs 26 (0, 0))) (hc : ∀ r, r < 9 → cs[r]? = (simC s)[r]?) : IsSims w (some ⟨g, 0, none⟩) 1 [s] := by
  refine ⟨rfl, by omega, fun _ => ⟨g, 0, rfl, blk_lt h, fun j hj => ?_⟩⟩
  obtain rfl : j = 0 := by omega
  have c : ∀ r, r < 9 → w.cell? ⟨g, 0 + 0 * 9 + r, none⟩ = (simC s)[r]? := fun r hr => by rw [Nat.zero_mul, Nat.zero_add, blk_cell h]; exact hc r hr
  exact ⟨c 0 (by omega), c 1 (by omega), c 2 (by omega), c 3 (by omega), c 4 (by omega), c 5 (by omega), c 6 (by omega), c 7 (by omega), c 8 (by omega)⟩
theorem blk_size_ne {w : World} {a b : Nat} {cs ds : Array Value} {t u : TypeId} (h : w.heap[a]? = some (.cells cs t (0, 0))) (h' : w.heap[b]? = some (.cells ds u (0, 0))) (hs : cs.size ≠ ds.size) : a ≠ b := fun e => by
  subst e
  rw [h] at h'
  injection h' with h'
  injection h' with h1
  exact hs (by rw [h1])
theorem info_sim' : (Try.prog.info? 26).map (fun i => (i.zero, i.size, i.bytes)) = some (some (.agg zC), 9, 104) := by kernel_rfl
theorem mk_sims (n : Nat) (hn : n ≤ 1000) (W : World) : (Instr.makeSlice 58 (.int .i64 n) (.int .i64 n)).run Try.prog W = .ok (.slice (some ⟨W.heap.size, 0, none⟩) n n) (W.alloc (.cells (madeCells zC (n * 9)) 26)) := by
  obtain ⟨i, hi, hz0, hz1, hz2⟩ := info_parts info_sim'
  have hr := run_make (P := Try.prog) W 58 26 i (.agg zC) Try.underlying58 hi hz0 .i64 .i64 (n : Int) (n : Int) (by omega) (by omega) (by rw [hz2]; omega) (by omega)
  rw [hz1, show (Value.agg zC).cells = zC from rfl] at hr
  simpa using hr
/-- The table, told by its blocks. -/
theorem compTab_of {w : World} {gB g3 g5 g7 g9 : Nat} (hB : w.heap[gB]? = some (.cells #[.string ⟨#[]⟩, .slice none 0 0, .string (longS 65), .slice none 0 0, .string ⟨#[]⟩, .slice (some ⟨g3, 0, none⟩) 1 1, .string ⟨#[97]⟩, .slice (some ⟨g5, 0, none⟩) 1 1, .string ⟨#[97]⟩, .slice (some ⟨g7, 0, none⟩) 1 1, .string ⟨#[]⟩, .slice (some ⟨g9, 0, none⟩) 65 65] 65 (0, 0)))
    (h3 : w.heap[g3]? = some (.cells (madeCells zC 9) 26 (0, 0))) (h5 : w.heap[g5]? = some (.cells (simC (kS 15)) 26 (0, 0))) (h7 : w.heap[g7]? = some (.cells (simC (kS 1)) 26 (0, 0))) (h9 : S7 w g9 65) : CompTab w (some ⟨gB, 0, none⟩) := by
  refine ⟨gB, 0, rfl, blk_lt hB, fun j hj => ?_⟩
  have nil : IsSims w none 0 [] := ⟨rfl, by omega, fun h => absurd h (by omega)⟩
  rcases lt6 hj with rfl | rfl | rfl | rfl | rfl | rfl
  · exact ⟨none, 0, 0, (blk_cell hB _).trans rfl, (blk_cell hB _).trans rfl, nil, by omega, by omega⟩
  · exact ⟨none, 0, 0, (blk_cell hB _).trans rfl, (blk_cell hB _).trans rfl, nil, by omega, by omega⟩
  · exact ⟨_, 1, 1, (blk_cell hB _).trans rfl, (blk_cell hB _).trans rfl, one_sims (s := zS) h3 (fun r hr => by have := made_get 0 r 9 hr (by omega); rw [Nat.zero_mul, Nat.zero_add] at this; rw [this]; rfl), by omega, by omega⟩
  · exact ⟨_, 1, 1, (blk_cell hB _).trans rfl, (blk_cell hB _).trans rfl, one_sims h5 (fun r hr => rfl), by omega, by omega⟩
  · exact ⟨_, 1, 1, (blk_cell hB _).trans rfl, (blk_cell hB _).trans rfl, one_sims h7 (fun r hr => rfl), by omega, by omega⟩
  · exact ⟨_, 65, 65, (blk_cell hB _).trans rfl, (blk_cell hB _).trans rfl, h9.sims, by omega, by omega⟩
end Go.Proofs.Ytbedomopojiehaa
