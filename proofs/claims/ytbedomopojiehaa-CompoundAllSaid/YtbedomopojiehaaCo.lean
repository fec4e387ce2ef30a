/- From readings to words on memory: lists of bytes, lists of lists of truth values. No condition. -/
import Derived.Test.YtbedomopojiehaaOpenb
import Derived.Test.YtbedomopojiehaaCw
namespace Go.Proofs.Ytbedomopojiehaa
open Go.ChangeShapes Go.WideShapes Go.ChangeAt Go.RowKit Go.Deep

theorem wf_u8 {a : Int} (h : (Lit.int .u8 a).wf = true) : 0 ≤ a ∧ a ≤ 255 := by
  unfold Lit.wf at h
  simp only [Bool.and_eq_true, decide_eq_true_eq] at h
  exact h
section
variable {H : Type} {enc : TypeId × Value → H} {w : World} {base : Nat} {spare : Nat → Bool} {held : Bool}
theorem u8_cells : Try.prog.cellsOf 5 = 1 := by kernel_rfl
theorem bb_cells : Try.prog.cellsOf 47 = 1 := by kernel_rfl
theorem u8s_open {fuel : Nat} {v : Value} {x : DataW H × List MemPlace} (h : DataW.trod enc Try.prog w base spare held fuel 94 [v] = some x) :
    ∃ (A : Option Addr) (len cap : Nat) (xs : List Int), v = .slice A len cap ∧ len ≤ cap ∧ cap ≤ maxLen ∧ IsU8 w A len xs := by
  obtain ⟨A, len, cap, hv, hl, hm, hi⟩ := cells_open Try.underlying94 u8_cells h
  have hc : ∀ i, i < len → ∃ z : Int, (0 ≤ z ∧ z ≤ 255) ∧ ∃ a : Addr, A = some a ∧ w.cell? (a.add i) = some (.int .u8 z) := fun i hil => by
    obtain ⟨a, m, u, y, ha, hcell, htr⟩ := hi i hil
    obtain ⟨z, hz, _, hw⟩ := DataW.trod_int Try.underlying5 htr
    simp at hz
    exact ⟨z, wf_u8 hw, a, ha, by rw [hcell, hz]⟩
  obtain ⟨f, hf⟩ := choose_lt hc
  refine ⟨A, len, cap, (List.range len).map f, hv, hl, hm, by simp, by unfold maxLen at hm; omega, fun x hx => ?_, fun h0 => ?_⟩
  · obtain ⟨i, hi', rfl⟩ := List.mem_map.1 hx
    exact (hf i (List.mem_range.1 hi')).1
  · obtain ⟨_, a0, ha0, hc0⟩ := hf 0 h0
    obtain ⟨b, off, hae, hb⟩ := add_zero' rfl hc0
    have hA : A = some ⟨b, off, none⟩ := by rw [ha0, hae]
    refine ⟨b, off, hA, hb, fun j hj => ?_⟩
    obtain ⟨_, a, ha, hcj⟩ := hf j hj
    rw [add_at hA ha hcj]
    simp [ix, hj]
theorem bbs_open {fuel : Nat} {v : Value} {x : DataW H × List MemPlace} (h : DataW.trod enc Try.prog w base spare held fuel 74 [v] = some x) :
    ∃ (A : Option Addr) (len cap : Nat) (xs : List (List Bool)), v = .slice A len cap ∧ len ≤ cap ∧ cap ≤ maxLen ∧ IsBB w A len xs := by
  obtain ⟨A, len, cap, hv, hl, hm, hi⟩ := cells_open Try.underlying74 bb_cells h
  have hc : ∀ i, i < len → ∃ z : (Option Addr × Nat) × List Bool, (IsBools w z.1.1 z.2.length z.2 ∧ z.2.length ≤ z.1.2 ∧ z.1.2 ≤ maxLen) ∧ ∃ a : Addr, A = some a ∧ w.cell? (a.add i) = some (.slice z.1.1 z.2.length z.1.2) := fun i hil => by
    obtain ⟨a, m, u, y, ha, hcell, htr⟩ := hi i hil
    obtain ⟨A1, l1, c1, xs, rfl, h1, h2, h3⟩ := bools_open htr
    obtain rfl := h3.1
    exact ⟨((A1, c1), xs), ⟨h3, h1, h2⟩, a, ha, hcell⟩
  obtain ⟨f, hf⟩ := choose_lt hc
  have hrow : ∀ j, j < len → rowB ((List.range len).map fun i => (f i).2) j = (f j).2 := fun j hj => by simp [rowB, hj]
  refine ⟨A, len, cap, (List.range len).map fun i => (f i).2, hv, hl, hm, by simp, by unfold maxLen at hm; omega, fun h0 => ?_⟩
  obtain ⟨_, a0, ha0, hc0⟩ := hf 0 h0
  obtain ⟨b, off, hae, hb⟩ := add_zero' rfl hc0
  have hA : A = some ⟨b, off, none⟩ := by rw [ha0, hae]
  refine ⟨b, off, fun j => (f j).1.1, fun j => (f j).1.2, hA, hb, fun j hj => ?_, fun j hj => ?_⟩
  · obtain ⟨_, a, ha, hcj⟩ := hf j hj
    rw [add_at hA ha hcj, hrow j hj]
  · obtain ⟨h1, -⟩ := hf j hj
    rw [hrow j hj]
    refine ⟨h1.1, h1.2.1, ?_⟩
    have := h1.2.2
    unfold maxLen at this
    exact this
set_option maxRecDepth 100000 in
/-- A parameter that is a list of bytes. -/
theorem u8s_param {r : Reach} {b0 : Nat} {v : Value} {d : DataW H} {p : List MemPlace} (hv : Value.okWide Try.prog w r b0 94 v) (h : DataW.Trod enc Try.prog w base spare held 94 v d p) :
    ∃ (A : Option Addr) (len cap : Nat) (xs : List Int), v = .slice A len cap ∧ IsU8 w A len xs := by
  obtain ⟨A, len, cap, rfl⟩ := okWide_slice Try.underlying94 hv
  obtain ⟨fuel, hf⟩ := h
  obtain ⟨A', len', cap', xs, e, _, _, hx⟩ := u8s_open (v := .slice A len cap) hf
  exact ⟨A', len', cap', xs, e, hx⟩
set_option maxRecDepth 100000 in
/-- A parameter that is a list of lists of truth values. -/
theorem bbs_param {r : Reach} {b0 : Nat} {v : Value} {d : DataW H} {p : List MemPlace} (hv : Value.okWide Try.prog w r b0 74 v) (h : DataW.Trod enc Try.prog w base spare held 74 v d p) :
    ∃ (A : Option Addr) (len cap : Nat) (xs : List (List Bool)), v = .slice A len cap ∧ IsBB w A len xs := by
  obtain ⟨A, len, cap, rfl⟩ := okWide_slice Try.underlying74 hv
  obtain ⟨fuel, hf⟩ := h
  obtain ⟨A', len', cap', xs, e, _, _, hx⟩ := bbs_open (v := .slice A len cap) hf
  exact ⟨A', len', cap', xs, e, hx⟩
end
end Go.Proofs.Ytbedomopojiehaa
