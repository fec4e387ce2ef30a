/- From readings to words on memory: lists of truth values, progressions, bounds of numbers. No condition. -/
import Derived.Test.YtaliekkdamghbaaOpen
namespace Go.Proofs.Ytaliekkdamghbaa
open Go.ChangeShapes Go.WideShapes Go.ChangeAt Go.RowKit Go.Deep

theorem wf_bounds {a : Int} (h : (Lit.int .i64 a).wf = true) : -9223372036854775808 ≤ a ∧ a ≤ 9223372036854775807 := by
  unfold Lit.wf at h
  simp only [Bool.and_eq_true, decide_eq_true_eq] at h
  exact h

section
variable {H : Type} {enc : TypeId × Value → H} {w : World} {base : Nat} {spare : Nat → Bool} {held : Bool}
theorem bool_cells : Try.prog.cellsOf 4 = 1 := by kernel_rfl
theorem bools_open {fuel : Nat} {v : Value} {x : DataW H × List MemPlace} (h : DataW.trod enc Try.prog w base spare held fuel 31 [v] = some x) :
    ∃ (A : Option Addr) (len cap : Nat) (xs : List Bool), v = .slice A len cap ∧ len ≤ cap ∧ cap ≤ maxLen ∧ IsBools w A len xs := by
  obtain ⟨A, len, cap, hv, hl, hm, hi⟩ := cells_open Try.underlying31 bool_cells h
  have hc : ∀ i, i < len → ∃ z : Bool, ∃ a : Addr, A = some a ∧ w.cell? (a.add i) = some (.bool z) := fun i hil => by
    obtain ⟨a, m, u, y, ha, hcell, htr⟩ := hi i hil
    obtain ⟨z, hz, _⟩ := DataW.trod_bool Try.underlying4 htr
    simp at hz
    exact ⟨z, a, ha, by rw [hcell, hz]⟩
  obtain ⟨f, hf⟩ := choose_lt hc
  refine ⟨A, len, cap, (List.range len).map f, hv, hl, hm, by simp, by unfold maxLen at hm; omega, fun h0 => ?_⟩
  obtain ⟨a0, ha0, hc0⟩ := hf 0 h0
  obtain ⟨b, off, hae, hb⟩ := add_zero' rfl hc0
  have hA : A = some ⟨b, off, none⟩ := by rw [ha0, hae]
  refine ⟨b, off, hA, hb, fun j hj => ?_⟩
  obtain ⟨a, ha, hcj⟩ := hf j hj
  rw [add_at hA ha hcj]
  simp [bx, hj]
set_option maxRecDepth 100000 in
/-- A parameter that is a list of truth values. -/
theorem bools_param {r : Reach} {b0 : Nat} {v : Value} {d : DataW H} {p : List MemPlace} (hv : Value.okWide Try.prog w r b0 31 v) (h : DataW.Trod enc Try.prog w base spare held 31 v d p) :
    ∃ (A : Option Addr) (len cap : Nat) (xs : List Bool), v = .slice A len cap ∧ IsBools w A len xs := by
  obtain ⟨A, len, cap, rfl⟩ := okWide_slice Try.underlying31 hv
  obtain ⟨fuel, hf⟩ := h
  obtain ⟨A', len', cap', xs, e, _, _, hx⟩ := bools_open (v := .slice A len cap) hf
  exact ⟨A', len', cap', xs, e, hx⟩
end
end Go.Proofs.Ytaliekkdamghbaa
