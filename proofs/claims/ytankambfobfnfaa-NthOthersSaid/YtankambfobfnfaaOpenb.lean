/- From readings to words on memory: lists of truth values, progressions, bounds of numbers. No condition. -/
import Derived.Test.YtankambfobfnfaaOpen
namespace Go.Proofs.Ytankambfobfnfaa
open Go.ChangeShapes Go.WideShapes Go.ChangeAt Go.RowKit Go.Deep

theorem wf_bounds {a : Int} (h : (Lit.int .i64 a).wf = true) : -9223372036854775808 ≤ a ∧ a ≤ 9223372036854775807 := by
  unfold Lit.wf at h
  simp only [Bool.and_eq_true, decide_eq_true_eq] at h
  exact h

section
variable {H : Type} {enc : TypeId × Value → H} {w : World} {base : Nat} {spare : Nat → Bool} {held : Bool}
theorem bool_cells : Try.prog.cellsOf 4 = 1 := by kernel_rfl
theorem bools_open {fuel : Nat} {v : Value} {x : DataW H × List MemPlace} (h : DataW.trod enc Try.prog w base spare held fuel 52 [v] = some x) :
    ∃ (A : Option Addr) (len cap : Nat) (xs : List Bool), v = .slice A len cap ∧ len ≤ cap ∧ cap ≤ maxLen ∧ IsBools w A len xs := by
  obtain ⟨A, len, cap, hv, hl, hm, hi⟩ := cells_open Try.underlying52 bool_cells h
  have hc : ∀ i, i < len → ∃ z : Bool, ∃ a : Addr, A = some a ∧ w.cell? (a.add i) = some (.bool z) := fun i hil => by
    obtain ⟨a, m, u, y, ha, hcell, htr⟩ := hi i hil
    obtain ⟨z, hz, _⟩ := DataW.trod_bool Try.underlying4 htr
    simp at hz
    exact ⟨z, a, ha, by rw [hcell, hz]⟩
  obtain ⟨f, hf⟩ := choose_lt hc
  refine ⟨A, len, cap, (List.range len).map f, hv, hl, hm, by simp, by unfold maxLen at hm; omega, fun h0 => ?_⟩
  obtain ⟨a0, ha0, hc0⟩ := hf 0 h0
  obtain ⟨b, off, hae, hb⟩ := add_zero' rfl hc0
  have hA : A = some ⟨b, off, none⟩ := by rw [ha0, hae]
  refine ⟨b, off, hA, hb, fun j hj => ?_⟩
  obtain ⟨a, ha, hcj⟩ := hf j hj
  rw [add_at hA ha hcj]
  simp [bx, hj]
set_option maxRecDepth 100000 in
/-- A parameter that is a list of truth values. -/
theorem bools_param {r : Reach} {b0 : Nat} {v : Value} {d : DataW H} {p : List MemPlace} (hv : Value.okWide Try.prog w r b0 52 v) (h : DataW.Trod enc Try.prog w base spare held 52 v d p) :
    ∃ (A : Option Addr) (len cap : Nat) (xs : List Bool), v = .slice A len cap ∧ IsBools w A len xs := by
  obtain ⟨A, len, cap, rfl⟩ := okWide_slice Try.underlying52 hv
  obtain ⟨fuel, hf⟩ := h
  obtain ⟨A', len', cap', xs, e, _, _, hx⟩ := bools_open (v := .slice A len cap) hf
  exact ⟨A', len', cap', xs, e, hx⟩
set_option maxRecDepth 100000 in
/-- A parameter that is a progression. -/
theorem anb_open {r : Reach} {b0 : Nat} {v : Value} {d : DataW H} {p : List MemPlace} (hv : Value.okWide Try.prog w r b0 57 v) (h : DataW.Trod enc Try.prog w base spare held 57 v d p) :
    ∃ a b : Int, v = .agg #[.int .i64 a, .int .i64 b] ∧ (-9223372036854775808 ≤ a ∧ a ≤ 9223372036854775807) ∧ (-9223372036854775808 ≤ b ∧ b ≤ 9223372036854775807) := by
  obtain ⟨cs, rfl, hsz⟩ := okWide_struct Try.underlying57 hv
  have hC : Try.prog.cellsOf 57 = 2 := by kernel_rfl
  obtain ⟨l⟩ := cs
  match l, hsz.trans hC with
  | [c0, c1], _ =>
    obtain ⟨fuel, hf⟩ := h
    obtain ⟨xs, n, _, hx, _, hlen, hg⟩ := DataW.trod_struct Try.underlying57 hf
    have h0 := hg 0 _ rfl
    have h1 := hg 1 _ rfl
    have hk : Try.prog.cellsOf 2 = 1 := by kernel_rfl
    rw [show xs[0]? = some (xs[0]'(by rw [hlen]; decide)) from List.getElem?_eq_getElem _] at h0
    rw [show xs[1]? = some (xs[1]'(by rw [hlen]; decide)) from List.getElem?_eq_getElem _] at h1
    have h0' : DataW.trod enc Try.prog w base spare held n 2 [c0] = some (xs[0]'(by rw [hlen]; decide)) := by
      have e : ((Value.agg #[c0, c1]).cells.toList.drop 0).take (Try.prog.cellsOf 2) = [c0] := by rw [hk]; rfl
      rw [← e]; exact h0
    have h1' : DataW.trod enc Try.prog w base spare held n 2 [c1] = some (xs[1]'(by rw [hlen]; decide)) := by
      have e : ((Value.agg #[c0, c1]).cells.toList.drop 1).take (Try.prog.cellsOf 2) = [c1] := by rw [hk]; rfl
      rw [← e]; exact h1
    obtain ⟨a, ha, _, wa⟩ := DataW.trod_int Try.underlying2 h0'
    obtain ⟨b, hb, _, wb⟩ := DataW.trod_int Try.underlying2 h1'
    simp at ha hb
    subst ha hb
    exact ⟨a, b, rfl, wf_bounds wa, wf_bounds wb⟩
end
end Go.Proofs.Ytankambfobfnfaa
