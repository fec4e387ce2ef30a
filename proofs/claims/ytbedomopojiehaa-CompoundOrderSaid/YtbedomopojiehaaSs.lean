/- From a reading to words on memory: a simple selector. No condition. -/
import Derived.Test.YtbedomopojiehaaOpenb
import Derived.Test.YtbedomopojiehaaSm
namespace Go.Proofs.Ytbedomopojiehaa
open Go.ChangeShapes Go.WideShapes Go.ChangeAt Go.RowKit Go.Deep

theorem wf_u8' {a : Int} (h : (Lit.int .u8 a).wf = true) : 0 ≤ a ∧ a ≤ 255 := by
  unfold Lit.wf at h
  simp only [Bool.and_eq_true, decide_eq_true_eq] at h
  exact h
section
variable {H : Type} {enc : TypeId × Value → H} {w : World} {base : Nat} {spare : Nat → Bool} {held : Bool}
set_option maxRecDepth 100000 in
/-- The cells of a simple selector that is read. -/
theorem sim_cells {fuel : Nat} {l : List Value} {x : DataW H × List MemPlace} (hl : l.length = 9) (h : DataW.trod enc Try.prog w base spare held fuel 26 l = some x) :
    ∃ (s : Sim) (n : Nat) (y : DataW H × List MemPlace), l = (simC s).toList ∧ (0 ≤ s.kind ∧ s.kind ≤ 255) ∧ (0 ≤ s.op ∧ s.op ≤ 255) ∧ s.name.size ≤ 9223372036854775807 ∧ s.val.size ≤ 9223372036854775807 ∧ s.ln ≤ s.lc ∧ s.lc ≤ 9223372036854775807 ∧
      (-9223372036854775808 ≤ s.a ∧ s.a ≤ 9223372036854775807) ∧ (-9223372036854775808 ≤ s.b ∧ s.b ≤ 9223372036854775807) ∧
      DataW.trod enc Try.prog w base spare held n 24 [.slice s.LA s.ln s.lc] = some y := by
  match l, hl with
  | [c0, c1, c2, c3, c4, c5, c6, c7, c8], _ =>
    obtain ⟨xs, n, _, hx, _, hlen, hg⟩ := DataW.trod_struct Try.underlying26 h
    have hk1 : Try.prog.cellsOf 5 = 1 := by kernel_rfl
    have hk2 : Try.prog.cellsOf 9 = 1 := by kernel_rfl
    have hk3 : Try.prog.cellsOf 4 = 1 := by kernel_rfl
    have hk4 : Try.prog.cellsOf 23 = 2 := by kernel_rfl
    have hk5 : Try.prog.cellsOf 24 = 1 := by kernel_rfl
    have get : ∀ (j : Nat) (f : Field) (cs : List Value), (#[_, _, _, _, _, _, _, _] : Array Field)[j]? = some f → List.take (Try.prog.cellsOf f.type) (List.drop f.offset [c0, c1, c2, c3, c4, c5, c6, c7, c8]) = cs → ∃ y, DataW.trod enc Try.prog w base spare held n f.type cs = some y := fun j f cs hj hc => by
      have := hg j f hj
      rw [hc] at this
      have hjl : j < xs.length := by rw [hlen]; exact (Array.getElem?_eq_some_iff.1 hj).1
      rw [List.getElem?_eq_getElem hjl] at this
      exact ⟨_, this⟩
    obtain ⟨y0, t0⟩ : ∃ y, DataW.trod enc Try.prog w base spare held n 5 [c0] = some y := get 0 _ [c0] rfl (by show List.take (Try.prog.cellsOf 5) _ = _; rw [hk1]; rfl)
    obtain ⟨y1, t1⟩ : ∃ y, DataW.trod enc Try.prog w base spare held n 9 [c1] = some y := get 1 _ [c1] rfl (by show List.take (Try.prog.cellsOf 9) _ = _; rw [hk2]; rfl)
    obtain ⟨y2, t2⟩ : ∃ y, DataW.trod enc Try.prog w base spare held n 5 [c2] = some y := get 2 _ [c2] rfl (by show List.take (Try.prog.cellsOf 5) _ = _; rw [hk1]; rfl)
    obtain ⟨y3, t3⟩ : ∃ y, DataW.trod enc Try.prog w base spare held n 9 [c3] = some y := get 3 _ [c3] rfl (by show List.take (Try.prog.cellsOf 9) _ = _; rw [hk2]; rfl)
    obtain ⟨y4, t4⟩ : ∃ y, DataW.trod enc Try.prog w base spare held n 4 [c4] = some y := get 4 _ [c4] rfl (by show List.take (Try.prog.cellsOf 4) _ = _; rw [hk3]; rfl)
    obtain ⟨y5, t5⟩ : ∃ y, DataW.trod enc Try.prog w base spare held n 23 [c5, c6] = some y := get 5 _ [c5, c6] rfl (by show List.take (Try.prog.cellsOf 23) _ = _; rw [hk4]; rfl)
    obtain ⟨y6, t6⟩ : ∃ y, DataW.trod enc Try.prog w base spare held n 4 [c7] = some y := get 6 _ [c7] rfl (by show List.take (Try.prog.cellsOf 4) _ = _; rw [hk3]; rfl)
    obtain ⟨y7, t7⟩ : ∃ y, DataW.trod enc Try.prog w base spare held n 24 [c8] = some y := get 7 _ [c8] rfl (by show List.take (Try.prog.cellsOf 24) _ = _; rw [hk5]; rfl)
    obtain ⟨kd, e0, _, w0⟩ := DataW.trod_int Try.underlying5 t0
    obtain ⟨nm, e1, _, w1⟩ := DataW.trod_string Try.underlying9 t1
    obtain ⟨op, e2, _, w2⟩ := DataW.trod_int Try.underlying5 t2
    obtain ⟨vl, e3, _, w3⟩ := DataW.trod_string Try.underlying9 t3
    obtain ⟨fo, e4, _⟩ := DataW.trod_bool Try.underlying4 t4
    obtain ⟨f, e6, _⟩ := DataW.trod_bool Try.underlying4 t6
    obtain ⟨zs, n5, _, hx5, _, hlen5, hg5⟩ := DataW.trod_struct Try.underlying23 t5
    have hk6 : Try.prog.cellsOf 2 = 1 := by kernel_rfl
    have h0 := hg5 0 _ rfl
    have h1 := hg5 1 _ rfl
    rw [show zs[0]? = some (zs[0]'(by rw [hlen5]; decide)) from List.getElem?_eq_getElem _] at h0
    rw [show zs[1]? = some (zs[1]'(by rw [hlen5]; decide)) from List.getElem?_eq_getElem _] at h1
    have h0' : DataW.trod enc Try.prog w base spare held n5 2 [c5] = some (zs[0]'(by rw [hlen5]; decide)) := by
      have e : ([c5, c6].drop 0).take (Try.prog.cellsOf 2) = [c5] := by rw [hk6]; rfl
      rw [← e]; exact h0
    have h1' : DataW.trod enc Try.prog w base spare held n5 2 [c6] = some (zs[1]'(by rw [hlen5]; decide)) := by
      have e : ([c5, c6].drop 1).take (Try.prog.cellsOf 2) = [c6] := by rw [hk6]; rfl
      rw [← e]; exact h1
    obtain ⟨a, ea, _, wa⟩ := DataW.trod_int Try.underlying2 h0'
    obtain ⟨b, eb, _, wb⟩ := DataW.trod_int Try.underlying2 h1'
    have hs : ∃ (LA : Option Addr) (ln lc : Nat), c8 = .slice LA ln lc ∧ ln ≤ lc ∧ lc ≤ maxLen := by
      rcases open_slice Try.underlying24 t7 with ⟨h0, _⟩ | ⟨a, len, cap, m, n, D, Pl, hcs, hb, hl, hm, hmm, hx, hi⟩
      · simp at h0
        exact ⟨none, 0, 0, h0, Nat.le_refl _, Nat.zero_le _⟩
      · simp at hcs
        exact ⟨some a, len, cap, hcs, hl, hm⟩
    obtain ⟨LA, ln, lc, rfl, hl1, hl2⟩ := hs
    simp at e0 e1 e2 e3 e4 e6 ea eb
    subst e0 e1 e2 e3 e4 e6 ea eb
    unfold maxLen at w1 w3 hl2
    exact ⟨⟨kd, nm, op, vl, fo, a, b, f, LA, ln, lc⟩, n, y7, rfl, wf_u8' w0, wf_u8' w2, by dsimp only; omega, by dsimp only; omega, hl1, by dsimp only; omega, wf_bounds wa, wf_bounds wb, t7⟩
set_option maxRecDepth 100000 in
/-- A parameter that is a simple selector. -/
theorem sim_open {r : Reach} {b0 : Nat} {v : Value} {d : DataW H} {p : List MemPlace} (hv : Value.okWide Try.prog w r b0 26 v) (h : DataW.Trod enc Try.prog w base spare held 26 v d p) :
    ∃ s : Sim, v = .agg (simC s) ∧ (0 ≤ s.kind ∧ s.kind ≤ 255) ∧ (0 ≤ s.op ∧ s.op ≤ 255) ∧ s.name.size ≤ 9223372036854775807 ∧ s.val.size ≤ 9223372036854775807 := by
  obtain ⟨cs, rfl, hsz⟩ := okWide_struct Try.underlying26 hv
  have hC : Try.prog.cellsOf 26 = 9 := by kernel_rfl
  obtain ⟨fuel, hf⟩ := h
  obtain ⟨s, n, y, he, h1, h2, h3, h4, -⟩ := sim_cells (l := cs.toList) (by rw [Array.length_toList]; exact hsz.trans hC) hf
  exact ⟨s, by rw [show cs = simC s from Array.toList_inj.1 he], h1, h2, h3, h4⟩
end
end Go.Proofs.Ytbedomopojiehaa
