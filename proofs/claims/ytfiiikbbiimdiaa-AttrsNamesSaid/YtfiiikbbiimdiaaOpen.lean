/- From data that came in to the words on memory: a tree, a list of numbers, a list of truth values. No condition. -/
import Derived.Test.YtfiiikbbiimdiaaBase
import Derived.Test.YtfiiikbbiimdiaaRows
import Derived.ProofKit
import Derived.OpenShut
import Derived.Below
import Derived.Deep.Slices
import Derived.Deep.Fields
namespace Go.Proofs.Ytfiiikbbiimdiaa
open Go.ChangeShapes Go.WideShapes Go.ChangeAt Go.RowKit Go.Deep

theorem own : ownKnob Try.prog.godebug = none := by kernel_rfl
theorem laidOut : laidOutB Try.prog = true := by kernel_rfl

theorem cell_in' {w : World} {p : Addr} {v : Value} (h : w.cell? p = some v) : p.block < w.heap.size := by
  rcases Nat.lt_or_ge p.block w.heap.size with h1 | h1
  · exact h1
  · exfalso
    simp [World.cell?, Array.getElem?_eq_none h1] at h

theorem add_zero' {w : World} {a : Addr} {k : Nat} {u : Value} (hk : k = 0) (h : w.cell? (a.add k) = some u) : ∃ b off, a = ⟨b, off, none⟩ ∧ b < w.heap.size := by
  subst hk
  obtain ⟨b, off, spot⟩ := a
  have h' : w.cell? ⟨b, off, spot⟩ = some u := by simpa [Addr.add] using h
  have hs := World.cell?_spot h'
  simp only at hs
  subst hs
  exact ⟨b, off, rfl, cell_in' h'⟩
theorem add_plain (b off k : Nat) : (⟨b, off, none⟩ : Addr).add k = ⟨b, off + k, none⟩ := by
  unfold Addr.add
  split
  · rename_i h; subst h; rfl
  · rfl
theorem add_at {w : World} {A : Option Addr} {a : Addr} {b off k : Nat} {u : Value} (hA : A = some ⟨b, off, none⟩) (ha : A = some a) (h : w.cell? (a.add k) = some u) : w.cell? ⟨b, off + k, none⟩ = some u := by
  rw [hA] at ha
  injection ha with ha
  rw [← ha, add_plain] at h
  exact h

section
variable {H : Type} {enc : TypeId × Value → H} {P : Program} {w : World} {base : Nat} {spare : Nat → Bool} {held : Bool}

theorem rows_open {t e : TypeId} {fs : Array Field} {fuel : Nat} {v : Value} {x : DataW H × List MemPlace} (ht : P.underlying t = some (.slice e)) (he : P.underlying e = some (.struct fs))
    (hone : oneCellFields P fs = true) (hC : P.cellsOf e = fs.size) (h : DataW.trod enc P w base spare held fuel t [v] = some x) :
    ∃ (A : Option Addr) (len cap : Nat), v = .slice A len cap ∧ len ≤ cap ∧ cap ≤ maxLen ∧ ∀ i, i < len → ∃ (a : Addr) (m : Nat), A = some a ∧
      ∀ (j : Nat) (f : Field), fs[j]? = some f → ∃ u y, w.cell? (a.add (i * fs.size + j)) = some u ∧ DataW.trod enc P w base spare held m f.type [u] = some y := by
  rcases open_slice ht h with ⟨h0, _⟩ | ⟨a, len, cap, m, n, D, Pl, hcs, hb, hl, hm, hmm, hx, hi⟩
  · simp at h0
    exact ⟨none, 0, 0, h0, Nat.le_refl _, Nat.zero_le _, fun i hi => absurd hi (by omega)⟩
  · simp at hcs
    refine ⟨some a, len, cap, hcs, hl, hm, fun i hil => ?_⟩
    have him : i < m := by rw [hmm]; split <;> omega
    obtain ⟨cs', hc, ht'⟩ := hi i him
    rw [hC] at hc
    obtain ⟨ys, n', -, -, hlen, hyl, hf⟩ := DataW.trod_struct he ht'
    obtain ⟨_, hcl, hat⟩ := World.cells?_some hc
    refine ⟨a, n', rfl, fun j f hj => ?_⟩
    obtain ⟨ho, hk⟩ := hone_of hone j f hj
    have hjl : j < fs.size := (Array.getElem?_eq_some_iff.1 hj).1
    have h1 := hf j f hj
    rw [ho, hk] at h1
    have hv : cs'[j]? = some (cs'[j]'(by omega)) := List.getElem?_eq_getElem (by omega)
    have hone' : (cs'.drop j).take 1 = [cs'[j]'(by omega)] := by
      rw [List.drop_eq_getElem_cons (by omega)]
      rfl
    rw [hone', List.getElem?_eq_getElem (by omega)] at h1
    refine ⟨_, _, ?_, h1⟩
    rw [← Go.Deep.add_add, hat j hjl, hv]

theorem cells_open {t e : TypeId} {fuel : Nat} {v : Value} {x : DataW H × List MemPlace} (ht : P.underlying t = some (.slice e)) (hC : P.cellsOf e = 1) (h : DataW.trod enc P w base spare held fuel t [v] = some x) :
    ∃ (A : Option Addr) (len cap : Nat), v = .slice A len cap ∧ len ≤ cap ∧ cap ≤ maxLen ∧ ∀ i, i < len → ∃ (a : Addr) (m : Nat) (u : Value) (y : DataW H × List MemPlace), A = some a ∧
      w.cell? (a.add i) = some u ∧ DataW.trod enc P w base spare held m e [u] = some y := by
  rcases open_slice ht h with ⟨h0, _⟩ | ⟨a, len, cap, m, n, D, Pl, hcs, hb, hl, hm, hmm, hx, hi⟩
  · simp at h0
    exact ⟨none, 0, 0, h0, Nat.le_refl _, Nat.zero_le _, fun i hi => absurd hi (by omega)⟩
  · simp at hcs
    refine ⟨some a, len, cap, hcs, hl, hm, fun i hil => ?_⟩
    have him : i < m := by rw [hmm]; split <;> omega
    obtain ⟨cs', hc, ht'⟩ := hi i him
    rw [hC] at hc
    obtain ⟨_, hcl, hat⟩ := World.cells?_some hc
    match cs', hcl with
    | [u], _ =>
      have := hat 0 (by omega)
      rw [Go.Deep.add_add] at this
      exact ⟨a, n, u, _, rfl, by simpa [hC] using this, ht'⟩

theorem ints_open {t e : TypeId} {fuel : Nat} {v : Value} {x : DataW H × List MemPlace} (ht : P.underlying t = some (.slice e)) (he : P.underlying e = some (.int .i64)) (hC : P.cellsOf e = 1) (h : DataW.trod enc P w base spare held fuel t [v] = some x) :
    ∃ (A : Option Addr) (len cap : Nat) (xs : List Int), v = .slice A len cap ∧ len ≤ cap ∧ cap ≤ maxLen ∧ IsInts w A len xs := by
  obtain ⟨A, len, cap, hv, hl, hm, hi⟩ := cells_open ht hC h
  have hc : ∀ i, i < len → ∃ z : Int, ∃ a : Addr, A = some a ∧ w.cell? (a.add i) = some (.int .i64 z) := fun i hil => by
    obtain ⟨a, m, u, y, ha, hcell, htr⟩ := hi i hil
    obtain ⟨z, hz, _, _⟩ := DataW.trod_int he htr
    simp at hz
    exact ⟨z, a, ha, by rw [hcell, hz]⟩
  obtain ⟨f, hf⟩ := choose_lt hc
  refine ⟨A, len, cap, (List.range len).map f, hv, hl, hm, by simp, by unfold maxLen at hm; omega, fun h0 => ?_⟩
  obtain ⟨a0, ha0, hc0⟩ := hf 0 h0
  obtain ⟨b, off, hae, hb⟩ := add_zero' rfl hc0
  have hA : A = some ⟨b, off, none⟩ := by rw [ha0, hae]
  refine ⟨b, off, hA, hb, fun j hj => ?_⟩
  obtain ⟨a, ha, hcj⟩ := hf j hj
  rw [add_at hA ha hcj]
  simp [ix, hj]
end

theorem attr_cells : Try.prog.cellsOf 83 = 2 := by kernel_rfl
theorem node_cells : Try.prog.cellsOf 61 = 4 := by kernel_rfl
theorem int_cells : Try.prog.cellsOf 3 = 1 := by kernel_rfl

section
variable {H : Type} {enc : TypeId × Value → H} {w : World} {base : Nat} {spare : Nat → Bool} {held : Bool}

theorem attrs_open {fuel : Nat} {v : Value} {x : DataW H × List MemPlace} (h : DataW.trod enc Try.prog w base spare held fuel 59 [v] = some x) :
    ∃ (A : Option Addr) (len cap : Nat) (xs : List (ByteArray × ByteArray)), v = .slice A len cap ∧ len ≤ cap ∧ cap ≤ maxLen ∧ IsAttrs w A len xs := by
  obtain ⟨A, len, cap, hv, hl, hm, hi⟩ := rows_open Try.underlying59 Try.underlying83 (by kernel_rfl) attr_cells h
  have hc : ∀ i, i < len → ∃ q : ByteArray × ByteArray, q.1.size ≤ maxLen ∧ q.2.size ≤ maxLen ∧ ∃ a : Addr, A = some a ∧ w.cell? (a.add (i * 2)) = some (.string q.1) ∧ w.cell? (a.add (i * 2 + 1)) = some (.string q.2) := fun i hil => by
    obtain ⟨a, m, ha, hf⟩ := hi i hil
    obtain ⟨u0, y0, hc0, ht0⟩ := hf 0 _ rfl
    obtain ⟨u1, y1, hc1, ht1⟩ := hf 1 _ rfl
    obtain ⟨s0, hs0, _, hz0⟩ := DataW.trod_string Try.underlying9 ht0
    obtain ⟨s1, hs1, _, hz1⟩ := DataW.trod_string Try.underlying9 ht1
    simp at hs0 hs1
    subst hs0 hs1
    exact ⟨(s0, s1), hz0, hz1, a, ha, hc0, hc1⟩
  obtain ⟨f, hf⟩ := choose_lt hc
  refine ⟨A, len, cap, (List.range len).map f, hv, hl, hm, by simp, by unfold maxLen at hm; omega, fun x hx => ?_, fun h0 => ?_⟩
  · obtain ⟨i, hi', rfl⟩ := List.mem_map.1 hx
    have := hf i (List.mem_range.1 hi')
    unfold maxLen at this
    exact ⟨this.1, this.2.1⟩
  · obtain ⟨_, _, a0, ha0, hc0, _⟩ := hf 0 h0
    obtain ⟨b, off, hae, hb⟩ := add_zero' (by omega) hc0
    have hA : A = some ⟨b, off, none⟩ := by rw [ha0, hae]
    refine ⟨b, off, hA, hb, fun j hj => ?_, fun j hj => ?_⟩
    · obtain ⟨_, _, a, ha, hcj, _⟩ := hf j hj
      rw [add_at hA ha hcj]
      simp [nm, hj]
    · obtain ⟨_, _, a, ha, _, hcj⟩ := hf j hj
      rw [Nat.add_assoc, add_at hA ha hcj]
      simp [vl, hj]

instance : Inhabited Addr := ⟨⟨0, 0, none⟩⟩

theorem nodes_open {fuel : Nat} {v : Value} {x : DataW H × List MemPlace} (h : DataW.trod enc Try.prog w base spare held fuel 22 [v] = some x) :
    ∃ (A : Option Addr) (len cap : Nat) (T : List ANode), v = .slice A len cap ∧ len ≤ cap ∧ cap ≤ maxLen ∧ IsTree w A len T := by
  obtain ⟨A, len, cap, hv, hl, hm, hi⟩ := rows_open Try.underlying22 Try.underlying61 (by kernel_rfl) node_cells h
  have hc : ∀ i, i < len → ∃ q : ANode × (Option Addr × Nat) × (Option Addr × Nat), q.1.tag.size ≤ maxLen ∧ ∃ a : Addr, A = some a ∧
      w.cell? (a.add (i * 4)) = some (.string q.1.tag) ∧ w.cell? (a.add (i * 4 + 1)) = some (.slice q.2.1.1 q.1.attrs.length q.2.1.2) ∧ w.cell? (a.add (i * 4 + 2)) = some (.int .i64 q.1.parent) ∧
      w.cell? (a.add (i * 4 + 3)) = some (.slice q.2.2.1 q.1.children.length q.2.2.2) ∧ (IsAttrs w q.2.1.1 q.1.attrs.length q.1.attrs ∧ q.1.attrs.length ≤ q.2.1.2 ∧ q.2.1.2 ≤ maxLen) ∧
      (IsInts w q.2.2.1 q.1.children.length q.1.children ∧ q.1.children.length ≤ q.2.2.2 ∧ q.2.2.2 ≤ maxLen) := fun i hil => by
    obtain ⟨a, m, ha, hf⟩ := hi i hil
    obtain ⟨u0, y0, hc0, ht0⟩ := hf 0 _ rfl
    obtain ⟨u1, y1, hc1, ht1⟩ := hf 1 _ rfl
    obtain ⟨u2, y2, hc2, ht2⟩ := hf 2 _ rfl
    obtain ⟨u3, y3, hc3, ht3⟩ := hf 3 _ rfl
    obtain ⟨s0, hs0, _, hz0⟩ := DataW.trod_string Try.underlying9 ht0
    obtain ⟨A1, l1, c1, xs, rfl, hl1, hm1, hA1⟩ := attrs_open ht1
    obtain ⟨z, hz, _, _⟩ := DataW.trod_int Try.underlying3 ht2
    obtain ⟨A3, l3, c3, ys, rfl, hl3, hm3, hA3⟩ := ints_open Try.underlying51 Try.underlying3 int_cells ht3
    simp at hs0 hz
    subst hs0 hz
    obtain rfl := hA1.1
    obtain rfl := hA3.1
    exact ⟨(⟨s0, xs, z, ys⟩, (A1, c1), (A3, c3)), hz0, a, ha, hc0, hc1, hc2, hc3, ⟨hA1, hl1, hm1⟩, ⟨hA3, hl3, hm3⟩⟩
  obtain ⟨f, hf⟩ := choose_lt hc
  have hnd : ∀ j, j < len → nd ((List.range len).map fun i => (f i).1) j = (f j).1 := fun j hj => by simp [nd, hj]
  refine ⟨A, len, cap, (List.range len).map fun i => (f i).1, hv, hl, hm, by simp, by unfold maxLen at hm; omega, fun x hx => ?_, fun h0 => ?_⟩
  · obtain ⟨i, hi', rfl⟩ := List.mem_map.1 hx
    have := (hf i (List.mem_range.1 hi')).1
    unfold maxLen at this
    exact this
  · obtain ⟨_, a0, ha0, hc0, _⟩ := hf 0 h0
    obtain ⟨b, off, hae, hb⟩ := add_zero' (by omega) hc0
    have hA : A = some ⟨b, off, none⟩ := by rw [ha0, hae]
    refine ⟨b, off, fun j => (f j).2.1.1, fun j => (f j).2.2.1, fun j => (f j).2.1.2, fun j => (f j).2.2.2, hA, hb, fun j hj => ?_, fun j hj => ?_, fun j hj => ?_, fun j hj => ?_, fun j hj => ?_, fun j hj => ?_⟩
    all_goals
      obtain ⟨_, a, ha, h1, h2, h3, h4, h5, h6⟩ := hf j hj
      unfold maxLen at h5 h6
      simp only [par, kids, hnd j hj]
    · exact add_at hA ha h1
    · rw [Nat.add_assoc]; exact add_at hA ha h2
    · rw [Nat.add_assoc]; exact add_at hA ha h3
    · rw [Nat.add_assoc]; exact add_at hA ha h4
    · exact h5
    · exact h6

set_option maxRecDepth 100000 in
/-- A parameter that is a tree. -/
theorem tree_open {r : Reach} {b0 : Nat} {v : Value} {d : DataW H} {p : List MemPlace} (hv : Value.okWide Try.prog w r b0 24 v) (h : DataW.Trod enc Try.prog w base spare held 24 v d p) :
    ∃ (A : Option Addr) (len cap : Nat) (T : List ANode), v = .agg #[.slice A len cap] ∧ IsTree w A len T := by
  obtain ⟨cs, rfl, hsz⟩ := okWide_struct Try.underlying24 hv
  have hC : Try.prog.cellsOf 24 = 1 := by kernel_rfl
  obtain ⟨l⟩ := cs
  match l, hsz.trans hC with
  | [c0], _ =>
    obtain ⟨fuel, hf⟩ := h
    obtain ⟨xs, n, _, hx, _, hlen, hg⟩ := DataW.trod_struct Try.underlying24 hf
    have h0 := hg 0 _ rfl
    have hk : Try.prog.cellsOf 22 = 1 := by kernel_rfl
    have hxs : xs[0]? = some (xs[0]'(by rw [hlen]; decide)) := List.getElem?_eq_getElem _
    rw [hxs] at h0
    have h0' : DataW.trod enc Try.prog w base spare held n 22 [c0] = some (xs[0]'(by rw [hlen]; decide)) := by
      have e : ((Value.agg #[c0]).cells.toList.drop 0).take (Try.prog.cellsOf 22) = [c0] := by rw [hk]; rfl
      rw [← e]; exact h0
    obtain ⟨A, len, cap, T, rfl, _, _, hT⟩ := nodes_open h0'
    exact ⟨A, len, cap, T, rfl, hT⟩
end
end Go.Proofs.Ytfiiikbbiimdiaa
