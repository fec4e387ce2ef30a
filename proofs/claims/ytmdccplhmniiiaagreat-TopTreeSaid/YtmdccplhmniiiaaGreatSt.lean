/- What the laws of chapter 18 share: the variable of the library holds a number in every world of a row. No condition. -/
import Derived.Test.YtmdccplhmniiiaaGreatOpen
import Derived.Test.YtmdccplhmniiiaaGreatSm
import Derived.Test.YtmdccplhmniiiaaGreatPush
import Derived.Deep.QuietTactic
import Derived.BigQuiet
import Derived.Test.YtmdccplhmniiiaaGreatWa
import Derived.Test.YtmdccplhmniiiaaGreatWg
import Derived.Test.YtmdccplhmniiiaaGreatShl
import Derived.Test.YtmdccplhmniiiaaGreatRows
import Derived.HandedShaped
import Derived.Shelf.Vars
import Derived.Test.YtmdccplhmniiiaaGreatSr
namespace Go.Proofs.YtmdccplhmniiiaaGreat
open Go.ChangeShapes Go.WideShapes Go.ChangeAt Go.RowKit Go.Deep

theorem wf_bounds {a : Int} (h : (Lit.int .i64 a).wf = true) : -9223372036854775808 ≤ a ∧ a ≤ 9223372036854775807 := by
  unfold Lit.wf at h
  simp only [Bool.and_eq_true, decide_eq_true_eq] at h
  exact h

section
variable {H : Type} {enc : TypeId × Value → H} {w : World} {base : Nat} {spare : Nat → Bool} {held : Bool}
theorem bool_cells : Tryz.prog.cellsOf 4 = 1 := by kernel_rfl
theorem bools_open {fuel : Nat} {v : Value} {x : DataW H × List MemPlace} (h : DataW.trod enc Tryz.prog w base spare held fuel 35 [v] = some x) :
    ∃ (A : Option Addr) (len cap : Nat) (xs : List Bool), v = .slice A len cap ∧ len ≤ cap ∧ cap ≤ maxLen ∧ IsBools w A len xs := by
  obtain ⟨A, len, cap, hv, hl, hm, hi⟩ := cells_open Tryz.underlying35 bool_cells h
  have hc : ∀ i, i < len → ∃ z : Bool, ∃ a : Addr, A = some a ∧ w.cell? (a.add i) = some (.bool z) := fun i hil => by
    obtain ⟨a, m, u, y, ha, hcell, htr⟩ := hi i hil
    obtain ⟨z, hz, _⟩ := DataW.trod_bool Tryz.underlying4 htr
    simp at hz
    exact ⟨z, a, ha, by rw [hcell, hz]⟩
  obtain ⟨f, hf⟩ := choose_lt hc
  refine ⟨A, len, cap, (List.range len).map f, hv, hl, hm, by simp, by unfold maxLen at hm; omega, fun h0 => ?_⟩
  obtain ⟨a0, ha0, hc0⟩ := hf 0 h0
  obtain ⟨b, off, hae, hb⟩ := add_zero' rfl hc0
  have hA : A = some ⟨b, off, none⟩ := by rw [ha0, hae]
  refine ⟨b, off, hA, hb, fun j hj => ?_⟩
  obtain ⟨a, ha, hcj⟩ := hf j hj
  rw [add_at hA ha hcj]
  simp [bx, hj]
set_option maxRecDepth 100000 in
/-- A parameter that is a list of truth values. -/
theorem bools_param {r : Reach} {b0 : Nat} {v : Value} {d : DataW H} {p : List MemPlace} (hv : Value.okWide Tryz.prog w r b0 35 v) (h : DataW.Trod enc Tryz.prog w base spare held 35 v d p) :
    ∃ (A : Option Addr) (len cap : Nat) (xs : List Bool), v = .slice A len cap ∧ IsBools w A len xs := by
  obtain ⟨A, len, cap, rfl⟩ := okWide_slice Tryz.underlying35 hv
  obtain ⟨fuel, hf⟩ := h
  obtain ⟨A', len', cap', xs, e, _, _, hx⟩ := bools_open (v := .slice A len cap) hf
  exact ⟨A', len', cap', xs, e, hx⟩
set_option maxRecDepth 100000 in
/-- A parameter that is a progression. -/
theorem anb_open {r : Reach} {b0 : Nat} {v : Value} {d : DataW H} {p : List MemPlace} (hv : Value.okWide Tryz.prog w r b0 39 v) (h : DataW.Trod enc Tryz.prog w base spare held 39 v d p) :
    ∃ a b : Int, v = .agg #[.int .i64 a, .int .i64 b] ∧ (-9223372036854775808 ≤ a ∧ a ≤ 9223372036854775807) ∧ (-9223372036854775808 ≤ b ∧ b ≤ 9223372036854775807) := by
  obtain ⟨cs, rfl, hsz⟩ := okWide_struct Tryz.underlying39 hv
  have hC : Tryz.prog.cellsOf 39 = 2 := by kernel_rfl
  obtain ⟨l⟩ := cs
  match l, hsz.trans hC with
  | [c0, c1], _ =>
    obtain ⟨fuel, hf⟩ := h
    obtain ⟨xs, n, _, hx, _, hlen, hg⟩ := DataW.trod_struct Tryz.underlying39 hf
    have h0 := hg 0 _ rfl
    have h1 := hg 1 _ rfl
    have hk : Tryz.prog.cellsOf 2 = 1 := by kernel_rfl
    rw [show xs[0]? = some (xs[0]'(by rw [hlen]; decide)) from List.getElem?_eq_getElem _] at h0
    rw [show xs[1]? = some (xs[1]'(by rw [hlen]; decide)) from List.getElem?_eq_getElem _] at h1
    have h0' : DataW.trod enc Tryz.prog w base spare held n 2 [c0] = some (xs[0]'(by rw [hlen]; decide)) := by
      have e : ((Value.agg #[c0, c1]).cells.toList.drop 0).take (Tryz.prog.cellsOf 2) = [c0] := by rw [hk]; rfl
      rw [← e]; exact h0
    have h1' : DataW.trod enc Tryz.prog w base spare held n 2 [c1] = some (xs[1]'(by rw [hlen]; decide)) := by
      have e : ((Value.agg #[c0, c1]).cells.toList.drop 1).take (Tryz.prog.cellsOf 2) = [c1] := by rw [hk]; rfl
      rw [← e]; exact h1
    obtain ⟨a, ha, _, wa⟩ := DataW.trod_int Tryz.underlying2 h0'
    obtain ⟨b, hb, _, wb⟩ := DataW.trod_int Tryz.underlying2 h1'
    simp at ha hb
    subst ha hb
    exact ⟨a, b, rfl, wf_bounds wa, wf_bounds wb⟩
end
end Go.Proofs.YtmdccplhmniiiaaGreat
namespace Go.Proofs.YtmdccplhmniiiaaGreat
open Go.ChangeShapes Go.WideShapes Go.ChangeAt Go.RowKit Go.Deep

theorem wf_u8' {a : Int} (h : (Lit.int .u8 a).wf = true) : 0 ≤ a ∧ a ≤ 255 := by
  unfold Lit.wf at h
  simp only [Bool.and_eq_true, decide_eq_true_eq] at h
  exact h
section
variable {H : Type} {enc : TypeId × Value → H} {w : World} {base : Nat} {spare : Nat → Bool} {held : Bool}
set_option maxRecDepth 100000 in
/-- The cells of a simple selector that is read. -/
theorem sim_cells {fuel : Nat} {l : List Value} {x : DataW H × List MemPlace} (hl : l.length = 9) (h : DataW.trod enc Tryz.prog w base spare held fuel 42 l = some x) :
    ∃ (s : Sim) (n : Nat) (y : DataW H × List MemPlace), l = (simC s).toList ∧ (0 ≤ s.kind ∧ s.kind ≤ 255) ∧ (0 ≤ s.op ∧ s.op ≤ 255) ∧ s.name.size ≤ 9223372036854775807 ∧ s.val.size ≤ 9223372036854775807 ∧ s.ln ≤ s.lc ∧ s.lc ≤ 9223372036854775807 ∧
      (-9223372036854775808 ≤ s.a ∧ s.a ≤ 9223372036854775807) ∧ (-9223372036854775808 ≤ s.b ∧ s.b ≤ 9223372036854775807) ∧
      DataW.trod enc Tryz.prog w base spare held n 40 [.slice s.LA s.ln s.lc] = some y := by
  match l, hl with
  | [c0, c1, c2, c3, c4, c5, c6, c7, c8], _ =>
    obtain ⟨xs, n, _, hx, _, hlen, hg⟩ := DataW.trod_struct Tryz.underlying42 h
    have hk1 : Tryz.prog.cellsOf 5 = 1 := by kernel_rfl
    have hk2 : Tryz.prog.cellsOf 9 = 1 := by kernel_rfl
    have hk3 : Tryz.prog.cellsOf 4 = 1 := by kernel_rfl
    have hk4 : Tryz.prog.cellsOf 39 = 2 := by kernel_rfl
    have hk5 : Tryz.prog.cellsOf 40 = 1 := by kernel_rfl
    have get : ∀ (j : Nat) (f : Field) (cs : List Value), (#[_, _, _, _, _, _, _, _] : Array Field)[j]? = some f → List.take (Tryz.prog.cellsOf f.type) (List.drop f.offset [c0, c1, c2, c3, c4, c5, c6, c7, c8]) = cs → ∃ y, DataW.trod enc Tryz.prog w base spare held n f.type cs = some y := fun j f cs hj hc => by
      have := hg j f hj
      rw [hc] at this
      have hjl : j < xs.length := by rw [hlen]; exact (Array.getElem?_eq_some_iff.1 hj).1
      rw [List.getElem?_eq_getElem hjl] at this
      exact ⟨_, this⟩
    obtain ⟨y0, t0⟩ : ∃ y, DataW.trod enc Tryz.prog w base spare held n 5 [c0] = some y := get 0 _ [c0] rfl (by show List.take (Tryz.prog.cellsOf 5) _ = _; rw [hk1]; rfl)
    obtain ⟨y1, t1⟩ : ∃ y, DataW.trod enc Tryz.prog w base spare held n 9 [c1] = some y := get 1 _ [c1] rfl (by show List.take (Tryz.prog.cellsOf 9) _ = _; rw [hk2]; rfl)
    obtain ⟨y2, t2⟩ : ∃ y, DataW.trod enc Tryz.prog w base spare held n 5 [c2] = some y := get 2 _ [c2] rfl (by show List.take (Tryz.prog.cellsOf 5) _ = _; rw [hk1]; rfl)
    obtain ⟨y3, t3⟩ : ∃ y, DataW.trod enc Tryz.prog w base spare held n 9 [c3] = some y := get 3 _ [c3] rfl (by show List.take (Tryz.prog.cellsOf 9) _ = _; rw [hk2]; rfl)
    obtain ⟨y4, t4⟩ : ∃ y, DataW.trod enc Tryz.prog w base spare held n 4 [c4] = some y := get 4 _ [c4] rfl (by show List.take (Tryz.prog.cellsOf 4) _ = _; rw [hk3]; rfl)
    obtain ⟨y5, t5⟩ : ∃ y, DataW.trod enc Tryz.prog w base spare held n 39 [c5, c6] = some y := get 5 _ [c5, c6] rfl (by show List.take (Tryz.prog.cellsOf 39) _ = _; rw [hk4]; rfl)
    obtain ⟨y6, t6⟩ : ∃ y, DataW.trod enc Tryz.prog w base spare held n 4 [c7] = some y := get 6 _ [c7] rfl (by show List.take (Tryz.prog.cellsOf 4) _ = _; rw [hk3]; rfl)
    obtain ⟨y7, t7⟩ : ∃ y, DataW.trod enc Tryz.prog w base spare held n 40 [c8] = some y := get 7 _ [c8] rfl (by show List.take (Tryz.prog.cellsOf 40) _ = _; rw [hk5]; rfl)
    obtain ⟨kd, e0, _, w0⟩ := DataW.trod_int Tryz.underlying5 t0
    obtain ⟨nm, e1, _, w1⟩ := DataW.trod_string Tryz.underlying9 t1
    obtain ⟨op, e2, _, w2⟩ := DataW.trod_int Tryz.underlying5 t2
    obtain ⟨vl, e3, _, w3⟩ := DataW.trod_string Tryz.underlying9 t3
    obtain ⟨fo, e4, _⟩ := DataW.trod_bool Tryz.underlying4 t4
    obtain ⟨f, e6, _⟩ := DataW.trod_bool Tryz.underlying4 t6
    obtain ⟨zs, n5, _, hx5, _, hlen5, hg5⟩ := DataW.trod_struct Tryz.underlying39 t5
    have hk6 : Tryz.prog.cellsOf 2 = 1 := by kernel_rfl
    have h0 := hg5 0 _ rfl
    have h1 := hg5 1 _ rfl
    rw [show zs[0]? = some (zs[0]'(by rw [hlen5]; decide)) from List.getElem?_eq_getElem _] at h0
    rw [show zs[1]? = some (zs[1]'(by rw [hlen5]; decide)) from List.getElem?_eq_getElem _] at h1
    have h0' : DataW.trod enc Tryz.prog w base spare held n5 2 [c5] = some (zs[0]'(by rw [hlen5]; decide)) := by
      have e : ([c5, c6].drop 0).take (Tryz.prog.cellsOf 2) = [c5] := by rw [hk6]; rfl
      rw [← e]; exact h0
    have h1' : DataW.trod enc Tryz.prog w base spare held n5 2 [c6] = some (zs[1]'(by rw [hlen5]; decide)) := by
      have e : ([c5, c6].drop 1).take (Tryz.prog.cellsOf 2) = [c6] := by rw [hk6]; rfl
      rw [← e]; exact h1
    obtain ⟨a, ea, _, wa⟩ := DataW.trod_int Tryz.underlying2 h0'
    obtain ⟨b, eb, _, wb⟩ := DataW.trod_int Tryz.underlying2 h1'
    have hs : ∃ (LA : Option Addr) (ln lc : Nat), c8 = .slice LA ln lc ∧ ln ≤ lc ∧ lc ≤ maxLen := by
      rcases open_slice Tryz.underlying40 t7 with ⟨h0, _⟩ | ⟨a, len, cap, m, n, D, Pl, hcs, hb, hl, hm, hmm, hx, hi⟩
      · simp at h0
        exact ⟨none, 0, 0, h0, Nat.le_refl _, Nat.zero_le _⟩
      · simp at hcs
        exact ⟨some a, len, cap, hcs, hl, hm⟩
    obtain ⟨LA, ln, lc, rfl, hl1, hl2⟩ := hs
    simp at e0 e1 e2 e3 e4 e6 ea eb
    subst e0 e1 e2 e3 e4 e6 ea eb
    unfold maxLen at w1 w3 hl2
    exact ⟨⟨kd, nm, op, vl, fo, a, b, f, LA, ln, lc⟩, n, y7, rfl, wf_u8' w0, wf_u8' w2, by dsimp only; omega, by dsimp only; omega, hl1, by dsimp only; omega, wf_bounds wa, wf_bounds wb, t7⟩
set_option maxRecDepth 100000 in
/-- A parameter that is a simple selector. -/
theorem sim_open {r : Reach} {b0 : Nat} {v : Value} {d : DataW H} {p : List MemPlace} (hv : Value.okWide Tryz.prog w r b0 42 v) (h : DataW.Trod enc Tryz.prog w base spare held 42 v d p) :
    ∃ s : Sim, v = .agg (simC s) ∧ (0 ≤ s.kind ∧ s.kind ≤ 255) ∧ (0 ≤ s.op ∧ s.op ≤ 255) ∧ s.name.size ≤ 9223372036854775807 ∧ s.val.size ≤ 9223372036854775807 := by
  obtain ⟨cs, rfl, hsz⟩ := okWide_struct Tryz.underlying42 hv
  have hC : Tryz.prog.cellsOf 42 = 9 := by kernel_rfl
  obtain ⟨fuel, hf⟩ := h
  obtain ⟨s, n, y, he, h1, h2, h3, h4, -⟩ := sim_cells (l := cs.toList) (by rw [Array.length_toList]; exact hsz.trans hC) hf
  exact ⟨s, by rw [show cs = simC s from Array.toList_inj.1 he], h1, h2, h3, h4⟩
end
end Go.Proofs.YtmdccplhmniiiaaGreat
namespace Go.Proofs.YtmdccplhmniiiaaGreat
open Go.RowKit

theorem bx_get {xs : List Bool} {j : Nat} (h : j < xs.length) : bx xs j = xs[j] := by
  unfold bx
  rw [List.getD_eq_getElem?_getD, List.getElem?_eq_getElem h]
  rfl

set_option maxRecDepth 100000 in
set_option maxHeartbeats 1000000 in
theorem sameBools_ok (A B : Option Addr) (n m c d : Nat) (xs ys : List Bool) (w : World) (h : IsBools w A n xs) (h' : IsBools w B m ys) :
    Calls Tryz.prog 11 #[.slice A n c, .slice B m d] w fun e w' => e = .returned (.bool (decide (xs = ys))) ∧ ∃ q, w' = w.drewN q := by
  obtain ⟨hl, hn, ho⟩ := h
  obtain ⟨hl', hn', ho'⟩ := h'
  go_enter Tryz.func11, Tryz.ntmps11
  by_cases hnm : n = m
  · subst hnm
    go_wp2
    go_loopw [5] (fun i wr => ∃ k : Nat, k ≤ n ∧ i = .int .i64 k ∧ (∃ q, wr = w.drewN q) ∧ ∀ j, j < k → bx xs j = bx ys j) (fun i _ => n - (intOf i).toNat)
    case atStart => exact ⟨0, Nat.zero_le _, rfl, ⟨0, rfl⟩, fun j hj => absurd hj (by omega)⟩
    case round =>
      obtain ⟨k, hk, rfl, ⟨q, rfl⟩, hne⟩ := hrel
      have hne' := hide hne
      clear hne
      by_cases hlt : k < n
      · obtain ⟨b, off, rfl, hbl, hc⟩ := ho (by omega)
        obtain ⟨b', off', rfl, hbl', hc'⟩ := ho' (by omega)
        have hck := hc k hlt
        have hck' := hc' k hlt
        clear hc hc'
        have hfin : Hid (bx xs k ≠ bx ys k → decide (xs = ys) = false) := by
          show _ → _
          intro he; simp; rintro rfl; exact he rfl
        clear ho ho'
        cases hx : bx xs k <;> cases hy : bx ys k
        all_goals
          rw [hx] at hck
          rw [hy] at hck'
          have hx' := hide hx
          have hy' := hide hy
          clear hx hy
        · have heq : Hid (bx xs k = bx ys k) := by show _ = _; rw [hx'.out, hy'.out]
          go_wp2
          go_quiet (fail)
          go_wp2
          go_roundw
          case rel => exact ⟨k + 1, by omega, by go_num, ⟨_, rfl⟩, fun j hj => by
            by_cases h : j = k
            · subst h; exact heq.out
            · exact hne'.out j (by omega)⟩
          case measure => simp [intOf]; omega
        · have hp := hide (hfin.out (by rw [hx'.out, hy'.out]; decide))
          go_wp2
          go_quiet (fail)
          go_wp2
          go_ret
          exact ⟨ret_bool hp.out.symm, _, World.drewN_drewN _ _ _⟩
        · have hp := hide (hfin.out (by rw [hx'.out, hy'.out]; decide))
          go_wp2
          go_quiet (fail)
          go_wp2
          go_ret
          exact ⟨ret_bool hp.out.symm, _, World.drewN_drewN _ _ _⟩
        · have heq : Hid (bx xs k = bx ys k) := by show _ = _; rw [hx'.out, hy'.out]
          go_wp2
          go_quiet (fail)
          go_wp2
          go_roundw
          case rel => exact ⟨k + 1, by omega, by go_num, ⟨_, rfl⟩, fun j hj => by
            by_cases h : j = k
            · subst h; exact heq.out
            · exact hne'.out j (by omega)⟩
          case measure => simp [intOf]; omega
      · have hp : Hid (decide (xs = ys) = true) := by
          show decide (xs = ys) = true
          simp
          refine List.ext_getElem (by omega) fun i h1 h2 => ?_
          have := hne'.out i (by omega)
          rwa [bx_get h1, bx_get h2] at this
        go_wp2
        go_ret
        exact ⟨ret_bool hp.out.symm, _, rfl⟩
  · have hp : Hid (decide (xs = ys) = false) := by
      show decide (xs = ys) = false
      simp; rintro rfl; omega
    go_wp2
    go_ret
    exact ⟨ret_bool hp.out.symm, 0, rfl⟩


theorem sameBools_yes (A B : Option Addr) (n m c d : Nat) (xs : List Bool) (w : World) (h : IsBools w A n xs) (h' : IsBools w B m xs) :
    Calls Tryz.prog 11 #[.slice A n c, .slice B m d] w fun e w' => e = .returned (.bool true) ∧ Below w.heap.size w w' := by
  refine (sameBools_ok A B n m c d xs xs w h h').mono ?_
  rintro e w' ⟨rfl, q, rfl⟩
  exact ⟨by simp, below_drewN (Below.refl _ _) q⟩
end Go.Proofs.YtmdccplhmniiiaaGreat
namespace Go.Proofs.YtmdccplhmniiiaaGreat
open Go.RowKit

theorem attr_neq (a b : ByteArray) (W : World) : (binOp .neq 72 (.agg #[.string a, .string b]) (.agg #[.string a, .string b])).run Tryz.prog W = .ok (.bool false) W := by
  go_simp

set_option maxRecDepth 100000 in
set_option maxHeartbeats 4000000 in
theorem same_ok (A B : Option Addr) (n c d : Nat) (T : List ANode) (w : World) (h : IsTree w A n T) (h' : IsTree w B n T) :
    Calls Tryz.prog 9 #[.agg #[.slice A n c], .agg #[.slice B n d]] w fun e w' => e = .returned (.bool true) ∧ Below w.heap.size w w' := by
  obtain ⟨hl, hn, hs, ho⟩ := h
  obtain ⟨-, -, -, ho'⟩ := h'
  have hs' := hide hs
  have ho1 := hide ho
  have ho2 := hide ho'
  clear ho ho' hs
  go_enter Tryz.func9, Tryz.ntmps9
  go_wp2
  go_loopw [5] (fun s wr => ∃ (k : Nat), k ≤ n ∧ s = .int .i64 k ∧ Below w.heap.size w wr ∧ wr.cell? ⟨w.heap.size, 0, none⟩ = some (.slice A n c) ∧ wr.cell? ⟨w.heap.size + 1, 0, none⟩ = some (.slice B n d)) (fun s _ => n - (intOf s).toNat)
  case atStart => exact ⟨0, Nat.zero_le _, rfl, below_alloc (below_alloc (Below.refl _ _) _) _, by go_simp, by go_simp⟩
  case round =>
    obtain ⟨k, hk, rfl, hb, hbox, hbox2⟩ := hrel
    have lb : w.heap.size + 1 < wr.heap.size := cell_in hbox2
    have lb0 : w.heap.size < wr.heap.size := by omega
    by_cases hlt : k < n
    · obtain ⟨b, off, aA, cA, aC, cC, rfl, hbl, c0, c1, c2, c3, hA, hC⟩ := ho1.out (by omega)
      obtain ⟨b', off', aA', cA', aC', cC', rfl, hbl', c0', c1', c2', c3', hA', hC'⟩ := ho2.out (by omega)
      have g0 := (old hb _ _ hbl).trans (c0 k hlt)
      have g1 := (old hb _ _ hbl).trans (c1 k hlt)
      have g2 := (old hb _ _ hbl).trans (c2 k hlt)
      have g3 := (old hb _ _ hbl).trans (c3 k hlt)
      have k0 := (old hb _ _ hbl').trans (c0' k hlt)
      have k1 := (old hb _ _ hbl').trans (c1' k hlt)
      have k2 := (old hb _ _ hbl').trans (c2' k hlt)
      have k3 := (old hb _ _ hbl').trans (c3' k hlt)
      have hbr : b < wr.heap.size := Nat.lt_of_lt_of_le hbl hb.size
      have hbr' : b' < wr.heap.size := Nat.lt_of_lt_of_le hbl' hb.size
      have hgA := hide ((hA k hlt).1.below hb)
      have hgC := hide ((hC k hlt).1.below hb)
      have hgA' := hide ((hA' k hlt).1.below hb)
      have hgC' := hide ((hC' k hlt).1.below hb)
      have han : (nd T k).attrs.length ≤ 9223372036854775807 := hgA.out.2.1
      generalize aA k = AA at g1 hgA
      generalize cA k = CA at g3 hgC
      generalize aC k = ac at g1
      generalize cC k = cc at g3
      generalize aA' k = AA' at k1 hgA'
      generalize cA' k = CA' at k3 hgC'
      generalize aC' k = ac' at k1
      generalize cC' k = cc' at k3
      clear c0 c1 c2 c3 hA hC c0' c1' c2' c3' hA' hC'
      have e1 : ((nd T k).tag == (nd T k).tag) = true := by rw [beq_toListBytes]; simp
      have e2 : (par T k != par T k) = false := by simp
      have e3 : ((((nd T k).attrs.length : Nat) : Int) != (((nd T k).attrs.length : Nat) : Int)) = false := by simp
      have e4 : decide (kids T k = kids T k) = true := decide_eq_true rfl
      go_wp2
      go_region
      · go_wp2_with (go_at_call 18; refine (sameInts_ok _ _ _ _ _ _ (kids T k) (kids T k) _ (hgC.out.below (below_alloc (below_alloc (Below.refl _ _) _) _).drew) (hgC'.out.below (below_alloc (below_alloc (Below.refl _ _) _) _).drew)).mono ?_; rintro e w1 ⟨rfl, q, rfl⟩)
        go_loopw [8] (fun s wr2 => ∃ j : Nat, j ≤ (nd T k).attrs.length ∧ s = .int .i64 j ∧ Below wr.heap.size wr wr2 ∧ wr2.cell? ⟨wr.heap.size, 1, none⟩ = some (.slice AA (nd T k).attrs.length ac) ∧ wr2.cell? ⟨wr.heap.size + 1, 1, none⟩ = some (.slice AA' (nd T k).attrs.length ac')) (fun s _ => (nd T k).attrs.length - (intOf s).toNat)
        case atStart => exact ⟨0, Nat.zero_le _, rfl, below_drewN (below_alloc (below_alloc (Below.refl _ _) _) _) _, by go_simp, by go_simp⟩
        case round =>
          obtain ⟨j, hj, rfl, hb2, fx, fy⟩ := hrel
          by_cases hltj : j < (nd T k).attrs.length
          · obtain ⟨p, po, rfl, hpl, hpn, hpv⟩ := hgA.out.2.2.2 (by omega)
            obtain ⟨p', po', rfl, hpl', hpn', hpv'⟩ := hgA'.out.2.2.2 (by omega)
            have m0 := (old hb2 _ _ hpl).trans (hpn j hltj)
            have m1 := (old hb2 _ _ hpl).trans (hpv j hltj)
            have m2 := (old hb2 _ _ hpl').trans (hpn' j hltj)
            have m3 := (old hb2 _ _ hpl').trans (hpv' j hltj)
            have hq := attr_neq (nm (nd T k).attrs j) (vl (nd T k).attrs j)
            clear hpn hpv hpn' hpv' e1 e2 e3 e4
            go_wp2
            go_quiet (fail)
            go_wp2
            go_roundw
            case rel => exact ⟨j + 1, by omega, by go_num, below_drewN hb2 _, fx, fy⟩
            case measure => simp [intOf]; omega
          · have hb3 := hb.trans (hb2.mono hb.size)
            have hx1 := (old hb2 _ _ lb0).trans hbox
            have hx2 := (old hb2 _ _ lb).trans hbox2
            go_wp2
            go_roundw
            case rel => exact ⟨k + 1, by omega, by go_num, hb3, hx1, hx2⟩
            case measure => simp [intOf]; omega
      · go_wp2_with (go_at_call 18; refine (sameInts_ok _ _ _ _ _ _ (kids T k) (kids T k) _ (hgC.out.below (below_alloc (below_alloc (Below.refl _ _) _) _).drew) (hgC'.out.below (below_alloc (below_alloc (Below.refl _ _) _) _).drew)).mono ?_; rintro e w1 ⟨rfl, q, rfl⟩)
        go_loopw [8] (fun s wr2 => ∃ j : Nat, j ≤ (nd T k).attrs.length ∧ s = .int .i64 j ∧ Below wr.heap.size wr wr2 ∧ wr2.cell? ⟨wr.heap.size + 1, 1, none⟩ = some (.slice AA (nd T k).attrs.length ac) ∧ wr2.cell? ⟨wr.heap.size, 1, none⟩ = some (.slice AA' (nd T k).attrs.length ac')) (fun s _ => (nd T k).attrs.length - (intOf s).toNat)
        case atStart => exact ⟨0, Nat.zero_le _, rfl, below_drewN (below_alloc (below_alloc (Below.refl _ _) _) _) _, by go_simp, by go_simp⟩
        case round =>
          obtain ⟨j, hj, rfl, hb2, fx, fy⟩ := hrel
          by_cases hltj : j < (nd T k).attrs.length
          · obtain ⟨p, po, rfl, hpl, hpn, hpv⟩ := hgA.out.2.2.2 (by omega)
            obtain ⟨p', po', rfl, hpl', hpn', hpv'⟩ := hgA'.out.2.2.2 (by omega)
            have m0 := (old hb2 _ _ hpl).trans (hpn j hltj)
            have m1 := (old hb2 _ _ hpl).trans (hpv j hltj)
            have m2 := (old hb2 _ _ hpl').trans (hpn' j hltj)
            have m3 := (old hb2 _ _ hpl').trans (hpv' j hltj)
            have hq := attr_neq (nm (nd T k).attrs j) (vl (nd T k).attrs j)
            clear hpn hpv hpn' hpv' e1 e2 e3 e4
            go_wp2
            go_quiet (fail)
            go_wp2
            go_roundw
            case rel => exact ⟨j + 1, by omega, by go_num, below_drewN hb2 _, fx, fy⟩
            case measure => simp [intOf]; omega
          · have hb3 := hb.trans (hb2.mono hb.size)
            have hx1 := (old hb2 _ _ lb0).trans hbox
            have hx2 := (old hb2 _ _ lb).trans hbox2
            go_wp2
            go_roundw
            case rel => exact ⟨k + 1, by omega, by go_num, hb3, hx1, hx2⟩
            case measure => simp [intOf]; omega
    · go_wp2
      go_ret
      exact ⟨rfl, hb⟩
end Go.Proofs.YtmdccplhmniiiaaGreat
namespace Go.Proofs.YtmdccplhmniiiaaGreat
open Go.RowKit

set_option maxRecDepth 100000 in
theorem hasMax_of {w : World} (h : w.ShapedOpen Tryz.prog) : HasMax w :=
  cell_of_shapedOpen_int (t := 3) (zero := #[.int .i64 0]) h (of_decide_eq_true (by kernel_rfl)) (by kernel_rfl) rfl (by kernel_rfl) (by kernel_rfl) Tryz.underlying3
end Go.Proofs.YtmdccplhmniiiaaGreat
