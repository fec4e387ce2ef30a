/- The limits, spaces and errors of attributes and words. No condition. -/
import Derived.Test.YtfiiikbbiimdiaaOpen
import Derived.Test.YtfiiikbbiimdiaaFj
import Derived.Deep.CutRange
import Derived.Deep.RegionHeld3
namespace Go.Proofs.Ytfiiikbbiimdiaa.attrsNames
open Go.ChangeShapes Go.WideShapes Go.ChangeAt Go.RowKit

theorem isTree_nil (w : World) : IsTree w none 0 [] := ⟨rfl, by omega, fun x hx => by simp at hx, fun h => absurd h (by omega)⟩
theorem get_at (T : List ANode) (i : Int) (s v : ByteArray) (c0 : Int) (h0 : getE T i s = c0) (hl : getV T i s = v) (A : Option Addr) (n c : Nat) (w : World) (h : IsTree w A n T) :
    Calls Try.prog 40 #[.agg #[.slice A n c], .int .i64 i, .string s] w fun e w' => e = .returned (.tuple #[.string v, .int .i64 c0]) ∧ Below w.heap.size w w' := by
  rw [← h0, ← hl]; exact get_ok A n c T i s w h
def MadeT (w : World) (T : List ANode) (n : Nat) (c0 : Int) (e : Ending) (w' : World) : Prop :=
  ∃ A' c', e = .returned (.tuple #[.agg #[.slice A' n c'], .int .i64 c0]) ∧ IsTree w' A' n T ∧ Below w.heap.size w w'
theorem set_at (T X : List ANode) (m : Nat) (i : Int) (s v : ByteArray) (c0 : Int) (h0 : setE T i s v = c0) (hX : setT T i s v = X) (hl : X.length = m) (hs : s.size ≤ 1000) (hv : v.size ≤ 1000) (A : Option Addr) (n c : Nat) (w : World) (h : IsTree w A n T) :
    Calls Try.prog 42 #[.agg #[.slice A n c], .int .i64 i, .string s, .string v] w (MadeT w X m c0) := by
  refine (aset_ok A n c T i s v w h (by omega) (by omega)).mono ?_
  subst hX h0 hl
  rintro e w' ⟨A', c', rfl, -, hT, hb⟩
  exact ⟨A', c', rfl, hT, hb⟩
theorem uns_at (T X : List ANode) (m : Nat) (i : Int) (s : ByteArray) (c0 : Int) (h0 : getE T i s = c0) (hX : unsT T i s = X) (hl : X.length = m) (A : Option Addr) (n c : Nat) (w : World) (h : IsTree w A n T) :
    Calls Try.prog 44 #[.agg #[.slice A n c], .int .i64 i, .string s] w (MadeT w X m c0) := by
  refine (auns_ok A n c T i s w h).mono ?_
  subst hX h0 hl
  rintro e w' ⟨A', c', rfl, -, hT, hb⟩
  exact ⟨A', c', rfl, hT, hb⟩
theorem far_alloc {w : World} {a : Addr} {u : Value} (h : w.cell? a = some u) (v : Value) : (w.alloc (.cells #[v] 24)).cell? a = some u := cell_later (below_alloc (Below.refl _ _) _) h
theorem far_store {w : World} {g : Nat} {u : Value} (h : w.cell? ⟨g, 0, none⟩ = some u) (v x : Value) : ((w.alloc (.cells #[v] 24)).setCell ⟨w.heap.size, 0, none⟩ x).cell? ⟨g, 0, none⟩ = some u := by
  have hl : g < w.heap.size := cell_in' h
  have h2 := far_alloc h v
  go_simp
theorem far_set {w : World} {g q : Nat} {u x : Value} (h : w.cell? ⟨g, 0, none⟩ = some u) (hne : q ≠ g) : (w.setCell ⟨q, 0, none⟩ x).cell? ⟨g, 0, none⟩ = some u := (World.cell?_setCell_far _ _ _ _ hne).trans h
theorem long_size (n : Nat) : (longS n).size = n := by simp [longS, ByteArray.size]
theorem isTree_drew {w : World} {A : Option Addr} {n : Nat} {T : List ANode} (h : IsTree w A n T) : IsTree w.drew A n T := h

def xT14 : List ANode := [⟨bs [104, 116, 109, 108], [(⟨#[97]⟩, longS 400), (clsN, bs [98, 32, 97, 32, 32, 98, 32, 99])], -1, []⟩]
def fullL (q : Nat) : List (ByteArray × ByteArray) := cl14 ++ (List.range q).map fun j => (⟨#[100, UInt8.ofNat (97 + j)]⟩, ByteArray.empty)
def fT14 : List ANode := [⟨htmlN, fullL 15, -1, []⟩]
def yT14 : List ANode := [⟨htmlN, (clsN, ⟨#[122]⟩) :: (List.range 15).map (fun j => (⟨#[100, UInt8.ofNat (97 + j)]⟩, ByteArray.empty)), -1, []⟩]
theorem fullL_len (q : Nat) : (fullL q).length = q + 1 := by unfold fullL; rw [List.length_append, List.length_map, List.length_range]; show 1 + q = _; omega
theorem fullL_succ (q : Nat) : fullL (q + 1) = fullL q ++ [(⟨#[100, UInt8.ofNat (97 + q)]⟩, ByteArray.empty)] := by unfold fullL; rw [List.range_succ, List.map_append, List.append_assoc]; rfl
theorem cell_one {w : World} {g o : Nat} {x v : Value} {t : TypeId} {fr : Nat × Nat} (hg : w.heap[g]? = some (.cells #[x] t fr)) (hc : w.cell? ⟨g, o, none⟩ = some v) : v = x := by
  unfold World.cell? at hc
  rw [hg] at hc
  match o, hc with
  | 0, hc => simpa using hc.symm
  | o + 1, hc => simp at hc
/-- A one-cell box may be written without touching a tree. -/
theorem isTree_box {w : World} {A : Option Addr} {n : Nat} {T : List ANode} (h : IsTree w A n T) {g : Nat} {B : Option Addr} {m d : Nat} {t : TypeId} {fr : Nat × Nat} (hg : w.heap[g]? = some (.cells #[.slice B m d] t fr)) (u : Value) : IsTree (w.setCell ⟨g, 0, none⟩ u) A n T := by
  have hne : ∀ {b o : Nat} {v : Value}, w.cell? ⟨b, o, none⟩ = some v → (∀ A m d, v ≠ .slice A m d) → g ≠ b := by
    rintro b o v hc hv rfl
    exact hv _ _ _ (cell_one hg hc)
  have hs : (w.setCell ⟨g, 0, none⟩ u).heap.size = w.heap.size := by simp [World.setCell]
  obtain ⟨h1, h2, h3, h4⟩ := h
  refine ⟨h1, h2, h3, fun hn => ?_⟩
  obtain ⟨b, off, aA, cA, aC, cC, ha, hbl, c0, c1, c2, c3, hA, hC⟩ := h4 hn
  have hgb := hne (c0 0 hn) (by intro _ _ _ h; cases h)
  have far : ∀ {o : Nat} {v : Value}, w.cell? ⟨b, o, none⟩ = some v → (w.setCell ⟨g, 0, none⟩ u).cell? ⟨b, o, none⟩ = some v := fun hc => (World.cell?_setCell_far w ⟨g, 0, none⟩ ⟨b, _, none⟩ u hgb).trans hc
  refine ⟨b, off, aA, cA, aC, cC, ha, by rw [hs]; exact hbl, fun j hj => far (c0 j hj), fun j hj => far (c1 j hj), fun j hj => far (c2 j hj), fun j hj => far (c3 j hj), fun j hj => ⟨?_, (hA j hj).2⟩, fun j hj => ⟨?_, (hC j hj).2⟩⟩
  · obtain ⟨a1, a2, a3, a4⟩ := (hA j hj).1
    refine ⟨a1, a2, a3, fun h0 => ?_⟩
    obtain ⟨b', o', e, hl, d0, d1⟩ := a4 h0
    have hgb' := hne (d0 0 h0) (by intro _ _ _ h; cases h)
    exact ⟨b', o', e, by rw [hs]; exact hl, fun q hq => (World.cell?_setCell_far w ⟨g, 0, none⟩ ⟨b', _, none⟩ u hgb').trans (d0 q hq), fun q hq => (World.cell?_setCell_far w ⟨g, 0, none⟩ ⟨b', _, none⟩ u hgb').trans (d1 q hq)⟩
  · obtain ⟨a1, a2, a4⟩ := (hC j hj).1
    refine ⟨a1, a2, fun h0 => ?_⟩
    obtain ⟨b', o', e, hl, d0⟩ := a4 h0
    have hgb' := hne (d0 0 h0) (by intro _ _ _ h; cases h)
    exact ⟨b', o', e, by rw [hs]; exact hl, fun q hq => (World.cell?_setCell_far w ⟨g, 0, none⟩ ⟨b', _, none⟩ u hgb').trans (d0 q hq)⟩
theorem runA (W : World) (ty : TypeId) {base n : Nat} {A : Option Addr} {c : Nat} {l : List (ByteArray × ByteArray)} (hl : l.length = n) (hown : OwnA W base (.slice A n c) l) (G : Nat) (y z : ByteArray) (hG : W.heap[G]? = some (.cells #[.string y, .string z] 83 (0, 0))) (hn : n ≤ 1000) (hbase : base ≤ W.heap.size) :
    ∃ v' w', (Builtin.append_ #[59, 59] ty #[.slice A n c, .slice (some ⟨G, 0, none⟩) 1 1]).run Try.prog W = .ok v' w' ∧ ∃ A' c', v' = .slice A' (n + 1) c' ∧ OwnA w' base (.slice A' (n + 1) c') (l ++ [(y, z)]) ∧ Below base W w' ∧ ∀ g, g < W.heap.size → (Value.slice A n c).ownBlock ≠ some g → w'.heap[g]? = W.heap[g]? := by
  subst hl
  obtain ⟨i0, hI, hz0, hz1, hz2⟩ := info_parts info_attr
  have hlt := fun k hk => (World.ownsRow.lt hown k hk).1
  obtain ⟨v', w', hr, h2, h3, -⟩ := run_append_own (P := Try.prog) W base 59 ty 83 i0 _ 2 32 Try.underlying59 hI hz0 hz1 hz2 rfl (by decide) _ _ _ hown ⟨G, 0, none⟩ 1 1 (atts [(y, z)]) rfl (fun j u hj => by
    have e : (⟨G, 0, none⟩ : Addr).add j = ⟨G, j, none⟩ := by unfold Addr.add; split <;> simp_all
    rw [e, blk_cell hG]
    match j, hj with
    | 0, hj => exact hj
    | 1, hj => exact hj
    | j + 2, hj => exact absurd hj (by simp [atts])) (atts_one _) (by unfold maxLen; omega) (by omega) hbase
  obtain ⟨A', c', rfl, _, _⟩ := sl_of_own h2
  refine ⟨_, w', hr, A', c', rfl, by unfold OwnA; rw [List.length_append, ← atts_app]; exact h2, (Below.refl base W).grown h3 hbase hlt, fun g hg hne => h3.block g hg (fun e => hne e.symm)⟩
theorem mgTake {P : Program} {ops : Array Oper} {Q : Exit → Act → World → Prop} {md : Region.Mode} {S : World → Prop} (i d : Nat) (v : Value) {fuel : Nat} {listed : Array Bool} {a : Act} {w : World} (hd : (ops[i]?).map (·.dst) = some (some d))
    (hs : Region.noSelect ops = true) (hf : Region.free md ops listed i = true) (hr : (Region.ready md ops listed).contains i = true)
    (hQ : ∀ c a w, Q (.panic c) (a.put (some d) v) w → Q (.panic c) a w) (hw : (ops[i]?).map (fun o => Region.wanted o (yielded ops a.tmps)) = some true)
    (hy : ∀ w, S w → (ops[i]?).map (fun o => (execOp a.eval o).run P w) = some (.ok (.value v) w)) (hS : S w)
    (h : wpAnyH P md ops Q S fuel (listed.setIfInBounds i true) (a.put (some d) v) w) : wpAnyH P md ops Q S (fuel + 1) listed a w := by
  cases ho : ops[i]? with
  | none => rw [ho] at hd; cases hd
  | some o =>
    rw [ho] at hd hw hy
    simp only [Option.map_some, Option.some.injEq] at hd hw hy
    exact wpAnyH_take ho hs hf hr (by rw [hd]; exact hQ) (Or.inl ⟨hw, hy⟩) hS (by rw [hd]; exact h)
theorem fullL_sz : ∀ x ∈ fullL 15, x.1.size ≤ 9223372036854775807 ∧ x.2.size ≤ 9223372036854775807 := by decide +kernel
/-- The first attribute of a tree of one node, on memory. -/
theorem first_attr {w : World} {A : Option Addr} {T : List ANode} {x : ByteArray × ByteArray} {l : List (ByteArray × ByteArray)} (h : IsTree w A 1 T) (hT : (nd T 0).attrs = x :: l) :
    ∃ b off b' o' c', A = some ⟨b, off, none⟩ ∧ b < w.heap.size ∧ b' < w.heap.size ∧ w.cell? ⟨b, off + 1, none⟩ = some (.slice (some ⟨b', o', none⟩) (l.length + 1) c') ∧ w.cell? ⟨b', o', none⟩ = some (.string x.1) ∧ w.cell? ⟨b', o' + 1, none⟩ = some (.string x.2) := by
  obtain ⟨b, off, aA, cA, aC, cC, rfl, hbl, c0, c1, c2, c3, hA, hC⟩ := h.2.2.2 (by decide)
  have e1 := c1 0 (by decide)
  obtain ⟨a1, a2, a3, a4⟩ := (hA 0 (by decide)).1
  have hl : (nd T 0).attrs.length = l.length + 1 := by rw [hT]; rfl
  obtain ⟨b', o', e, hl', d0, d1⟩ := a4 (by omega)
  have e2 := d0 0 (by omega)
  have e3 := d1 0 (by omega)
  rw [hl, e] at e1
  rw [hT] at e2 e3
  refine ⟨b, off, b', o', aC 0, rfl, hbl, hl', by simpa using e1, by simpa [nm] using e2, by simpa [vl] using e3⟩
theorem str_d (c8 : UInt8) : (({ data := #[100] } : ByteArray) ++ { data := #[c8] }) = { data := #[100, c8] } := by
  apply Go.WideShapes.bytes_inj
  simp
theorem own_apart {w : World} {base size n g : Nat} {e t : TypeId} {v : Value} {xs : List Value} {cs : Array Value} {fr : Nat × Nat} (h : w.ownsRow base e size v n xs) (hb : w.heap[g]? = some (.cells cs t fr)) (hne : e ≠ t) : v.ownBlock ≠ some g := by
  rcases h.2 with ⟨rfl, -⟩ | ⟨g', cap, cur, rfl, hbb, hg, rest⟩
  · intro h; cases h
  · intro h
    injection h with h
    subst h
    rw [hg] at hb
    injection hb with hb
    injection hb with _ h2
    exact hne h2
theorem one_byte (W : World) (c8 : UInt8) {j : Nat} (hj : j < [c8].length) : (W.alloc (.cells #[.int .u8 (c8.toNat : Int)] 5)).cell? ((⟨W.heap.size, 0, none⟩ : Addr).add j) = some (.int .u8 ([c8][j].toNat : Int)) := by
  match j, hj with
  | 0, _ => simp [Addr.add]
theorem full_later {w w' : World} {base g : Nat} {A : Option Addr} {c : Nat} {l : List (ByteArray × ByteArray)} (h : Full w base g A c l) (hb : Below w.heap.size w w') : Full w' base g A c l := ⟨h.1, (hb.block _ (blk_lt h.2.1)).trans h.2.1, own_below h.2.2 hb⟩
section
variable {P : Program} {ops : Array Oper} {o : Oper} {a : Act} {w : World} {Q : Exit → Act → World → Prop}
theorem step_append_R {K : Act → World → Prop} {E : Prop} (hg : o.guard = none) (d x : Operand) (t t' : TypeId) (ho : o.op = .call { callee := .builtin .append, args := #[d, x], argTypes := #[t, t'] }) (v u : Value) (hd : a.eval d = v) (hx : a.eval x = u) {R : Value → World → Prop}
    (hr : ∃ v' w', (Builtin.append_ #[t, t'] o.type #[v, u]).run P w = .ok v' w' ∧ R v' w') (hK : ∀ v' w', R v' w' → K (a.put o.dst v') w') : if Region.wanted o (yielded ops a.tmps) = true then Oper.wp P o a w K Q else E := by
  obtain ⟨v', w', h1, h2⟩ := hr
  rw [if_pos (by simp [Region.wanted, hg])]
  exact wp_append_eq d x t t' ho v u hd hx h1 (hK v' w' h2)
end

set_option maxRecDepth 100000 in
set_option maxHeartbeats 10000000 in
theorem walk (w : World) :
    Calls Try.prog 12 #[] w fun e w' => e = .returned (.bool true) ∧ Below w.heap.size w w' := by
  go_enter Try.func12, Try.ntmps12
  go_wp2_with fail
  refine (example14_ok _).mono ?_
  rintro e w1 ⟨A, c, rfl, hT0, hb1⟩
  have hUp := below_alloc (below_alloc (Below.refl w1.heap.size w1) (.cells #[.slice A 1 c] 24)) (.cells #[.slice none 0 0] 24)
  have hW' := hide (Below.on hb1 hUp)
  have hT' := hide (hT0.below hUp)
  have hbox1 : ((w1.alloc (.cells #[.slice A 1 c] 24)).alloc (.cells #[.slice none 0 0] 24)).cell? ⟨w1.heap.size, 0, none⟩ = some (.slice A 1 c) := by go_simp
  have hq1 : ((w1.alloc (.cells #[.slice A 1 c] 24)).alloc (.cells #[.slice none 0 0] 24)).cell? ⟨w1.heap.size + 1, 0, none⟩ = some (.slice none 0 0) := by clear hbox1; go_simp
  have hB1 := Below.refl (((w1.alloc (.cells #[.slice A 1 c] 24)).alloc (.cells #[.slice none 0 0] 24))).heap.size ((w1.alloc (.cells #[.slice A 1 c] 24)).alloc (.cells #[.slice none 0 0] 24))
  have hTn' := hide (isTree_nil ((w1.alloc (.cells #[.slice A 1 c] 24)).alloc (.cells #[.slice none 0 0] 24)))
  clear hT0 hb1 hUp
  go_wp2_with fail
  refine (get_at [] (-1) ⟨#[]⟩ .empty 8 (by kernel_rfl) (by kernel_rfl) _ _ _ _ (hTn'.out.below hB1)).mono ?_
  rintro e w2 ⟨rfl, hb2⟩
  have hB2 := Below.on hB1 hb2
  have hbox2 := cell_later hb2 hbox1
  have hq2 := cell_later hb2 hq1
  clear hbox1 hq1
  go_upto_region 4 with fail
  go_cut [5, 6] from 56 to 61 (fun p v wx => v = .int .i64 8 ∧ (∃ g, p = .pointer (some ⟨g, 0, none⟩)) ∧ Below w2.heap.size w2 wx)
  case first =>
    have hin := cell_in' hq2
    have hdr := (Below.refl w2.heap.size w2).drew
    go_region_held3 (fun X => X.cell? ⟨w1.heap.size + 1, 0, none⟩ = some (.slice none 0 0)) (first | exact hq2 | exact r0 | exact r1 | exact far_alloc hq2 _ | exact far_alloc r0 _ | exact far_alloc r1 _ | exact far_store r1 _ _ | exact far_set r1 (by have h2 := cell_in' r0; simp at *; omega)) (first | (go_at_call 51; refine (long_ok 401 (by decide) _).mono ?_; rintro e wa ⟨rfl, hba⟩; first | (have r0 := cell_later hba hq2; have hup := Below.on hdr hba) | (have r0 := cell_later hba (far_alloc hq2 _); have hbx := (hba.block w2.heap.size (by simp)).trans (blk_new w2.drew _ _); have hup := Below.on (below_alloc hdr _) hba)) | (go_at_call 42; refine (set_at [] [] 0 (-1) ⟨#[]⟩ (longS 401) 8 (by kernel_rfl) (by kernel_rfl) rfl (by decide) (by rw [long_size]; decide) _ _ _ _ ?_).mono ?_; (first | exact isTree_nil _ | exact hT'.out.below (Below.on hB2 hup) | exact hT'.out.below (Below.on hB2 (below_alloc hup _))); rintro e wd ⟨A4, c4, rfl, -, hbd⟩; first | (have hbx4 := (hbd.block w2.heap.size (blk_lt hbx)).trans hbx; have r1 := cell_later hbd r0; have rb : wd.cell? ⟨w2.heap.size, 0, none⟩ = some (.slice none 0 0) := (blk_cell hbx4 0).trans rfl; have rf : wd.frozen? ⟨w2.heap.size, 0, none⟩ = false := blk_frozen hbx4 0) | have r1 := cell_later hbd r0 | (have r1 := cell_later hbd (far_alloc r0 _); have hbx4 := (hbd.block wa.heap.size (by simp)).trans (blk_new _ _ _); have rb : wd.cell? ⟨wa.heap.size, 0, none⟩ = some (.slice none 0 0) := (blk_cell hbx4 0).trans rfl; have rf : wd.frozen? ⟨wa.heap.size, 0, none⟩ = false := blk_frozen hbx4 0)))
    all_goals
      go_wp2_with fail
      go_meet
      refine ⟨rfl, ⟨_, rfl⟩, ?_⟩
      first
        | exact below_alloc (Below.on hup hbd) _
        | exact (Below.on (below_alloc hup _) hbd).setCell (p := ⟨wa.heap.size, 0, none⟩) (by have := hba.size; simpa using this) _
        | exact (Below.on hup hbd).setCell (p := ⟨w2.heap.size, 0, none⟩) (Nat.le_refl _) _
  case rest =>
  obtain ⟨rfl, ⟨g3, rfl⟩, hb3⟩ := hcut
  generalize wc = w3 at *
  have hB3 := Below.on hB2 hb3
  have hbox3 := cell_later hb3 hbox2
  have hq3 := cell_later hb3 hq2
  clear hbox2 hq2
  go_wp2_with fail
  refine (uns_at [] [] 0 (-1) ⟨#[]⟩ 8 (by kernel_rfl) (by kernel_rfl) rfl _ _ _ _ (hTn'.out.below hB3)).mono ?_
  rintro e w4 ⟨A4, c4, rfl, -, hb4⟩
  have hB4 := below_alloc (Below.on hB3 hb4) (.cells #[.slice A4 0 c4] 24)
  have hbox4 := cell_later (below_alloc hb4 (.cells #[.slice A4 0 c4] 24)) hbox3
  have hq4 := cell_later (below_alloc hb4 (.cells #[.slice A4 0 c4] 24)) hq3
  clear hbox3 hq3
  go_wp2_with fail
  refine (class_at [] (-1) ⟨#[]⟩ false 8 (by kernel_rfl) (by kernel_rfl) _ _ _ _ (hTn'.out.below hB4)).mono ?_
  rintro e w5 ⟨rfl, hb5⟩
  have hB5 := Below.on hB4 hb5
  have hbox5 := cell_later hb5 hbox4
  have hq5 := cell_later hb5 hq4
  clear hbox4 hq4
  go_wp2_with fail
  refine (get_at ex14T 1 ⟨#[99, 108, 97, 115, 115]⟩ .empty 2 (by kernel_rfl) (by kernel_rfl) _ _ _ _ (hT'.out.below hB5)).mono ?_
  rintro e w6 ⟨rfl, hb6⟩
  have hB6 := Below.on hB5 hb6
  have hbox6 := cell_later hb6 hbox5
  have hq6 := cell_later hb6 hq5
  clear hbox5 hq5
  go_upto_region 8 with fail
  go_cut [13, 14] from 77 to 82 (fun p v wx => v = .int .i64 2 ∧ (∃ g, p = .pointer (some ⟨g, 0, none⟩)) ∧ Below w6.heap.size w6 wx)
  case first =>
    have hin := cell_in' hbox6
    have hdr := (Below.refl w6.heap.size w6).drew
    go_region_held3 (fun X => X.cell? ⟨w1.heap.size, 0, none⟩ = some (.slice A 1 c)) (first | exact hbox6 | exact r0 | exact r1 | exact far_alloc hbox6 _ | exact far_alloc r0 _ | exact far_alloc r1 _ | exact far_store r1 _ _ | exact far_set r1 (by have h2 := cell_in' r0; simp at *; omega)) (first | (go_at_call 51; refine (long_ok 401 (by decide) _).mono ?_; rintro e wa ⟨rfl, hba⟩; first | (have r0 := cell_later hba hbox6; have hup := Below.on hdr hba) | (have r0 := cell_later hba (far_alloc hbox6 _); have hbx := (hba.block w6.heap.size (by simp)).trans (blk_new w6.drew _ _); have hup := Below.on (below_alloc hdr _) hba)) | (go_at_call 42; refine (set_at ex14T [] 0 (-1) ⟨#[]⟩ (longS 401) 2 (by kernel_rfl) (by kernel_rfl) rfl (by decide) (by rw [long_size]; decide) _ _ _ _ ?_).mono ?_; (first | exact isTree_nil _ | exact hT'.out.below (Below.on hB6 hup) | exact hT'.out.below (Below.on hB6 (below_alloc hup _))); rintro e wd ⟨A4, c4, rfl, -, hbd⟩; first | (have hbx4 := (hbd.block w6.heap.size (blk_lt hbx)).trans hbx; have r1 := cell_later hbd r0; have rb : wd.cell? ⟨w6.heap.size, 0, none⟩ = some (.slice none 0 0) := (blk_cell hbx4 0).trans rfl; have rf : wd.frozen? ⟨w6.heap.size, 0, none⟩ = false := blk_frozen hbx4 0) | have r1 := cell_later hbd r0 | (have r1 := cell_later hbd (far_alloc r0 _); have hbx4 := (hbd.block wa.heap.size (by simp)).trans (blk_new _ _ _); have rb : wd.cell? ⟨wa.heap.size, 0, none⟩ = some (.slice none 0 0) := (blk_cell hbx4 0).trans rfl; have rf : wd.frozen? ⟨wa.heap.size, 0, none⟩ = false := blk_frozen hbx4 0)))
    all_goals
      go_wp2_with fail
      go_meet
      refine ⟨rfl, ⟨_, rfl⟩, ?_⟩
      first
        | exact below_alloc (Below.on hup hbd) _
        | exact (Below.on (below_alloc hup _) hbd).setCell (p := ⟨wa.heap.size, 0, none⟩) (by have := hba.size; simpa using this) _
        | exact (Below.on hup hbd).setCell (p := ⟨w6.heap.size, 0, none⟩) (Nat.le_refl _) _
  case rest =>
  obtain ⟨rfl, ⟨g7, rfl⟩, hb7⟩ := hcut
  generalize wc = w7 at *
  have hB7 := Below.on hB6 hb7
  have hbox7 := cell_later hb7 hbox6
  have hq7 := cell_later hb7 hq6
  clear hbox6 hq6
  go_wp2_with fail
  refine (uns_at ex14T [] 0 1 ⟨#[99, 108, 97, 115, 115]⟩ 2 (by kernel_rfl) (by kernel_rfl) rfl _ _ _ _ (hT'.out.below hB7)).mono ?_
  rintro e w8 ⟨A8, c8, rfl, -, hb8⟩
  have hB8 := below_alloc (Below.on hB7 hb8) (.cells #[.slice A8 0 c8] 24)
  have hbox8 := cell_later (below_alloc hb8 (.cells #[.slice A8 0 c8] 24)) hbox7
  have hq8 := cell_later (below_alloc hb8 (.cells #[.slice A8 0 c8] 24)) hq7
  clear hbox7 hq7
  go_wp2_with fail
  refine (class_at ex14T (-1) ⟨#[97]⟩ false 2 (by kernel_rfl) (by kernel_rfl) _ _ _ _ (hT'.out.below hB8)).mono ?_
  rintro e w9 ⟨rfl, hb9⟩
  have hB9 := Below.on hB8 hb9
  have hbox9 := cell_later hb9 hbox8
  have hq9 := cell_later hb9 hq8
  clear hbox8 hq8
  go_wp2_with fail
  refine (get_at ex14T 0 ⟨#[]⟩ .empty 6 (by kernel_rfl) (by kernel_rfl) _ _ _ _ (hT'.out.below hB9)).mono ?_
  rintro e w10 ⟨rfl, hb10⟩
  have hB10 := Below.on hB9 hb10
  have hbox10 := cell_later hb10 hbox9
  have hq10 := cell_later hb10 hq9
  clear hbox9 hq9
  go_wp2_with fail
  refine (get_at ex14T 0 ⟨#[67, 108, 97, 115, 115]⟩ .empty 6 (by kernel_rfl) (by kernel_rfl) _ _ _ _ (hT'.out.below hB10)).mono ?_
  rintro e w11 ⟨rfl, hb11⟩
  have hB11 := Below.on hB10 hb11
  have hbox11 := cell_later hb11 hbox10
  have hq11 := cell_later hb11 hq10
  clear hbox10 hq10
  go_upto_region 13 with fail
  go_cut [23, 24] from 103 to 108 (fun p v wx => v = .int .i64 2 ∧ (∃ g, p = .pointer (some ⟨g, 0, none⟩)) ∧ Below w11.heap.size w11 wx)
  case first =>
    have hin := cell_in' hbox11
    have hdr := (Below.refl w11.heap.size w11).drew
    go_region_held3 (fun X => X.cell? ⟨w1.heap.size, 0, none⟩ = some (.slice A 1 c)) (first | exact hbox11 | exact r0 | exact r1 | exact far_alloc hbox11 _ | exact far_alloc r0 _ | exact far_alloc r1 _ | exact far_store r1 _ _ | exact far_set r1 (by have h2 := cell_in' r0; simp at *; omega)) (first | (go_at_call 51; refine (long_ok 401 (by decide) _).mono ?_; rintro e wa ⟨rfl, hba⟩; first | (have r0 := cell_later hba hbox11; have hup := Below.on hdr hba) | (have r0 := cell_later hba (far_alloc hbox11 _); have hbx := (hba.block w11.heap.size (by simp)).trans (blk_new w11.drew _ _); have hup := Below.on (below_alloc hdr _) hba)) | (go_at_call 42; refine (set_at ex14T [] 0 0 ⟨#[67, 108, 97, 115, 115]⟩ (longS 401) 2 (by kernel_rfl) (by kernel_rfl) rfl (by decide) (by rw [long_size]; decide) _ _ _ _ ?_).mono ?_; (first | exact isTree_nil _ | exact hT'.out.below (Below.on hB11 hup) | exact hT'.out.below (Below.on hB11 (below_alloc hup _))); rintro e wd ⟨A4, c4, rfl, -, hbd⟩; first | (have hbx4 := (hbd.block w11.heap.size (blk_lt hbx)).trans hbx; have r1 := cell_later hbd r0; have rb : wd.cell? ⟨w11.heap.size, 0, none⟩ = some (.slice none 0 0) := (blk_cell hbx4 0).trans rfl; have rf : wd.frozen? ⟨w11.heap.size, 0, none⟩ = false := blk_frozen hbx4 0) | have r1 := cell_later hbd r0 | (have r1 := cell_later hbd (far_alloc r0 _); have hbx4 := (hbd.block wa.heap.size (by simp)).trans (blk_new _ _ _); have rb : wd.cell? ⟨wa.heap.size, 0, none⟩ = some (.slice none 0 0) := (blk_cell hbx4 0).trans rfl; have rf : wd.frozen? ⟨wa.heap.size, 0, none⟩ = false := blk_frozen hbx4 0)))
    all_goals
      go_wp2_with fail
      go_meet
      refine ⟨rfl, ⟨_, rfl⟩, ?_⟩
      first
        | exact below_alloc (Below.on hup hbd) _
        | exact (Below.on (below_alloc hup _) hbd).setCell (p := ⟨wa.heap.size, 0, none⟩) (by have := hba.size; simpa using this) _
        | exact (Below.on hup hbd).setCell (p := ⟨w11.heap.size, 0, none⟩) (Nat.le_refl _) _
  case rest =>
  obtain ⟨rfl, ⟨g12, rfl⟩, hb12⟩ := hcut
  generalize wc = w12 at *
  have hB12 := Below.on hB11 hb12
  have hbox12 := cell_later hb12 hbox11
  have hq12 := cell_later hb12 hq11
  clear hbox11 hq11
  go_upto_region 14 with fail
  go_cut [25, 26] from 109 to 114 (fun p v wx => v = .int .i64 28 ∧ (∃ g, p = .pointer (some ⟨g, 0, none⟩)) ∧ Below w12.heap.size w12 wx)
  case first =>
    have hin := cell_in' hbox12
    have hdr := (Below.refl w12.heap.size w12).drew
    go_region_held3 (fun X => X.cell? ⟨w1.heap.size, 0, none⟩ = some (.slice A 1 c)) (first | exact hbox12 | exact r0 | exact r1 | exact far_alloc hbox12 _ | exact far_alloc r0 _ | exact far_alloc r1 _ | exact far_store r1 _ _ | exact far_set r1 (by have h2 := cell_in' r0; simp at *; omega)) (first | (go_at_call 51; refine (long_ok 401 (by decide) _).mono ?_; rintro e wa ⟨rfl, hba⟩; first | (have r0 := cell_later hba hbox12; have hup := Below.on hdr hba) | (have r0 := cell_later hba (far_alloc hbox12 _); have hbx := (hba.block w12.heap.size (by simp)).trans (blk_new w12.drew _ _); have hup := Below.on (below_alloc hdr _) hba)) | (go_at_call 42; refine (set_at ex14T [] 0 0 ⟨#[97]⟩ (longS 401) 28 (by kernel_rfl) (by kernel_rfl) rfl (by decide) (by rw [long_size]; decide) _ _ _ _ ?_).mono ?_; (first | exact isTree_nil _ | exact hT'.out.below (Below.on hB12 hup) | exact hT'.out.below (Below.on hB12 (below_alloc hup _))); rintro e wd ⟨A4, c4, rfl, -, hbd⟩; first | (have hbx4 := (hbd.block w12.heap.size (blk_lt hbx)).trans hbx; have r1 := cell_later hbd r0; have rb : wd.cell? ⟨w12.heap.size, 0, none⟩ = some (.slice none 0 0) := (blk_cell hbx4 0).trans rfl; have rf : wd.frozen? ⟨w12.heap.size, 0, none⟩ = false := blk_frozen hbx4 0) | have r1 := cell_later hbd r0 | (have r1 := cell_later hbd (far_alloc r0 _); have hbx4 := (hbd.block wa.heap.size (by simp)).trans (blk_new _ _ _); have rb : wd.cell? ⟨wa.heap.size, 0, none⟩ = some (.slice none 0 0) := (blk_cell hbx4 0).trans rfl; have rf : wd.frozen? ⟨wa.heap.size, 0, none⟩ = false := blk_frozen hbx4 0)))
    all_goals
      go_wp2_with fail
      go_meet
      refine ⟨rfl, ⟨_, rfl⟩, ?_⟩
      first
        | exact below_alloc (Below.on hup hbd) _
        | exact (Below.on (below_alloc hup _) hbd).setCell (p := ⟨wa.heap.size, 0, none⟩) (by have := hba.size; simpa using this) _
        | exact (Below.on hup hbd).setCell (p := ⟨w12.heap.size, 0, none⟩) (Nat.le_refl _) _
  case rest =>
  obtain ⟨rfl, ⟨g13, rfl⟩, hb13⟩ := hcut
  generalize wc = w13 at *
  have hB13 := Below.on hB12 hb13
  have hbox13 := cell_later hb13 hbox12
  have hq13 := cell_later hb13 hq12
  clear hbox12 hq12
  go_upto_region 15 with fail
  go_cut [27, 28] from 115 to 120 (fun p v wx => v = .int .i64 0 ∧ (∃ (g : Nat) (A4 : Option Addr) (c4 : Nat), p = .pointer (some ⟨g, 0, none⟩) ∧ wx.cell? ⟨g, 0, none⟩ = some (.slice A4 1 c4) ∧ IsTree wx A4 1 xT14) ∧ Below w13.heap.size w13 wx)
  case first =>
    have hin := cell_in' hbox13
    have hdr := (Below.refl w13.heap.size w13).drew
    go_region_held3 (fun X => X.cell? ⟨w1.heap.size, 0, none⟩ = some (.slice A 1 c)) (first | exact hbox13 | exact r0 | exact r1 | exact far_alloc hbox13 _ | exact far_alloc r0 _ | exact far_alloc r1 _ | exact far_store r1 _ _ | exact far_set r1 (by have h2 := cell_in' r0; simp at *; omega)) (first | (go_at_call 51; refine (long_ok 400 (by decide) _).mono ?_; rintro e wa ⟨rfl, hba⟩; first | (have r0 := cell_later hba hbox13; have hup := Below.on hdr hba) | (have r0 := cell_later hba (far_alloc hbox13 _); have hbx := (hba.block w13.heap.size (by simp)).trans (blk_new w13.drew _ _); have hup := Below.on (below_alloc hdr _) hba)) | (go_at_call 42; refine (set_at ex14T xT14 1 0 ⟨#[97]⟩ (longS 400) 0 (by kernel_rfl) (by kernel_rfl) rfl (by decide) (by rw [long_size]; decide) _ _ _ _ ?_).mono ?_; (first | exact hT'.out.below (Below.on hB13 hup) | exact hT'.out.below (Below.on hB13 (below_alloc hup _))); rintro e wd ⟨A4, c4, rfl, hT4, hbd⟩; first | (have hbx4 := (hbd.block w13.heap.size (blk_lt hbx)).trans hbx; have r1 := cell_later hbd r0; have rb : wd.cell? ⟨w13.heap.size, 0, none⟩ = some (.slice none 0 0) := (blk_cell hbx4 0).trans rfl; have rf : wd.frozen? ⟨w13.heap.size, 0, none⟩ = false := blk_frozen hbx4 0) | have r1 := cell_later hbd r0 | (have r1 := cell_later hbd (far_alloc r0 _); have hbx4 := (hbd.block wa.heap.size (by simp)).trans (blk_new _ _ _); have rb : wd.cell? ⟨wa.heap.size, 0, none⟩ = some (.slice none 0 0) := (blk_cell hbx4 0).trans rfl; have rf : wd.frozen? ⟨wa.heap.size, 0, none⟩ = false := blk_frozen hbx4 0)))
    all_goals
      go_wp2_with fail
      go_meet
      first
        | (refine ⟨rfl, ⟨_, _, _, rfl, blk_cell (blk_set hbx4 0 _) 0, isTree_box hT4 hbx4 _⟩, ?_⟩
           first
             | exact (Below.on (below_alloc hup _) hbd).setCell (p := ⟨wa.heap.size, 0, none⟩) (by have := hba.size; simpa using this) _
             | exact (Below.on hup hbd).setCell (p := ⟨w13.heap.size, 0, none⟩) (Nat.le_refl _) _)
        | exact ⟨rfl, ⟨_, _, _, rfl, blk_cell (blk_new wd _ _) 0, hT4.below (below_alloc (Below.refl _ _) _)⟩, below_alloc (Below.on hup hbd) _⟩
  case rest =>
  obtain ⟨rfl, ⟨gx, Ax, cx, rfl, hxc14, hxT⟩, hb14⟩ := hcut
  have hxT14 := hide hxT
  clear hxT
  generalize wc = w14 at *
  have hB14 := Below.on hB13 hb14
  have hbox14 := cell_later hb14 hbox13
  clear hbox13 hq13 hB13 hb14
  go_wp2_with fail
  refine (uns_at ex14T [] 0 0 ⟨#[97]⟩ 6 (by kernel_rfl) (by kernel_rfl) rfl _ _ _ _ (hT'.out.below hB14)).mono ?_
  rintro e w15 ⟨A15, c15, rfl, -, hb15⟩
  have z15 := below_alloc hb15 (.cells #[.slice A15 0 c15] 24)
  have hB15 := Below.on hB14 z15
  have hbox15 := cell_later z15 hbox14
  have hxc15 := cell_later z15 hxc14
  have hxT15 := hide (hxT14.out.below z15)
  clear hB14 hbox14 hxc14 hxT14 z15 hb15
  go_wp2_with fail
  generalize w15.alloc (.cells #[.slice A15 0 c15] 24) = wp at *
  refine (full14_ok _).mono ?_
  rintro e w16 ⟨g6, A6, c6, rfl, hF, hb16⟩
  obtain ⟨base, hbase⟩ : ∃ base, wp.heap.size = base := ⟨_, rfl⟩
  rw [hbase] at hF
  have hbs := hide hbase
  have z16 := below_alloc hb16 (.cells #[.slice (some ⟨g6, 0, none⟩) 1 1] 24)
  have x16 := blk_new w16 #[.slice (some ⟨g6, 0, none⟩) 1 1] 24
  have hF16 := hide (full_later hF (below_alloc (Below.refl _ _) (.cells #[.slice (some ⟨g6, 0, none⟩) 1 1] 24)))
  have hb6 : base ≤ w16.heap.size := by have := hb16.size; omega
  clear hF hb16 hbase
  go_wp2
  go_loopw [32] (fun s wr => ∃ (q : Nat) (A : Option Addr) (c : Nat), q ≤ 15 ∧ s = .int .i64 q ∧ Hid (Full wr base g6 A c (fullL q)) ∧ wr.heap[w16.heap.size]? = some (.cells #[.slice (some ⟨g6, 0, none⟩) 1 1] 24 (0, 0)) ∧ Below wp.heap.size wp wr) (fun s _ => 15 - (intOf s).toNat)
  case atStart => exact ⟨0, A6, c6, Nat.zero_le _, rfl, hF16, x16, z16⟩
  case round =>
    obtain ⟨q, A7, c7, hq, rfl, hF7, x7, hb7⟩ := hrel
    by_cases hlt : q < 15
    · obtain ⟨f1, f2, f3⟩ := hF7.out
      rw [fullL_len] at f2 f3
      have n1 : wr.cell? ⟨g6, 1, none⟩ = some (.slice A7 (q + 1) c7) := blk_cell f2 1
      have nf := blk_frozen f2 1
      have b1 : wr.cell? ⟨w16.heap.size, 0, none⟩ = some (.slice (some ⟨g6, 0, none⟩) 1 1) := blk_cell x7 0
      have hng : w16.heap.size ≠ g6 := blk_ne x7 f2 (by decide)
      have hbr : base ≤ wr.heap.size := by have := hb7.size; have := hbs.out; omega
      have hap := hide (fun (W : World) (ty : TypeId) (y : ByteArray) (hW : Below wr.heap.size wr W) (hG : W.heap[wr.heap.size + 1]? = some (.cells #[.string y, .string .empty] 83 (0, 0))) => runA W ty (fullL_len q) (own_below f3 hW) (wr.heap.size + 1) y .empty hG (by omega) (by have := hW.size; omega))
      have q0 : (0 : Int) ≤ (q : Int) := by omega
      have q1 : (q : Int) < 15 := by omega
      have w1 : IntKind.i64.wrap (97 + (q : Int)) = 97 + (q : Int) := IntWalk.i64_in _ (by omega)
      have w2 : IntKind.u8.wrap (97 + (q : Int)) = 97 + (q : Int) := by unfold IntKind.wrap; simp [IntKind.bits, IntKind.signed]; omega
      have hc8 : 97 + (q : Int) = ((UInt8.ofNat (97 + q)).toNat : Int) := by rw [UInt8.toNat_ofNat']; omega
      have hng9 := own_apart f3 f2 (by decide)
      have hng8 := own_apart f3 x7 (by decide)
      have hf3 := hide f3
      have hcv : (convert 81 9 (.slice (some ⟨wr.heap.size, 0, none⟩) 1 1)).run Try.prog (wr.alloc (.cells #[.int .u8 (97 + (q : Int))] 5)).drew = .ok (.string ⟨#[UInt8.ofNat (97 + q)]⟩) (wr.alloc (.cells #[.int .u8 (97 + (q : Int))] 5)).drew := by
        rw [hc8]
        exact run_convert_bytes_back (wr.alloc (.cells #[.int .u8 ((UInt8.ofNat (97 + q)).toNat : Int)] 5)).drew 81 9 5 ⟨wr.heap.size, 0, none⟩ 1 [UInt8.ofNat (97 + q)] Try.underlying81 Try.underlying5 Try.underlying9 (fun j hj => one_byte wr _ hj)
      have hcw : (convert 81 9 (.slice (some ⟨wr.heap.size, 0, none⟩) 1 1)).run Try.prog (wr.drew.alloc (.cells #[.int .u8 (97 + (q : Int))] 5)) = .ok (.string ⟨#[UInt8.ofNat (97 + q)]⟩) (wr.drew.alloc (.cells #[.int .u8 (97 + (q : Int))] 5)) := hcv
      have n1d : (wr.drew.alloc (.cells #[.int .u8 (97 + (q : Int))] 5)).cell? ⟨g6, 1, none⟩ = some (.slice A7 (q + 1) c7) := cell_later (w := wr) (below_alloc (Below.refl _ _).drew _) n1
      have n1e : ∀ o : Obj, ((wr.drew.alloc (.cells #[.int .u8 (97 + (q : Int))] 5)).alloc o).cell? ⟨g6, 1, none⟩ = some (.slice A7 (q + 1) c7) := fun o => cell_later (w := wr) (below_alloc (below_alloc (Below.refl _ _).drew _) _) n1
      have hWB : Below wr.heap.size wr ((wr.alloc (.cells #[.int .u8 (97 + (q : Int))] 5)).alloc (.cells #[.string ({ data := #[100] } ++ { data := #[97 + UInt8.ofNat q] } : ByteArray), .string { data := #[] }] 83)).drew := (below_alloc (below_alloc (Below.refl _ _) _) _).drew
      have hGB : ((wr.alloc (.cells #[.int .u8 (97 + (q : Int))] 5)).alloc (.cells #[.string ({ data := #[100] } ++ { data := #[97 + UInt8.ofNat q] } : ByteArray), .string { data := #[] }] 83)).drew.heap[wr.heap.size + 1]? = some (.cells #[.string ({ data := #[100] } ++ { data := #[97 + UInt8.ofNat q] } : ByteArray), .string .empty] 83 (0, 0)) := by
        have := blk_new (wr.alloc (.cells #[.int .u8 (97 + (q : Int))] 5)) #[.string ({ data := #[100] } ++ { data := #[97 + UInt8.ofNat q] } : ByteArray), .string .empty] 83
        rw [show (wr.alloc (.cells #[.int .u8 (97 + (q : Int))] 5)).heap.size = wr.heap.size + 1 from by simp] at this
        exact this
      have hyz : ({ data := #[100] } ++ { data := #[97 + UInt8.ofNat q] } : ByteArray) = ⟨#[100, UInt8.ofNat (97 + q)]⟩ := by rw [str_d, UInt8.ofNat_add]; rfl
      have hyz := hide hyz
      have n1a : (wr.alloc (.cells #[.int .u8 (97 + (q : Int))] 5)).cell? ⟨g6, 1, none⟩ = some (.slice A7 (q + 1) c7) := cell_later (below_alloc (Below.refl _ _) _) n1
      have b1a : (wr.alloc (.cells #[.int .u8 (97 + (q : Int))] 5)).cell? ⟨w16.heap.size, 0, none⟩ = some (.slice (some ⟨g6, 0, none⟩) 1 1) := cell_later (below_alloc (Below.refl _ _) _) b1
      have n1b : ∀ o : Obj, ((wr.alloc (.cells #[.int .u8 (97 + (q : Int))] 5)).alloc o).cell? ⟨g6, 1, none⟩ = some (.slice A7 (q + 1) c7) := fun o => cell_later (below_alloc (below_alloc (Below.refl _ _) _) _) n1
      have b1b : ∀ o : Obj, ((wr.alloc (.cells #[.int .u8 (97 + (q : Int))] 5)).alloc o).cell? ⟨w16.heap.size, 0, none⟩ = some (.slice (some ⟨g6, 0, none⟩) 1 1) := fun o => cell_later (below_alloc (below_alloc (Below.refl _ _) _) _) b1
      clear f3 hF7 hc8
      go_wp2
      refine wp_region_noPanic ?_
      refine wp_region_held_drew (S := fun X => X.cell? ⟨w16.heap.size, 0, none⟩ = some (.slice (some ⟨g6, 0, none⟩) 1 1)) (by kernel_rfl) b1 (fun hHeld => ?_)
      refine mgTake 0 131 (.pointer (some ⟨w16.heap.size, 0, none⟩)) (by kernel_rfl) (by kernel_rfl) (by kernel_rfl) (by kernel_rfl) (fun _ _ _ h => h) (by rfl) ?_ (by assumption) ?_
      · intro W hW
        try dsimp only at hW
        simp only [List.getElem?_toArray, List.getElem?_cons_zero, Option.map_some, Option.some.injEq]
        go_simp
        all_goals rfl
      try simp only [Act.put, List.setIfInBounds_toArray, List.set_cons_zero, List.set_cons_succ]
      refine mgTake 1 132 (.slice (some ⟨g6, 0, none⟩) 1 1) (by kernel_rfl) (by kernel_rfl) (by kernel_rfl) (by kernel_rfl) (fun _ _ _ h => h) (by rfl) ?_ (by assumption) ?_
      · intro W hW
        try dsimp only at hW
        simp only [List.getElem?_toArray, List.getElem?_cons_succ, List.getElem?_cons_zero, Option.map_some, Option.some.injEq]
        go_simp
        all_goals rfl
      try simp only [Act.put, List.setIfInBounds_toArray, List.set_cons_zero, List.set_cons_succ]
      refine mgTake 2 133 (.pointer (some ⟨w16.heap.size, 0, none⟩)) (by kernel_rfl) (by kernel_rfl) (by kernel_rfl) (by kernel_rfl) (fun _ _ _ h => h) (by rfl) ?_ (by assumption) ?_
      · intro W hW
        try dsimp only at hW
        simp only [List.getElem?_toArray, List.getElem?_cons_succ, List.getElem?_cons_zero, Option.map_some, Option.some.injEq]
        go_simp
        all_goals rfl
      try simp only [Act.put, List.setIfInBounds_toArray, List.set_cons_zero, List.set_cons_succ]
      refine mgTake 3 134 (.slice (some ⟨g6, 0, none⟩) 1 1) (by kernel_rfl) (by kernel_rfl) (by kernel_rfl) (by kernel_rfl) (fun _ _ _ h => h) (by rfl) ?_ (by assumption) ?_
      · intro W hW
        try dsimp only at hW
        simp only [List.getElem?_toArray, List.getElem?_cons_succ, List.getElem?_cons_zero, Option.map_some, Option.some.injEq]
        go_simp
        all_goals rfl
      try simp only [Act.put, List.setIfInBounds_toArray, List.set_cons_zero, List.set_cons_succ]
      refine mgTake 4 135 (.pointer (some ⟨g6, 0, none⟩)) (by kernel_rfl) (by kernel_rfl) (by kernel_rfl) (by kernel_rfl) (fun _ _ _ h => h) (by rfl) ?_ (by assumption) ?_
      · intro W hW
        try dsimp only at hW
        simp only [List.getElem?_toArray, List.getElem?_cons_succ, List.getElem?_cons_zero, Option.map_some, Option.some.injEq]
        go_simp
        all_goals rfl
      try simp only [Act.put, List.setIfInBounds_toArray, List.set_cons_zero, List.set_cons_succ]
      refine mgTake 5 136 (.pointer (some ⟨g6, 1, none⟩)) (by kernel_rfl) (by kernel_rfl) (by kernel_rfl) (by kernel_rfl) (fun _ _ _ h => h) (by rfl) ?_ (by assumption) ?_
      · intro W hW
        try dsimp only at hW
        simp only [List.getElem?_toArray, List.getElem?_cons_succ, List.getElem?_cons_zero, Option.map_some, Option.some.injEq]
        go_simp
        all_goals rfl
      try simp only [Act.put, List.setIfInBounds_toArray, List.set_cons_zero, List.set_cons_succ]
      refine mgTake 7 138 (.int .i64 (q : Int)) (by kernel_rfl) (by kernel_rfl) (by kernel_rfl) (by kernel_rfl) (fun _ _ _ h => h) (by rfl) ?_ (by assumption) ?_
      · intro W hW
        try dsimp only at hW
        simp only [List.getElem?_toArray, List.getElem?_cons_succ, List.getElem?_cons_zero, Option.map_some, Option.some.injEq]
        go_simp
        all_goals rfl
      try simp only [Act.put, List.setIfInBounds_toArray, List.set_cons_zero, List.set_cons_succ]
      refine mgTake 8 139 (.int .i64 (97 + (q : Int))) (by kernel_rfl) (by kernel_rfl) (by kernel_rfl) (by kernel_rfl) (fun _ _ _ h => h) (by rfl) ?_ (by assumption) ?_
      · intro W hW
        try dsimp only at hW
        simp only [List.getElem?_toArray, List.getElem?_cons_succ, List.getElem?_cons_zero, Option.map_some, Option.some.injEq]
        go_simp
        all_goals rfl
      try simp only [Act.put, List.setIfInBounds_toArray, List.set_cons_zero, List.set_cons_succ]
      refine mgTake 9 140 (.int .u8 (97 + (q : Int))) (by kernel_rfl) (by kernel_rfl) (by kernel_rfl) (by kernel_rfl) (fun _ _ _ h => h) (by rfl) ?_ (by assumption) ?_
      · intro W hW
        try dsimp only at hW
        simp only [List.getElem?_toArray, List.getElem?_cons_succ, List.getElem?_cons_zero, Option.map_some, Option.some.injEq]
        go_simp
        all_goals rfl
      try simp only [Act.put, List.setIfInBounds_toArray, List.set_cons_zero, List.set_cons_succ]
      refine wpAnyH_ready (rs := [6, 10]) (by kernel_rfl) (by simp) ?_
      refine AllReadyH.cons rfl (fun K hK => ?_) (AllReadyH.cons rfl (fun K hK => ?_) AllReadyH.nil)
      · go_simp
        refine hK.out _ _ ?_ (fun hHeld => ?_)
        · first | exact b1 | exact b1a | exact b1b _ | exact b9 | exact (World.cell?_setCell_far _ _ _ _ (fun e => hng e.symm)).trans b9
        clear hK K
        refine wpAnyH_ready (rs := [10]) (by kernel_rfl) (by simp) ?_
        refine AllReadyH.cons rfl (fun K hK => ?_) AllReadyH.nil
        go_simp
        refine hK.out _ _ ?_ (fun hHeld => ?_)
        · first | exact b1 | exact b1a | exact b1b _ | exact b9 | exact (World.cell?_setCell_far _ _ _ _ (fun e => hng e.symm)).trans b9
        clear hK K
        refine wpAnyH_ready (rs := [11]) (by kernel_rfl) (by simp) ?_
        refine AllReadyH.cons rfl (fun K hK => ?_) AllReadyH.nil
        go_simp
        refine hK.out _ _ ?_ (fun hHeld => ?_)
        · first | exact b1 | exact b1a | exact b1b _ | exact b9 | exact (World.cell?_setCell_far _ _ _ _ (fun e => hng e.symm)).trans b9
        clear hK K
        refine mgTake 12 143 (.string ({ data := #[100] } ++ { data := #[UInt8.ofNat (97 + q)] })) (by kernel_rfl) (by kernel_rfl) (by kernel_rfl) (by kernel_rfl) (fun _ _ _ h => h) (by rfl) ?_ (by assumption) ?_
        · intro W hW
          try dsimp only at hW
          simp only [List.getElem?_toArray, List.getElem?_cons_succ, List.getElem?_cons_zero, Option.map_some, Option.some.injEq]
          go_simp
          all_goals rfl
        try simp only [Act.put, List.setIfInBounds_toArray, List.set_cons_zero, List.set_cons_succ]
        refine mgTake 13 144 (.agg #[.string ({ data := #[100] } ++ { data := #[UInt8.ofNat (97 + q)] }), .string .empty]) (by kernel_rfl) (by kernel_rfl) (by kernel_rfl) (by kernel_rfl) (fun _ _ _ h => h) (by rfl) ?_ (by assumption) ?_
        · intro W hW
          try dsimp only at hW
          simp only [List.getElem?_toArray, List.getElem?_cons_succ, List.getElem?_cons_zero, Option.map_some, Option.some.injEq]
          go_simp
          all_goals rfl
        try simp only [Act.put, List.setIfInBounds_toArray, List.set_cons_zero, List.set_cons_succ]
        refine wpAnyH_ready (rs := [14]) (by kernel_rfl) (by simp) ?_
        refine AllReadyH.cons rfl (fun K hK => ?_) AllReadyH.nil
        go_simp
        refine hK.out _ _ ?_ (fun hHeld => ?_)
        · first | exact b1 | exact b1a | exact b1b _ | exact b9 | exact (World.cell?_setCell_far _ _ _ _ (fun e => hng e.symm)).trans b9
        clear hK K
        refine wpAnyH_ready (rs := [15]) (by kernel_rfl) (by simp) ?_
        refine AllReadyH.cons rfl (fun K hK => ?_) AllReadyH.nil
        refine step_append_R rfl _ _ 59 59 rfl (.slice A7 (q + 1) c7) (.slice (some ⟨wr.heap.size + 1, 0, none⟩) 1 1) (by simp [Act.eval]) (by simp [Act.eval]) (hap.out _ _ _ hWB hGB) ?_
        rintro v9 w9 ⟨A9, c9, rfl, hO9, hB9, hK9⟩
        have h91 := (hK9 g6 (Nat.lt_of_lt_of_le (blk_lt f2) hWB.size) hng9).trans ((hWB.block g6 (blk_lt f2)).trans f2)
        have h92 := (hK9 w16.heap.size (Nat.lt_of_lt_of_le (blk_lt x7) hWB.size) hng8).trans ((hWB.block _ (blk_lt x7)).trans x7)
        have n9 := blk_cell h91 1
        have nf9 := blk_frozen h91 1
        have b9 := blk_cell h92 0
        have nb9 := blk_set h91 1 (.slice A9 (q + 1 + 1) c9)
        refine hK.out _ _ ?_ (fun hHeld => ?_)
        · first | exact b1 | exact b1a | exact b1b _ | exact b9 | exact (World.cell?_setCell_far _ _ _ _ (fun e => hng e.symm)).trans b9
        clear hK K
        refine mgTake 16 147 (.pointer (some ⟨g6, 0, none⟩)) (by kernel_rfl) (by kernel_rfl) (by kernel_rfl) (by kernel_rfl) (fun _ _ _ h => h) (by rfl) ?_ (by assumption) ?_
        · intro W hW
          try dsimp only at hW
          simp only [List.getElem?_toArray, List.getElem?_cons_succ, List.getElem?_cons_zero, Option.map_some, Option.some.injEq]
          go_simp
          all_goals rfl
        refine mgTake 17 148 (.pointer (some ⟨g6, 1, none⟩)) (by kernel_rfl) (by kernel_rfl) (by kernel_rfl) (by kernel_rfl) (fun _ _ _ h => h) (by rfl) ?_ (by assumption) ?_
        · intro W hW
          try dsimp only at hW
          simp only [List.getElem?_toArray, List.getElem?_cons_succ, List.getElem?_cons_zero, Option.map_some, Option.some.injEq]
          go_simp
          all_goals rfl
        refine wpAnyH_ready (rs := [18]) (by kernel_rfl) (by simp) ?_
        refine AllReadyH.cons rfl (fun K hK => ?_) AllReadyH.nil
        go_simp
        refine hK.out _ _ ?_ (fun hHeld => ?_)
        · first | exact b1 | exact b1a | exact b1b _ | exact b9 | exact (World.cell?_setCell_far _ _ _ _ (fun e => hng e.symm)).trans b9
        clear hK K
        refine wpAnyH_done (by kernel_rfl) ?_ _
        refine NoPanic.normal ?_
        have hF : Full (w9.setCell ⟨g6, 1, none⟩ (.slice A9 (q + 1 + 1) c9)) base g6 A9 c9 (fullL (q + 1)) := by
          have e := fullL_succ q
          rw [← hyz.out] at e
          refine ⟨f1, ?_, ?_⟩
          · rw [fullL_len]; exact nb9
          · rw [fullL_len, e]; exact own_set_typed hO9 h91 (by decide) _
        have hbx9 := blk_far (p := ⟨g6, 1, none⟩) h92 hng (.slice A9 (q + 1 + 1) c9)
        have hw9 : Below wp.heap.size wp (w9.setCell ⟨g6, 1, none⟩ (.slice A9 (q + 1 + 1) c9)) := by
          have h1 := Below.on hb7 hWB
          have h2 := hbs.out
          rw [h2] at h1 ⊢
          exact (h1.trans hB9).setCell (p := ⟨g6, 1, none⟩) f1 _
        go_wp2
        go_roundw
        case rel => exact ⟨q + 1, A9, c9, by omega, by go_num, hide hF, hbx9, hw9⟩
        case measure => simp [intOf]; omega
      · go_simp
        refine hK.out _ _ ?_ (fun hHeld => ?_)
        · first | exact b1 | exact b1a | exact b1b _ | exact b9 | exact (World.cell?_setCell_far _ _ _ _ (fun e => hng e.symm)).trans b9
        clear hK K
        refine wpAnyH_ready (rs := [6, 11]) (by kernel_rfl) (by simp) ?_
        refine AllReadyH.cons rfl (fun K hK => ?_) (AllReadyH.cons rfl (fun K hK => ?_) AllReadyH.nil)
        · go_simp
          refine hK.out _ _ ?_ (fun hHeld => ?_)
          · first | exact b1 | exact b1a | exact b1b _ | exact b9 | exact (World.cell?_setCell_far _ _ _ _ (fun e => hng e.symm)).trans b9
          clear hK K
          refine wpAnyH_ready (rs := [11]) (by kernel_rfl) (by simp) ?_
          refine AllReadyH.cons rfl (fun K hK => ?_) AllReadyH.nil
          go_simp
          refine hK.out _ _ ?_ (fun hHeld => ?_)
          · first | exact b1 | exact b1a | exact b1b _ | exact b9 | exact (World.cell?_setCell_far _ _ _ _ (fun e => hng e.symm)).trans b9
          clear hK K
          refine mgTake 12 143 (.string ({ data := #[100] } ++ { data := #[UInt8.ofNat (97 + q)] })) (by kernel_rfl) (by kernel_rfl) (by kernel_rfl) (by kernel_rfl) (fun _ _ _ h => h) (by rfl) ?_ (by assumption) ?_
          · intro W hW
            try dsimp only at hW
            simp only [List.getElem?_toArray, List.getElem?_cons_succ, List.getElem?_cons_zero, Option.map_some, Option.some.injEq]
            go_simp
            all_goals rfl
          try simp only [Act.put, List.setIfInBounds_toArray, List.set_cons_zero, List.set_cons_succ]
          refine mgTake 13 144 (.agg #[.string ({ data := #[100] } ++ { data := #[UInt8.ofNat (97 + q)] }), .string .empty]) (by kernel_rfl) (by kernel_rfl) (by kernel_rfl) (by kernel_rfl) (fun _ _ _ h => h) (by rfl) ?_ (by assumption) ?_
          · intro W hW
            try dsimp only at hW
            simp only [List.getElem?_toArray, List.getElem?_cons_succ, List.getElem?_cons_zero, Option.map_some, Option.some.injEq]
            go_simp
            all_goals rfl
          try simp only [Act.put, List.setIfInBounds_toArray, List.set_cons_zero, List.set_cons_succ]
          refine wpAnyH_ready (rs := [14]) (by kernel_rfl) (by simp) ?_
          refine AllReadyH.cons rfl (fun K hK => ?_) AllReadyH.nil
          go_simp
          refine hK.out _ _ ?_ (fun hHeld => ?_)
          · first | exact b1 | exact b1a | exact b1b _ | exact b9 | exact (World.cell?_setCell_far _ _ _ _ (fun e => hng e.symm)).trans b9
          clear hK K
          refine wpAnyH_ready (rs := [15]) (by kernel_rfl) (by simp) ?_
          refine AllReadyH.cons rfl (fun K hK => ?_) AllReadyH.nil
          refine step_append_R rfl _ _ 59 59 rfl (.slice A7 (q + 1) c7) (.slice (some ⟨wr.heap.size + 1, 0, none⟩) 1 1) (by simp [Act.eval]) (by simp [Act.eval]) (hap.out _ _ _ hWB hGB) ?_
          rintro v9 w9 ⟨A9, c9, rfl, hO9, hB9, hK9⟩
          have h91 := (hK9 g6 (Nat.lt_of_lt_of_le (blk_lt f2) hWB.size) hng9).trans ((hWB.block g6 (blk_lt f2)).trans f2)
          have h92 := (hK9 w16.heap.size (Nat.lt_of_lt_of_le (blk_lt x7) hWB.size) hng8).trans ((hWB.block _ (blk_lt x7)).trans x7)
          have n9 := blk_cell h91 1
          have nf9 := blk_frozen h91 1
          have b9 := blk_cell h92 0
          have nb9 := blk_set h91 1 (.slice A9 (q + 1 + 1) c9)
          refine hK.out _ _ ?_ (fun hHeld => ?_)
          · first | exact b1 | exact b1a | exact b1b _ | exact b9 | exact (World.cell?_setCell_far _ _ _ _ (fun e => hng e.symm)).trans b9
          clear hK K
          refine mgTake 16 147 (.pointer (some ⟨g6, 0, none⟩)) (by kernel_rfl) (by kernel_rfl) (by kernel_rfl) (by kernel_rfl) (fun _ _ _ h => h) (by rfl) ?_ (by assumption) ?_
          · intro W hW
            try dsimp only at hW
            simp only [List.getElem?_toArray, List.getElem?_cons_succ, List.getElem?_cons_zero, Option.map_some, Option.some.injEq]
            go_simp
            all_goals rfl
          refine mgTake 17 148 (.pointer (some ⟨g6, 1, none⟩)) (by kernel_rfl) (by kernel_rfl) (by kernel_rfl) (by kernel_rfl) (fun _ _ _ h => h) (by rfl) ?_ (by assumption) ?_
          · intro W hW
            try dsimp only at hW
            simp only [List.getElem?_toArray, List.getElem?_cons_succ, List.getElem?_cons_zero, Option.map_some, Option.some.injEq]
            go_simp
            all_goals rfl
          refine wpAnyH_ready (rs := [18]) (by kernel_rfl) (by simp) ?_
          refine AllReadyH.cons rfl (fun K hK => ?_) AllReadyH.nil
          go_simp
          refine hK.out _ _ ?_ (fun hHeld => ?_)
          · first | exact b1 | exact b1a | exact b1b _ | exact b9 | exact (World.cell?_setCell_far _ _ _ _ (fun e => hng e.symm)).trans b9
          clear hK K
          refine wpAnyH_done (by kernel_rfl) ?_ _
          refine NoPanic.normal ?_
          have hF : Full (w9.setCell ⟨g6, 1, none⟩ (.slice A9 (q + 1 + 1) c9)) base g6 A9 c9 (fullL (q + 1)) := by
            have e := fullL_succ q
            rw [← hyz.out] at e
            refine ⟨f1, ?_, ?_⟩
            · rw [fullL_len]; exact nb9
            · rw [fullL_len, e]; exact own_set_typed hO9 h91 (by decide) _
          have hbx9 := blk_far (p := ⟨g6, 1, none⟩) h92 hng (.slice A9 (q + 1 + 1) c9)
          have hw9 : Below wp.heap.size wp (w9.setCell ⟨g6, 1, none⟩ (.slice A9 (q + 1 + 1) c9)) := by
            have h1 := Below.on hb7 hWB
            have h2 := hbs.out
            rw [h2] at h1 ⊢
            exact (h1.trans hB9).setCell (p := ⟨g6, 1, none⟩) f1 _
          go_wp2
          go_roundw
          case rel => exact ⟨q + 1, A9, c9, by omega, by go_num, hide hF, hbx9, hw9⟩
          case measure => simp [intOf]; omega
        · go_simp
          refine hK.out _ _ ?_ (fun hHeld => ?_)
          · first | exact b1 | exact b1a | exact b1b _ | exact b9 | exact (World.cell?_setCell_far _ _ _ _ (fun e => hng e.symm)).trans b9
          clear hK K
          refine mgTake 12 143 (.string ({ data := #[100] } ++ { data := #[UInt8.ofNat (97 + q)] })) (by kernel_rfl) (by kernel_rfl) (by kernel_rfl) (by kernel_rfl) (fun _ _ _ h => h) (by rfl) ?_ (by assumption) ?_
          · intro W hW
            try dsimp only at hW
            simp only [List.getElem?_toArray, List.getElem?_cons_succ, List.getElem?_cons_zero, Option.map_some, Option.some.injEq]
            go_simp
            all_goals rfl
          try simp only [Act.put, List.setIfInBounds_toArray, List.set_cons_zero, List.set_cons_succ]
          refine mgTake 13 144 (.agg #[.string ({ data := #[100] } ++ { data := #[UInt8.ofNat (97 + q)] }), .string .empty]) (by kernel_rfl) (by kernel_rfl) (by kernel_rfl) (by kernel_rfl) (fun _ _ _ h => h) (by rfl) ?_ (by assumption) ?_
          · intro W hW
            try dsimp only at hW
            simp only [List.getElem?_toArray, List.getElem?_cons_succ, List.getElem?_cons_zero, Option.map_some, Option.some.injEq]
            go_simp
            all_goals rfl
          try simp only [Act.put, List.setIfInBounds_toArray, List.set_cons_zero, List.set_cons_succ]
          refine wpAnyH_ready (rs := [6, 14]) (by kernel_rfl) (by simp) ?_
          refine AllReadyH.cons rfl (fun K hK => ?_) (AllReadyH.cons rfl (fun K hK => ?_) AllReadyH.nil)
          · go_simp
            refine hK.out _ _ ?_ (fun hHeld => ?_)
            · first | exact b1 | exact b1a | exact b1b _ | exact b9 | exact (World.cell?_setCell_far _ _ _ _ (fun e => hng e.symm)).trans b9
            clear hK K
            refine wpAnyH_ready (rs := [14]) (by kernel_rfl) (by simp) ?_
            refine AllReadyH.cons rfl (fun K hK => ?_) AllReadyH.nil
            go_simp
            refine hK.out _ _ ?_ (fun hHeld => ?_)
            · first | exact b1 | exact b1a | exact b1b _ | exact b9 | exact (World.cell?_setCell_far _ _ _ _ (fun e => hng e.symm)).trans b9
            clear hK K
            refine wpAnyH_ready (rs := [15]) (by kernel_rfl) (by simp) ?_
            refine AllReadyH.cons rfl (fun K hK => ?_) AllReadyH.nil
            refine step_append_R rfl _ _ 59 59 rfl (.slice A7 (q + 1) c7) (.slice (some ⟨wr.heap.size + 1, 0, none⟩) 1 1) (by simp [Act.eval]) (by simp [Act.eval]) (hap.out _ _ _ hWB hGB) ?_
            rintro v9 w9 ⟨A9, c9, rfl, hO9, hB9, hK9⟩
            have h91 := (hK9 g6 (Nat.lt_of_lt_of_le (blk_lt f2) hWB.size) hng9).trans ((hWB.block g6 (blk_lt f2)).trans f2)
            have h92 := (hK9 w16.heap.size (Nat.lt_of_lt_of_le (blk_lt x7) hWB.size) hng8).trans ((hWB.block _ (blk_lt x7)).trans x7)
            have n9 := blk_cell h91 1
            have nf9 := blk_frozen h91 1
            have b9 := blk_cell h92 0
            have nb9 := blk_set h91 1 (.slice A9 (q + 1 + 1) c9)
            refine hK.out _ _ ?_ (fun hHeld => ?_)
            · first | exact b1 | exact b1a | exact b1b _ | exact b9 | exact (World.cell?_setCell_far _ _ _ _ (fun e => hng e.symm)).trans b9
            clear hK K
            refine mgTake 16 147 (.pointer (some ⟨g6, 0, none⟩)) (by kernel_rfl) (by kernel_rfl) (by kernel_rfl) (by kernel_rfl) (fun _ _ _ h => h) (by rfl) ?_ (by assumption) ?_
            · intro W hW
              try dsimp only at hW
              simp only [List.getElem?_toArray, List.getElem?_cons_succ, List.getElem?_cons_zero, Option.map_some, Option.some.injEq]
              go_simp
              all_goals rfl
            refine mgTake 17 148 (.pointer (some ⟨g6, 1, none⟩)) (by kernel_rfl) (by kernel_rfl) (by kernel_rfl) (by kernel_rfl) (fun _ _ _ h => h) (by rfl) ?_ (by assumption) ?_
            · intro W hW
              try dsimp only at hW
              simp only [List.getElem?_toArray, List.getElem?_cons_succ, List.getElem?_cons_zero, Option.map_some, Option.some.injEq]
              go_simp
              all_goals rfl
            refine wpAnyH_ready (rs := [18]) (by kernel_rfl) (by simp) ?_
            refine AllReadyH.cons rfl (fun K hK => ?_) AllReadyH.nil
            go_simp
            refine hK.out _ _ ?_ (fun hHeld => ?_)
            · first | exact b1 | exact b1a | exact b1b _ | exact b9 | exact (World.cell?_setCell_far _ _ _ _ (fun e => hng e.symm)).trans b9
            clear hK K
            refine wpAnyH_done (by kernel_rfl) ?_ _
            refine NoPanic.normal ?_
            have hF : Full (w9.setCell ⟨g6, 1, none⟩ (.slice A9 (q + 1 + 1) c9)) base g6 A9 c9 (fullL (q + 1)) := by
              have e := fullL_succ q
              rw [← hyz.out] at e
              refine ⟨f1, ?_, ?_⟩
              · rw [fullL_len]; exact nb9
              · rw [fullL_len, e]; exact own_set_typed hO9 h91 (by decide) _
            have hbx9 := blk_far (p := ⟨g6, 1, none⟩) h92 hng (.slice A9 (q + 1 + 1) c9)
            have hw9 : Below wp.heap.size wp (w9.setCell ⟨g6, 1, none⟩ (.slice A9 (q + 1 + 1) c9)) := by
              have h1 := Below.on hb7 hWB
              have h2 := hbs.out
              rw [h2] at h1 ⊢
              exact (h1.trans hB9).setCell (p := ⟨g6, 1, none⟩) f1 _
            go_wp2
            go_roundw
            case rel => exact ⟨q + 1, A9, c9, by omega, by go_num, hide hF, hbx9, hw9⟩
            case measure => simp [intOf]; omega
          · go_simp
            refine hK.out _ _ ?_ (fun hHeld => ?_)
            · first | exact b1 | exact b1a | exact b1b _ | exact b9 | exact (World.cell?_setCell_far _ _ _ _ (fun e => hng e.symm)).trans b9
            clear hK K
            refine wpAnyH_ready (rs := [6]) (by kernel_rfl) (by simp) ?_
            refine AllReadyH.cons rfl (fun K hK => ?_) AllReadyH.nil
            go_simp
            refine hK.out _ _ ?_ (fun hHeld => ?_)
            · first | exact b1 | exact b1a | exact b1b _ | exact b9 | exact (World.cell?_setCell_far _ _ _ _ (fun e => hng e.symm)).trans b9
            clear hK K
            refine wpAnyH_ready (rs := [15]) (by kernel_rfl) (by simp) ?_
            refine AllReadyH.cons rfl (fun K hK => ?_) AllReadyH.nil
            refine step_append_R rfl _ _ 59 59 rfl (.slice A7 (q + 1) c7) (.slice (some ⟨wr.heap.size + 1, 0, none⟩) 1 1) (by simp [Act.eval]) (by simp [Act.eval]) (hap.out _ _ _ hWB hGB) ?_
            rintro v9 w9 ⟨A9, c9, rfl, hO9, hB9, hK9⟩
            have h91 := (hK9 g6 (Nat.lt_of_lt_of_le (blk_lt f2) hWB.size) hng9).trans ((hWB.block g6 (blk_lt f2)).trans f2)
            have h92 := (hK9 w16.heap.size (Nat.lt_of_lt_of_le (blk_lt x7) hWB.size) hng8).trans ((hWB.block _ (blk_lt x7)).trans x7)
            have n9 := blk_cell h91 1
            have nf9 := blk_frozen h91 1
            have b9 := blk_cell h92 0
            have nb9 := blk_set h91 1 (.slice A9 (q + 1 + 1) c9)
            refine hK.out _ _ ?_ (fun hHeld => ?_)
            · first | exact b1 | exact b1a | exact b1b _ | exact b9 | exact (World.cell?_setCell_far _ _ _ _ (fun e => hng e.symm)).trans b9
            clear hK K
            refine mgTake 16 147 (.pointer (some ⟨g6, 0, none⟩)) (by kernel_rfl) (by kernel_rfl) (by kernel_rfl) (by kernel_rfl) (fun _ _ _ h => h) (by rfl) ?_ (by assumption) ?_
            · intro W hW
              try dsimp only at hW
              simp only [List.getElem?_toArray, List.getElem?_cons_succ, List.getElem?_cons_zero, Option.map_some, Option.some.injEq]
              go_simp
              all_goals rfl
            refine mgTake 17 148 (.pointer (some ⟨g6, 1, none⟩)) (by kernel_rfl) (by kernel_rfl) (by kernel_rfl) (by kernel_rfl) (fun _ _ _ h => h) (by rfl) ?_ (by assumption) ?_
            · intro W hW
              try dsimp only at hW
              simp only [List.getElem?_toArray, List.getElem?_cons_succ, List.getElem?_cons_zero, Option.map_some, Option.some.injEq]
              go_simp
              all_goals rfl
            refine wpAnyH_ready (rs := [18]) (by kernel_rfl) (by simp) ?_
            refine AllReadyH.cons rfl (fun K hK => ?_) AllReadyH.nil
            go_simp
            refine hK.out _ _ ?_ (fun hHeld => ?_)
            · first | exact b1 | exact b1a | exact b1b _ | exact b9 | exact (World.cell?_setCell_far _ _ _ _ (fun e => hng e.symm)).trans b9
            clear hK K
            refine wpAnyH_done (by kernel_rfl) ?_ _
            refine NoPanic.normal ?_
            have hF : Full (w9.setCell ⟨g6, 1, none⟩ (.slice A9 (q + 1 + 1) c9)) base g6 A9 c9 (fullL (q + 1)) := by
              have e := fullL_succ q
              rw [← hyz.out] at e
              refine ⟨f1, ?_, ?_⟩
              · rw [fullL_len]; exact nb9
              · rw [fullL_len, e]; exact own_set_typed hO9 h91 (by decide) _
            have hbx9 := blk_far (p := ⟨g6, 1, none⟩) h92 hng (.slice A9 (q + 1 + 1) c9)
            have hw9 : Below wp.heap.size wp (w9.setCell ⟨g6, 1, none⟩ (.slice A9 (q + 1 + 1) c9)) := by
              have h1 := Below.on hb7 hWB
              have h2 := hbs.out
              rw [h2] at h1 ⊢
              exact (h1.trans hB9).setCell (p := ⟨g6, 1, none⟩) f1 _
            go_wp2
            go_roundw
            case rel => exact ⟨q + 1, A9, c9, by omega, by go_num, hide hF, hbx9, hw9⟩
            case measure => simp [intOf]; omega
    · obtain rfl : q = 15 := by omega
      have hFt := hF7.out.tree (by rw [fullL_len]; omega) fullL_sz
      have hf0 := hide (show IsTree wr (some ⟨g6, 0, none⟩) 1 fT14 from hFt)
      have bf0 : wr.cell? ⟨w16.heap.size, 0, none⟩ = some (.slice (some ⟨g6, 0, none⟩) 1 1) := blk_cell x7 0
      have hB0 := Below.on hB15 hb7
      have bt0 := cell_later hb7 hbox15
      have bx0 := cell_later hb7 hxc15
      have hx0 := hide (hxT15.out.below hb7)
      clear hF7 x7 hb7 hFt hbox15 hxc15 hxT15
      go_wp2_with fail
      refine (set_at fT14 [] 0 0 ⟨#[97]⟩ ⟨#[]⟩ 18 (by kernel_rfl) (by kernel_rfl) rfl (by decide) (by decide) _ _ _ _ hf0.out).mono ?_
      rintro e u1 ⟨A18, c18, rfl, -, hb18⟩
      have z1 := below_alloc hb18 (.cells #[.slice A18 0 c18] 24)
      have hB1 := Below.on hB0 z1
      have bf1 := cell_later z1 bf0
      have bt1 := cell_later z1 bt0
      have bx1 := cell_later z1 bx0
      have hf1 := hide (hf0.out.below z1)
      have hx1 := hide (hx0.out.below z1)
      clear hB0 bf0 bt0 bx0 hf0 hx0
      go_wp2_with fail
      refine (set_at fT14 yT14 1 0 clsN ⟨#[122]⟩ 0 (by kernel_rfl) (by kernel_rfl) rfl (by decide) (by decide) _ _ _ _ hf1.out).mono ?_
      rintro e u2 ⟨A19, c19, rfl, hT19, hb19⟩
      have z2 := below_alloc hb19 (.cells #[.slice A19 1 c19] 24)
      have hB2 := Below.on hB1 z2
      have bf2 := cell_later z2 bf1
      have bt2 := cell_later z2 bt1
      have bx2 := cell_later z2 bx1
      have hf2 := hide (hf1.out.below z2)
      have hx2 := hide (hx1.out.below z2)
      clear hB1 bf1 bt1 bx1 hf1 hx1
      have by2 := (blk_cell (blk_new u2 #[.slice A19 1 c19] 24) 0).trans rfl
      have hy2 := hide (hT19.below (below_alloc (Below.refl _ _) (.cells #[.slice A19 1 c19] 24)))
      clear hT19 hb18 hb19 z1 z2
      go_wp2_with fail
      refine (long_ok 401 (by decide) _).mono ?_
      rintro e u3 ⟨rfl, z3⟩
      have hB3 := Below.on hB2 z3
      have bf3 := cell_later z3 bf2
      have bt3 := cell_later z3 bt2
      have bx3 := cell_later z3 bx2
      have by3 := cell_later z3 by2
      have hf3 := hide (hf2.out.below z3)
      have hx3 := hide (hx2.out.below z3)
      have hy3 := hide (hy2.out.below z3)
      clear hB2 bf2 bt2 bx2 by2 hf2 hx2 hy2
      go_wp2_with fail
      refine (Words_at (longS 401) [] 28 (by kernel_rfl) (by kernel_rfl) _ (by rw [long_size]; decide)).mono ?_
      rintro e u4 ⟨A4w, c4w, rfl, -, z4⟩
      have hB4 := Below.on hB3 z4
      have bf4 := cell_later z4 bf3
      have bt4 := cell_later z4 bt3
      have bx4 := cell_later z4 bx3
      have by4 := cell_later z4 by3
      have hf4 := hide (hf3.out.below z4)
      have hx4 := hide (hx3.out.below z4)
      have hy4 := hide (hy3.out.below z4)
      clear hB3 bf3 bt3 bx3 by3 hf3 hx3 hy3
      go_wp2_with fail
      refine (long_ok 400 (by decide) _).mono ?_
      rintro e u5 ⟨rfl, z5⟩
      have hB5 := Below.on hB4 z5
      have bf5 := cell_later z5 bf4
      have bt5 := cell_later z5 bt4
      have bx5 := cell_later z5 bx4
      have by5 := cell_later z5 by4
      have hf5 := hide (hf4.out.below z5)
      have hx5 := hide (hx4.out.below z5)
      have hy5 := hide (hy4.out.below z5)
      clear hB4 bf4 bt4 bx4 by4 hf4 hx4 hy4
      go_wp2_with fail
      refine (Words_at (longS 400) [longS 400] 0 (by kernel_rfl) (by kernel_rfl) _ (by rw [long_size]; decide)).mono ?_
      rintro e u6 ⟨A6w, c6w, rfl, -, z6⟩
      have hB6 := Below.on hB5 z6
      have bf6 := cell_later z6 bf5
      have bt6 := cell_later z6 bt5
      have bx6 := cell_later z6 bx5
      have by6 := cell_later z6 by5
      have hf6 := hide (hf5.out.below z6)
      have hx6 := hide (hx5.out.below z6)
      have hy6 := hide (hy5.out.below z6)
      clear hB5 bf5 bt5 bx5 by5 hf5 hx5 hy5
      go_wp2_with fail
      refine (Words_at ⟨#[97, 9, 98, 10, 99, 12, 100, 13, 101, 32, 97, 11, 98]⟩ [⟨#[97]⟩, ⟨#[98]⟩, ⟨#[99]⟩, ⟨#[100]⟩, ⟨#[101]⟩, ⟨#[97, 11, 98]⟩] 0 (by kernel_rfl) (by kernel_rfl) _ (by decide)).mono ?_
      rintro e u7 ⟨A7w, c7w, rfl, hS, z7⟩
      have hB7 := Below.on hB6 z7
      have bf7 := cell_later z7 bf6
      have bt7 := cell_later z7 bt6
      have bx7 := cell_later z7 bx6
      have by7 := cell_later z7 by6
      have hf7 := hide (hf6.out.below z7)
      have hx7 := hide (hx6.out.below z7)
      have hy7 := hide (hy6.out.below z7)
      clear hB6 bf6 bt6 bx6 by6 hf6 hx6 hy6
      have hS7 := hide hS
      clear hS
      go_wp2_with fail
      refine (Words_at ⟨#[32, 9, 10, 12, 13]⟩ [] 0 (by kernel_rfl) (by kernel_rfl) _ (by decide)).mono ?_
      rintro e u8 ⟨A8w, c8w, rfl, -, z8⟩
      have hB8 := Below.on hB7 z8
      have bf8 := cell_later z8 bf7
      have bt8 := cell_later z8 bt7
      have bx8 := cell_later z8 bx7
      have by8 := cell_later z8 by7
      have hf8 := hide (hf7.out.below z8)
      have hx8 := hide (hx7.out.below z8)
      have hS8 := hide (hS7.out.below z8)
      have hy8 := hide (hy7.out.below z8)
      clear hB7 bf7 bt7 bx7 by7 hf7 hx7 hS7 hy7
      go_wp2_with fail
      refine (class_at ex14T 0 ⟨#[]⟩ false 0 (by kernel_rfl) (by kernel_rfl) _ _ _ _ (hT'.out.below hB8)).mono ?_
      rintro e u9 ⟨rfl, z9⟩
      have hB9 := Below.on hB8 z9
      have bf9 := cell_later z9 bf8
      have bt9 := cell_later z9 bt8
      have bx9 := cell_later z9 bx8
      have by9 := cell_later z9 by8
      have hf9 := hide (hf8.out.below z9)
      have hx9 := hide (hx8.out.below z9)
      have hS9 := hide (hS8.out.below z9)
      have hy9 := hide (hy8.out.below z9)
      clear hB8 bf8 bt8 bx8 by8 hf8 hx8 hS8 hy8
      go_wp2_with fail
      refine (class_at ex14T 0 ⟨#[98, 32, 97]⟩ false 0 (by kernel_rfl) (by kernel_rfl) _ _ _ _ (hT'.out.below hB9)).mono ?_
      rintro e u10 ⟨rfl, z10⟩
      have hB10 := Below.on hB9 z10
      have bf10 := cell_later z10 bf9
      have bt10 := cell_later z10 bt9
      have bx10 := cell_later z10 bx9
      have by10 := cell_later z10 by9
      have hf10 := hide (hf9.out.below z10)
      have hx10 := hide (hx9.out.below z10)
      have hS10 := hide (hS9.out.below z10)
      have hy10 := hide (hy9.out.below z10)
      clear hB9 bf9 bt9 bx9 by9 hf9 hx9 hS9 hy9
      go_wp2_with fail
      refine (alive14_ok _).mono ?_
      rintro e u11 ⟨rfl, z11⟩
      have hB11 := Below.on hB10 z11
      have bf11 := cell_later z11 bf10
      have bt11 := cell_later z11 bt10
      have bx11 := cell_later z11 bx10
      have by11 := cell_later z11 by10
      have hf11 := hide (hf10.out.below z11)
      have hx11 := hide (hx10.out.below z11)
      have hS11 := hide (hS10.out.below z11)
      have hy11 := hide (hy10.out.below z11)
      clear hB10 bf10 bt10 bx10 by10 hf10 hx10 hS10 hy10
      obtain ⟨bX, oX, bX', oX', cX', rfl, lX, lX', x1, x2, x3⟩ := first_attr hx11.out (x := (⟨#[97]⟩, longS 400)) rfl
      obtain ⟨bY, oY, bY', oY', cY', rfl, lY, lY', y1, y2, y3⟩ := first_attr hy11.out (x := (clsN, ⟨#[122]⟩)) rfl
      simp only [List.length_map, List.length_range, List.length_cons, List.length_nil] at x1 y1
      have z12 := below_alloc (Below.refl u11.heap.size u11) (.cells (strs [⟨#[97]⟩, ⟨#[98]⟩, ⟨#[99]⟩, ⟨#[100]⟩, ⟨#[101]⟩, ⟨#[97, 11, 98]⟩]).toArray 9)
      have i6 := hide (isStrs_lit u11 u11.heap.size 9 [⟨#[97]⟩, ⟨#[98]⟩, ⟨#[99]⟩, ⟨#[100]⟩, ⟨#[101]⟩, ⟨#[97, 11, 98]⟩] (by decide) rfl)
      have hS12 := hide (hS11.out.below z12)
      go_wp2_with fail
      refine (sameS_yes _ _ _ _ _ _ [⟨#[97]⟩, ⟨#[98]⟩, ⟨#[99]⟩, ⟨#[100]⟩, ⟨#[101]⟩, ⟨#[97, 11, 98]⟩] _ hS12.out i6.out).mono ?_
      rintro e v1 ⟨rfl, q1⟩
      go_wp2_with fail
      refine (fold_at ⟨#[]⟩ ⟨#[]⟩ (by kernel_rfl) _ (by decide)).mono ?_
      rintro e v2 ⟨rfl, q2⟩
      go_wp2_with fail
      refine (fold_at ⟨#[64, 65, 90, 91, 96, 97, 122, 123]⟩ ⟨#[64, 97, 122, 91, 96, 97, 122, 123]⟩ (by kernel_rfl) _ (by decide)).mono ?_
      rintro e v3 ⟨rfl, q3⟩
      go_wp2
      go_ret
      exact ⟨rfl, Below.on hW'.out (Below.on hB11 (Below.on (Below.on (Below.on z12 q1) q2) q3))⟩


set_option maxRecDepth 100000 in
theorem lifted (os : Os) (started : os.Started) (H : Type) (enc : TypeId × Value → H) :
    ReturnsInHanded {} Try.checked os 12 .any (Rows.attrsNamesSpec.pre6 enc Try.prog Try.f12 Rows.attrsNamesRow.domain false) (Rows.attrsNamesSpec.post enc Try.prog Try.f12 false true false false) := by
  refine returnsInHanded_of_change (C := Try.checked) own started (by kernel_rfl) Try.func12
    (ChangeSpec.witness6 (enc := enc) (C := Try.checked) false ⟨#[], #[], []⟩ 8 (by kernel_rfl) (by kernel_rfl) (by kernel_rfl) (by kernel_rfl)) ?_
  intro W base args ds gs before hval0 hW hcnd _
  have hW' := hW
  obtain ⟨p, q, hA0, hV, rfl, hfz, hnd⟩ := hW
  have hA : DataW.TrodAll enc Try.prog W 0 (fun _ => true) true Try.f12.params.toList args.toList ds p := hA0
  rw [Try.params12] at hA
  obtain ⟨h1, rfl, rfl⟩ := trodAll_nil hA
  obtain rfl : args = #[] := by cases args; simp_all
  obtain ⟨rfl, rfl⟩ := trodVars_none hV
  clear hA0 hval0
  refine (walk W).mono fun e W' ⟨he, bel⟩ => ?_
  subst he
  exact ⟨_, rfl, _, _, _, [], _, [], hW', trodAll_mk1 (shut_bool Try.underlying4 _), trodAll_mk0, rfl, bel.frame _, fun h => by cases h⟩

theorem proved : Rows.AttrsNamesSaid :=
  OpenClaim.holds_of_wide 12 Try.f12 rfl rfl rfl rfl rfl rfl rfl ⟨rfl, rfl, rfl, rfl, rfl⟩ rfl rfl rfl rfl rfl (by kernel_rfl) Try.func12 (by kernel_rfl)
    (of_decide_eq_true (by kernel_rfl)) (by unfold Func.isWrapper; first | (rw [if_pos (by decide +kernel)]; kernel_rfl) | (rw [if_neg (by decide +kernel)]; exact ⟨rfl, rfl⟩))
    (fun os started H enc _ => lifted os started H enc)
#print axioms proved
end Go.Proofs.Ytfiiikbbiimdiaa.attrsNames
