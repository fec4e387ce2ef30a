/- Walks: which elements have what a list tells, and what is told of all compounds of a selector, by the program. Conditions: the tree is good, the mode right, the selector is right; the variable of the library that strings.Contains reads holds a number. -/
import Derived.Test.YtljloicgjgbplaaGreatG32
namespace Go.Proofs.YtljloicgjgbplaaGreat
open Go.RowKit

section
variable {X : Type} {V : Lies X} {Wf : Nat → Bool → Bool → X → Bool} {T : List ANode} {m : Int} {L : X → Int} {C : X → List Int} {R : X → List (List Bool)} (hK : Knows V Wf T L C R) (hP : PartsT V Wf T m R) (hg : goodB T = true)
include hK hP hg
set_option maxRecDepth 100000 in
set_option maxHeartbeats 2000000 in
theorem told14_ok (A : Option Addr) (n c : Nat) (nm : ByteArray) (op : Int) (vl : ByteArray) (fo : Bool) (a b : Int) (f : Bool) (LA : Option Addr) (ln lc : Nat) (l : List X) (w : World) (h : IsTree w A n T) (hmx0 : HasMax w) (hrow0 : IsRow V w LA ln l) (hal : ∃ d h, l.all (Wf d h true) = true) :
    Calls Tryz.prog 73 #[.agg #[.slice A n c, .int .i64 m], .agg #[.int .u8 14, .string nm, .int .u8 op, .string vl, .bool fo, .int .i64 a, .int .i64 b, .bool f, .slice LA ln lc]] w (MadeB1 w (rowOf T (anyH T L C R l))) := by
  obtain ⟨d0, h0, hall⟩ := hal
  have hT := hide h
  have hl := h.1
  have hmx := hide hmx0
  have hrow := hide hrow0
  have hll := hrow0.1
  have hln := hrow0.2.1
  have hn64 : n ≤ 64 := by have := ((goodB_iff T).1 hg).2.1; omega
  have hn1 : 1 ≤ n := by have := ((goodB_iff T).1 hg).1; omega
  have hg' := hide hg
  have hK' := hide hK
  have hP' := hide hP
  have hall' := hide hall
  clear h hmx0 hrow0 hall hg hK hP
  have e0 : ((w.alloc (.cells #[.slice A n c, .int .i64 m] 77)).alloc (.cells #[.int .u8 14, .string nm, .int .u8 op, .string vl, .bool fo, .int .i64 a, .int .i64 b, .bool f, .slice LA ln lc] 41)).cell? ⟨w.heap.size, 0, none⟩ = some (.slice A n c) := blk_cell (blk_alloc (blk_new _ _ _) _) 0
  have e1 : ((w.alloc (.cells #[.slice A n c, .int .i64 m] 77)).alloc (.cells #[.int .u8 14, .string nm, .int .u8 op, .string vl, .bool fo, .int .i64 a, .int .i64 b, .bool f, .slice LA ln lc] 41)).cell? ⟨w.heap.size, 1, none⟩ = some (.int .i64 m) := blk_cell (blk_alloc (blk_new _ _ _) _) 1
  have hX : ((w.alloc (.cells #[.slice A n c, .int .i64 m] 77)).alloc (.cells #[.int .u8 14, .string nm, .int .u8 op, .string vl, .bool fo, .int .i64 a, .int .i64 b, .bool f, .slice LA ln lc] 41)).heap[w.heap.size + 1]? = some (.cells #[.int .u8 14, .string nm, .int .u8 op, .string vl, .bool fo, .int .i64 a, .int .i64 b, .bool f, .slice LA ln lc] 41 (0, 0)) := blk_at _ _ _ _ (by simp)
  have hB0 := below_alloc (below_alloc (Below.refl w.heap.size w) (.cells #[.slice A n c, .int .i64 m] 77)) (.cells #[.int .u8 14, .string nm, .int .u8 op, .string vl, .bool fo, .int .i64 a, .int .i64 b, .bool f, .slice LA ln lc] 41)
  have s0 := blk_cell hX 0
  have s8 := blk_cell hX 8
  simp only [List.getElem?_toArray, List.getElem?_cons_succ, List.getElem?_cons_zero] at s0 s8
  clear hX
  go_enter Tryz.func73, Tryz.ntmps73
  go_wp2_with fail
  refine (none23_ok A n c m _ hn64).mono ?_
  rintro e w1 ⟨g, rfl, hg0, hBs, hb1⟩
  have e0' := cell_later hb1 e0
  have e1' := cell_later hb1 e1
  have s8' := cell_later hb1 s8
  have hB1 := Below.on hB0 hb1
  have hgw : w.heap.size + 1 < g := by simp at hg0; omega
  clear e0 e1 s0 s8 hb1 hg0 hB0
  go_wp2
  clear s8'
  go_loopw [93] (fun i wr => ∃ k : Nat, k ≤ ln ∧ i = .int .i64 k ∧ Bs wr g n n (anyH T L C R (l.take k)) ∧ Below w.heap.size w wr ∧ wr.cell? ⟨w.heap.size, 0, none⟩ = some (.slice A n c) ∧ wr.cell? ⟨w.heap.size, 1, none⟩ = some (.int .i64 m)) (fun i _ => ln - (intOf i).toNat)
  case atStart => exact ⟨0, Nat.zero_le _, rfl, hBs.congr fun j _ => by simp [anyH], hB1, e0', e1'⟩
  case round =>
    clear e0' e1' hB1 hBs
    obtain ⟨q, hq, rfl, hBs, hb, e0, e1⟩ := hrel
    by_cases hlt : q < ln
    · obtain ⟨bb, off, ld, PA, pn, pc, KA, kn, kc, rfl, hbl, c0, c1, c2, hv⟩ := hrow.out.at hlt hll
      have g0 := cell_later hb c0
      have g1 := cell_later hb c1
      have g2 := cell_later hb c2
      have hxm : l[q]'(by omega) ∈ l := List.getElem_mem _
      have htk : Hid (∀ i, anyH T L C R (l.take (q + 1)) i = (anyH T L C R (l.take q) i || isH T L C R (l[q]'(by omega)) i)) := fun i => take_any (by omega)
      have hv' := hide hv
      generalize l[q] = x at *
      have hwx := List.all_eq_true.1 hall'.out x hxm
      obtain ⟨ht, hL⟩ := hK'.out.told d0 h0 true x hwx
      obtain ⟨rfl, hl8, hU⟩ := hK'.out.read _ _ _ _ _ _ _ _ _ hv'.out
      obtain ⟨hL0, hL4⟩ := hL rfl
      have hba := below_alloc (Below.refl wr.heap.size wr) (.cells #[.int .u8 (L x), .slice PA pn pc, .slice KA kn kc] 62)
      have hBa := Below.on hb hba
      have p0 := cell_later hba e0
      have p1 := cell_later hba e1
      have x0 : (wr.alloc (.cells #[.int .u8 (L x), .slice PA pn pc, .slice KA kn kc] 62)).cell? ⟨wr.heap.size, 0, none⟩ = some (.int .u8 (L x)) := blk_cell (blk_new _ _ _) 0
      have x1 : (wr.alloc (.cells #[.int .u8 (L x), .slice PA pn pc, .slice KA kn kc] 62)).cell? ⟨wr.heap.size, 1, none⟩ = some (.slice PA pn pc) := blk_cell (blk_new _ _ _) 1
      have x2 : (wr.alloc (.cells #[.int .u8 (L x), .slice PA pn pc, .slice KA kn kc] 62)).cell? ⟨wr.heap.size, 2, none⟩ = some (.slice KA kn kc) := blk_cell (blk_new _ _ _) 2
      have hpt := hide (fun (W : World) (hW : Below w.heap.size w W) => hP'.out A n c (L x) PA pn pc KA kn kc x W (hT.out.below hW) (hmx.out.below hW) (hK'.out.stays _ _ _ _ _ _ _ _ _ _ hW hv'.out) ⟨d0, h0, true, hwx⟩)
      obtain ⟨t1, t2, t3, -, t5⟩ := (toldB_iff _ _ _).1 ht
      have hco := hide (fun (W : World) (BA : Option Addr) (BC : Nat) (hW : Below w.heap.size w W) (hBB : IsBB W BA (R x).length (R x)) (hc1 : (R x).length ≤ BC) (hc2 : BC ≤ 9223372036854775807) => (hAllO_ok A KA BA n c kn kc (R x).length BC T (L x) (C x) (R x) W (hT.out.below hW) (hU.below hW) hBB hc1 hc2 (haE_zero.2 ⟨hg'.out, ⟨by omega, hL4⟩, ht⟩)).mono fun e' W' h' => MadeOB.row (F := isH T L C R x) h' hn1 (by rw [hasL_len, hl]) (fun j hj => by unfold hasL isH; simp [bx, show j < T.length by omega]))
      have hRl : Hid (1 ≤ (R x).length ∧ (R x).length ≤ 1000000 ∧ ∀ j, j < (R x).length → (rowB (R x) j).length ≤ 1000000) := ⟨t1, by omega, fun j hj => by rw [t5 j hj]; omega⟩
      have hsz : w.heap.size ≤ wr.heap.size := hb.size
      clear hxm hwx ht hU t1 t2 t3 t5 c0 c1 c2 hv hL
      have hba' := hide hba
      have hBa' := hide hBa
      have hBs' := hide hBs
      clear hba hBa
      generalize isH T L C R x = G at *
      obtain ⟨F, hF⟩ : ∃ F, anyH T L C R (l.take q) = F := ⟨_, rfl⟩
      rw [hF] at hBs' htk hBs
      clear hF hBs
      go_wp2
      go_region_held3 (fun X => X.cell? ⟨w.heap.size, 0, none⟩ = some (.slice A n c) ∧ X.cell? ⟨w.heap.size, 1, none⟩ = some (.int .i64 m) ∧ X.cell? ⟨wr.heap.size, 0, none⟩ = some (.int .u8 (L x)) ∧ X.cell? ⟨wr.heap.size, 1, none⟩ = some (.slice PA pn pc) ∧ X.cell? ⟨wr.heap.size, 2, none⟩ = some (.slice KA kn kc)) (first | exact ⟨p0, p1, x0, x1, x2⟩ | exact ⟨q0, q1, y0, y1, y2⟩ | exact ⟨u0, u1, z0, z1, z2⟩) (first | (go_at_call 55; (with_reducible refine (hpt.out _ hBa'.out.drew).mono ?_); rintro e2 w2 ⟨BA, BC, rfl, hO, hb2⟩; have q0 := cell_later hb2 p0; have q1 := cell_later hb2 p1; have y0 := cell_later hb2 x0; have y1 := cell_later hb2 x1; have y2 := cell_later hb2 x2; have hB2 := hide (Below.on hBa'.out.drew hb2); have hBB := hide (hO.isBB rfl hRl.out.2.1 hRl.out.2.2); clear hO) | (go_at_call 100; obtain ⟨BA', BC', hbv, hc1, hc2, hBI⟩ := hBB.out; injection hbv with hv1 hv2 hv3; subst hv1 hv3; (with_reducible refine (hco.out _ _ _ hB2.out hBI hc1 (by unfold maxLen at hc2; omega)).mono ?_); rintro e3 w3 ⟨gh, HC, rfl, hg1, hg2, hG0, hb3⟩; have u0 := cell_later hb3 q0; have u1 := cell_later hb3 q1; have z0 := cell_later hb3 y0; have z1 := cell_later hb3 y1; have z2 := cell_later hb3 y2))
      have hG := hide hG0
      have hC3 := Below.on (Below.on hba'.out.drew hb2) hb3
      have hB3 := Below.on hB2.out hb3
      have hBs3 := hBs'.out.below hC3
      have hgo := hBs'.out.lt
      have hgh : g ≠ gh := by have h1 := hba'.out.size; have h2 := hb2.size; simp at h2; omega
      clear hC3 hG0 hg1 p0 p1 x0 x1 x2 q0 q1 y0 y1 y2 z0 z1 z2 hb2 hb3 hB2 hBB hBI hpt hco hba' hBa' hBs' g0 g1 g2 e0 e1 hgo
      generalize wr = wo at *
      go_wp2
      go_loopw [112] (fun i wr => ∃ k : Nat, k ≤ n ∧ i = .int .i64 k ∧ Bs wr g n n (fun j => F j || (decide (j < k) && G j)) ∧ Below w.heap.size w wr ∧ wr.cell? ⟨w.heap.size, 0, none⟩ = some (.slice A n c) ∧ wr.cell? ⟨w.heap.size, 1, none⟩ = some (.int .i64 m) ∧ Hid (∀ j, j < n → wr.cell? ⟨gh, j, none⟩ = some (.bool (G j))) ∧ gh < wr.heap.size) (fun i _ => n - (intOf i).toNat)
      case atStart => exact ⟨0, Nat.zero_le _, rfl, hBs3.congr fun j _ => by simp, hB3, u0, u1, hG, hg2⟩
      case round =>
        clear hBs3 hB3 u0 u1 hG hg2
        obtain ⟨k, hk, rfl, hBs, hb4, e0, e1, hG, hg2⟩ := hrel
        by_cases hlk : k < n
        · have c0 : wr.cell? ⟨g, k, none⟩ = some (.bool (F k)) := by have := hBs.cell hlk; simpa using this
          have ch := hG.out k hlk
          have f0 := hBs.free k
          have hlg := hBs.lt
          have hu := hide (fun (v : Bool) (hv : v = (F k || G k)) => hBs.upd (k := k) (v := v) (f' := fun j => F j || (decide (j < k + 1) && G j)) (by simp [hv]) (fun j _ hj => by
            by_cases h1 : j < k
            · simp only [decide_eq_true h1, decide_eq_true (show j < k + 1 by omega)]
            · simp only [decide_eq_false h1, decide_eq_false (show ¬ j < k + 1 by omega)]))
          have far := hide (fun (v : Value) => And.intro ((World.cell?_setCell_far wr ⟨g, k, none⟩ ⟨w.heap.size, 0, none⟩ v (by simp; omega)).trans e0) ((World.cell?_setCell_far wr ⟨g, k, none⟩ ⟨w.heap.size, 1, none⟩ v (by simp; omega)).trans e1))
          have far2 := hide (fun (v : Value) (j : Nat) (hj : j < n) => (World.cell?_setCell_far wr ⟨g, k, none⟩ ⟨gh, j, none⟩ v hgh).trans (hG.out j hj))
          clear hBs
          generalize F k = v at *
          generalize G k = u at *
          cases v
          · go_wp2
            go_roundw
            case rel => exact ⟨k + 1, by omega, by go_num, hu.out _ (by simp), hb4.setCell (by show w.heap.size ≤ g; omega) _, (far.out _).1, (far.out _).2, far2.out _, by simpa using hg2⟩
            case measure => simp [intOf]; omega
          · go_wp2
            go_roundw
            case rel => exact ⟨k + 1, by omega, by go_num, hu.out _ (by simp), hb4.setCell (by show w.heap.size ≤ g; omega) _, (far.out _).1, (far.out _).2, far2.out _, by simpa using hg2⟩
            case measure => simp [intOf]; omega
        · obtain rfl : n = k := by omega
          have hBs5 := hide (hBs.congr (f' := anyH T L C R (l.take (q + 1))) fun j hj => by rw [htk.out]; simp [hj])
          clear hBs hG
          go_wp2
          go_roundw
          case rel => exact ⟨q + 1, by omega, by go_num, hBs5.out, hb4, e0, e1⟩
          case measure => simp [intOf]; omega
    · obtain rfl : ln = q := by omega
      have hfin : Hid (∀ j, j < n → anyH T L C R l j = anyH T L C R (l.take ln) j) := fun j _ => by rw [← hll, List.take_length]
      go_wp2
      go_ret
      exact madeB1_row hl hn64 hBs hb hfin.out
end
end Go.Proofs.YtljloicgjgbplaaGreat
/- Walks: what is told of each simple selector, of each compound of a selector, by the program. Conditions: the tree is good, the mode right, the selector is right; the variable of the library that strings.Contains reads holds a number. -/
namespace Go.Proofs.YtljloicgjgbplaaGreat
open Go.RowKit

theorem mk_tab (n : Nat) (hn : n ≤ 1000) (W : World) : (Instr.makeSlice 65 (.int .i64 n) (.int .i64 n)).run Tryz.prog W = .ok (.slice (some ⟨W.heap.size, 0, none⟩) n n) (W.alloc (.cells (madeCells #[.slice none 0 0] n) 30)) := by
  obtain ⟨i, hi, hz0, hz1, hz2⟩ := info_parts info_bb
  have hr := run_make (P := Tryz.prog) W 65 30 i (.slice none 0 0) Tryz.underlying65 hi hz0 .i64 .i64 (n : Int) (n : Int) (by omega) (by omega) (by rw [hz2]; omega) (by omega)
  rw [hz1, show (Value.slice none 0 0).cells = #[.slice none 0 0] from rfl] at hr
  simpa using hr
/-- A table of rows of truth values in a block, the first k of them laid. -/
def Ts (w : World) (g n k : Nat) (H : List (List Bool)) : Prop :=
  ∃ (cs : Array Value) (rA : Nat → Option Addr) (rC : Nat → Nat), w.heap[g]? = some (.cells cs 30 (0, 0)) ∧ cs.size = n ∧ (∀ j, j < n → ∃ A l c, cs[j]? = some (.slice A l c)) ∧
    ∀ j, j < k → cs[j]? = some (.slice (rA j) (rowB H j).length (rC j)) ∧ IsBools w (rA j) (rowB H j).length (rowB H j) ∧ (rowB H j).length ≤ rC j ∧ rC j ≤ 9223372036854775807
theorem Ts.new (W : World) (g n : Nat) (H : List (List Bool)) (hg : g = W.heap.size) : Ts (W.alloc (.cells (madeCells #[.slice none 0 0] n) 30)) g n 0 H := by
  subst hg
  refine ⟨_, fun _ => none, fun _ => 0, blk_new _ _ _, by simp [madeCells], fun j hj => ⟨none, 0, 0, ?_⟩, fun j hj => absurd hj (by omega)⟩
  rw [← Array.getElem?_toList, toList_madeCells_one]
  simp [hj]
theorem Ts.below {w w' : World} {g n k : Nat} {H : List (List Bool)} (h : Ts w g n k H) (hb : Below w.heap.size w w') : Ts w' g n k H := by
  obtain ⟨cs, rA, rC, h1, h2, h3, h4⟩ := h
  exact ⟨cs, rA, rC, (hb.block g (blk_lt h1)).trans h1, h2, h3, fun j hj => ⟨(h4 j hj).1, (h4 j hj).2.1.below hb, (h4 j hj).2.2⟩⟩
theorem IsBools.farS {w : World} {g k : Nat} {cs : Array Value} {t : TypeId} (hg : w.heap[g]? = some (.cells cs t (0, 0))) (hs : ∀ j, j < cs.size → ∃ A l c, cs[j]? = some (.slice A l c)) {A : Option Addr} {n : Nat} {xs : List Bool} (h : IsBools w A n xs) (u : Value) : IsBools (w.setCell ⟨g, k, none⟩ u) A n xs := by
  obtain ⟨h1, h2, h3⟩ := h
  refine ⟨h1, h2, fun hn => ?_⟩
  obtain ⟨b, off, ha, hb, hc⟩ := h3 hn
  have hne : g ≠ b := by
    rintro rfl
    have h0 := hc 0 hn
    rw [blk_cell hg] at h0
    rcases Nat.lt_or_ge (off + 0) cs.size with h4 | h4
    · obtain ⟨A', l', c', h5⟩ := hs _ h4
      rw [h5] at h0; cases h0
    · rw [Array.getElem?_eq_none h4] at h0; cases h0
  exact ⟨b, off, ha, by simpa using hb, fun j hj => (World.cell?_setCell_far w ⟨g, k, none⟩ ⟨b, off + j, none⟩ u hne).trans (hc j hj)⟩
theorem Ts.set {w : World} {g n k : Nat} {H : List (List Bool)} (h : Ts w g n k H) (hk : k < n) (A : Option Addr) (c : Nat) (hI : IsBools w A (rowB H k).length (rowB H k)) (h1 : (rowB H k).length ≤ c) (h2 : c ≤ 9223372036854775807) : Ts (w.setCell ⟨g, k, none⟩ (.slice A (rowB H k).length c)) g n (k + 1) H := by
  obtain ⟨cs, rA, rC, q1, q2, q3, q4⟩ := h
  have hs : ∀ j, j < cs.size → ∃ A l c, cs[j]? = some (.slice A l c) := fun j hj => q3 j (by omega)
  refine ⟨_, fun j => if j = k then A else rA j, fun j => if j = k then c else rC j, blk_set q1 k _, by simp [q2], fun j hj => ?_, fun j hj => ?_⟩
  · by_cases hjk : j = k
    · subst hjk; exact ⟨A, (rowB H j).length, c, by simp [q2, hj]⟩
    · rw [Array.getElem?_setIfInBounds_ne (by omega)]; exact q3 j hj
  · by_cases hjk : j = k
    · subst hjk
      simp only [if_true]
      exact ⟨by simp [q2, hk], IsBools.farS q1 hs hI _, h1, h2⟩
    · simp only [if_neg hjk]
      rw [Array.getElem?_setIfInBounds_ne (by omega)]
      obtain ⟨r1, r2, r3⟩ := q4 j (by omega)
      exact ⟨r1, IsBools.farS q1 hs r2 _, r3⟩
theorem Ts.isBB {w : World} {g n : Nat} {H : List (List Bool)} (h : Ts w g n n H) (hl : H.length = n) (hn : n ≤ 1000) : IsBB w (some ⟨g, 0, none⟩) n H := by
  obtain ⟨cs, rA, rC, q1, q2, q3, q4⟩ := h
  exact ⟨hl, by omega, fun _ => ⟨g, 0, rA, rC, rfl, blk_lt q1, fun j hj => by rw [Nat.zero_add, blk_cell q1]; exact (q4 j hj).1, fun j hj => (q4 j hj).2⟩⟩
theorem Ts.cell {w : World} {g n k : Nat} {H : List (List Bool)} (h : Ts w g n k H) {j : Nat} (hj : j < n) : ∃ A l c, w.cell? ⟨g, j, none⟩ = some (.slice A l c) := by
  obtain ⟨cs, rA, rC, q1, q2, q3, q4⟩ := h
  obtain ⟨A, l, c, h1⟩ := q3 j hj
  exact ⟨A, l, c, by rw [blk_cell q1, h1]⟩
theorem Ts.free {w : World} {g n k : Nat} {H : List (List Bool)} (h : Ts w g n k H) (j : Nat) : w.frozen? ⟨g, j, none⟩ = false := by
  obtain ⟨cs, rA, rC, q1, q2, q3, q4⟩ := h
  exact blk_frozen q1 j
theorem Ts.lt {w : World} {g n k : Nat} {H : List (List Bool)} (h : Ts w g n k H) : g < w.heap.size := by
  obtain ⟨cs, rA, rC, q1, q2, q3, q4⟩ := h
  exact blk_lt q1
theorem px_mem {X : Type} {l : List (CompX X)} {j : Nat} (h : j < l.length) : px l j ∈ l := by
  unfold px; rw [List.getD_eq_getElem?_getD, List.getElem?_eq_getElem h]; exact List.getElem_mem _
section
variable {X : Type} {V : Lies X} {Wf : Nat → Bool → Bool → X → Bool} {T : List ANode} {m : Int} {L : X → Int} {C : X → List Int} {R : X → List (List Bool)} (hK : Knows V Wf T L C R) (hP : PartsT V Wf T m R) (hg : goodB T = true)
omit hK hP hg in
set_option maxRecDepth 100000 in
theorem told0_ok (k : Int) (hk : ¬ (9 ≤ k ∧ k ≤ 14)) (A : Option Addr) (n c : Nat) (nm : ByteArray) (op : Int) (vl : ByteArray) (fo : Bool) (a b : Int) (f : Bool) (LA : Option Addr) (ln lc : Nat) (w : World) :
    Calls Tryz.prog 73 #[.agg #[.slice A n c, .int .i64 m], .agg #[.int .u8 k, .string nm, .int .u8 op, .string vl, .bool fo, .int .i64 a, .int .i64 b, .bool f, .slice LA ln lc]] w (MadeB1 w []) := by
  have g1 : (k == 11) = false := by rw [beq_eq_false_iff_ne]; omega
  have g2 : (k == 12) = false := by rw [beq_eq_false_iff_ne]; omega
  have g3 : (k == 13) = false := by rw [beq_eq_false_iff_ne]; omega
  have g4 : (k == 9) = false := by rw [beq_eq_false_iff_ne]; omega
  have g5 : (k == 10) = false := by rw [beq_eq_false_iff_ne]; omega
  have g6 : (k == 14) = false := by rw [beq_eq_false_iff_ne]; omega
  clear hk
  go_enter Tryz.func73, Tryz.ntmps73
  go_wp2
  go_ret
  exact madeB1_nil (below_alloc (below_alloc (Below.refl _ _) _) _)
include hK hP hg
theorem toldT_ok : ToldT V Wf T m L C R := by
  intro A n c s x w h hmx hr hB
  obtain ⟨d, hh, hB⟩ := hB
  obtain ⟨k, nm, op, vl, fo, a, b, f, LA, ln, lc⟩ := s
  obtain ⟨k', nm', op', vl', fo', a', b', f', l⟩ := x
  obtain ⟨e1, e2, e3, e4, e5, e6, e7, e8, hl, -, -, -, -, -, -, -, -, hrow⟩ := hr
  simp only at e1 e2 e3 e4 e5 e6 e7 e8 hl hrow
  subst e1 e2 e3 e4 e5 e6 e7 e8
  simp only
  unfold toldM
  by_cases hk : 9 ≤ k ∧ k ≤ 14
  · rw [if_pos hk]
    have hal := simR_list hB hk
    have hal' : ∃ d h r, l.all (Wf d h r) = true := ⟨_, _, _, hal⟩
    obtain rfl | rfl | rfl | rfl | rfl | rfl : k = 9 ∨ k = 10 ∨ k = 11 ∨ k = 12 ∨ k = 13 ∨ k = 14 := by omega
    · exact told9_ok hK hP hg A n c nm op vl fo a b f LA ln lc l w h hmx hrow hal' (simR_anb hB (.inl rfl))
    · exact told10_ok hK hP hg A n c nm op vl fo a b f LA ln lc l w h hmx hrow hal' (simR_anb hB (.inr rfl))
    · exact told11_ok hK hP hg 11 (.inl rfl) A n c nm op vl fo a b f LA ln lc l w h hmx hrow hal'
    · exact told11_ok hK hP hg 12 (.inr rfl) A n c nm op vl fo a b f LA ln lc l w h hmx hrow hal'
    · exact told13_ok hK hP hg A n c nm op vl fo a b f LA ln lc l w h hmx hrow hal'
    · exact told14_ok hK hP hg A n c nm op vl fo a b f LA ln lc l w h hmx hrow ⟨_, _, hal⟩
  · rw [if_neg hk]
    exact told0_ok k hk A n c nm op vl fo a b f LA ln lc w
set_option maxRecDepth 100000 in
set_option maxHeartbeats 4000000 in
theorem partsT_ok (hmd : modeB T m = true) : PartsT (IsCpx V) (wholeB Wf) T m (rowsM T m L C R) := by
  intro A n c ld PA pn pc KA kn kc x w h hmx0 hx hB
  obtain ⟨d0, h0, r0, hB⟩ := hB
  have hto := hide (toldT_ok hK hP hg)
  have hV := hide hK.stays
  clear hK hP
  have hT := hide h
  have hl := h.1
  have hmx := hide hmx0
  have hg' := hide hg
  have hmd' := hide hmd
  have hn64 : n ≤ 64 := by have := ((goodB_iff T).1 hg).2.1; omega
  obtain ⟨-, -, w3, w4, -, w6⟩ := wholeB_iff.1 hB
  obtain ⟨rfl, hl8, hpl, hkl, hrowP, hrowK, hcP, hcK⟩ := hx
  have hparts := hide hrowP
  have hpl' := hide hpl
  have hp64 : pn ≤ 64 := by omega
  have hw6 := hide w6
  obtain ⟨RR, hRR⟩ : ∃ RR, rowsM T m L C R x = RR := ⟨_, rfl⟩
  have hrow := hide (fun j (hj : j < pn) => (show rowB RR j = rowOf T (compM T m L C R (px x.parts j)) from by rw [← hRR]; exact rowsM_row T m L C R (by omega)))
  have hRl : Hid (RR.length = pn) := by show _ = _; rw [← hRR, rowsM_len, hpl]
  rw [hRR, hRl.out]
  clear h hmx0 hmd hB w3 w4 w6 hrowP hrowK hkl hcK hRR hpl hg
  have hX1 : ((w.alloc (.cells #[.slice A n c, .int .i64 m] 77)).alloc (.cells #[.int .u8 x.lead, .slice PA pn pc, .slice KA kn kc] 62)).heap[w.heap.size]? = some (.cells #[.slice A n c, .int .i64 m] 77 (0, 0)) := blk_alloc (blk_new _ _ _) _
  have hX2 : ((w.alloc (.cells #[.slice A n c, .int .i64 m] 77)).alloc (.cells #[.int .u8 x.lead, .slice PA pn pc, .slice KA kn kc] 62)).heap[w.heap.size + 1]? = some (.cells #[.int .u8 x.lead, .slice PA pn pc, .slice KA kn kc] 62 (0, 0)) := blk_at _ _ _ _ (by simp)
  have hB0 := below_alloc (below_alloc (Below.refl w.heap.size w) (.cells #[.slice A n c, .int .i64 m] 77)) (.cells #[.int .u8 x.lead, .slice PA pn pc, .slice KA kn kc] 62)
  have x1L := blk_cell hX2 1
  simp only [List.getElem?_toArray, List.getElem?_cons_succ, List.getElem?_cons_zero] at x1L
  obtain ⟨W1, hW1⟩ : ∃ W1, W1 = ((w.alloc (.cells #[.slice A n c, .int .i64 m] 77)).alloc (.cells #[.int .u8 x.lead, .slice PA pn pc, .slice KA kn kc] 62)) := ⟨_, rfl⟩
  rw [← hW1] at hX1 hX2 hB0
  have e0 : W1.cell? ⟨w.heap.size, 0, none⟩ = some (.slice A n c) := blk_cell hX1 0
  have e1 : W1.cell? ⟨w.heap.size, 1, none⟩ = some (.int .i64 m) := blk_cell hX1 1
  have x1 : W1.cell? ⟨w.heap.size + 1, 1, none⟩ = some (.slice PA pn pc) := blk_cell hX2 1
  clear hX1 hX2
  go_enter Tryz.func55, Tryz.ntmps55
  go_wp2_with fail
  rw [← hW1]
  clear x1L hW1
  go_loopw [5, 16] (fun v s wr => ∃ q : Nat, q ≤ pn ∧ s = .int .i64 q ∧ OwnBB wr W1.heap.size v q RR ∧ Below W1.heap.size W1 wr) (fun _ s _ => pn - (intOf s).toNat)
  case atStart => exact ⟨0, Nat.zero_le _, rfl, ownBB_nil _ _ _, Below.refl _ _⟩
  case round =>
    obtain ⟨q, hq, rfl, hown, hb⟩ := hrel
    have hBr := Below.on hB0 hb
    have e0r := cell_later hb e0
    have e1r := cell_later hb e1
    have x1r := cell_later hb x1
    by_cases hlt : q < pn
    · obtain ⟨b, off, SA, SC, rfl, hbl, c0, c1, hc⟩ := hparts.out.2.2 (by omega)
      obtain ⟨r1, r2, r3, r4⟩ := hc q hlt
      have g0 := cell_later hBr (c0 q hlt)
      have g1 := cell_later hBr (c1 q hlt)
      have hrq := hide (hrow.out q hlt)
      have hcB := hide (hw6.out (px x.parts q) (px_mem (by rw [← hpl'.out]; exact hlt)))
      generalize px x.parts q = cc at *
      generalize SA q = sa at *
      generalize SC q = sc at *
      obtain ⟨sl, S, hS, hsr⟩ := r1
      have hS' := hide hS
      have hsr' := hide hsr
      obtain ⟨sn, hsn⟩ : ∃ sn, cc.sims.length = sn := ⟨_, rfl⟩
      rw [hsn] at g1 r2 hS' hsr'
      have hsn' := hide hsn
      have hs64 : sn ≤ 64 := by have := (compB_iff.1 hcB.out).2.1; omega
      clear c0 c1 hc sl hS hsr hsn
      obtain ⟨HH, hHH⟩ : ∃ HH, cc.sims.map (toldM T m L C R) = HH := ⟨_, rfl⟩
      have hrk := hide (fun k (hk : k < sn) => (show rowB HH k = toldM T m L C R (sy cc.sims k) from by rw [← hHH]; exact told_row T m L C R (by rw [hsn'.out]; exact hk)))
      have hHl : Hid (HH.length = sn) := by show _ = _; rw [← hHH, List.length_map, hsn'.out]
      have hrn : Hid ((rowB RR q).length = n) := by show _ = _; rw [hrq.out, rowOf_len, hl]
      have hcal := hide (calV_comp T m L C R (S := S) hg'.out hmd'.out (by rw [hS'.out.1, hsn'.out]) (fun j hj => (hsr'.out j (by rw [← hS'.out.1]; exact hj)).same) hcB.out)
      rw [hHH] at hcal
      clear hHH
      have hco := hide (fun (W : World) (TA : Option Addr) (hW : Below w.heap.size w W) (hWs : W1.heap.size ≤ W.heap.size) (hI : IsBB W TA sn HH) => (compAllO_ok A n c T cc.tag sa sn sc S m TA sn sn HH W (hT.out.below hW) (hS'.out.below hW) hI (hmx.out.below hW) hcal.out.1).mono fun e' W' h' => (show ∃ (A' : Option Addr) (c' : Nat), e' = .returned (.tuple #[.slice A' n c', .int .i64 0]) ∧ W'.ownsRow W1.heap.size 4 1 (.slice A' n c') n (bools (rowB RR q)) ∧ Below W.heap.size W W' from by
        obtain ⟨A', c', rfl, hO, hb'⟩ := h'
        have hq : calL T cc.tag S m HH = rowB RR q := by have h1 := hcal.out.2; unfold calV at h1; rw [if_pos hcal.out.1] at h1; rw [h1, hrq.out]
        rw [hq] at hO ⊢
        unfold OwnB at hO
        rw [hrn.out] at hO ⊢
        exact ⟨A', c', rfl, own_base hO hWs, hb'⟩))
      have hmk := mk_tab sn (by omega)
      generalize wr = w0 at *
      have hBa := below_alloc (below_alloc (Below.refl w0.heap.size w0) (.cells #[.string cc.tag, .slice sa sn sc] 70)) (.cells (madeCells #[.slice none 0 0] sn) 30)
      have hY : ((w0.alloc (.cells #[.string cc.tag, .slice sa sn sc] 70)).alloc (.cells (madeCells #[.slice none 0 0] sn) 30)).heap[w0.heap.size]? = some (.cells #[.string cc.tag, .slice sa sn sc] 70 (0, 0)) := blk_alloc (blk_new _ _ _) _
      have hTs := Ts.new (w0.alloc (.cells #[.string cc.tag, .slice sa sn sc] 70)) (w0.heap.size + 1) sn HH (by simp)
      have y0 := blk_cell hY 0
      have y1 := blk_cell hY 1
      have x1z := blk_cell (blk_new w0 #[.string cc.tag, .slice sa sn sc] 70) 1
      simp only [List.getElem?_toArray, List.getElem?_cons_succ, List.getElem?_cons_zero] at y0 y1 x1z
      clear hY
      go_wp2_with fail
      clear x1z
      go_loopw [27] (fun i wr => ∃ k : Nat, k ≤ sn ∧ i = .int .i64 k ∧ Ts wr (w0.heap.size + 1) sn k HH ∧ Below w0.heap.size w0 wr ∧ wr.cell? ⟨w0.heap.size, 0, none⟩ = some (.string cc.tag) ∧ wr.cell? ⟨w0.heap.size, 1, none⟩ = some (.slice sa sn sc)) (fun i _ => sn - (intOf i).toNat)
      case atStart => exact ⟨0, Nat.zero_le _, rfl, hTs, hBa, y0, y1⟩
      case round =>
        clear hTs hBa y0 y1 hmk
        obtain ⟨k, hk, rfl, hTs, hb2, y0, y1⟩ := hrel
        have hB2 := Below.on hBr hb2
        have p0 := cell_later hb2 e0r
        have p1 := cell_later hb2 e1r
        by_cases hlk : k < sn
        · obtain ⟨b3, o3, rfl, hb3l, hc3⟩ := hS'.out.2.2 (by omega)
          obtain ⟨s0, s1, s2, s3, s4, s5, s6, s7, s8⟩ := (hc3 k hlk).later hB2
          have hrl := hide (hsr'.out k hlk)
          have hsB := hide ((compB_iff.1 hcB.out).2.2.2 (sy cc.sims k) (sy_mem (by rw [hsn'.out]; exact hlk)))
          have hrk1 := hrk.out k hlk
          generalize sm S k = s at *
          have hba := below_alloc (Below.refl wr.heap.size wr) (.cells #[.int .u8 s.kind, .string s.name, .int .u8 s.op, .string s.val, .bool s.fold, .int .i64 s.a, .int .i64 s.b, .bool s.of, .slice s.LA s.ln s.lc] 41)
          obtain ⟨t0, t1, t2, t3, t4, t5, t6, t7, t8⟩ := simAt_at wr wr.heap.size rfl s.kind s.name s.op s.val s.fold s.a s.b s.of s.LA s.ln s.lc
          have p0a := cell_later hba p0
          have p1a := cell_later hba p1
          have hk1 := hide (hto.out A n c s (sy cc.sims k) _ (hT.out.below (Below.on hB2 hba)) (hmx.out.below (Below.on hB2 hba)) (hrl.out.below hV.out (Below.on hB2 hba)) ⟨d0, h0, hsB.out⟩)
          rw [← hrk1] at hk1
          have hba' := hide hba
          have hTs' := hide hTs
          clear hc3 hrk1 hba hTs
          go_wp2_with fail
          (with_reducible refine hk1.out.mono ?_)
          rintro e3 w3 ⟨A3, c3, rfl, hI3, h31, h32, hb3⟩
          have hC3 := Below.on hba'.out hb3
          have hTs3 := hTs'.out.below hC3
          obtain ⟨A9, l9, c9, tc⟩ := hTs3.cell hlk
          have tf := hTs3.free k
          have tl := hTs3.lt
          have hTs4 := hide (hTs3.set hlk A3 c3 hI3 h31 h32)
          have hD3 := hide (Below.on hb2 hC3)
          have z0 := cell_later hC3 y0
          have z1 := cell_later hC3 y1
          clear hTs3 hI3 hb3 hC3 s0 s1 s2 s3 s4 s5 s6 s7 s8 t0 t1 t2 t3 t4 t5 t6 t7 t8 p0a p1a y0 y1
          generalize (rowB HH k).length = rl at *
          go_wp2
          go_roundw
          case rel => exact ⟨k + 1, by omega, by go_num, hTs4.out, hD3.out.setCell (by show w0.heap.size ≤ w0.heap.size + 1; omega) _, (World.cell?_setCell_far w3 ⟨w0.heap.size + 1, k, none⟩ ⟨w0.heap.size, 0, none⟩ _ (by simp)).trans z0, (World.cell?_setCell_far w3 ⟨w0.heap.size + 1, k, none⟩ ⟨w0.heap.size, 1, none⟩ _ (by simp)).trans z1⟩
          case measure => simp [intOf]; omega
        · obtain rfl : sn = k := by omega
          have hC := hide (hco.out wr _ hB2 (Nat.le_trans hb.size hb2.size) (hTs.isBB hHl.out (by omega)))
          have hown2 := hown.below hb2
          have hbw := Below.on hb hb2
          clear hTs hown hco
          go_wp2_with fail
          (with_reducible refine hC.out.mono ?_)
          rintro e4 w4 ⟨A4, c4, rfl, hO4, hb4⟩
          have hown4 := hown2.below hb4
          have hB4 := hide (Below.on hbw hb4)
          have hO4' := hide hO4
          have hsz4 : W1.heap.size ≤ w4.heap.size := hB4.out.size
          clear hown2 hb4 hO4 hC hbw
          go_wp2_with (at_builtin; refine wpList_pushBB rfl _ _ rfl hown4 A4 n c4 hrn.out.symm hO4'.out _ rfl rfl (by omega) hsz4 ?_)
          intro A5 c5 w5 hown5 hgr
          have hB5 := hide (hgr.below (Nat.le_refl _) hB4.out)
          have hown5' := hide hown5
          clear hgr hown5 hown4
          go_wp2
          go_roundw
          case rel => exact ⟨q + 1, by omega, by go_num, hown5'.out, hB5.out⟩
          case measure => simp [intOf]; omega
    · obtain rfl : pn = q := by omega
      obtain ⟨aA, aC, q1, q2⟩ := id hown
      obtain ⟨A9, c9, rfl, -, -⟩ := sl_of_own q1
      clear q1 q2
      go_wp2
      go_ret
      exact ⟨A9, c9, rfl, hown.base hB0.size, hBr⟩
end
end Go.Proofs.YtljloicgjgbplaaGreat
