/- Walks: a child is taken out of a list of children that the call has made. Conditions: at most a thousand children. -/
import Derived.Test.YtmdccplhmniiiaaGreatTset
import Derived.Test.YtmdccplhmniiiaaGreatDel
namespace Go.Proofs.YtmdccplhmniiiaaGreat
open Go.RowKit

theorem takes1_ok (y x : Int) (pb : Nat) (w : World) (hp : w.cell? ⟨pb, 0, none⟩ = some (.int .i64 x)) :
    Calls Tryz.prog 72 #[.int .i64 y, .pointer (some ⟨pb, 0, none⟩)] w fun e w' => e = .returned (.bool (decide (y = x))) ∧ w = w' := by
  go_enter Tryz.func72, Tryz.ntmps72
  go_wp2
  go_ret
  exact ⟨ret_bool (by first | rfl | simp), rfl⟩

/-- Where the first x is, or -1. -/
theorem indexFn_ok (A : Option Addr) (n c : Nat) (xs : List Int) (x : Int) (pb : Nat) (w : World) (h : IsInts w A n xs) (hp : w.cell? ⟨pb, 0, none⟩ = some (.int .i64 x)) :
    Calls Tryz.prog 88 #[.slice A n c, .func (.func 72) #[] #[.pointer (some ⟨pb, 0, none⟩)]] w fun e w' => e = .returned (.int .i64 (posn xs x)) ∧ w = w' := by
  obtain ⟨hl, hn, ho⟩ := h
  go_enter Tryz.func88, Tryz.ntmps88
  go_wp2
  go_loop [5, 8] (fun _ i => ∃ k : Nat, k ≤ n ∧ i = .int .i64 k ∧ Hid (∀ j, j < k → ix xs j ≠ x)) (fun _ i => n - (intOf i).toNat)
  case atStart => exact ⟨0, Nat.zero_le _, rfl, fun j hj => absurd hj (by omega)⟩
  case round =>
    obtain ⟨k, hk, rfl, hne⟩ := hrel
    by_cases hlt : k < n
    · obtain ⟨b, off, rfl, hbl, hc⟩ := ho (by omega)
      have hck := hc k hlt
      clear hc
      have hcl := hide (takes1_ok (ix xs k) x pb w hp)
      by_cases he : ix xs k = x
      · have hq := hide (posn_at (by omega) he hne.out)
        have he' : decide (ix xs k = x) = true := decide_eq_true he
        clear he hne
        go_wp2_with (go_at_call 72; refine hcl.out.mono ?_; rintro e w1 ⟨rfl, rfl⟩)
        go_ret
        exact ⟨ret_int hq.out.symm, rfl⟩
      · have he' : decide (ix xs k = x) = false := decide_eq_false he
        have he2 := hide he
        clear he
        go_wp2_with (go_at_call 72; refine hcl.out.mono ?_; rintro e w1 ⟨rfl, rfl⟩)
        go_round
        case rel => exact ⟨k + 1, by omega, by go_num, fun j hj => by
          by_cases h : j = k
          · subst h; exact he2.out
          · exact hne.out j (by omega)⟩
        case measure => simp [intOf]; omega
    · have hq := hide (posn_no (xs := xs) (x := x) (fun j hj => hne.out j (by omega)))
      clear hne
      go_wp2
      go_ret
      exact ⟨ret_int hq.out.symm, rfl⟩

def less1 (xs : List Int) (x : Int) : List Int := xs.filter fun y => decide (y ≠ x)
theorem less1_len (xs : List Int) (x : Int) : (less1 xs x).length ≤ xs.length := List.length_filter_le _ _
theorem less1_none {xs : List Int} {x : Int} (h : x ∉ xs) : less1 xs x = xs := by
  unfold less1
  rw [List.filter_eq_self]
  intro y hy
  simp
  rintro rfl
  exact h hy
theorem less1_snoc {xs : List Int} {j : Nat} (hj : j < xs.length) (x : Int) : less1 (xs.take (j + 1)) x = less1 (xs.take j) x ++ if ix xs j = x then [] else [ix xs j] := by
  unfold less1
  rw [List.take_succ_eq_append_getElem hj, List.filter_append, ← ix_get hj]
  by_cases h : ix xs j = x <;> simp [h]
theorem less1_first {xs : List Int} {p : Nat} (hp : p < xs.length) {x : Int} (he : ix xs p = x) (hb : ∀ j, j < p → ix xs j ≠ x) : less1 (xs.take (p + 1)) x = xs.take p := by
  rw [less1_snoc hp, if_pos he, List.append_nil]
  refine less1_none fun hm => ?_
  obtain ⟨j, hj, hje⟩ := List.getElem_of_mem hm
  rw [List.length_take] at hj
  rw [List.getElem_take] at hje
  exact hb j (by omega) (by rw [ix_get (by omega)]; exact hje)
/-- How the row stands when j have been looked at and i kept. -/
def rowAt (xs : List Int) (x : Int) (j : Nat) : List Int := less1 (xs.take j) x ++ xs.drop (less1 (xs.take j) x).length
theorem rowAt_len (xs : List Int) (x : Int) (j : Nat) : (rowAt xs x j).length = xs.length := by
  have := less1_len (xs.take j) x
  rw [List.length_take] at this
  unfold rowAt
  rw [List.length_append, List.length_drop]; omega
theorem rowAt_get {xs : List Int} {x : Int} {j : Nat} (hj : j < xs.length) : ix (rowAt xs x j) j = ix xs j := by
  have := less1_len (xs.take j) x
  rw [List.length_take] at this
  unfold rowAt ix
  rw [List.getD_eq_getElem?_getD, List.getElem?_append_right (by omega), List.getElem?_drop, List.getD_eq_getElem?_getD]
  congr 2; omega
theorem rowAt_keep {xs : List Int} {x : Int} {j : Nat} (hj : j < xs.length) (hne : ix xs j ≠ x) : (rowAt xs x j).set (less1 (xs.take j) x).length (ix xs j) = rowAt xs x (j + 1) := by
  have hle := less1_len (xs.take j) x
  rw [List.length_take] at hle
  unfold rowAt
  rw [less1_snoc hj, if_neg hne, List.set_append_right _ _ (Nat.le_refl _), Nat.sub_self, List.length_append, List.append_assoc]
  congr 1
  rw [List.drop_eq_getElem_cons (by omega), List.set_cons_zero]
  simp
theorem rowAt_drop {xs : List Int} {x : Int} {j : Nat} (hj : j < xs.length) (he : ix xs j = x) : rowAt xs x j = rowAt xs x (j + 1) := by
  unfold rowAt; rw [less1_snoc hj, if_pos he, List.append_nil]

theorem run_clearI {P : Program} (w : World) (t e : TypeId) (ht : P.underlying t = some (.slice e)) (hz : ∀ w, (zeroValue e).run P w = .ok (.int .i64 0) w) (g off k : Nat) (hk : 0 < k) {cur : Array Value} {te : TypeId} (hg : w.heap[g]? = some (.cells cur te (0, 0))) (hfit : off + k ≤ cur.size) :
    ∃ zs : List Value, zs.length = k ∧ ∀ ty c, (Builtin.clear_ #[t] ty #[.slice (some ⟨g, off, none⟩) k c]).run P w = .ok (.tuple #[]) (w.setRow g (cur.toList.take off ++ zs ++ cur.toList.drop (off + zs.length)).toArray) := by
  have hl : (Builtin.zeroCells (Value.int .i64 0).cells k).toList.length = k := by
    rw [Array.length_toList, zeroCells_size]
    have : (Value.int .i64 0).cells.size = 1 := by kernel_rfl
    rw [this, Nat.mul_one]
  have h1 : ∀ v ∈ (Builtin.zeroCells (Value.int .i64 0).cells k).toList, v.oneCell' = true := by
    intro v hv
    simp [Builtin.zeroCells, Value.cells] at hv
    obtain ⟨a, _, rfl⟩ := hv
    simp [Nat.mod_one]
    rfl
  refine ⟨(Builtin.zeroCells (Value.int .i64 0).cells k).toList, hl, fun ty c => ?_⟩
  have hst := run_storeCells_at P g off te (Builtin.zeroCells (Value.int .i64 0).cells k).toList 0 cur w hg (by rw [hl]; simpa using hfit) h1
  simp only [Nat.add_zero] at hst
  obtain ⟨m, rfl⟩ : ∃ m, k = m + 1 := ⟨k - 1, by omega⟩
  simp [Builtin.clear_, run_underlying ht, hz, hst]

/-- What a call leaves that hands back the same row, shorter. -/
def CutI (W : World) (base : Nat) (A : Option Addr) (ys : List Int) (en : Ending) (w' : World) : Prop :=
  ∃ c', en = .returned (.slice A ys.length c') ∧ w'.ownsRow base 3 1 (.slice A ys.length c') ys.length (ints ys) ∧ (∀ q, q < W.heap.size → A.map (·.block) ≠ some q → w'.heap[q]? = W.heap[q]?) ∧ W.heap.size ≤ w'.heap.size ∧ ∀ B U, B ≤ base → Below B U W → Below B U w'

theorem cutI_same {W : World} {base n c : Nat} {A : Option Addr} {xs : List Int} (hn : xs.length = n) (hown : W.ownsRow base 3 1 (.slice A n c) n (ints xs)) : CutI W base A xs (.returned (.slice A n c)) W := by
  subst hn
  exact ⟨c, rfl, hown, fun _ _ _ => rfl, Nat.le_refl _, fun _ _ _ h => h⟩

theorem first_ix {xs : List Int} {x : Int} (h : x ∈ xs) : ∃ p, p < xs.length ∧ ix xs p = x ∧ ∀ j, j < p → ix xs j ≠ x := by
  induction xs with
  | nil => simp at h
  | cons y ys ih =>
    by_cases hy : y = x
    · exact ⟨0, by simp, by simp [ix, hy], fun j hj => absurd hj (by omega)⟩
    · obtain ⟨p, h1, h2, h3⟩ := ih ((List.mem_cons.1 h).resolve_left (fun e => hy e.symm))
      refine ⟨p + 1, by simp; omega, by simpa [ix] using h2, fun j hj => ?_⟩
      cases j with
      | zero => simpa [ix] using hy
      | succ j => have := h3 j (by omega); simpa [ix] using this
theorem grownBy_setC (w : World) (g o : Nat) (u : Value) : w.grownBy (w.setCell ⟨g, o, none⟩ u) (some g) :=
  ⟨rfl, rfl, rfl, by simp [World.setCell], fun k _ hk => Below.heap_setCell _ _ _ _ fun h => hk (by rw [h])⟩
set_option maxRecDepth 100000 in
set_option maxHeartbeats 4000000 in
theorem delF_ok (A : Option Addr) (n c base : Nat) (xs : List Int) (x : Int) (pb : Nat) (W : World) (hown : W.ownsRow base 3 1 (.slice A n c) n (ints xs)) (hn : n ≤ 1000) (hp : W.cell? ⟨pb, 0, none⟩ = some (.int .i64 x)) (hpb : A.map (·.block) ≠ some pb) :
    Calls Tryz.prog 71 #[.slice A n c, .func (.func 72) #[] #[.pointer (some ⟨pb, 0, none⟩)]] W (CutI W base A (less1 xs x)) := by
  have hxl : xs.length = n := by have := hown.1; simpa [ints] using this
  obtain ⟨A', c', hv, hnc, hcm, hI⟩ := isInts_of_own hown (by omega)
  injection hv with e1 e2 e3
  subst e1 e3
  have hix := hide (indexFn_ok A n c xs x pb W hI hp)
  by_cases hm : x ∈ xs
  · obtain ⟨p, hpl, hpe, hpf⟩ := first_ix hm
    have hq : Hid (posn xs x = p) := posn_at hpl hpe hpf
    rw [hq.out] at hix
    have hfst := less1_first hpl hpe hpf
    obtain ⟨g, cap, cs, hv2, hnc2, hcm2, hbg, hg⟩ := own_block hown (by omega)
    injection hv2 with h1 h2 h3
    subst h1 h3
    have hne : ¬ (pb = g) := fun e => hpb (by simp [e])
    have hgl := blk_lt hg
    have hc63 : c ≤ 9223372036854775807 := by unfold maxLen at hcm; omega
    have hpn : p < n := by omega
    have hstart : Hid (rowAt xs x (p + 1) = xs) := by
      show _ = _
      unfold rowAt
      rw [hfst, List.length_take, Nat.min_eq_left (by omega), List.take_append_drop]
    have hfl : Hid ((less1 (xs.take (p + 1)) x).length = p) := by show _ = _; rw [hfst, List.length_take]; omega
    have hown' := hide hown
    have hxl' := hide hxl
    have hpb' := hide hp
    have hpm : ((p : Int) == -1) = false := by simp
    clear hm hpe hpf hfst hown hI hp e2 h2 hpb
    go_enter Tryz.func71, Tryz.ntmps71
    go_wp2_with fail
    refine hix.out.mono ?_
    rintro e w1 ⟨rfl, rfl⟩
    go_wp2
    go_loopw [5, 6] (fun a b wr => ∃ i j : Nat, a = .int .i64 i ∧ b = .int .i64 j ∧ i < j ∧ j ≤ n ∧ Hid (i = (less1 (xs.take j) x).length) ∧ wr.ownsRow base 3 1 (.slice (some ⟨g, 0, none⟩) n c) n (ints (rowAt xs x j)) ∧ W.grownBy wr (some g)) (fun _ b _ => n - (intOf b).toNat)
    case atStart => exact ⟨p, p + 1, rfl, by go_num, by omega, by omega, hfl.out.symm, by rw [hstart.out]; exact hown'.out, World.grownBy.refl _ _⟩
    case round =>
      obtain ⟨i, j, rfl, rfl, hij, hjn, hil, hrow, hgr⟩ := hrel
      have hpr : wr.cell? ⟨pb, 0, none⟩ = some (.int .i64 x) := (World.cell?_of_block (hgr.block pb (cell_in hpb'.out) (by simpa using hne))).trans hpb'.out
      have hrow' := hide hrow
      have hgr' := hide hgr
      have hrl := rowAt_len xs x j
      by_cases hlt : j < n
      · have hcj : wr.cell? ⟨g, j, none⟩ = some (.int .i64 (ix xs j)) := by
          rw [World.ownsRow.cellAt hrow j (by omega), ints_get (by rw [hrl]; omega), rowAt_get (by omega)]
        have hci : wr.cell? ⟨g, i, none⟩ = some (.int .i64 (ix (rowAt xs x j) i)) := by
          rw [World.ownsRow.cellAt hrow i (by omega), ints_get (by rw [hrl]; omega)]
        generalize ix (rowAt xs x j) i = old at hci
        have hfi : wr.frozen? ⟨g, i, none⟩ = false := by
          obtain ⟨g2, cap2, cs2, hv3, -, -, -, hg3⟩ := own_block hrow (by omega)
          injection hv3 with h1 _ _
          injection h1 with h1
          injection h1 with h1
          rw [h1]
          exact blk_frozen hg3 _
        have hcl := hide (takes1_ok (ix xs j) x pb wr hpr)
        clear hrow hgr hrl
        by_cases he : ix xs j = x
        · have he' : decide (ix xs j = x) = true := decide_eq_true he
          have hk := hide (rowAt_drop (by omega) he)
          have hk2 : Hid (i = (less1 (xs.take (j + 1)) x).length) := by show _ = _; rw [less1_snoc (by omega), if_pos he, List.append_nil]; exact hil.out
          clear he
          go_wp2_with (go_at_call 72; refine hcl.out.mono ?_; rintro e w1 ⟨rfl, rfl⟩)
          go_roundw
          case rel => exact ⟨i, j + 1, rfl, by go_num, by omega, by omega, hk2, by rw [← hk.out]; exact hrow'.out, hgr'.out⟩
          case measure => simp [intOf]; omega
        · have he' : decide (ix xs j = x) = false := decide_eq_false he
          have hk := hide (rowAt_keep (by omega) he)
          have hk2 : Hid (i + 1 = (less1 (xs.take (j + 1)) x).length) := by show _ = _; rw [less1_snoc (by omega), if_neg he, List.length_append, ← hil.out]; rfl
          have hr2 := own_setCell hrow'.out (o := i) (by omega) (.int .i64 (ix xs j))
          rw [show (ints (rowAt xs x j)).set i (.int .i64 (ix xs j)) = ints (rowAt xs x (j + 1)) by rw [← hk.out, ← hil.out]; simp [ints, List.map_set]] at hr2
          have hr2' := hide hr2
          clear he hr2
          go_wp2_with (go_at_call 72; refine hcl.out.mono ?_; rintro e w1 ⟨rfl, rfl⟩)
          go_roundw
          case rel => exact ⟨i + 1, j + 1, by go_num, by go_num, by omega, by omega, hk2, hr2'.out, grownBy_trans' hgr'.out (grownBy_setC _ _ _ _)⟩
          case measure => simp [intOf]; omega
      · obtain rfl : n = j := by omega
        have hfin : less1 (xs.take n) x = less1 xs x := by rw [← hxl, List.take_length]
        have hi : i = (less1 xs x).length := by rw [← hfin]; exact hil.out
        rcases hrow.2 with ⟨h0, -⟩ | ⟨g3, cap3, cur3, h0, hb3, hg3, hn3, hm3, hs3, ht3⟩
        · cases h0
        cases h0
        obtain ⟨zs, hzl, hcl⟩ := run_clearI (P := Tryz.prog) wr 22 3 Tryz.underlying22 (fun w => by kernel_rfl) g i (n - i) (by omega) hg3 (by omega)
        have htk : cur3.toList.take i = ints (less1 xs x) := by
          have h2 : cur3.toList.take i = (ints (rowAt xs x n)).take i := by rw [← ht3, List.take_take, Nat.min_eq_left (by omega)]
          rw [h2]
          unfold rowAt
          rw [hfin, ← ints_app, List.take_left' (by simp [ints]; omega)]
        have hE : CutI W base (some ⟨g, 0, none⟩) (less1 xs x) (.returned (.slice (some ⟨g, 0, none⟩) i c)) (wr.setRow g (cur3.toList.take i ++ zs ++ cur3.toList.drop (i + zs.length)).toArray) := by
          subst hi
          have hgg := grownBy_trans' hgr (grownBy_setRow wr g (cur3.toList.take (less1 xs x).length ++ zs ++ cur3.toList.drop ((less1 xs x).length + zs.length)).toArray)
          refine ⟨c, rfl, own_row (setRow_heap _ _ _ _ _ _ hg3) hb3 (by omega) hm3 ?_ ?_, fun q hq hne => hgg.block q hq (fun e => hne (by injection e with e; simp [e])), hgg.size, fun B U hB hBl => hBl.grown hgg (by omega) (fun q hq => by injection hq with hq; omega)⟩
          · simp only [List.size_toArray, List.length_append, List.length_take, List.length_drop, Array.length_toList, hs3, hzl]; omega
          · rw [htk, Nat.mul_one]
            show List.take _ (ints (less1 xs x) ++ zs ++ _) = _
            rw [List.append_assoc]
            exact List.take_left' (by simp [ints])
        generalize wr.setRow g (cur3.toList.take i ++ zs ++ cur3.toList.drop (i + zs.length)).toArray = W9 at hE hcl
        have hE' := hide hE
        have hcl' := hide hcl
        have hic : ¬ (c = i) := by omega
        clear hE hcl htk hzl ht3 hs3 hm3 hn3 hb3 hg3 hi hfin hrow hgr hrl hrow' hgr' hpr
        go_wp2_with ((with_reducible refine wpList_clear_lit _ _ (.slice (some ⟨g, i, none⟩) (n - i) (c - i)) ?_ (hcl'.out _ _) ?_); rfl)
        go_ret
        exact hE'.out
  · have hf := less1_none hm
    rw [hf]
    have hq : Hid (posn xs x = -1) := by show _ = _; unfold posn; rw [if_neg (fun h => hm (List.idxOf_lt_length_iff.1 h))]
    rw [hq.out] at hix
    have hE := hide (cutI_same hxl hown)
    clear hf hm hown hI hp e2
    go_enter Tryz.func71, Tryz.ntmps71
    go_wp2_with fail
    refine hix.out.mono ?_
    rintro e w1 ⟨rfl, rfl⟩
    go_wp2
    go_ret
    exact hE.out
end Go.Proofs.YtmdccplhmniiiaaGreat
