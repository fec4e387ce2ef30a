/- Walks: to which elements there is a way by the compounds up to each, by the program. Conditions: the tree is good, what is told is right. -/
import Derived.Test.YtljloicgjgbplaaGreatG11
import Derived.Test.YtljloicgjgbplaaGreatG10
import Derived.Laws.OwnMore
import Derived.Deep.RegionHeld
namespace Go.Proofs.YtljloicgjgbplaaGreat
open Go.RowKit

/-- There is a way to the element by the compounds up to that one. -/
def rchF (T : List ANode) (cs : List Int) (H : List (List Bool)) : Nat → Nat → Bool
  | 0, i => bx (rowB H 0) i
  | k + 1, i => bx (rowB H (k + 1)) i && (prtF T i (ix cs k)).any fun p => rchF T cs H k p.toNat
def rchL (T : List ANode) (cs : List Int) (H : List (List Bool)) (k : Nat) : List Bool := (List.range T.length).map (rchF T cs H k)
def rchR (T : List ANode) (cs : List Int) (H : List (List Bool)) : List (List Bool) := (List.range (cs.length + 1)).map (rchL T cs H)
theorem rchL_len (T : List ANode) (cs : List Int) (H : List (List Bool)) (k : Nat) : (rchL T cs H k).length = T.length := by simp [rchL]
theorem rchL_bx (T : List ANode) (cs : List Int) (H : List (List Bool)) (k : Nat) {i : Nat} (hi : i < T.length) : bx (rchL T cs H k) i = rchF T cs H k i := by simp [rchL, bx, hi]
theorem rchR_row (T : List ANode) (cs : List Int) (H : List (List Bool)) {k : Nat} (hk : k ≤ cs.length) : rowB (rchR T cs H) k = rchL T cs H k := by
  unfold rowB rchR
  rw [List.getD_eq_getElem?_getD, List.getElem?_map, List.getElem?_range (by omega)]
  rfl
theorem bools_ext {xs ys : List Bool} (hl : xs.length = ys.length) (h : ∀ t, t < xs.length → bx xs t = bx ys t) : xs = ys := by
  refine List.ext_getElem hl fun t h1 h2 => ?_
  have := h t h1
  unfold bx at this
  rw [List.getD_eq_getElem?_getD, List.getD_eq_getElem?_getD, List.getElem?_eq_getElem h1, List.getElem?_eq_getElem h2] at this
  exact this
theorem rch_zero {T : List ANode} {cs : List Int} {H : List (List Bool)} (h : (rowB H 0).length = T.length) : rchL T cs H 0 = rowB H 0 := by
  refine bools_ext (by rw [rchL_len, h]) fun t ht => ?_
  rw [rchL_len] at ht
  rw [rchL_bx _ _ _ _ ht]; rfl
/-- The list of one compound, told up to some element. -/
def nxtL (T : List ANode) (cs : List Int) (H : List (List Bool)) (k q : Nat) : List Bool := (List.range T.length).map fun i => if i < q then rchF T cs H k i else false
theorem nxtL_len (T : List ANode) (cs : List Int) (H : List (List Bool)) (k q : Nat) : (nxtL T cs H k q).length = T.length := by simp [nxtL]
theorem nxtL_bx (T : List ANode) (cs : List Int) (H : List (List Bool)) (k q : Nat) {i : Nat} (hi : i < T.length) : bx (nxtL T cs H k q) i = if i < q then rchF T cs H k i else false := by simp [nxtL, bx, hi]
theorem nxt_all (T : List ANode) (cs : List Int) (H : List (List Bool)) (k : Nat) : nxtL T cs H k T.length = rchL T cs H k := by
  refine bools_ext (by rw [rchL_len, nxtL_len]) fun t ht => ?_
  rw [nxtL_len] at ht
  rw [rchL_bx _ _ _ _ ht, nxtL_bx _ _ _ _ _ ht, if_pos ht]
theorem nxt_step (T : List ANode) (cs : List Int) (H : List (List Bool)) (k : Nat) {q : Nat} (hq : q < T.length) : (nxtL T cs H k q).set q (rchF T cs H k q) = nxtL T cs H k (q + 1) := by
  refine bools_ext (by rw [List.length_set, nxtL_len, nxtL_len]) fun t ht => ?_
  rw [List.length_set, nxtL_len] at ht
  rw [nxtL_bx _ _ _ _ _ ht]
  unfold bx
  rw [List.getD_eq_getElem?_getD, List.getElem?_set, nxtL_len]
  by_cases h : q = t
  · subst h; rw [if_pos rfl, if_pos hq, if_pos (by omega)]; rfl
  · rw [if_neg h, ← List.getD_eq_getElem?_getD]
    have := nxtL_bx T cs H k q ht
    unfold bx at this
    rw [this]
    by_cases h2 : t < q
    · rw [if_pos h2, if_pos (by omega)]
    · rw [if_neg h2, if_neg (by omega)]
theorem prt_range {T : List ANode} (hg : goodB T = true) {i : Nat} (hi : i < T.length) (c : Int) : ∀ x ∈ prtF T i c, 0 ≤ x ∧ x < T.length := by
  have ha : ∀ x ∈ anc T (par T i), 0 ≤ x ∧ x < T.length := fun x hx => anc_mem hg (good_par hg hi).2 hx
  have hp : ∀ x ∈ prevL T i, 0 ≤ x ∧ x < T.length := fun x hx => by
    unfold prevL at hx
    split at hx
    · simp at hx
    · rename_i hneg
      have hpr := good_par hg hi
      obtain ⟨y, hy, hyl, -⟩ := good_kid hg (by omega : (par T i).toNat < T.length) (List.mem_of_mem_take (List.mem_reverse.1 hx))
      omega
  intro x hx
  unfold prtF at hx
  split at hx
  · exact ha x hx
  · split at hx
    · exact ha x (List.mem_of_mem_take hx)
    · split at hx
      · exact hp x (List.mem_of_mem_take hx)
      · exact hp x hx
theorem rch_step {T : List ANode} (hg : goodB T = true) (cs : List Int) (H : List (List Bool)) (k : Nat) {i : Nat} (hi : i < T.length) : rchF T cs H (k + 1) i = (bx (rowB H (k + 1)) i && (prtF T i (ix cs k)).any (hitB (rchL T cs H k))) := by
  unfold rchF
  congr 1
  have hr := prt_range hg hi (ix cs k)
  generalize prtF T i (ix cs k) = l at hr
  induction l with
  | nil => rfl
  | cons y l ih =>
    rw [List.any_cons, List.any_cons, ih (fun x hx => hr x (List.mem_cons_of_mem _ hx))]
    congr 1
    unfold hitB
    have := hr y (by simp)
    rw [rchL_bx _ _ _ _ (by omega)]

theorem nxt_zero (T : List ANode) (cs : List Int) (H : List (List Bool)) (k : Nat) : nxtL T cs H k 0 = List.replicate T.length false := by
  refine bools_ext (by rw [nxtL_len, List.length_replicate]) fun t ht => ?_
  rw [nxtL_len] at ht
  rw [nxtL_bx _ _ _ _ _ ht, if_neg (by omega)]
  simp [bx, ht]
theorem own_made (W : World) (g base n : Nat) (hg : g = W.heap.size) (hb : base ≤ g) (hn : n ≤ 1000) : (W.alloc (.cells (madeCells #[.bool false] n) 4)).ownsRow base 4 1 (.slice (some ⟨g, 0, none⟩) n n) n (bools (List.replicate n false)) := by
  subst hg
  have h := World.ownsRow_lit W (e := 4) (base := base) (size := 1) (madeCells #[.bool false] n) n hb (by unfold maxLen; omega) (by rw [← Array.length_toList, toList_madeCells_one, List.length_replicate]; omega)
  rw [toList_madeCells_one] at h
  have e : bools (List.replicate n false) = List.replicate n (.bool false) := by unfold bools; rw [List.map_replicate]
  rw [e]; exact h
theorem bools_set (xs : List Bool) (i : Nat) (b : Bool) : (bools xs).set i (.bool b) = bools (xs.set i b) := by unfold bools; rw [List.map_set]

def MadeBB (w : World) (k : Nat) (R : List (List Bool)) (e : Ending) (w' : World) : Prop :=
  ∃ (A : Option Addr) (c : Nat), e = .returned (.slice A k c) ∧ OwnBB w' w.heap.size (.slice A k c) k R ∧ Below w.heap.size w w'

set_option maxRecDepth 100000 in
set_option maxHeartbeats 4000000 in
theorem reached_ok (A B C : Option Addr) (n c m d e0 : Nat) (T : List ANode) (cs : List Int) (H : List (List Bool)) (w : World) (h : IsTree w A n T) (hcs : IsU8 w B m cs) (hH : IsBB w C (m + 1) H) (hg : goodB T = true) (ht : toldB T.length cs H = true) :
    Calls Tryz.prog 72 #[.agg #[.slice A n c], .slice B m d, .slice C (m + 1) e0] w (MadeBB w (m + 1) (rchR T cs H)) := by
  have hT := hide h
  have hl := h.1
  clear h
  have hB0 := below_alloc (Below.refl w.heap.size w) (.cells #[.slice A n c] 24)
  have hbox0 : (w.alloc (.cells #[.slice A n c] 24)).cell? ⟨w.heap.size, 0, none⟩ = some (.slice A n c) := by go_simp
  obtain ⟨t1, t2, t3, t4, t5⟩ := (toldB_iff _ _ _).1 ht
  have hml := hcs.1
  have hHl := hH.1
  have hm64 : m ≤ 63 := by omega
  have hn64 : n ≤ 64 := by have := ((goodB_iff T).1 hg).2.1; omega
  have hn1 : 1 ≤ n := by have := ((goodB_iff T).1 hg).1; omega
  have hg' := hide hg
  have t4' := hide t4
  have t5' := hide t5
  obtain ⟨bh, oh, hA, hC, rfl, hbh, hhc, hhr⟩ := hH.2.2 (by omega)
  have hhc' := hide hhc
  have hhr' := hide hhr
  have hcs' := hide hcs
  have hmk := mk_bools n (by omega)
  have gr0 := (old hB0 _ _ hbh).trans (hhc 0 (by omega))
  have hl0 := t5 0 (by omega)
  rw [hl0, hl] at gr0
  simp only [Nat.add_zero] at gr0
  have hI0 := (hhr 0 (by omega)).1.below hB0
  have hrow0 : rowB (rchR T cs H) 0 = rowB H 0 := by rw [rchR_row _ _ _ (by omega), rch_zero hl0]
  rw [hl0, hl] at hI0
  have hI0' := hide hI0
  have hc0c := (hhr 0 (by omega)).2.2
  have hc0n := (hhr 0 (by omega)).2.1
  rw [hl0, hl] at hc0n
  have hlR : ∀ j, j ≤ m → (rowB (rchR T cs H) j).length = n := fun j hj => by rw [rchR_row _ _ _ (by omega), rchL_len]; exact hl
  have hlR' := hide hlR
  have hRrow := hide (fun j (hj : j ≤ m) => rchR_row T cs H (k := j) (by omega))
  have hrow0' := hide hrow0
  obtain ⟨R, hR⟩ : ∃ R, rchR T cs H = R := ⟨_, rfl⟩
  rw [hR] at hlR' hRrow hrow0' ⊢
  clear hhc hhr hcs hH t4 t5 hg ht hI0 hl0 hrow0 hlR hR t3
  generalize hA 0 = HA0 at gr0 hI0'
  generalize hC 0 = HC0 at gr0 hc0c hc0n
  go_enter Tryz.func72, Tryz.ntmps72
  go_wp2_with fail
  refine (cloneBools_ok HA0 n HC0 (rowB H 0) _ hI0'.out (by omega)).mono ?_
  rintro e w1 ⟨A1, c1, rfl, hO1, hb1⟩
  have hB1 := Below.on hB0 hb1
  have hbox1 := cell_later hb1 hbox0
  have hlw : w.heap.size < w1.heap.size := cell_in hbox1
  have hb12 : Below w1.heap.size w1 ((w1.alloc (.cells #[.slice A1 n c1] 30)).alloc (.cells #[.slice (some ⟨w1.heap.size, 0, none⟩) 1 1] 65)) := below_alloc (below_alloc (Below.refl _ _) _) _
  have hbo : Hid (((w1.alloc (.cells #[.slice A1 n c1] 30)).alloc (.cells #[.slice (some ⟨w1.heap.size, 0, none⟩) 1 1] 65)).heap[w1.heap.size + 1]? = some (.cells #[.slice (some ⟨w1.heap.size, 0, none⟩) 1 1] 65 (0, 0))) := blk_at _ _ _ _ (by simp)
  have hB2 := hide (Below.on hB1 hb12)
  have hbox2 := hide (cell_later hb12 hbox1)
  have hO2 : Hid (OwnBB ((w1.alloc (.cells #[.slice A1 n c1] 30)).alloc (.cells #[.slice (some ⟨w1.heap.size, 0, none⟩) 1 1] 65)) (w.heap.size + 1) (.slice (some ⟨w1.heap.size, 0, none⟩) 1 1) 1 R) := by
    refine ⟨fun _ => A1, fun _ => c1, ?_, fun j hj => ?_⟩
    · have := World.ownsRow.alloc (World.ownsRow_lit w1 (e := 30) (base := w.heap.size + 1) (size := 1) #[.slice A1 n c1] 1 (by omega) (by unfold maxLen; omega) rfl) (.cells #[.slice (some ⟨w1.heap.size, 0, none⟩) 1 1] 65)
      have e : slicesR R (fun _ => A1) (fun _ => c1) 1 = [.slice A1 n c1] := by
        unfold slicesR
        simp [hlR'.out 0 (by omega)]
      rw [e]; exact this
    · obtain rfl : j = 0 := by omega
      rw [hrow0'.out]
      have h2 := own_base (base := w.heap.size + 1) (own_below hO1 hb12) (by simp)
      have h3 : (rowB H 0).length = n := by rw [← hrow0'.out]; exact hlR'.out 0 (by omega)
      rw [h3]; exact h2
  clear hO1 hb12 hb1 hB1 hbox1
  go_wp2
  go_loopw [8, 9, 10, 11, 19] (fun _ _ _ _ s wr => ∃ (q : Nat) (v : Value), q ≤ m ∧ s = .int .i64 q ∧ Below w.heap.size w wr ∧ wr.cell? ⟨w.heap.size, 0, none⟩ = some (.slice A n c) ∧ wr.heap[w1.heap.size + 1]? = some (.cells #[v] 65 (0, 0)) ∧ OwnBB wr (w.heap.size + 1) v (q + 1) R) (fun _ _ _ _ s _ => m - (intOf s).toNat)
  case atStart => exact ⟨0, _, Nat.zero_le _, rfl, hB2.out, hbox2.out, hbo.out, hO2.out⟩
  case round =>
    obtain ⟨q, v, hq, rfl, hb, hbox, hbv, hO⟩ := hrel
    generalize wr = u at *
    have hcv : u.cell? ⟨w1.heap.size + 1, 0, none⟩ = some v := by rw [blk_cell hbv]; rfl
    have hfv : u.frozen? ⟨w1.heap.size + 1, 0, none⟩ = false := blk_frozen hbv 0
    have hlv := blk_lt hbv
    have hlu : w.heap.size < u.heap.size := cell_in hbox
    obtain ⟨gO, capO, rfl, ho1, ho2, ho3, ho4, hor⟩ := hO.open (by omega) (fun j hj => by rw [hlR'.out j (by omega)]; omega)
    have ho2' : capO ≤ 9223372036854775807 := by unfold maxLen at ho2; omega
    by_cases hlt : q < m
    · obtain ⟨bc, oc, rfl, hbc, hck⟩ := hcs'.out.2.2.2 (by omega)
      have gq := (old hb _ _ hbc).trans (hck q hlt)
      have hy := t4'.out q (by omega)
      have hbcu : bc < u.heap.size := Nat.lt_of_lt_of_le hbc hb.size
      have gr := (old hb _ _ hbh).trans (hhc'.out (q + 1) (by omega))
      have hIr := (hhr'.out (q + 1) (by omega)).1.below hb
      have hrc1 := (hhr'.out (q + 1) (by omega)).2.1
      have hrc2 := (hhr'.out (q + 1) (by omega)).2.2
      have hl1 := t5'.out (q + 1) (by omega)
      rw [hl1, hl] at gr hIr hrc1
      have hIr' := hide hIr
      have hbhu : bh < u.heap.size := Nat.lt_of_lt_of_le hbh hb.size
      generalize hA (q + 1) = HA1 at gr hIr'
      generalize hC (q + 1) = HC1 at gr hrc1 hrc2
      obtain ⟨RA, RC, hr1, hr2, hr3, hr4⟩ := hor q (by omega)
      rw [hRrow.out q (by omega), rchL_len, hl] at hr1 hr2
      have hr2' := hide hr2
      have hstep := hide (fun i (hi : i < n) => rch_step hg'.out cs H q (i := i) (by omega))
      have hnstep := hide (fun i (hi : i < n) => nxt_step T cs H (q + 1) (q := i) (by omega))
      have hprange := hide (fun i (hi : i < n) => prt_range hg'.out (i := i) (by omega) (ix cs q))
      obtain ⟨y, hye⟩ : ∃ y, ix cs q = y := ⟨_, rfl⟩
      rw [hye] at gq hy hstep hprange
      obtain ⟨hy1, hy4⟩ := hy
      have hO' := hide hO
      clear hck hIr hl1 hor hr2 hye hO
      have hup := below_alloc (below_alloc (Below.refl u.heap.size u) (.cells #[.int .i64 (q : Int)] 3)) (.cells (madeCells #[.bool false] n) 4)
      go_wp2
      go_loopw [11, 30] (fun _ s Z => ∃ (x : Nat), x ≤ n ∧ s = .int .i64 x ∧ Below u.heap.size u Z ∧ Z.cell? ⟨u.heap.size, 0, none⟩ = some (.int .i64 q) ∧ Z.ownsRow u.heap.size 4 1 (.slice (some ⟨u.heap.size + 1, 0, none⟩) n n) n (bools (nxtL T cs H (q + 1) x))) (fun _ s _ => n - (intOf s).toNat)
      case atStart => exact ⟨0, Nat.zero_le _, rfl, hup, (blk_cell (blk_alloc (blk_new u _ _) _) 0).trans rfl, by rw [nxt_zero, hl]; exact own_made _ _ _ _ (by simp) (by omega) (by omega)⟩
      case round =>
        obtain ⟨x, hx, rfl, hbz, hkz, hnz⟩ := hrel
        have hbv5 := hide (cell_later hbz hcv)
        have hboxz := cell_later hbz hbox
        obtain ⟨gN, capN, csN, hvN, hnN1, hnN2, hnN3, hnN4⟩ : ∃ g cap cs, Value.slice (some ⟨u.heap.size + 1, 0, none⟩) n n = .slice (some ⟨g, 0, none⟩) n cap ∧ n ≤ cap ∧ cap ≤ maxLen ∧ u.heap.size ≤ g ∧ wr.heap[g]? = some (.cells cs 4 (0, 0)) := by
          rcases Nat.eq_zero_or_pos n with h0 | h0
          · omega
          · exact own_blk hnz h0
        injection hvN with e1 e2 e3
        injection e1 with e1
        injection e1 with e1 e4 e5
        subst e1 e3
        have fN : wr.frozen? ⟨u.heap.size + 1, x, none⟩ = false := blk_frozen hnN4 _
        have hlN := blk_lt hnN4
        by_cases hltx : x < n
        · obtain ⟨b5, o5, rfl, hb5, hc5⟩ := hIr'.out.2.2 (by omega)
          have gx := (old hbz _ _ hb5).trans (hc5 x hltx)
          have hb5r : b5 < wr.heap.size := Nat.lt_of_lt_of_le hb5 hbz.size
          have cN : wr.cell? ⟨u.heap.size + 1, x, none⟩ = some (.bool (bx (nxtL T cs H (q + 1) x) x)) := by
            rw [World.ownsRow.cellAt hnz x (by omega), bools_get (by rw [nxtL_len]; omega)]
          have hst := hstep.out x hltx
          have hns := hide (hnstep.out x hltx)
          have hbhz : bh < wr.heap.size := Nat.lt_of_lt_of_le hbhu hbz.size
          have grz := (old hbz _ _ hbhu).trans gr
          have hnz' := hide hnz
          cases hbv0 : bx (rowB H (q + 1)) x
          · have hrf : Hid (rchF T cs H (q + 1) x = false) := by show _ = _; rw [hst, hbv0]; rfl
            rw [hbv0] at gx
            clear hst hbv0 hc5 hnz
            go_wp2
            go_roundw
            case rel =>
              refine ⟨x + 1, by omega, by go_num, hbz.setCell (p := ⟨u.heap.size + 1, x, none⟩) (by show u.heap.size ≤ u.heap.size + 1; omega) _, (World.cell?_setCell_far _ ⟨u.heap.size + 1, x, none⟩ ⟨u.heap.size, 0, none⟩ _ (by show u.heap.size + 1 ≠ u.heap.size; omega)).trans hkz, ?_⟩
              have h9 := own_upd (o := x) hnz'.out (.bool false)
              rw [bools_set, ← hrf.out, hns.out] at h9
              rw [← hrf.out]; exact h9
            case measure => simp [intOf]; omega
          · have hrf : Hid (rchF T cs H (q + 1) x = (prtF T x y).any (hitB (rchL T cs H q))) := by show _ = _; rw [hst, hbv0]; rfl
            rw [hbv0] at gx
            have hpr := hide (hprange.out x hltx)
            have hBz := Below.on hb hbz
            clear hst hbv0 hc5 hnz
            go_wp2_with fail
            refine (partners_ok A n c T x y _ (hT.out.below hBz) hg'.out hltx hy1 hy4).mono ?_
            rintro e w5 ⟨A5, c5, rfl, hI5, hb5'⟩
            obtain ⟨L, hL⟩ : ∃ L, prtF T x y = L := ⟨_, rfl⟩
            rw [hL] at hI5 hpr hrf ⊢
            have hI5' := hide hI5
            have hbz5 := Below.on hbz hb5'
            have hk5 := cell_later hb5' hkz
            have hTk : Hid (Taken w5 (w1.heap.size + 1) u.heap.size q (rchL T cs H q)) := ⟨hk5, gO, 0, q + 1, capO, RA, n, RC, cell_later hb5' hbv5.out, by omega, by omega, cell_later hbz5 hr1, hr2'.out.below hbz5⟩
            clear hL hI5
            go_wp2_with fail
            refine (reached1_any A5 L.length c5 L (w1.heap.size + 1) u.heap.size q (rchL T cs H q) _ hI5'.out hTk.out (fun x hx => by rw [rchL_len]; exact hpr.out x hx)).mono ?_
            rintro e w6 ⟨rfl, rfl⟩
            rw [← hrf.out]
            have hN5 := hide (own_below hnz'.out hb5')
            have cN5 := cell_later hb5' cN
            have fN5 : w5.frozen? ⟨u.heap.size + 1, x, none⟩ = false := (oldf hb5' _ _ hlN).trans fN
            have hlN5 : u.heap.size + 1 < w5.heap.size := Nat.lt_of_lt_of_le hlN hb5'.size
            obtain ⟨rb, hrb⟩ : ∃ rb, rchF T cs H (q + 1) x = rb := ⟨_, rfl⟩
            rw [hrb] at hns ⊢
            clear hrf hrb cN fN hTk hpr
            go_wp2
            go_roundw
            case rel =>
              refine ⟨x + 1, by omega, by go_num, hbz5.setCell (p := ⟨u.heap.size + 1, x, none⟩) (by show u.heap.size ≤ u.heap.size + 1; omega) _, (World.cell?_setCell_far _ ⟨u.heap.size + 1, x, none⟩ ⟨u.heap.size, 0, none⟩ _ (by show u.heap.size + 1 ≠ u.heap.size; omega)).trans hk5, ?_⟩
              have h9 := own_upd (o := x) hN5.out (.bool rb)
              rw [bools_set, hns.out] at h9
              exact h9
            case measure => simp [intOf]; omega
        · obtain rfl : x = n := by omega
          have hnr : Hid (wr.ownsRow u.heap.size 4 1 (.slice (some ⟨u.heap.size + 1, 0, none⟩) x x) x (bools (rowB R (q + 1)))) := by
            have := nxt_all T cs H (q + 1)
            rw [hl] at this
            rw [hRrow.out (q + 1) (by omega), ← this]
            exact hnz
          have hOz := hO'.out.below hbz
          have hbvz : wr.heap[w1.heap.size + 1]? = some (.cells #[.slice (some ⟨gO, 0, none⟩) (q + 1) capO] 65 (0, 0)) := (hbz.block _ hlv).trans hbv
          have hneO : gO ≠ w1.heap.size + 1 := by
            obtain ⟨aA, aC, q1, -⟩ := hOz
            obtain ⟨g', cap', cs', hv', -, -, -, hg'⟩ := own_blk q1 (by omega)
            injection hv' with e1 e2 e3
            injection e1 with e1
            injection e1 with e1 e4 e5
            subst e1
            intro e
            rw [e, hbvz] at hg'
            injection hg' with hg'
            injection hg' with _ h2
            exact absurd h2 (by decide)
          have hln : x = (rowB R (q + 1)).length := (hlR'.out (q + 1) (by omega)).symm
          have hln' := hide hln
          have hrowz := hide (own_base (base := w.heap.size + 1) hnr.out (by omega))
          have hBz := hide (Below.on hb hbz)
          have hboxz' := hide hboxz
          have hlz : w1.heap.size + 1 < wr.heap.size := blk_lt hbvz
          have hbvz' := hide hbvz
          have cvz := hbv5.out
          clear hln hnz hnr hkz hboxz hbvz
          go_wp2_with (at_builtin; refine wpList_pushBB rfl _ _ rfl hOz (some ⟨u.heap.size + 1, 0, none⟩) x x hln'.out hrowz.out _ rfl rfl (by omega) (by omega) ?_)
          intro A7 c7 w7 hO7 hG7
          have hk7 := (hG7.2.2.2.1 (w1.heap.size + 1) hlz (by intro e; simp [Value.ownBlock] at e; exact hneO e)).trans hbvz'.out
          have b7 : w7.cell? ⟨w1.heap.size + 1, 0, none⟩ = some (.slice (some ⟨gO, 0, none⟩) (q + 1) capO) := by rw [blk_cell hk7]; rfl
          have f7 : w7.frozen? ⟨w1.heap.size + 1, 0, none⟩ = false := blk_frozen hk7 0
          have hB7 := hide (hG7.below (by omega) hBz.out)
          have x7 := hide ((World.cell?_of_block (hG7.1 w.heap.size (by omega))).trans hboxz'.out)
          have hO7' := hide hO7
          have hk7' := hide hk7
          clear hO7 hG7 hOz hbv5 hk7 cvz
          go_wp2
          go_roundw
          case rel => exact ⟨q + 1, .slice A7 (q + 1 + 1) c7, by omega, by go_num, hB7.out.setCell (p := ⟨w1.heap.size + 1, 0, none⟩) (by show w.heap.size ≤ w1.heap.size + 1; omega) _, (World.cell?_setCell_far _ ⟨w1.heap.size + 1, 0, none⟩ ⟨w.heap.size, 0, none⟩ _ (by show w1.heap.size + 1 ≠ w.heap.size; omega)).trans x7.out, blk_set hk7'.out 0 _, hO7'.out.set hk7'.out (by decide) (by decide) _⟩
          case measure => simp [intOf]; omega
    · obtain rfl : q = m := by omega
      go_wp2
      go_ret
      exact ⟨_, _, rfl, hO.base (by omega), hb⟩
end Go.Proofs.YtljloicgjgbplaaGreat
/- Plain laws on what matches: more matches of compounds, nearer combinators. Condition: the tree is good. -/
namespace Go.Proofs.YtljloicgjgbplaaGreat
open Go.RowKit

theorem bx_set (xs : List Bool) (i : Nat) (b : Bool) (t : Nat) : bx (xs.set i b) t = if t = i ∧ i < xs.length then b else bx xs t := by
  unfold bx
  rw [List.getD_eq_getElem?_getD, List.getD_eq_getElem?_getD, List.getElem?_set]
  by_cases h : i = t
  · subst h
    rw [if_pos rfl]
    by_cases h2 : i < xs.length
    · rw [if_pos h2, if_pos ⟨rfl, h2⟩]; rfl
    · rw [if_neg h2, if_neg (fun h3 => h2 h3.2), List.getElem?_eq_none (by omega)]
  · rw [if_neg h, if_neg (fun h2 => h h2.1.symm)]
end Go.Proofs.YtljloicgjgbplaaGreat
