/- Walks: whether an element has what is told, by the program. Conditions: the tree is good, the element is in it, the lead is a combinator, what is told is right. -/
import Derived.Test.YtljloicgjgbplaaGreatG21
import Derived.Test.YtljloicgjgbplaaGreatG10
import Derived.Test.YtljloicgjgbplaaGreatG12
import Derived.Test.YtljloicgjgbplaaGreatG13
import Derived.Deep.RegionHeld3
import Derived.Maps.OwnOps
namespace Go.Proofs.YtljloicgjgbplaaGreat
open Go.RowKit

/-- A cell is as it was when a map's block is written. -/
theorem map_cell {w w' : World} {b k : Nat} {f : Int → Bool} {p : Addr} {v : Value} (h : OwnMB w b k f) (hg : w.grownBy w' (some b)) (hc : w.cell? p = some v) : w'.cell? p = some v := by
  have hlt := cell_in hc
  obtain ⟨D, ⟨es, clock, hh, -⟩, -⟩ := h
  refine (World.cell?_of_block (hg.block p.block hlt fun e => ?_)).trans hc
  injection e with e
  subst e
  unfold World.cell? at hc
  rw [hh] at hc
  simp at hc
theorem IsInts.map {w w' : World} {b k n : Nat} {f : Int → Bool} {A : Option Addr} {xs : List Int} (h : IsInts w A n xs) (hm : OwnMB w b k f) (hg : w.grownBy w' (some b)) : IsInts w' A n xs := by
  obtain ⟨h1, h2, h3⟩ := h
  refine ⟨h1, h2, fun hn => ?_⟩
  obtain ⟨g, off, ha, hb, hc⟩ := h3 hn
  exact ⟨g, off, ha, Nat.lt_of_lt_of_le hb hg.size, fun j hj => map_cell hm hg (hc j hj)⟩
theorem OwnMB.congr {w : World} {b k : Nat} {f g : Int → Bool} (h : OwnMB w b k f) (he : ∀ z, f z = g z) : OwnMB w b k g := by
  have : f = g := funext he
  rwa [← this]
def mapF (L : List Int) (B : List Bool) (x : Nat) (z : Int) : Bool := decide (z ∈ L.take x) && bx B z.toNat
theorem mapF_zero (L : List Int) (B : List Bool) (z : Int) : mapF L B 0 z = false := by simp [mapF]
theorem mapF_succ {L : List Int} (B : List Bool) {x y : Nat} (hx : x < L.length) (hy : ix L x = y) (z : Int) : (if z = (y : Int) then bx B y else mapF L B x z) = mapF L B (x + 1) z := by
  have h1 := mem_take_succ hx z
  unfold mapF
  by_cases hz : z = (y : Int)
  · subst hz
    have h2 : (y : Int) ∈ L.take (x + 1) := by rw [h1, hy]; exact .inr rfl
    rw [if_pos rfl, decide_eq_true h2, Bool.true_and, Int.toNat_natCast]
  · rw [if_neg hz]
    congr 1
    rw [decide_eq_decide, h1, hy]
    constructor
    · exact .inl
    · rintro (h | h)
      · exact h
      · exact absurd h hz
/-- The list of the first ones, told up to some element. -/
def fstQ (T : List ANode) (i : Nat) (c : Int) (H : List (List Bool)) (q : Nat) : List Bool := (List.range T.length).map fun x : Nat => if x < q then bx (firstL T i c H) x else false
theorem fstQ_len (T : List ANode) (i : Nat) (c : Int) (H : List (List Bool)) (q : Nat) : (fstQ T i c H q).length = T.length := by simp [fstQ]
theorem fstQ_bx (T : List ANode) (i : Nat) (c : Int) (H : List (List Bool)) (q : Nat) {x : Nat} (hx : x < T.length) : bx (fstQ T i c H q) x = if x < q then bx (firstL T i c H) x else false := by simp [fstQ, bx, hx]
theorem fstQ_zero (T : List ANode) (i : Nat) (c : Int) (H : List (List Bool)) : fstQ T i c H 0 = List.replicate T.length false := by
  refine bools_ext (by rw [fstQ_len, List.length_replicate]) fun t ht => ?_
  rw [fstQ_len] at ht
  rw [fstQ_bx _ _ _ _ _ ht, if_neg (by omega)]
  simp [bx, ht]
theorem fstQ_all (T : List ANode) (i : Nat) (c : Int) (H : List (List Bool)) : fstQ T i c H T.length = firstL T i c H := by
  refine bools_ext (by rw [fstQ_len, firstL_len]) fun t ht => ?_
  rw [fstQ_len] at ht
  rw [fstQ_bx _ _ _ _ _ ht, if_pos ht]
theorem fstQ_step (T : List ANode) (i : Nat) (c : Int) (H : List (List Bool)) {q : Nat} (hq : q < T.length) : (fstQ T i c H q).set q (bx (firstL T i c H) q) = fstQ T i c H (q + 1) := by
  refine bools_ext (by rw [List.length_set, fstQ_len, fstQ_len]) fun t ht => ?_
  rw [List.length_set, fstQ_len] at ht
  rw [bx_set, fstQ_len, fstQ_bx _ _ _ _ _ ht, fstQ_bx _ _ _ _ _ ht]
  by_cases h : t = q
  · subst h; rw [if_pos ⟨rfl, ht⟩, if_pos (by omega)]
  · rw [if_neg (fun h2 => h h2.1)]
    by_cases h2 : t < q
    · rw [if_pos h2, if_pos (by omega)]
    · rw [if_neg h2, if_neg (by omega)]
theorem firstL_map {T : List ANode} {i : Nat} {c : Int} {H : List (List Bool)} {x : Nat} (hx : x < T.length) : mapF (nearH T i c) (rowB H 0) (nearH T i c).length x = bx (firstL T i c H) x := by
  rw [firstL_bx _ _ _ _ hx]
  unfold mapF
  rw [List.take_length, Int.toNat_natCast]

theorem far_alloc'' {w : World} {a : Addr} {u : Value} (h : w.cell? a = some u) (o : Obj) : (w.alloc o).cell? a = some u := cell_later (below_alloc (Below.refl _ _) _) h
set_option maxRecDepth 100000 in
set_option maxHeartbeats 4000000 in
theorem hmatch_ok (A B C : Option Addr) (n c m d e : Nat) (T : List ANode) (i : Nat) (ld : Int) (cs : List Int) (H : List (List Bool)) (w : World) (h : IsTree w A n T) (hcs : IsU8 w B m cs) (hH : IsBB w C (m + 1) H) (he1 : m + 1 ≤ e) (he2 : e ≤ 9223372036854775807) (hg : goodB T = true) (ht : toldB T.length cs H = true) (hi : i < n) (hl1 : 1 ≤ ld) (hl4 : ld ≤ 4) :
    Calls Tryz.prog 137 #[.agg #[.slice A n c], .int .i64 i, .int .u8 ld, .slice B m d, .slice C (m + 1) e] w fun r w' => r = .returned (.bool (hasF T i ld cs H)) ∧ Below w.heap.size w w' := by
  have hml := hcs.1
  have hcs' := hide hcs
  have hH' := hide hH
  clear hcs
  have hT := hide h
  have hl := h.1
  clear h
  have hB0 := below_alloc (Below.refl w.heap.size w) (.cells #[.slice A n c] 24)
  have hbox0 : (w.alloc (.cells #[.slice A n c] 24)).cell? ⟨w.heap.size, 0, none⟩ = some (.slice A n c) := by go_simp
  have hn64 : n ≤ 64 := by have := ((goodB_iff T).1 hg).2.1; omega
  have hn1 : 1 ≤ n := by omega
  have hil : i < T.length := by omega
  obtain ⟨bh, oh, hA, hC, rfl, hbh, hhc, hhr⟩ := hH.2.2 (by omega)
  have hkl := hH.1
  have hr0 : (rowB H 0).length = n := by rw [((toldB_iff _ _ _).1 ht).2.2.2.2 0 (by omega), hl]
  have gr := hhc 0 (by omega)
  have hI0 := (hhr 0 (by omega)).1
  rw [hr0] at gr hI0
  simp only [Nat.add_zero] at gr
  have hhc' := hide hhc
  have hhr' := hide hhr
  have hg' := hide hg
  have hnr := fun x hx => near_range hg hil (c := ld) (x := x) hx
  have hnl : (nearH T i ld).length ≤ n := by have := near_len hg hil ld; omega
  have htH := hide (cchk_zero.2 ⟨hg, hasH_told ht i ld⟩)
  have hlA : Hid (allE T cs (hasH T i ld H) = rchL T cs (hasH T i ld H) m) := by show _ = _; unfold allE; rw [if_pos htH.out, hml]
  have hnA : Hid ((rchL T cs (hasH T i ld H) m).length = n) := by show _ = _; rw [rchL_len, hl]
  have hfq := hide (fun q (hq : q < n) => fstQ_step T i ld H (q := q) (by omega))
  have hfm := fun x (hx : x < n) => firstL_map (T := T) (i := i) (c := ld) (H := H) (x := x) (by omega)
  have hfa : Hid (fstQ T i ld H n = firstL T i ld H) := by show _ = _; rw [← hl]; exact fstQ_all T i ld H
  have hfl : Hid ((firstL T i ld H).length = n) := by show _ = _; rw [firstL_len, hl]
  have hf0 : Hid (fstQ T i ld H 0 = List.replicate n false) := by show _ = _; rw [fstQ_zero, hl]
  have hfql := hide (fun q => fstQ_len T i ld H q)
  have hmk := mk_bools n (by omega)
  have hmm := @run_makeMap Tryz.prog
  have hm63 : m ≤ 63 := by have := told_len ht; omega
  have hHl : Hid ((H.drop 1).length = m) := by show _ = _; rw [List.length_drop]; omega
  have hres : Hid (hasF T i ld cs H = decide (true ∈ rchL T cs (hasH T i ld H) m)) := by show _ = _; unfold hasF; rw [hml]
  rw [hres.out]
  obtain ⟨L, hL⟩ : ∃ L, nearH T i ld = L := ⟨_, rfl⟩
  rw [hL] at hnr hnl
  simp only [hL] at hfm
  have hnr' := hide hnr
  have hfm' := hide hfm
  have hL' := hide hL
  have hH0 : Hid (firstL T i ld H :: H.drop 1 = hasH T i ld H) := rfl
  obtain ⟨XX, hXX⟩ : ∃ X, rchL T cs (hasH T i ld H) m = X := ⟨_, rfl⟩
  rw [hXX] at hlA hnA ⊢
  obtain ⟨F, hF⟩ : ∃ F, firstL T i ld H = F := ⟨_, rfl⟩
  rw [hF] at hfa hfl hH0
  have hfq2 : Hid (∀ q, q < n → (fstQ T i ld H q).set q (bx F q) = fstQ T i ld H (q + 1)) := by
    show ∀ q, _
    rw [← hF]; exact hfq.out
  have hfm2 : Hid (∀ x : Nat, x < n → mapF L (rowB H 0) L.length x = bx F x) := by
    show ∀ x, _
    rw [← hF]; exact hfm'.out
  generalize hA 0 = R0 at gr hI0
  generalize hC 0 = RC0 at gr
  obtain ⟨-, -, hro⟩ := hI0
  obtain ⟨b0, o0, rfl, hb0, hc0⟩ := hro (by omega)
  have gr' := hide gr
  have hc0' := hide hc0
  clear hg ht hH hhc hhr hr0 hro gr hc0 hnr hfm hL hXX hF hfq hfm'
  go_enter Tryz.func137, Tryz.ntmps137
  go_wp2_with fail
  have hB1 := below_alloc hB0 (.map #[] 0)
  refine (reach_ok A n c T i ld _ (hT.out.below hB1) hg'.out hi hl1 hl4).mono ?_
  rintro e2 w2 ⟨A2, c2, rfl, hI2, hb2⟩
  rw [hL'.out] at hI2 ⊢
  have hB2 := Below.on hB1 hb2
  have hbox2 := cell_later (Below.on (below_alloc (Below.refl _ _) (.map #[] 0)) hb2) hbox0
  have hM2 := hide ((OwnMB.made (w.alloc (.cells #[.slice A n c] 24)) (w.heap.size + 1) (by simp)).below hb2)
  have hs2 : w.heap.size + 1 < w2.heap.size := hM2.out.lt
  have hI2' := hide hI2
  clear hI2 hb2 hB1
  go_wp2
  go_loopw [24] (fun s wr => ∃ x : Nat, x ≤ L.length ∧ s = .int .i64 x ∧ Below w.heap.size w wr ∧ wr.cell? ⟨w.heap.size, 0, none⟩ = some (.slice A n c) ∧ OwnMB wr (w.heap.size + 1) x (mapF L (rowB H 0) x) ∧ IsInts wr A2 L.length L ∧ w.heap.size + 1 < wr.heap.size) (fun s _ => L.length - (intOf s).toNat)
  case atStart => exact ⟨0, Nat.zero_le _, rfl, hB2, hbox2, hM2.out.congr (fun z => (mapF_zero _ _ z).symm), hI2'.out, hs2⟩
  case round =>
    obtain ⟨x, hx, rfl, hb, hbox, hM, hIL, hsz⟩ := hrel
    have hIL' := hide hIL
    have hM' := hide hM
    clear hIL
    by_cases hlx : x < L.length
    · obtain ⟨y, hy, hyn⟩ := hnr'.out _ (ix_mem hlx)
      obtain ⟨bl, ol, rfl, hbl, hcl⟩ := hIL'.out.2.2 (by omega)
      have gy := hcl x hlx
      rw [hy] at gy
      have gr := (old hb _ _ hbh).trans gr'.out
      have g0 := (old hb _ _ hb0).trans (hc0'.out y (by omega))
      have hbhr : bh < wr.heap.size := Nat.lt_of_lt_of_le hbh hb.size
      have hb0r : b0 < wr.heap.size := Nat.lt_of_lt_of_le hb0 hb.size
      have hmq := hide (fun z => mapF_succ (rowB H 0) hlx hy z)
      have hyn' : y < n := by omega
      obtain ⟨v0, hv0⟩ : ∃ v, bx (rowB H 0) y = v := ⟨_, rfl⟩
      rw [hv0] at g0 hmq
      clear hcl hy hv0
      go_wp2_with (at_mapUpdate; refine wpList_mapB rfl _ _ _ rfl Tryz.underlying183 hM (by omega) (y : Int) (by omega) (by omega) v0 rfl rfl rfl ?_)
      intro w5 hM5 hg5
      have hb5 := hide (hb.grown hg5 hb.size (fun k hk => by injection hk with hk; omega))
      have hbox5 := hide (map_cell hM'.out hg5 hbox)
      have hI5 := hide (hIL'.out.map hM'.out hg5)
      have hs5 : w.heap.size + 1 < w5.heap.size := Nat.lt_of_lt_of_le hsz hg5.size
      have hM5' := hide (hM5.congr hmq.out)
      clear hM5 hg5 hM
      go_wp2
      go_roundw
      case rel => exact ⟨x + 1, by omega, by go_num, hb5.out, hbox5.out, hM5'.out, hI5.out, hs5⟩
      case measure => simp [intOf]; omega
    · obtain rfl : x = L.length := by omega
      generalize wr = u at *
      clear hM
      have hlu : w.heap.size < u.heap.size := by omega
      have hup := hide (below_alloc (Below.refl u.heap.size u) (.cells (madeCells #[.bool false] n) 4))
      have hmade := hide (own_made u u.heap.size u.heap.size n rfl (Nat.le_refl _) (by omega))
      clear hIL'
      go_wp2
      go_loopw [43] (fun s Z => ∃ x : Nat, x ≤ n ∧ s = .int .i64 x ∧ Below u.heap.size u Z ∧ Z.ownsRow u.heap.size 4 1 (.slice (some ⟨u.heap.size, 0, none⟩) n n) n (bools (fstQ T i ld H x))) (fun s _ => n - (intOf s).toNat)
      case atStart => exact ⟨0, Nat.zero_le _, rfl, hup.out, by rw [hf0.out]; exact hmade.out⟩
      case round =>
        obtain ⟨x, hx2, rfl, hbz, hnz⟩ := hrel
        have hboxz := cell_later hbz hbox
        obtain ⟨gN, capN, csN, hvN, hnN1, hnN2, hnN3, hnN4⟩ := own_blk hnz (by omega)
        injection hvN with e1 e2 e3
        injection e1 with e1
        injection e1 with e1 e4 e5
        subst e1 e3
        have hlN := blk_lt hnN4
        have hnz' := hide hnz
        by_cases hltx : x < n
        · have fN : wr.frozen? ⟨u.heap.size, x, none⟩ = false := blk_frozen hnN4 _
          have cN : wr.cell? ⟨u.heap.size, x, none⟩ = some (.bool (bx (fstQ T i ld H x) x)) := by
            rw [World.ownsRow.cellAt hnz x (by omega), bools_get (by rw [hfql.out]; omega)]
          have hMz := hM'.out.below hbz
          have hfx := hide (hfm2.out x hltx)
          have hns := hide (hfq2.out x hltx)
          clear hnz hnN4 e2 e4 e5
          go_wp2_with (at_lookup; refine wpList_lookB rfl _ _ rfl Tryz.underlying183 hMz (x : Int) (by omega) (by omega) rfl rfl ?_)
          rw [hfx.out]
          obtain ⟨vb, hvb⟩ : ∃ v, bx F x = v := ⟨_, rfl⟩
          rw [hvb] at hns ⊢
          clear hMz hfx hvb
          go_wp2
          go_roundw
          case rel =>
            refine ⟨x + 1, by omega, by go_num, hbz.setCell (p := ⟨u.heap.size, x, none⟩) (Nat.le_refl _) _, ?_⟩
            have h9 := own_upd (o := x) hnz'.out (.bool vb)
            rw [bools_set, hns.out] at h9
            exact h9
          case measure => simp [intOf]; omega
        · obtain rfl : x = n := by omega
          have hOB : OwnB wr u.heap.size (.slice (some ⟨u.heap.size, 0, none⟩) x x) F := by
            unfold OwnB
            rw [hfl.out, ← hfa.out]
            exact hnz'.out
          obtain ⟨AF, cF, hvF, hF1, hF2, hIF⟩ := hOB.isBools (by rw [hfl.out]; omega)
          rw [hfl.out] at hvF hF1 hIF
          injection hvF with q1 q2 q3
          subst q1 q3
          have hIF' := hide hIF
          have hBz := Below.on hb hbz
          generalize wr = v at *
          have hlv : w.heap.size < v.heap.size := cell_in hboxz
          clear hnz hnN4 hOB hIF e2 e4 e5 q2 hmk hmm
          by_cases hee : e = 1
          · obtain rfl : m = 0 := by omega
            subst hee
            have hBd : Below w.heap.size w v.drew := hBz.drew
            obtain ⟨A6, c6, w6, hrun6, hI6, hb6⟩ := front_run v.drew 65 (some ⟨u.heap.size, 0, none⟩) x x F (hIF'.out.below (Below.refl v.heap.size v).drew) (Nat.le_refl _) (by omega) (⟨bh, oh, none⟩ : Addr) 0 0 (H.drop 1) (by omega) hHl.out (fun j => hA (1 + j)) (fun j => hC (1 + j))
              (fun j hj => by
                rw [rowB_drop]
                first
                  | (exfalso; omega)
                  | (rw [show (⟨bh, oh + 1, none⟩ : Addr).add j = ⟨bh, oh + (1 + j), none⟩ by unfold Addr.add; split <;> simp_all <;> omega]; exact (old hBd _ _ hbh).trans (hhc'.out (1 + j) (by omega))))
              (fun j hj => by
                rw [rowB_drop]
                have := hhr'.out (1 + j) (by omega)
                exact ⟨this.1.below hBd, this.2⟩)
            rw [hH0.out] at hI6
            have hrun6' : Hid ((Builtin.append_ #[65, 65] 65 #[.slice (some ⟨v.heap.size, 0, none⟩) 1 1, .slice (some (⟨bh, oh, none⟩ : Addr)) 0 0]).run Tryz.prog ((v.alloc (.cells #[.slice (some ⟨u.heap.size, 0, none⟩) x x] 30)).drew) = .ok (.slice A6 (1 + 0) c6) w6) := hrun6
            have hz6 : Below v.heap.size v w6 := Below.on (w1 := v.drew) (Below.refl _ _).drew hb6
            have hB6 := Below.on hBz hz6
            have hbox6 := cell_later hz6 hboxz
            have hk7 := hide (call_at T cs (hasH T i ld H) XX 0 htH.out hlA.out A B A6 x c 0 d (1 + 0) c6 w6 (hT.out.below hB6) (hcs'.out.below hB6) hI6)
            have p1 : (1 : Int) ≤ ((0 : Nat) : Int) + 1 := by omega
            clear hI6 hrun6
            go_wp2
            go_region_held3 (fun X => X.cell? ⟨w.heap.size, 0, none⟩ = some (.slice A x c)) (first | exact hboxz | exact hbox6 | exact r0 | exact far_alloc'' hboxz _) (first | (go_at_call 54; (with_reducible refine hk7.out.mono ?_); rintro e7 w7 ⟨A7, c7, rfl, hI7, h71, h72, hb7⟩; have r0 := cell_later hb7 hbox6) | (refine step_append_run rfl _ _ 65 65 rfl (.slice (some ⟨v.heap.size, 0, none⟩) 1 1) (.slice (some (⟨bh, oh, none⟩ : Addr)) 0 0) (by simp [Act.eval]) (by simp [Act.eval]) hrun6'.out ?_))
            have hI7' := hide hI7
            have hB7 := Below.on hB6 hb7
            clear hI7 r0 hb7
            go_wp2_with fail
            refine (containsT_ok A7 XX.length c7 XX _ hI7'.out).mono ?_
            rintro e8 w8 ⟨rfl, rfl⟩
            go_wp2
            go_ret
            exact ⟨rfl, hB7⟩
          · have hBd : Below w.heap.size w v.drew := hBz.drew
            obtain ⟨A6, c6, w6, hrun6, hI6, hb6⟩ := front_run v.drew 65 (some ⟨u.heap.size, 0, none⟩) x x F (hIF'.out.below (Below.refl v.heap.size v).drew) (Nat.le_refl _) (by omega) (⟨bh, oh + 1, none⟩ : Addr) m (e - 1) (H.drop 1) (by omega) hHl.out (fun j => hA (1 + j)) (fun j => hC (1 + j))
              (fun j hj => by
                rw [rowB_drop]
                first
                  | (exfalso; omega)
                  | (rw [show (⟨bh, oh + 1, none⟩ : Addr).add j = ⟨bh, oh + (1 + j), none⟩ by unfold Addr.add; split <;> simp_all <;> omega]; exact (old hBd _ _ hbh).trans (hhc'.out (1 + j) (by omega))))
              (fun j hj => by
                rw [rowB_drop]
                have := hhr'.out (1 + j) (by omega)
                exact ⟨this.1.below hBd, this.2⟩)
            rw [hH0.out] at hI6
            have hrun6' : Hid ((Builtin.append_ #[65, 65] 65 #[.slice (some ⟨v.heap.size, 0, none⟩) 1 1, .slice (some (⟨bh, oh + 1, none⟩ : Addr)) m (e - 1)]).run Tryz.prog ((v.alloc (.cells #[.slice (some ⟨u.heap.size, 0, none⟩) x x] 30)).drew) = .ok (.slice A6 (1 + m) c6) w6) := hrun6
            have hz6 : Below v.heap.size v w6 := Below.on (w1 := v.drew) (Below.refl _ _).drew hb6
            have hB6 := Below.on hBz hz6
            have hbox6 := cell_later hz6 hboxz
            have hk7 := hide (call_at T cs (hasH T i ld H) XX 0 htH.out hlA.out A B A6 x c m d (1 + m) c6 w6 (hT.out.below hB6) (hcs'.out.below hB6) hI6)
            have p1 : (1 : Int) ≤ ((m : Nat) : Int) + 1 := by omega
            clear hI6 hrun6
            go_wp2
            go_region_held3 (fun X => X.cell? ⟨w.heap.size, 0, none⟩ = some (.slice A x c)) (first | exact hboxz | exact hbox6 | exact r0 | exact far_alloc'' hboxz _) (first | (go_at_call 54; (with_reducible refine hk7.out.mono ?_); rintro e7 w7 ⟨A7, c7, rfl, hI7, h71, h72, hb7⟩; have r0 := cell_later hb7 hbox6) | (refine step_append_run rfl _ _ 65 65 rfl (.slice (some ⟨v.heap.size, 0, none⟩) 1 1) (.slice (some (⟨bh, oh + 1, none⟩ : Addr)) m (e - 1)) (by simp [Act.eval]) (by simp [Act.eval]) hrun6'.out ?_))
            have hI7' := hide hI7
            have hB7 := Below.on hB6 hb7
            clear hI7 r0 hb7
            go_wp2_with fail
            refine (containsT_ok A7 XX.length c7 XX _ hI7'.out).mono ?_
            rintro e8 w8 ⟨rfl, rfl⟩
            go_wp2
            go_ret
            exact ⟨rfl, hB7⟩
end Go.Proofs.YtljloicgjgbplaaGreat
/- Walks: Match and All of chapter 22, by the program. Condition: none but on the capacity of what is told. -/
namespace Go.Proofs.YtljloicgjgbplaaGreat
open Go.RowKit

def haE (T : List ANode) (ld : Int) (cs : List Int) (H : List (List Bool)) : Int := if ldE T ld = 0 then cchk T cs H else ldE T ld
def hasL (T : List ANode) (ld : Int) (cs : List Int) (H : List (List Bool)) : List Bool := (List.range T.length).map fun i => hasF T i ld cs H
theorem haE_zero {T : List ANode} {ld : Int} {cs : List Int} {H : List (List Bool)} : haE T ld cs H = 0 ↔ goodB T = true ∧ (1 ≤ ld ∧ ld ≤ 4) ∧ toldB T.length cs H = true := by
  unfold haE
  by_cases h : ldE T ld = 0
  · rw [if_pos h, cchk_zero]
    obtain ⟨h1, h2⟩ := ldE_zero.1 h
    constructor
    · rintro ⟨-, h4⟩; exact ⟨h1, h2, h4⟩
    · rintro ⟨-, -, h4⟩; exact ⟨h1, h4⟩
  · rw [if_neg h]
    constructor
    · intro h'; exact absurd h' h
    · rintro ⟨h1, h2, -⟩; exact absurd (ldE_zero.2 ⟨h1, h2⟩) h
theorem hasL_len (T : List ANode) (ld : Int) (cs : List Int) (H : List (List Bool)) : (hasL T ld cs H).length = T.length := by simp [hasL]
theorem take_hasL (T : List ANode) (ld : Int) (cs : List Int) (H : List (List Bool)) {q : Nat} (hq : q < T.length) : (hasL T ld cs H).take (q + 1) = (hasL T ld cs H).take q ++ [hasF T q ld cs H] := by
  rw [take_snoc' _ _ (by rw [hasL_len]; exact hq)]
  congr 2
  simp [hasL]
end Go.Proofs.YtljloicgjgbplaaGreat
