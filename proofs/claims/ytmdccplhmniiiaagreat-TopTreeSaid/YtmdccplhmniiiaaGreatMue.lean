/- Walks: a list without a number, a tree out of which an element is taken, and one in which it is put elsewhere, by the reference. Conditions: the tree is good, the elements are in it. -/
import Derived.Test.YtmdccplhmniiiaaGreatPlm
import Derived.Test.YtmdccplhmniiiaaGreatRoi
namespace Go.Proofs.YtmdccplhmniiiaaGreat
open Go.RowKit

set_option maxRecDepth 100000 in
set_option maxHeartbeats 2000000 in
theorem rwithout_ok (A : Option Addr) (n c : Nat) (xs : List Int) (x : Int) (w : World) (h : IsInts w A n xs) (hn : n ≤ 1000) :
    Calls Tryz.prog 73 #[.slice A n c, .int .i64 x] w (MadeInts w (less1 xs x)) := by
  have hI := hide h
  have hl := h.1
  clear h
  have hl' := hide hl
  go_enter Tryz.func73, Tryz.ntmps73
  go_wp2
  go_loopw [5, 6] (fun v i wr => ∃ (q : Nat), q ≤ n ∧ i = .int .i64 q ∧ OwnI wr w.heap.size v (less1 (xs.take q) x) ∧ Below w.heap.size w wr ∧ (less1 (xs.take q) x = [] → v = .slice none 0 0)) (fun _ i _ => n - (intOf i).toNat)
  case atStart => exact ⟨0, Nat.zero_le _, rfl, OwnI.nil _ _, Below.refl _ _, fun _ => rfl⟩
  case round =>
    obtain ⟨q, hq, rfl, hown, hb, hnil⟩ := hrel
    have hpl := less1_len (xs.take q) x
    have hql : (xs.take q).length ≤ q := List.length_take_le _ _
    have hsz := hb.size
    have hnil' := hide hnil
    clear hnil
    by_cases hlt : q < n
    · have hsn := hide (less1_snoc (xs := xs) (j := q) (by omega) x)
      obtain ⟨b', off', rfl, hb', hck⟩ := hI.out.2.2 (by omega)
      have gk := (old hb _ _ hb').trans (hck q hlt)
      have hbr' : b' < wr.heap.size := Nat.lt_of_lt_of_le hb' hb.size
      clear hck
      by_cases he : ix xs q = x
      · have hsn' : Hid (less1 (xs.take (q + 1)) x = less1 (xs.take q) x) := by show _ = _; rw [hsn.out, if_pos he, List.append_nil]
        rw [he] at gk
        clear hsn he
        go_wp2
        go_roundw
        case rel => exact ⟨q + 1, by omega, by go_num, by rw [hsn'.out]; exact hown, hb, by rw [hsn'.out]; exact hnil'.out⟩
        case measure => simp [intOf]; omega
      · have hsn' : Hid (less1 (xs.take (q + 1)) x = less1 (xs.take q) x ++ [ix xs q]) := by show _ = _; rw [hsn.out, if_neg he]
        obtain ⟨y, hy⟩ : ∃ y, ix xs q = y := ⟨_, rfl⟩
        rw [hy] at gk hsn' he
        have he' : (y != x) = true := by simp [he]
        obtain ⟨P, hP⟩ : ∃ P, less1 (xs.take q) x = P := ⟨_, rfl⟩
        rw [hP] at hown hsn' hpl
        clear hsn he hy hP hnil'
        go_wp2_with (at_builtin; refine wpList_pushI rfl _ _ rfl hown y _ rfl rfl (by omega) hsz ?_)
        intro A' c' w' hown' hG
        have hb' := hG.below (Nat.le_refl _) hb
        clear hown hG
        go_wp2
        go_roundw
        case rel => exact ⟨q + 1, by omega, by go_num, by rw [hsn'.out]; exact hown', hb', by rw [hsn'.out]; simp⟩
        case measure => simp [intOf]; omega
    · obtain rfl : q = n := by omega
      have e : xs.take q = xs := List.take_of_length_le (by omega)
      rw [e] at hown hnil' hpl
      go_wp2
      go_ret
      obtain ⟨A', c', rfl, h1, h2, h3⟩ := OwnI.isInts hown (by omega)
      exact ⟨A', c', rfl, hown, hb, fun h => by have := hnil'.out h; injection this with a b c; exact ⟨a, c⟩, h1, h2, h3⟩

/-- Where the tree is good, it suffices to look at the parent's children. -/
theorem list_nd {S T : List ANode} (hl : S.length = T.length) (h : ∀ j, j < S.length → nd S j = nd T j) : S = T := by
  refine List.ext_getElem hl fun j h1 h2 => ?_
  have := h j h1
  unfold nd at this
  rw [List.getD_eq_getElem?_getD, List.getD_eq_getElem?_getD, List.getElem?_eq_getElem h1, List.getElem?_eq_getElem h2] at this
  exact this
theorem taken_par {T : List ANode} (hg : goodB T = true) {k p : Nat} (hk : k < T.length) (hp : p < T.length) (hpar : par T k = p) : setP (setK T p (less1 (kids T p) k)) k (-1) = takenT T k := by
  have hl : (setK T p (less1 (kids T p) k)).length = T.length := by unfold setK; rw [List.length_set]
  refine list_nd (by rw [takenT_len]; unfold setP; rw [List.length_set, hl]) fun j hj => ?_
  have hj' : j < T.length := by unfold setP at hj; rw [List.length_set, hl] at hj; exact hj
  rw [nd_taken hk]
  unfold setP
  rw [nd_set (by rw [hl]; exact hk)]
  unfold setK
  rw [nd_set hp, nd_set hp]
  have hno : ∀ i, i < T.length → i ≠ p → less1 (kids T i) k = kids T i := fun i hi hne => less1_none fun hm => by
    obtain ⟨y, hy, hyl, hyp⟩ := good_kid hg hi hm
    have : y = k := by omega
    subst this; omega
  by_cases hjk : j = k
  · subst hjk
    rw [if_pos rfl, if_pos rfl]
    have hne : j ≠ p := fun e => by
      have := anc_self hg hk
      rw [hpar, ← e] at this
      exact this (anc_self_mem hg hk)
    rw [if_neg hne, hno j hj' hne]; rfl
  · rw [if_neg hjk, if_neg hjk]
    split
    · rename_i e; subst e; rfl
    · rename_i e; rw [hno j hj' e]; rfl
theorem taken_top {T : List ANode} (hg : goodB T = true) {k : Nat} (hk : k < T.length) (hpar : par T k < 0) : setP T k (-1) = takenT T k ∧ takenT T k = T := by
  have hno : ∀ i, i < T.length → less1 (kids T i) k = kids T i := fun i hi => less1_none fun hm => by
    obtain ⟨y, hy, hyl, hyp⟩ := good_kid hg hi hm
    have : y = k := by omega
    subst this; omega
  have hm1 : par T k = -1 := by have := (good_par hg hk).1; omega
  have h2 : takenT T k = T := by
    refine list_nd (takenT_len T k) fun j hj => ?_
    have hj' : j < T.length := by rw [takenT_len] at hj; exact hj
    rw [nd_taken hk]
    split
    · rename_i e; subst e; rw [hno j hj', ← hm1]; rfl
    · rw [hno j hj']; rfl
  refine ⟨?_, h2⟩
  rw [h2]
  refine list_nd (by unfold setP; rw [List.length_set]) fun j _ => ?_
  unfold setP
  rw [nd_set hk]
  split
  · rename_i e; subst e; rw [← hm1]; rfl
  · rfl

set_option maxRecDepth 100000 in
set_option maxHeartbeats 8000000 in
theorem rtaken_ok (A : Option Addr) (n c : Nat) (T : List ANode) (k : Nat) (w : World) (h : IsTree w A n T) (hg : goodB T = true) (hk : k < n) :
    Calls Tryz.prog 54 #[.agg #[.slice A n c], .int .i64 k] w (MadeOwn w n (takenT T k)) := by
  have hT := hide h
  have hl := h.1
  have ho := hide h.2.2.2
  clear h
  have hB0 : Below w.heap.size w ((w.alloc (.cells #[.slice A n c] 26)).alloc (.cells #[.slice none 0 0] 26)) := below_alloc (below_alloc (Below.refl _ _) _) _
  have hbox0 : ((w.alloc (.cells #[.slice A n c] 26)).alloc (.cells #[.slice none 0 0] 26)).cell? ⟨w.heap.size, 0, none⟩ = some (.slice A n c) := by go_simp
  have hr0 : ((w.alloc (.cells #[.slice A n c] 26)).alloc (.cells #[.slice none 0 0] 26)).heap[w.heap.size + 1]? = some (.cells #[.slice none 0 0] 26 (0, 0)) := blk_at _ _ _ _ (by simp)
  have hn64 : n ≤ 64 := by have := ((goodB_iff T).1 hg).2.1; omega
  have hfit := hide (good_fits hg)
  have hpr := good_par hg (by omega : k < T.length)
  have hXl0 : (takenT T k).length = n := by rw [takenT_len]; exact hl
  have hfitX := hide (good_fits (good_taken hg (by omega : k < T.length)))
  obtain ⟨b, off, aA, cA, aC, cC, rfl, hbl, -, -, c2, c3, -, hC⟩ := ho.out (by omega)
  have c2' := hide (c2 k hk)
  by_cases hp0 : par T k < 0
  · have hX0 := (taken_top hg (by omega : k < T.length) hp0).1
    obtain ⟨X, hX⟩ : ∃ X, takenT T k = X := ⟨_, rfl⟩
    rw [hX] at hX0 hXl0 hfitX ⊢
    have hX0' := hide hX0
    have hXl := hXl0
    clear hX hX0 hg ho c2 c3 hC hpr hXl0
    go_enter Tryz.func54, Tryz.ntmps54
    go_wp2_with fail
    refine (twin_ok _ _ _ T _ (hT.out.below hB0) (by omega) hfit.out).mono ?_
    rintro e w1 ⟨A1, c4, rfl, hO4, -, hb1⟩
    have hB1 := Below.on hB0 hb1
    have hr1 := (hb1.block (w.heap.size + 1) (blk_lt hr0)).trans hr0
    have hO4a := (hO4.base (base := w.heap.size + 2) (by simp)).below (below_alloc (Below.refl _ _) (.cells #[.slice A1 n c4] 26))
    have hr1a := hide (blk_alloc hr1 (.cells #[.slice A1 n c4] 26))
    have hk1a := hide (blk_new w1 #[.slice A1 n c4] 26)
    have hB1a := hide (below_alloc hB1 (.cells #[.slice A1 n c4] 26))
    have hbox1a := cell_later (below_alloc hb1 (.cells #[.slice A1 n c4] 26)) hbox0
    have gk := (old hB1a.out _ _ hbl).trans c2'.out
    have f0 : (w1.alloc (.cells #[.slice A1 n c4] 26)).cell? ⟨w1.heap.size, 0, none⟩ = some (.slice A1 n c4) := by rw [blk_cell hk1a.out]; rfl
    have q1 : (w1.alloc (.cells #[.slice A1 n c4] 26)).cell? ⟨w.heap.size + 1, 0, none⟩ = some (.slice none 0 0) := by rw [blk_cell hr1a.out]; rfl
    have q2 : (w1.alloc (.cells #[.slice A1 n c4] 26)).frozen? ⟨w.heap.size + 1, 0, none⟩ = false := blk_frozen hr1a.out 0
    have hz1 := hb1.size
    have hb11 : w.heap.size + 2 ≤ w1.heap.size := by simp at hz1; omega
    obtain ⟨g, cap, A', ac', C', cc', N⟩ := hO4a.node hk (by omega)
    have hval := N.val
    injection hval with e1 e2 e3
    subst e1 e3
    have hgl := N.lt
    have hlow := N.low
    have hroom := N.room
    have hcap := N.cap63
    have hc2 := N.c2
    have fz2 := N.fz (k * 4 + 2)
    have ng4 : ¬ (w.heap.size + 1 = g) := by omega
    have ng2 : ¬ (w1.heap.size = g) := by obtain ⟨cs, hcs⟩ := N.typ; exact blk_ne hk1a.out hcs (by decide)
    have hO8 := N.onP (-1)
    rw [hX0'.out] at hO8
    have hBW := hB1a.out
    have hr8 := blk_far (p := ⟨g, k * 4 + 2, none⟩) hr1a.out ng4 (.int .i64 (-1))
    have hO9 := (hO8.set_typed (i := 0) hr8 (.slice (some ⟨g, 0, none⟩) n c4)).base (base := w.heap.size) (by omega)
    obtain ⟨A8, c8, hv8, -, -, hT8⟩ := isTree_of_own hO9 hXl (by omega) hfitX.out
    injection hv8 with h1 hx5 hx6
    subst h1
    have hB9 := hBW.setCell (p := ⟨g, k * 4 + 2, none⟩) (by show w.heap.size ≤ g; omega) (.int .i64 (-1))
    have hB10 := hB9.setCell (p := ⟨w.heap.size + 1, 0, none⟩) (by show w.heap.size ≤ w.heap.size + 1; omega) (.slice (some ⟨g, 0, none⟩) n c4)
    have hE : MadeOwn w n X (.returned (.agg #[.slice (some ⟨g, 0, none⟩) n c4])) _ := ⟨_, _, rfl, hO9, hT8, hB10⟩
    have hres : World.cell? _ ⟨w.heap.size + 1, 0, none⟩ = some (.slice (some ⟨g, 0, none⟩) n c4) := (blk_cell (blk_set hr8 0 (.slice (some ⟨g, 0, none⟩) n c4)) 0).trans rfl
    have hE' := hide hE
    have hres' := hide hres
    clear hE hres hB10 hT8 hO9 hB9 hr8 hO8 N hO4a hO4 hBW hx5 hx6 hb1 hr1 hr0 hB1 hbox0 hz1 hB0
    go_wp2
    exact bodyPost_ret (v := .agg #[.slice (some ⟨g, 0, none⟩) n c4]) (by simp [results, Tryz.results54, go_sem, hres'.out]) rfl hE'.out
  · obtain ⟨p, hpe⟩ := Int.eq_ofNat_of_zero_le (by omega : 0 ≤ par T k)
    have hp : p < n := by omega
    have hX0 := taken_par hg (by omega : k < T.length) (by omega : p < T.length) hpe
    obtain ⟨X, hX⟩ : ∃ X, takenT T k = X := ⟨_, rfl⟩
    rw [hX] at hX0 hXl0 hfitX ⊢
    have hX0' := hide hX0
    have hXl := hXl0
    rw [hpe] at c2'
    have c3' := hide (c3 p hp)
    have hI' := hide (hC p hp).1
    have hkl : (kids T p).length ≤ 70 := (hfit.out (nd T p) (nd_mem (by omega))).2.2.1
    obtain ⟨l, hla⟩ : ∃ l, kids T p = l := ⟨_, rfl⟩
    have hla' := hide hla
    rw [hla] at c3' hI' hkl hX0'
    generalize cA p = CA at c3' hI'
    generalize cC p = cc at c3'
    have hls := less1_len l (k : Int)
    clear hX hX0 hg ho c2 c3 hC hpr hXl0 hpe hp0 hla
    go_enter Tryz.func54, Tryz.ntmps54
    go_wp2_with fail
    refine (twin_ok _ _ _ T _ (hT.out.below hB0) (by omega) hfit.out).mono ?_
    rintro e w1 ⟨A1, c4, rfl, hO4, -, hb1⟩
    have hB1 := Below.on hB0 hb1
    have hr1 := (hb1.block (w.heap.size + 1) (blk_lt hr0)).trans hr0
    have hO4a := (hO4.base (base := w.heap.size + 2) (by simp)).below (below_alloc (Below.refl _ _) (.cells #[.slice A1 n c4] 26))
    have hr1a := hide (blk_alloc hr1 (.cells #[.slice A1 n c4] 26))
    have hk1a := hide (blk_new w1 #[.slice A1 n c4] 26)
    have hB1a := hide (below_alloc hB1 (.cells #[.slice A1 n c4] 26))
    have hbox1a := cell_later (below_alloc hb1 (.cells #[.slice A1 n c4] 26)) hbox0
    have gk := (old hB1a.out _ _ hbl).trans c2'.out
    have f0 : (w1.alloc (.cells #[.slice A1 n c4] 26)).cell? ⟨w1.heap.size, 0, none⟩ = some (.slice A1 n c4) := by rw [blk_cell hk1a.out]; rfl
    have q1 : (w1.alloc (.cells #[.slice A1 n c4] 26)).cell? ⟨w.heap.size + 1, 0, none⟩ = some (.slice none 0 0) := by rw [blk_cell hr1a.out]; rfl
    have q2 : (w1.alloc (.cells #[.slice A1 n c4] 26)).frozen? ⟨w.heap.size + 1, 0, none⟩ = false := blk_frozen hr1a.out 0
    have hz1 := hb1.size
    have hb11 : w.heap.size + 2 ≤ w1.heap.size := by simp at hz1; omega
    have gp := (old hB1a.out _ _ hbl).trans c3'.out
    have hI1 := hide (hI'.out.below hB1a.out)
    obtain ⟨g, cap, A', ac', C', cc', N⟩ := hO4a.node hp (by omega)
    have hval := N.val
    injection hval with e1 e2 e3
    subst e1 e3
    have hgl := N.lt
    have hlow := N.low
    have hroom := N.room
    have hcap := N.cap63
    have hcl := N.c3
    have fz3 := N.fz (p * 4 + 3)
    have hN := hide N
    have ng4 : ¬ (w.heap.size + 1 = g) := by omega
    have ng2 : ¬ (w1.heap.size = g) := by obtain ⟨cs, hcs⟩ := N.typ; exact blk_ne hk1a.out hcs (by decide)
    have hwo : Hid (Calls Tryz.prog 73 #[.slice CA l.length cc, .int .i64 k] (w1.alloc (.cells #[.slice (some ⟨g, 0, none⟩) n c4] 26)).drew (MadeInts (w1.alloc (.cells #[.slice (some ⟨g, 0, none⟩) n c4] 26)).drew (less1 l k))) := rwithout_ok CA l.length cc l k _ (hI1.out.below (Below.refl _ _).drew) (by omega)
    have j0 : (0 : Int) ≤ (p : Int) := by omega
    have j1 : (p : Int) < (n : Int) := by omega
    clear N hO4a hO4 hb1 hr1 hr0 hB1 hbox0 hz1 hB0 hcap hroom e2
    go_wp2
    go_region_with (first | (go_at_call 73; (with_reducible refine hwo.out.mono ?_); rintro e w6 ⟨A6, c6, rfl, hown6, hb6, -, -, -, -⟩; have r0 : w6.cell? ⟨w1.heap.size, 0, none⟩ = some (.slice (some ⟨g, 0, none⟩) n c4) := cell_later hb6 f0; have r1 : w6.cell? ⟨g, p * 4 + 3, none⟩ = _ := cell_later hb6 hcl; have r2 : w6.frozen? ⟨g, p * 4 + 3, none⟩ = false := (oldf hb6 _ _ hgl).trans fz3))
    all_goals
      have hO6 := hN.out.onK w6 A6 c6 (less1 l k) (fun q hq _ => hb6.block q hq) (own_base hown6 (by simp; omega)) (fun q hq => .inr (own_lt hown6 q hq).1)
      obtain ⟨csN, hgN⟩ := hN.out.typ
      have hgN6 := (hb6.block g hgl).trans hgN
      have hk6 := (hb6.block w1.heap.size (by simp)).trans hk1a.out
      have hr6 := (hb6.block (w.heap.size + 1) (by simp; omega)).trans hr1a.out
      obtain ⟨g7, cap7, A7, ac7, C7, cc7, N7⟩ := hO6.node hk (by unfold setK; rw [List.length_set]; omega)
      have hv7 := N7.val
      injection hv7 with h1 hx1 hx2
      injection h1 with h1
      injection h1 with h1 hx3 hx4
      subst h1
      have hO8 := N7.onP (-1)
      rw [hX0'.out] at hO8
      have f16 : w6.frozen? ⟨g, k * 4 + 2, none⟩ = false := blk_frozen hgN6 _
      have hr7 := blk_far (p := ⟨g, p * 4 + 3, none⟩) hr6 ng4 (.slice A6 (less1 l k).length c6)
      have hB6 : Below w.heap.size w w6 := Below.on (show Below w.heap.size w (w1.alloc (.cells #[.slice (some ⟨g, 0, none⟩) n c4] 26)).drew from hB1a.out.drew) hb6
      have hBW := hB6.setCell (p := ⟨g, p * 4 + 3, none⟩) (by show w.heap.size ≤ g; omega) (.slice A6 (less1 l k).length c6)
      have hr8 := blk_far (p := ⟨g, k * 4 + 2, none⟩) hr7 ng4 (.int .i64 (-1))
      have hO9 := (hO8.set_typed (i := 0) hr8 (.slice (some ⟨g, 0, none⟩) n c4)).base (base := w.heap.size) (by omega)
      obtain ⟨A8, c8, hv8, -, -, hT8⟩ := isTree_of_own hO9 hXl (by omega) hfitX.out
      injection hv8 with h1 hx5 hx6
      subst h1
      have hB9 := hBW.setCell (p := ⟨g, k * 4 + 2, none⟩) (by show w.heap.size ≤ g; omega) (.int .i64 (-1))
      have hB10 := hB9.setCell (p := ⟨w.heap.size + 1, 0, none⟩) (by show w.heap.size ≤ w.heap.size + 1; omega) (.slice (some ⟨g, 0, none⟩) n c4)
      have hE : MadeOwn w n X (.returned (.agg #[.slice (some ⟨g, 0, none⟩) n c4])) _ := ⟨_, _, rfl, hO9, hT8, hB10⟩
      have hres : World.cell? _ ⟨w.heap.size + 1, 0, none⟩ = some (.slice (some ⟨g, 0, none⟩) n c4) := (blk_cell (blk_set hr8 0 (.slice (some ⟨g, 0, none⟩) n c4)) 0).trans rfl
      have hE' := hide hE
      have hres' := hide hres
      have k6c : w6.cell? ⟨w1.heap.size, 0, none⟩ = some (.slice (some ⟨g, 0, none⟩) n c4) := by rw [blk_cell hk6]; rfl
      have q1 : w6.cell? ⟨w.heap.size + 1, 0, none⟩ = some (.slice none 0 0) := by rw [blk_cell hr6]; rfl
      have q2 : w6.frozen? ⟨w.heap.size + 1, 0, none⟩ = false := blk_frozen hr6 0
      have q3 := N7.c2
      rw [World.cell?_setCell_other] at q3
      rotate_left
      · intro e; injection e with e1 e2; omega
      clear hE hres hB10 hT8 hO9 hB9 hr8 hO8 N7 hO6 hBW hB6 hr7 hx1 hx2 hx3 hx4 hx5 hx6 hown6 hb6 r0 r1 r2 hgN6 hgN hk6 hr6 hwo
      go_wp2
      exact bodyPost_ret (v := .agg #[.slice (some ⟨g, 0, none⟩) n c4]) (by simp [results, Tryz.results54, go_sem, hres'.out]) rfl hE'.out
end Go.Proofs.YtmdccplhmniiiaaGreat
