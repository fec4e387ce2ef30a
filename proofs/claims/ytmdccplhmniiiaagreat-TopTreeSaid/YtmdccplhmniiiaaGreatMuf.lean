/- Walks: a tree in which an element is put elsewhere, by the reference. Conditions: the tree is good, the elements are in it, the place is a child or none. -/
import Derived.Test.YtmdccplhmniiiaaGreatMue
namespace Go.Proofs.YtmdccplhmniiiaaGreat
open Go.RowKit

def insR (l : List Int) (x nx : Int) : List Int := l.flatMap fun y => if y = nx then [x, y] else [y]
theorem insR_snoc {l : List Int} {j : Nat} (hj : j < l.length) (x nx : Int) : insR (l.take (j + 1)) x nx = insR (l.take j) x nx ++ if ix l j = nx then [x, ix l j] else [ix l j] := by
  unfold insR
  rw [take_snoc' l j hj, List.flatMap_append, ix_get hj]
  simp
theorem insR_no {l : List Int} {x nx : Int} (h : nx ∉ l) : insR l x nx = l := by
  unfold insR
  induction l with
  | nil => rfl
  | cons y l ih =>
    rw [List.flatMap_cons, if_neg (fun e => h (by simp [e])), ih (fun hm => h (List.mem_cons_of_mem _ hm))]; rfl
theorem insR_len (l : List Int) (x nx : Int) : (insR l x nx).length ≤ 2 * l.length := by
  unfold insR
  induction l with
  | nil => simp
  | cons y l ih =>
    rw [List.flatMap_cons, List.length_append, List.length_cons]
    split <;> simp only [List.length_cons, List.length_nil] <;> omega
theorem insR_insB {l : List Int} {x nx : Int} (hn : l.Nodup) (h0 : ∀ y ∈ l, 0 ≤ y) (h : nx < 0 ∨ nx ∈ l) : (insR l x nx ++ if nx < 0 then [x] else []) = insB l x nx := by
  by_cases hm : nx ∈ l
  · have h1 := h0 _ hm
    rw [if_neg (by omega), List.append_nil]
    obtain ⟨a, b, rfl⟩ := List.append_of_mem hm
    have hna : nx ∉ a := fun h => by
      rw [List.nodup_append] at hn
      exact hn.2.2 nx h nx (by simp) rfl
    have hnb : nx ∉ b := fun h => by
      rw [List.nodup_append] at hn
      exact (List.nodup_cons.1 hn.2.1).1 h
    have hpos : posn (a ++ nx :: b) nx = a.length := by
      refine posn_at (by simp) ?_ ?_
      · rw [ix_get (by simp)]; simp
      · intro j hj e
        rw [ix_get (by simp; omega), List.getElem_append_left hj] at e
        exact hna (by rw [← e]; exact List.getElem_mem _)
    have hat : insAt (a ++ nx :: b) nx = a.length := by unfold insAt; rw [hpos, if_neg (by omega)]; omega
    unfold insB
    rw [hat]
    have e1 := insR_no (x := x) hna
    have e2 := insR_no (x := x) hnb
    unfold insR at e1 e2 ⊢
    rw [List.flatMap_append, List.flatMap_cons, if_pos rfl, e1, e2]
    simp
  · have h1 : nx < 0 := h.resolve_right hm
    rw [if_pos h1, insR_no hm]
    unfold insB insAt
    rw [if_pos (by unfold posn; rw [if_neg (by rw [List.idxOf_lt_length_iff]; exact hm)]; omega)]
    simp

set_option maxRecDepth 100000 in
set_option maxHeartbeats 8000000 in
theorem rput15_ok (A : Option Addr) (n c : Nat) (T : List ANode) (p k : Nat) (nx : Int) (w : World) (h : IsTree w A n T) (hg : goodB T = true) (hp : p < n) (hk : k < n) (hk1 : 1 ≤ k) (hanc : (k : Int) ∉ anc T p) (hnx : nx < 0 ∨ nx ∈ less1 (kids T p) k) :
    Calls Tryz.prog 52 #[.agg #[.slice A n c], .int .i64 p, .int .i64 k, .int .i64 nx] w (MadeOwn w n (putT T p k nx)) := by
  have hT := hide h
  have hl := h.1
  clear h
  have hB0 : Below w.heap.size w ((w.alloc (.cells #[.slice A n c] 26)).alloc (.cells #[.slice none 0 0] 26)) := below_alloc (below_alloc (Below.refl _ _) _) _
  have hr0 : ((w.alloc (.cells #[.slice A n c] 26)).alloc (.cells #[.slice none 0 0] 26)).heap[w.heap.size + 1]? = some (.cells #[.slice none 0 0] 26 (0, 0)) := blk_at _ _ _ _ (by simp)
  have hn64 : n ≤ 64 := by have := ((goodB_iff T).1 hg).2.1; omega
  have hg' := hide hg
  have hfitX := hide (good_fits (good_put hg (by omega) (by omega) hk1 nx hanc))
  have htl := takenT_len T k
  have hkl : (kids (takenT T k) p).length ≤ 70 := (good_fits (good_taken hg (by omega : k < T.length)) (nd (takenT T k) p) (nd_mem (T := takenT T k) (i := p) (by omega))).2.2.1
  have hPut : putT T p k nx = setP (setK (takenT T k) p (insB (kids (takenT T k) p) k nx)) k p := rfl
  have hPut' := hide hPut
  have hRB : (insR (kids (takenT T k) p) k nx ++ if nx < 0 then [(k : Int)] else []) = insB (kids (takenT T k) p) k nx := by
    rw [kids_taken (by omega : k < T.length)]
    exact insR_insB (less1_nodup (kids_nodup hg (by omega)) _) (fun y hy => by obtain ⟨z, hz, -, -⟩ := good_kid hg (by omega) (less1_mem.1 hy).1; omega) hnx
  obtain ⟨S, hS⟩ : ∃ S, takenT T k = S := ⟨_, rfl⟩
  have hS' := hide hS
  rw [hS] at hPut' hkl htl hRB
  obtain ⟨X, hX⟩ : ∃ X, putT T p k nx = X := ⟨_, rfl⟩
  rw [hX] at hPut' hfitX ⊢
  have hXl : X.length = n := by rw [← hX, putT_len]; exact hl
  obtain ⟨l, hla⟩ : ∃ l, kids S p = l := ⟨_, rfl⟩
  have hla' := hide hla
  rw [hla] at hPut' hkl hRB
  have hRB' := hide hRB
  clear hPut hS hX hla hanc hnx hg hRB
  go_enter Tryz.func52, Tryz.ntmps52
  go_wp2_with fail
  refine (rtaken_ok _ n c T k _ (hT.out.below hB0) hg'.out hk).mono ?_
  rw [hS'.out]
  rintro e w1 ⟨A1, c4, rfl, hO4, -, hb1⟩
  have hB1 := Below.on hB0 hb1
  have hr1 := (hb1.block (w.heap.size + 1) (blk_lt hr0)).trans hr0
  have hz1 := hb1.size
  have hb11 : w.heap.size + 2 ≤ w1.heap.size := by simp at hz1; omega
  have hO4a := (hO4.base (base := w.heap.size + 2) (by simp)).below (below_alloc (Below.refl _ _) (.cells #[.slice A1 n c4] 26))
  have hr1a := hide (blk_alloc hr1 (.cells #[.slice A1 n c4] 26))
  have hk1a := hide (blk_new w1 #[.slice A1 n c4] 26)
  have hB1a := hide (below_alloc hB1 (.cells #[.slice A1 n c4] 26))
  obtain ⟨g, cap, A', ac', C', cc', N⟩ := hO4a.node hp (by omega)
  have hval := N.val
  injection hval with e1 e2 e3
  subst e1 e3
  have hgl := N.lt
  have hlow := N.low
  have hroom := N.room
  have hcap := N.cap63
  have hcl := N.c3
  have hrowK := N.rowK
  rw [hla'.out] at hcl hrowK
  have hN := hide N
  have ng4 : ¬ (w.heap.size + 1 = g) := by omega
  have ng2 : ¬ (w1.heap.size = g) := by obtain ⟨cs, hcs⟩ := N.typ; exact blk_ne hk1a.out hcs (by decide)
  obtain ⟨A9, c9, hv9, hlc9, hcm9, hIl⟩ := isInts_of_own hrowK (by omega)
  injection hv9 with h1 h2 h3
  subst h1 h3
  have hIl' := hide hIl
  have f0 : (w1.alloc (.cells #[.slice (some ⟨g, 0, none⟩) n c4] 26)).cell? ⟨w1.heap.size, 0, none⟩ = some (.slice (some ⟨g, 0, none⟩) n c4) := by rw [blk_cell hk1a.out]; rfl
  have hcm64 : cc' ≤ 9223372036854775807 := by unfold maxLen at hcm9; omega
  have hl63 : l.length ≤ 9223372036854775807 := by omega
  clear N hO4a hO4 hb1 hr1 hr0 hB1 hz1 hB0 e2 h2 hIl hrowK
  go_wp2
  go_loopw [10, 11] (fun v i wr => ∃ (q : Nat) (B : Option Addr) (d : Nat), q ≤ l.length ∧ i = .int .i64 q ∧ v = .slice B (insR (l.take q) k nx).length d ∧ OwnI wr (w1.heap.size + 1) v (insR (l.take q) k nx) ∧ Below (w1.heap.size + 1) (w1.alloc (.cells #[.slice (some ⟨g, 0, none⟩) n c4] 26)) wr) (fun _ i _ => l.length - (intOf i).toNat)
  case atStart => exact ⟨0, none, 0, Nat.zero_le _, rfl, by simp [insR], by simpa [insR] using OwnI.nil _ _, by simpa using Below.refl _ _⟩
  case round =>
    obtain ⟨q, B, d, hq, rfl, rfl, hown, hb⟩ := hrel
    have hzr : w1.heap.size + 1 ≤ wr.heap.size := by have := hb.size; simp at this; exact this
    have hb' : Below (w1.alloc (.cells #[.slice (some ⟨g, 0, none⟩) n c4] 26)).heap.size (w1.alloc (.cells #[.slice (some ⟨g, 0, none⟩) n c4] 26)) wr := by simpa using hb
    have hbx := cell_later hb' f0
    have hcx := cell_later hb' hcl
    have hw1r : w1.heap.size < wr.heap.size := by omega
    have hgr : g < wr.heap.size := Nat.lt_of_lt_of_le hgl hb'.size
    have hpl := insR_len (l.take q) k nx
    have hql : (l.take q).length ≤ q := List.length_take_le _ _
    by_cases hlt : q < l.length
    · have hsn := hide (insR_snoc hlt (k : Int) nx)
      obtain ⟨b', off', rfl, hbl', hck⟩ := hIl'.out.2.2 (by omega)
      have gk := cell_later hb' (hck q hlt)
      have hbr' : b' < wr.heap.size := Nat.lt_of_lt_of_le hbl' hb'.size
      clear hck
      obtain ⟨y, hy⟩ : ∃ y, ix l q = y := ⟨_, rfl⟩
      obtain ⟨P, hP⟩ : ∃ P, insR (l.take q) k nx = P := ⟨_, rfl⟩
      rw [hy] at gk hsn
      rw [hP] at hown hsn hpl
      rw [hP]
      clear hy hP
      by_cases he : y = nx
      · have hsn' : Hid (insR (l.take (q + 1)) k nx = P ++ [(k : Int), y]) := by show _ = _; rw [hsn.out, if_pos he]
        have he' : (y == nx) = true := by simp [he]
        clear hsn he
        go_wp2_with (at_builtin; refine wpList_pushI rfl (.tmp 37) _ rfl hown k _ rfl rfl (by omega) hzr ?_)
        intro A' c' w5 hown5 hG5
        have hb5 := hG5.below (Nat.le_refl _) hb
        have hb5' : Below (w1.alloc (.cells #[.slice (some ⟨g, 0, none⟩) n c4] 26)).heap.size (w1.alloc (.cells #[.slice (some ⟨g, 0, none⟩) n c4] 26)) w5 := by simpa using hb5
        have hzr5 : w1.heap.size + 1 ≤ w5.heap.size := by have := hb5.size; simp at this; exact this
        have hbx5 := cell_later hb5' f0
        have hcx5 := cell_later hb5' hcl
        have hbr5 : b' < w5.heap.size := Nat.lt_of_lt_of_le hbl' hb5'.size
        have gk5 : w5.cell? ⟨b', off' + q, none⟩ = some (.int .i64 y) := (World.cell?_of_block (hG5.2.2.2.1 b' hbr' (by
          intro e
          have := World.ownsRow.lt hown b' e
          simp at hbl'
          omega))).trans gk
        have hgr5 : g < w5.heap.size := Nat.lt_of_lt_of_le hgl hb5'.size
        have hw15 : w1.heap.size < w5.heap.size := by omega
        have hpl5 : (P ++ [(k : Int)]).length ≤ 1000000 := by simp; omega
        clear hown hG5 hb hb'
        go_wp2_with (at_builtin; refine wpList_pushI rfl (.tmp 41) _ rfl hown5 y _ rfl rfl hpl5 hzr5 ?_)
        intro A6 c6 w6 hown6 hG6
        have hb6 := hG6.below (Nat.le_refl _) hb5
        clear hown5 hG6 hb5 hb5'
        go_wp2
        go_roundw
        case rel => exact ⟨q + 1, A6, c6, by omega, by go_num, by rw [hsn'.out]; simp, by rw [hsn'.out]; simpa using hown6, hb6⟩
        case measure => simp [intOf]; omega
      · have hsn' : Hid (insR (l.take (q + 1)) k nx = P ++ [y]) := by show _ = _; rw [hsn.out, if_neg he]
        have he' : (y == nx) = false := by simp [he]
        clear hsn he
        go_wp2_with (at_builtin; refine wpList_pushI rfl _ _ rfl hown y _ rfl rfl (by omega) hzr ?_)
        intro A' c' w5 hown5 hG5
        have hb5 := hG5.below (Nat.le_refl _) hb
        clear hown hG5 hb hb'
        go_wp2
        go_roundw
        case rel => exact ⟨q + 1, A', c', by omega, by go_num, by rw [hsn'.out]; simp, by rw [hsn'.out]; exact hown5, hb5⟩
        case measure => simp [intOf]; omega
    · obtain rfl : q = l.length := by omega
      have e : l.take l.length = l := List.take_of_length_le (Nat.le_refl _)
      rw [e] at hown hpl ⊢
      by_cases hneg : nx < 0
      · have hRB1 : Hid (insR l k nx ++ [(k : Int)] = insB l k nx) := by show _ = _; rw [← hRB'.out, if_pos hneg]
        have hlen1 : Hid ((insR l k nx).length + 1 = (insB l k nx).length) := by show _ = _; rw [← hRB1.out]; simp
        obtain ⟨P, hP⟩ : ∃ P, insR l k nx = P := ⟨_, rfl⟩
        rw [hP] at hown hpl hRB1 hlen1 ⊢
        clear hP
        go_wp2_with (at_builtin; refine wpList_pushI rfl _ _ rfl hown k _ rfl rfl (by omega) hzr ?_)
        intro B5 d5 w5 hown5 hG5
        have hb5 := hG5.below (Nat.le_refl _) hb
        clear hown hG5 hb hb' hbx hcx hw1r hgr hzr
        rw [hRB1.out, hlen1.out] at hown5
        rw [hlen1.out]
        have hO6 := hN.out.onK w5 B5 d5 (insB l k nx) (fun q hq _ => hb5.block q (by simpa using hq)) (own_base hown5 (by omega)) (fun q hq => .inr (by have := (own_lt hown5 q hq).1; simpa using this))
        obtain ⟨csN, hgN⟩ := hN.out.typ
        have hgN6 := (hb5.block g (by have := hN.out.lt; simpa using this)).trans hgN
        have hk6 := (hb5.block w1.heap.size (by omega)).trans hk1a.out
        have hr6 := (hb5.block (w.heap.size + 1) (by omega)).trans hr1a.out
        obtain ⟨g7, cap7, A7, ac7, C7, cc7, N7⟩ := hO6.node hk (by unfold setK; rw [List.length_set]; omega)
        have hv7 := N7.val
        injection hv7 with h1 hx1 hx2
        injection h1 with h1
        injection h1 with h1 hx3 hx4
        subst h1
        have hO8 := N7.onP p
        rw [← hPut'.out] at hO8
        have f16 : w5.frozen? ⟨g, k * 4 + 2, none⟩ = false := blk_frozen hgN6 _
        have f15 : w5.frozen? ⟨g, p * 4 + 3, none⟩ = false := blk_frozen hgN6 _
        have f14 : w5.cell? ⟨g, p * 4 + 3, none⟩ = _ := (World.cell?_of_block (hb5.block g (by have := hN.out.lt; simpa using this))).trans hcl
        have ng5 : ¬ (w1.heap.size = g) := ng2
        have hr7 := blk_far (p := ⟨g, p * 4 + 3, none⟩) hr6 ng4 (.slice B5 (insB l k nx).length d5)
        have hBW := (Below.on hB1a.out (by simpa using hb5)).setCell (p := ⟨g, p * 4 + 3, none⟩) (by show w.heap.size ≤ g; omega) (.slice B5 (insB l k nx).length d5)
        have hr8 := blk_far (p := ⟨g, k * 4 + 2, none⟩) hr7 ng4 (.int .i64 (p : Int))
        have hO9 := (hO8.set_typed (i := 0) hr8 (.slice (some ⟨g, 0, none⟩) n c4)).base (base := w.heap.size) (by omega)
        obtain ⟨A8, c8, hv8, -, -, hT8⟩ := isTree_of_own hO9 hXl (by omega) hfitX.out
        injection hv8 with h1 hx5 hx6
        subst h1
        have hB9 := hBW.setCell (p := ⟨g, k * 4 + 2, none⟩) (by show w.heap.size ≤ g; omega) (.int .i64 (p : Int))
        have hB10 := hB9.setCell (p := ⟨w.heap.size + 1, 0, none⟩) (by show w.heap.size ≤ w.heap.size + 1; omega) (.slice (some ⟨g, 0, none⟩) n c4)
        have hE : MadeOwn w n X (.returned (.agg #[.slice (some ⟨g, 0, none⟩) n c4])) _ := ⟨_, _, rfl, hO9, hT8, hB10⟩
        have hres : World.cell? _ ⟨w.heap.size + 1, 0, none⟩ = some (.slice (some ⟨g, 0, none⟩) n c4) := (blk_cell (blk_set hr8 0 (.slice (some ⟨g, 0, none⟩) n c4)) 0).trans rfl
        have hE' := hide hE
        have hres' := hide hres
        have k6c : w5.cell? ⟨w1.heap.size, 0, none⟩ = some (.slice (some ⟨g, 0, none⟩) n c4) := by rw [blk_cell hk6]; rfl
        have q1 : w5.cell? ⟨w.heap.size + 1, 0, none⟩ = some (.slice none 0 0) := by rw [blk_cell hr6]; rfl
        have q2 : w5.frozen? ⟨w.heap.size + 1, 0, none⟩ = false := blk_frozen hr6 0
        have q3 := N7.c2
        rw [World.cell?_setCell_other] at q3
        rotate_left
        · intro e; injection e with e1 e2; omega
        clear hE hres hB10 hT8 hO9 hB9 hr8 hO8 N7 hO6 hBW hr7 hx1 hx2 hx3 hx4 hx5 hx6 hown5 hb5 hgN6 hgN hk6 hr6
        go_wp2
        exact bodyPost_ret (v := .agg #[.slice (some ⟨g, 0, none⟩) n c4]) (by simp [results, Tryz.results52, go_sem, hres'.out]) rfl hE'.out
      · have hRB1 : Hid (insR l k nx = insB l k nx) := by show _ = _; rw [← hRB'.out, if_neg hneg, List.append_nil]
        rw [hRB1.out] at hown ⊢
        clear hb' hbx hcx hw1r hgr hzr
        have hO6 := hN.out.onK wr B d (insB l k nx) (fun q hq _ => hb.block q (by simpa using hq)) (own_base hown (by omega)) (fun q hq => .inr (by have := (own_lt hown q hq).1; simpa using this))
        obtain ⟨csN, hgN⟩ := hN.out.typ
        have hgN6 := (hb.block g (by have := hN.out.lt; simpa using this)).trans hgN
        have hk6 := (hb.block w1.heap.size (by omega)).trans hk1a.out
        have hr6 := (hb.block (w.heap.size + 1) (by omega)).trans hr1a.out
        obtain ⟨g7, cap7, A7, ac7, C7, cc7, N7⟩ := hO6.node hk (by unfold setK; rw [List.length_set]; omega)
        have hv7 := N7.val
        injection hv7 with h1 hx1 hx2
        injection h1 with h1
        injection h1 with h1 hx3 hx4
        subst h1
        have hO8 := N7.onP p
        rw [← hPut'.out] at hO8
        have f16 : wr.frozen? ⟨g, k * 4 + 2, none⟩ = false := blk_frozen hgN6 _
        have f15 : wr.frozen? ⟨g, p * 4 + 3, none⟩ = false := blk_frozen hgN6 _
        have f14 : wr.cell? ⟨g, p * 4 + 3, none⟩ = _ := (World.cell?_of_block (hb.block g (by have := hN.out.lt; simpa using this))).trans hcl
        have ng5 : ¬ (w1.heap.size = g) := ng2
        have hr7 := blk_far (p := ⟨g, p * 4 + 3, none⟩) hr6 ng4 (.slice B (insB l k nx).length d)
        have hBW := (Below.on hB1a.out (by simpa using hb)).setCell (p := ⟨g, p * 4 + 3, none⟩) (by show w.heap.size ≤ g; omega) (.slice B (insB l k nx).length d)
        have hr8 := blk_far (p := ⟨g, k * 4 + 2, none⟩) hr7 ng4 (.int .i64 (p : Int))
        have hO9 := (hO8.set_typed (i := 0) hr8 (.slice (some ⟨g, 0, none⟩) n c4)).base (base := w.heap.size) (by omega)
        obtain ⟨A8, c8, hv8, -, -, hT8⟩ := isTree_of_own hO9 hXl (by omega) hfitX.out
        injection hv8 with h1 hx5 hx6
        subst h1
        have hB9 := hBW.setCell (p := ⟨g, k * 4 + 2, none⟩) (by show w.heap.size ≤ g; omega) (.int .i64 (p : Int))
        have hB10 := hB9.setCell (p := ⟨w.heap.size + 1, 0, none⟩) (by show w.heap.size ≤ w.heap.size + 1; omega) (.slice (some ⟨g, 0, none⟩) n c4)
        have hE : MadeOwn w n X (.returned (.agg #[.slice (some ⟨g, 0, none⟩) n c4])) _ := ⟨_, _, rfl, hO9, hT8, hB10⟩
        have hres : World.cell? _ ⟨w.heap.size + 1, 0, none⟩ = some (.slice (some ⟨g, 0, none⟩) n c4) := (blk_cell (blk_set hr8 0 (.slice (some ⟨g, 0, none⟩) n c4)) 0).trans rfl
        have hE' := hide hE
        have hres' := hide hres
        have k6c : wr.cell? ⟨w1.heap.size, 0, none⟩ = some (.slice (some ⟨g, 0, none⟩) n c4) := by rw [blk_cell hk6]; rfl
        have q1 : wr.cell? ⟨w.heap.size + 1, 0, none⟩ = some (.slice none 0 0) := by rw [blk_cell hr6]; rfl
        have q2 : wr.frozen? ⟨w.heap.size + 1, 0, none⟩ = false := blk_frozen hr6 0
        have q3 := N7.c2
        rw [World.cell?_setCell_other] at q3
        rotate_left
        · intro e; injection e with e1 e2; omega
        clear hE hres hB10 hT8 hO9 hB9 hr8 hO8 N7 hO6 hBW hr7 hx1 hx2 hx3 hx4 hx5 hx6 hown hb hgN6 hgN hk6 hr6
        go_wp2
        exact bodyPost_ret (v := .agg #[.slice (some ⟨g, 0, none⟩) n c4]) (by simp [results, Tryz.results52, go_sem, hres'.out]) rfl hE'.out
end Go.Proofs.YtmdccplhmniiiaaGreat
