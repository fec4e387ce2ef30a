/- For every valid tree and two of its elements: Before puts an element just ahead of another one, Append behind all, and appending all children of an element again changes nothing. No condition. -/
import Derived.Test.YtkimjpcmcfnmkaaOpen
import Derived.Test.YtkimjpcmcfnmkaaEx15
import Derived.Test.YtkimjpcmcfnmkaaPlq
import Derived.Test.YtkimjpcmcfnmkaaWl
import Derived.Deep.RegionHeld3
import Derived.Deep.CutRange
namespace Go.Proofs.Ytkimjpcmcfnmkaa.mutateOrder
open Go.ChangeShapes Go.WideShapes Go.ChangeAt Go.RowKit

def fndB (L : List Int) (k m : Int) (q : Nat) : Bool := (List.range q).any fun j => decide (ix L j = k) && decide (ix L (j + 1) = m)
theorem fnd_succ (L : List Int) (k m : Int) (q : Nat) : fndB L k m (q + 1) = (fndB L k m q || (decide (ix L q = k) && decide (ix L (q + 1) = m))) := by
  unfold fndB
  rw [List.range_succ, List.any_append]
  simp
theorem fnd_yes {L : List Int} {k m : Int} {a q : Nat} (ha : a < q) (h1 : ix L a = k) (h2 : ix L (a + 1) = m) : fndB L k m q = true := by
  unfold fndB
  rw [List.any_eq_true]
  exact ⟨a, by simpa using ha, by simp [h1, h2]⟩

theorem far_alloc' {w : World} {a : Addr} {u : Value} (h : w.cell? a = some u) (o : Obj) : (w.alloc o).cell? a = some u := cell_later (below_alloc (Below.refl _ _) _) h
theorem far_set' {w : World} {a : Addr} {q : Nat} {u : Value} (h : w.cell? a = some u) (x : Value) (hne : q ≠ a.block) : (w.setCell ⟨q, 0, none⟩ x).cell? a = some u := (World.cell?_setCell_far _ _ _ _ hne).trans h
theorem far_store' {w : World} {a : Addr} {u : Value} (h : w.cell? a = some u) (o : Obj) (x : Value) : ((w.alloc o).setCell ⟨w.heap.size, 0, none⟩ x).cell? a = some u := far_set' (far_alloc' h o) x (by have := cell_in h; omega)

/-- What is known of a tree that Before made, or of its error. -/
structure BefOk (T X : List ANode) (k m p : Nat) (e : Int) (L : List Int) : Prop where
  code : e = 0
  par : par T m = p
  lt : p < T.length
  good : goodB X = true
  len : X.length = T.length
  kids : kids X p = L
  at' : ∃ a, a + 1 < L.length ∧ ix L a = k ∧ ix L (a + 1) = m
theorem bef_known {T : List ANode} {k m : Nat} (h0 : moveI T k m = 0) : (∃ p L, BefOk T (befT T k m) k m p (befE T k m) L) ∨ (befE T k m == 0) = false := by
  by_cases he : befE T k m = 0
  · left
    obtain ⟨hg, hir, hjr⟩ := moveI_zero h0
    obtain ⟨p, hp, hpl, hkm, hn, hX, hgX⟩ := bef_zero h0 he
    have hmem : (m : Int) ∈ less1 (kids T p) k := by
      rw [less1_mem]
      have := par_kid hg (by omega : m < T.length) (by omega)
      rw [hp, Int.toNat_natCast] at this
      exact ⟨this, by omega⟩
    refine ⟨p, insB (less1 (kids T p) k) k m, he, hp, hpl, by rw [hX]; exact hgX, by rw [hX, putT_len], ?_, insB_at hmem⟩
    rw [hX, kids_put hpl (by omega), if_pos rfl]
  · exact .inr (by simpa using he)
structure AppOk (T Y : List ANode) (k m : Nat) (e : Int) (L : List Int) (g : Nat) : Prop where
  code : e = 0
  good : goodB Y = true
  len : Y.length = T.length
  kids : kids Y m = L
  size : L.length = g + 1
  last : ix L g = k
theorem app_known {T : List ANode} {k m : Nat} (h0 : moveI T k m = 0) : (∃ L g, AppOk T (appT T m k) k m (appE T m k) L g) ∨ (appE T m k == 0) = false := by
  by_cases he : appE T m k = 0
  · left
    obtain ⟨hg, hir, hjr⟩ := moveI_zero h0
    obtain ⟨hn, hX, hgX⟩ := app_zero h0 he
    have hm : m < T.length := by omega
    have hno : (-1 : Int) ∉ less1 (kids T m) k := fun h => by
      obtain ⟨z, hz, -, -⟩ := good_kid hg hm (less1_mem.1 h).1
      omega
    refine ⟨less1 (kids T m) k ++ [(k : Int)], (less1 (kids T m) k).length, he, by rw [hX]; exact hgX, by rw [hX, putT_len], ?_, by simp, ?_⟩
    · rw [hX, kids_put hm (by omega), if_pos rfl, insB_end hno]
    · rw [ix_get (by simp)]; simp
  · exact .inr (by simpa using he)

theorem append_own {T X : List ANode} {p k : Int} {m : Nat} (he : appE T p k = 0) (hX : appT T p k = X) (hm : X.length = m) (A : Option Addr) (n c : Nat) (w : World) (h : IsTree w A n T) :
    Calls Try.prog 13 #[.agg #[.slice A n c], .int .i64 p, .int .i64 k] w fun e w' => ∃ (A' : Option Addr) (c' : Nat), e = .returned (.tuple #[.agg #[.slice A' m c'], .int .i64 0]) ∧ OwnTree w' w.heap.size (.slice A' m c') m X ∧ Below w.heap.size w w' := by
  have := append_ok A n c T p k w h
  rw [hX, he] at this
  subst hm
  exact this.mono fun e w' ⟨A', c', h1, h2, _, h4⟩ => ⟨A', c', h1, h2, h4⟩

/- The end of a round of it: again = next. -/
/- The loop over the children, from world «W» (facts «K») on. -/
set_option maxRecDepth 100000 in
set_option maxHeartbeats 4000000 in
theorem walk (A : Option Addr) (n c : Nat) (T : List ANode) (i j : Int) (w : World) (h : IsTree w A n T) :
    Calls Try.prog 3 #[.agg #[.slice A n c], .int .i64 i, .int .i64 j] w fun e w' => e = .returned (.bool true) ∧ Below w.heap.size w w' := by
  have ho := hide h.2.2.2
  have hT := hide h
  have hl := h.1
  clear h
  have hB0 := below_alloc (Below.refl w.heap.size w) (.cells #[.slice A n c] 24)
  have hbox0 : (w.alloc (.cells #[.slice A n c] 24)).cell? ⟨w.heap.size, 0, none⟩ = some (.slice A n c) := by go_simp
  by_cases h0 : moveI T i j = 0
  · obtain ⟨hg, hir, hjr⟩ := moveI_zero h0
    obtain ⟨k, rfl⟩ := Int.eq_ofNat_of_zero_le (by omega : 0 ≤ i)
    obtain ⟨m, rfl⟩ := Int.eq_ofNat_of_zero_le hjr.1
    have hmT : m < T.length := by omega
    have hk : k < n := by omega
    have hm : m < n := by omega
    have hq0 : (moveI T k m != 0) = false := by simp [h0]
    have hg' := hide hg
    obtain ⟨b, off, aA, cA, aC, cC, rfl, hbl, -, -, c2, c3, -, hC⟩ := ho.out (by omega)
    have c2' := hide (c2 m hm)
    have c3' := hide (c3 m hm)
    have hI' := hide (hC m hm).1
    have hcc := (hC m hm).2
    generalize cA m = CA at c3' hI'
    generalize cC m = cc at c3' hcc
    have hn64 : n ≤ 64 := by have := ((goodB_iff T).1 hg).2.1; omega
    have hBk := bef_known h0
    have hAk := app_known h0
    obtain ⟨l, hla⟩ : ∃ l, kids T m = l := ⟨_, rfl⟩
    have hla' := hide hla
    have hl63 : l.length ≤ 70 := by rw [← hla]; exact (good_fits hg (nd T m) (nd_mem hmT)).2.2.1
    rw [hla] at c3' hI' hcc
    have hrs := hide (fun q (hq : q < l.length) => rot_step hg hmT (q := q) (by rw [hla]; exact hq) (good_rot hg hmT q (by rw [hla]; omega)))
    have hrz := hide (rot_zero hmT)
    have hra := hide (rot_all hmT)
    rw [hla] at hra hrs
    obtain ⟨X, hX0⟩ : ∃ X, befT T k m = X := ⟨_, rfl⟩
    obtain ⟨Y, hY0⟩ : ∃ Y, appT T m k = Y := ⟨_, rfl⟩
    obtain ⟨e1, he1⟩ : ∃ e, befE T k m = e := ⟨_, rfl⟩
    obtain ⟨e2, he2⟩ : ∃ e, appE T m k = e := ⟨_, rfl⟩
    obtain ⟨p, hp⟩ : ∃ p, X.length = p := ⟨_, rfl⟩
    obtain ⟨q, hq⟩ : ∃ q, Y.length = q := ⟨_, rfl⟩
    rw [hX0, he1] at hBk
    rw [hY0, he2] at hAk
    have hX := hide hX0
    have hY := hide hY0
    have hE1 := hide he1
    have hE2 := hide he2
    have hp' := hide hp
    have hq' := hide hq
    clear c2 c3 hC ho hX0 hY0 he1 he2 h0 hg hir hjr hla hq
    go_enter Try.func3, Try.ntmps3
    go_wp2_with fail
    refine (alive15_ok _).mono ?_
    rintro e w1 ⟨rfl, hb1⟩
    have hbox1 := cell_later hb1 hbox0
    have hB1 := Below.on hB0 hb1
    go_wp2_with fail
    refine (rmask_ok _ _ _ T _ _ _ (hT.out.below hB1)).mono ?_
    rintro e w2 ⟨rfl, hb2⟩
    have hbox2 := cell_later hb2 hbox1
    have hB2 := Below.on hB1 hb2
    go_wp2_with fail
    have hx := before_ok _ _ c T k m _ (hT.out.below hB2)
    rw [hX.out, hE1.out] at hx
    refine hx.mono ?_
    clear hx
    rintro e w3 ⟨A3, c3, rfl, -, hR, hb3⟩
    rw [hp'.out] at hR ⊢
    have hz3 := below_alloc hb3 (.cells #[.slice A3 p c3] 24)
    have hbox3 := cell_later hz3 hbox2
    have hB3 := Below.on hB2 hz3
    have b_a3 : (w3.alloc (.cells #[.slice A3 p c3] 24)).cell? ⟨w3.heap.size, 0, none⟩ = some (.slice A3 p c3) := by clear hbox3; go_simp
    have t_a3 := hide (hR.below (below_alloc (Below.refl _ _) (.cells #[.slice A3 p c3] 24)))
    clear hz3 hbox2 hB2 hR hb3
    have g3 := (old hB3 _ _ hbl).trans c2'.out
    go_upto_if 40 with (fail)
    go_cut [] from 41 to 93 (fun wx => Below (w3.alloc (.cells #[.slice A3 p c3] 24)).heap.size (w3.alloc (.cells #[.slice A3 p c3] 24)) wx)
    case first =>
      rcases hBk with ⟨pp, L, G⟩ | hne
      · have hpX : X.length = n := by have := G.len; omega
        obtain rfl : n = p := by rw [← hpX]; exact hp'.out
        obtain rfl := G.code
        have hpar := G.par
        have hchX : Hid (chk X = 0) := chk_ok G.good
        have hppl := G.lt
        obtain ⟨a, ha1, ha2, ha3⟩ := G.at'
        have hkX := hide G.kids
        rw [hpar] at g3
        have hBin := hide (Below.refl (w3.alloc (.cells #[.slice A3 n c3] 24)).heap.size (w3.alloc (.cells #[.slice A3 n c3] 24)))
        clear G hpar hpX hAk
        go_wp2_with fail
        have hx := rcheck_ok _ _ c3 X _ t_a3.out
        rw [hchX.out] at hx
        refine hx.mono ?_
        clear hx
        rintro e w4 ⟨rfl, hb4⟩
        have b_a4 := cell_later hb4 b_a3
        have t_a4 := hide (t_a3.out.below hb4)
        have g4 := cell_later hb4 g3
        clear b_a3 t_a3 g3
        have hb4' := hide hb4
        have hB4 := Below.on hB3 hb4
        have hbox4 := cell_later hb4 hbox3
        clear hb4 hB3 hbox3
        obtain ⟨-, -, -, hx⟩ := t_a4.out
        obtain ⟨bx, ox, -, xA, -, xC, rfl, hbx, -, -, -, x3, -, hxC⟩ := hx (by omega)
        have x3p := x3 pp (by omega)
        have ixp := hide (hxC pp (by omega)).1
        rw [hkX.out] at x3p ixp
        have hL63 := ixp.out.2.1
        generalize xA pp = XA at x3p ixp
        generalize xC pp = xc at x3p
        obtain ⟨b3, o3, rfl, hb3, hck⟩ := ixp.out.2.2 (by omega)
        have hck' := hide hck
        have hppn : pp < n := by omega
        clear hx x3 hxC hck ixp t_a4
        go_wp2
        go_loop [12, 13] (fun f s => ∃ q : Nat, q + 1 ≤ L.length ∧ s = .int .i64 q ∧ f = .bool (fndB L k m q)) (fun _ s => L.length - (intOf s).toNat)
        case atStart => exact ⟨0, by omega, rfl, rfl⟩
        case round =>
          obtain ⟨q', hq'', rfl, rfl⟩ := hrel
          by_cases hlt : q' + 1 < L.length
          · have hs := hide (fnd_succ L k m q')
            have gy := hck'.out q' (by omega)
            have gz := hck'.out (q' + 1) hlt
            generalize ix L q' = y at gy hs
            generalize ix L (q' + 1) = z at gz hs
            cases hf : fndB L k m q'
            · by_cases hy : y = k
              · have hy' : (y == (k : Int)) = true := by simp [hy]
                by_cases hz : z = m
                · have hz' : (z == (m : Int)) = true := by simp [hz]
                  have hs' : Hid (fndB L k m (q' + 1) = true) := by show _ = _; rw [hs.out, hf]; simp [hy, hz]
                  clear hy hz hs
                  go_wp2
                  go_round
                  case rel => exact ⟨q' + 1, by omega, by go_num, by rw [hs'.out]⟩
                  case measure => simp [intOf]; omega
                · have hz' : (z == (m : Int)) = false := by simp [hz]
                  have hs' : Hid (fndB L k m (q' + 1) = false) := by show _ = _; rw [hs.out, hf]; simp [hz]
                  clear hy hz hs
                  go_wp2
                  go_round
                  case rel => exact ⟨q' + 1, by omega, by go_num, by rw [hs'.out]⟩
                  case measure => simp [intOf]; omega
              · have hy' : (y == (k : Int)) = false := by simp [hy]
                have hs' : Hid (fndB L k m (q' + 1) = false) := by show _ = _; rw [hs.out, hf]; simp [hy]
                clear hy hs
                go_wp2
                go_round
                case rel => exact ⟨q' + 1, by omega, by go_num, by rw [hs'.out]⟩
                case measure => simp [intOf]; omega
            · have hs' : Hid (fndB L k m (q' + 1) = true) := by show _ = _; rw [hs.out, hf]; rfl
              clear hs
              go_wp2
              go_round
              case rel => exact ⟨q' + 1, by omega, by go_num, by rw [hs'.out]⟩
              case measure => simp [intOf]; omega
          · have hf : fndB L k m q' = true := fnd_yes (a := a) (by omega) ha2 ha3
            clear hck'
            go_wp2_with fail
            go_meet
            exact hb4'.out
      · go_wp2_with fail
        go_meet
        exact Below.refl _ _
    case rest =>
    clear hBk g3 b_a3 t_a3 hX hE1 hp'
    have hbox4 := cell_later hcut hbox3
    have hB4 := Below.on hB3 hcut
    clear hcut hbox3 hB3
    generalize wc = w4 at *
    go_wp2_with fail
    have hx := append_ok _ _ c T m k _ (hT.out.below hB4)
    rw [hY.out, hE2.out] at hx
    refine hx.mono ?_
    clear hx
    rintro e w5 ⟨A5, c5, rfl, -, hR, hb5⟩
    rw [hq'.out] at hR ⊢
    have hz5 := below_alloc hb5 (.cells #[.slice A5 q c5] 24)
    have hbox5 := cell_later hz5 hbox4
    have hB5 := Below.on hB4 hz5
    have b_y5 : (w5.alloc (.cells #[.slice A5 q c5] 24)).cell? ⟨w5.heap.size, 0, none⟩ = some (.slice A5 q c5) := by clear hbox5; go_simp
    have t_y5 := hide (hR.below (below_alloc (Below.refl _ _) (.cells #[.slice A5 q c5] 24)))
    clear hz5 hbox4 hB4 hR hb5
    go_upto_if 102 with (fail)
    go_cut [] from 103 to 131 (fun wx => Below (w5.alloc (.cells #[.slice A5 q c5] 24)).heap.size (w5.alloc (.cells #[.slice A5 q c5] 24)) wx)
    case first =>
      rcases hAk with ⟨L2, g2, G2⟩ | hne2
      · have hqY : Y.length = n := by have := G2.len; omega
        obtain rfl : n = q := by rw [← hqY]; exact hq'.out
        obtain rfl := G2.code
        have hchY : Hid (chk Y = 0) := chk_ok G2.good
        have hkY := hide G2.kids
        have hlast := hide G2.last
        have hsz := hide G2.size
        clear G2 hqY
        go_wp2_with fail
        have hx := rcheck_ok _ _ c5 Y _ t_y5.out
        rw [hchY.out] at hx
        refine hx.mono ?_
        clear hx
        rintro e w6 ⟨rfl, hb6⟩
        have b_y6 := cell_later hb6 b_y5
        have t_y6 := hide (t_y5.out.below hb6)
        clear b_y5 t_y5
        have hb6' := hide hb6
        have hB6 := Below.on hB5 hb6
        have hbox6 := cell_later hb6 hbox5
        clear hb6 hB5 hbox5
        obtain ⟨-, -, -, hy⟩ := t_y6.out
        obtain ⟨by', oy, -, yA, -, yC, rfl, hby, -, -, -, y3, -, hyC⟩ := hy (by omega)
        have y3m := y3 m hm
        have iym := hide (hyC m hm).1
        rw [hkY.out] at y3m iym
        have hLy63 := iym.out.2.1
        rw [hsz.out] at y3m iym hLy63
        generalize yA m = YA at y3m iym
        generalize yC m = yc at y3m
        obtain ⟨b5, o5, rfl, hb5, hck5⟩ := iym.out.2.2 (by omega)
        have gl := hck5 g2 (by omega)
        rw [hlast.out] at gl
        clear hy y3 hyC hck5 iym t_y6
        go_wp2_with fail
        go_meet
        exact hb6'.out
      · go_wp2_with fail
        go_meet
        exact Below.refl _ _
    case rest =>
    clear hAk b_y5 t_y5 hY hE2 hq'
    have hbox6 := cell_later hcut hbox5
    have hB6 := Below.on hB5 hcut
    clear hcut hbox5 hB5
    generalize wc = w6 at *
    have h17 := below_alloc (Below.refl w6.heap.size w6) (.cells #[.slice (some ⟨b, off, none⟩) n c] 24)
    have hbx17 := cell_later h17 hbox6
    have hB17 := Below.on hB6 h17
    have hwl17 := cell_in hbox6
    have hwl17' : w.heap.size < w6.heap.size := hwl17
    go_wp2
    go_loopw [18] (fun s wr => ∃ (d : Nat) (A' : Option Addr) (c' : Nat), d ≤ l.length ∧ s = .int .i64 d ∧ Below w.heap.size w wr ∧ wr.cell? ⟨w.heap.size, 0, none⟩ = some (.slice (some ⟨b, off, none⟩) n c) ∧ wr.heap[w6.heap.size]? = some (.cells #[.slice A' n c'] 24 (0, 0)) ∧ IsTree wr A' n (rotT T m d)) (fun s _ => l.length - (intOf s).toNat)
    case atStart => exact ⟨0, _, _, Nat.zero_le _, rfl, hB17, hbx17, blk_at _ _ _ _ (by simp), by rw [hrz.out]; exact hT.out.below hB17⟩
    case round =>
      obtain ⟨d, A', c', hd, rfl, hb, hbox, hk17, hTr⟩ := hrel
      have hTr' := hide hTr
      have hk17' := hide hk17
      have hb17 : wr.cell? ⟨w6.heap.size, 0, none⟩ = some (.slice A' n c') := by rw [blk_cell hk17]; rfl
      have hf17 : wr.frozen? ⟨w6.heap.size, 0, none⟩ = false := blk_frozen hk17 0
      have hl17 := blk_lt hk17
      have hlw : w.heap.size < wr.heap.size := cell_in hbox
      have hgm := (old hb _ _ hbl).trans c3'.out
      have hbr : b < wr.heap.size := Nat.lt_of_lt_of_le hbl hb.size
      have hcc1 := hcc.1
      have hcc2 := hcc.2
      clear hTr hk17
      by_cases hlt : d < l.length
      · obtain ⟨y, hy, he, hXd, hgd⟩ := hrs.out d hlt
        obtain ⟨b4, o4, rfl, hb4, hck4⟩ := hI'.out.2.2 (by omega)
        have gy := (old hb _ _ hb4).trans (hck4 d hlt)
        rw [hy] at gy
        have hbr4 : b4 < wr.heap.size := Nat.lt_of_lt_of_le hb4 hb.size
        have hlX : (rotT T m (d + 1)).length = n := by rw [rotT_len]; exact hl
        have happ1 := hide (append_own he hXd hlX A' n c' wr.drew (hTr'.out.below (Below.refl _ _).drew))
        have happ2 := hide (append_own he hXd hlX A' n c' (wr.alloc (.cells #[.slice none 0 0] 24)).drew (hTr'.out.below (below_alloc (Below.refl _ _) _).drew))
        have hfd := hide (good_fits hgd)
        have hlX' := hide hlX
        clear hy he hXd hgd hck4 hlX hTr'
        have j0 : (0 : Int) ≤ (m : Int) := by omega
        have j1 : (m : Int) < (n : Int) := by omega
        have j2 : (0 : Int) ≤ (d : Int) := by omega
        have j3 : (d : Int) < (l.length : Int) := by omega
        go_wp2
        go_region_held3 (fun X => X.cell? ⟨w6.heap.size, 0, none⟩ = some (.slice A' n c') ∧ X.cell? ⟨w.heap.size, 0, none⟩ = some (.slice (some ⟨b, off, none⟩) n c) ∧ X.cell? ⟨b, off + m * 4 + 3, none⟩ = some (.slice (some ⟨b4, o4, none⟩) l.length cc) ∧ X.cell? ⟨b4, o4 + d, none⟩ = some (.int .i64 y)) (first | exact ⟨hb17, hbox, hgm, gy⟩ | exact ⟨r1, r2, r3, r4⟩ | exact ⟨far_alloc' hb17 _, far_alloc' hbox _, far_alloc' hgm _, far_alloc' gy _⟩ | exact ⟨far_alloc' r1 _, far_alloc' r2 _, far_alloc' r3 _, far_alloc' r4 _⟩ | exact ⟨far_store' r1 _ _, far_store' r2 _ _, far_store' r3 _ _, far_store' r4 _ _⟩ | exact ⟨far_set' r1 _ (Nat.ne_of_gt hl17), far_set' r2 _ (Nat.ne_of_gt hlw), far_set' r3 _ (Nat.ne_of_gt hbr), far_set' r4 _ (Nat.ne_of_gt hbr4)⟩) (first | (go_at_call 13; first | ((with_reducible refine happ1.out.mono ?_); rintro e w9 ⟨A9, c9, rfl, hO9, hb9⟩; have r1 := cell_later hb9 hb17; have r2 := cell_later hb9 hbox; have r3 := cell_later hb9 hgm; have r4 := cell_later hb9 gy) | ((with_reducible refine happ2.out.mono ?_); rintro e w9 ⟨A9, c9, rfl, hO9, hb9⟩; have r1 := cell_later hb9 (far_alloc' hb17 _); have r2 := cell_later hb9 (far_alloc' hbox _); have r3 := cell_later hb9 (far_alloc' hgm _); have r4 := cell_later hb9 (far_alloc' gy _); have hx9 : w9.heap[wr.heap.size]? = some (.cells #[.slice none 0 0] 24 (0, 0)) := (hb9.block wr.heap.size (by simp)).trans (blk_new wr _ _); have r9 : w9.cell? ⟨wr.heap.size, 0, none⟩ = some (.slice none 0 0) := (blk_cell hx9 0).trans rfl; have f9 : w9.frozen? ⟨wr.heap.size, 0, none⟩ = false := blk_frozen hx9 0)))
        · have hOV : OwnTree (w9.alloc (.cells #[.slice A9 n c9] 24)) wr.heap.size (.slice A9 n c9) n (rotT T m (d + 1)) := hO9.below (below_alloc (Below.refl _ _) _)
          have hBV : Below w.heap.size w (w9.alloc (.cells #[.slice A9 n c9] 24)) := below_alloc (Below.on hb.drew hb9) _
          have kV : (w9.alloc (.cells #[.slice A9 n c9] 24)).heap[w6.heap.size]? = some (.cells #[.slice A' n c'] 24 (0, 0)) := blk_alloc ((hb9.block (w6.heap.size) hl17).trans hk17'.out) _
          have c19 : (w9.alloc (.cells #[.slice A9 n c9] 24)).cell? ⟨w9.heap.size, 0, none⟩ = some (.slice A9 n c9) := by rw [blk_cell (blk_new w9 _ _)]; rfl
          have bV : (w9.alloc (.cells #[.slice A9 n c9] 24)).cell? ⟨w.heap.size, 0, none⟩ = some (.slice (some ⟨b, off, none⟩) n c) := far_alloc' r2 _
          have cV : ((w9.alloc (.cells #[.slice A9 n c9] 24))).cell? ⟨w6.heap.size, 0, none⟩ = some (.slice A' n c') := by rw [blk_cell kV]; rfl
          have fV : ((w9.alloc (.cells #[.slice A9 n c9] 24))).frozen? ⟨w6.heap.size, 0, none⟩ = false := blk_frozen kV 0
          have kV' := hide (blk_set kV 0 (.slice A9 n c9))
          have hBV' := hide (hBV.setCell (p := ⟨w6.heap.size, 0, none⟩) (by show w.heap.size ≤ w6.heap.size; omega) (.slice A9 n c9))
          have bV' := hide (far_set' bV (.slice A9 n c9) (q := w6.heap.size) (by show w6.heap.size ≠ w.heap.size; omega))
          have hTV : Hid (IsTree (((w9.alloc (.cells #[.slice A9 n c9] 24))).setCell ⟨w6.heap.size, 0, none⟩ (.slice A9 n c9)) A9 n (rotT T m (d + 1))) := by
            obtain ⟨A3, c3, hv, _, _, hT3⟩ := isTree_of_own (hOV.set (p := ⟨w6.heap.size, 0, none⟩) hl17 (.slice A9 n c9)) hlX'.out (by omega) hfd.out
            injection hv with e1 e2 e3
            subst e1
            exact hT3
          clear kV hBV hOV hO9 hb9 r1 r2 r3 r4 happ1 happ2 hb17 hbox hgm gy hf17 hk17' bV
          go_wp2
          go_roundw
          case rel => exact ⟨d + 1, A9, c9, by omega, by go_num, hBV'.out, bV'.out, kV'.out, hTV.out⟩
          case measure => simp [intOf]; omega
        · have hOV : OwnTree (w9.setCell ⟨wr.heap.size, 0, none⟩ (.slice A9 n c9)) wr.heap.size (.slice A9 n c9) n (rotT T m (d + 1)) := (hO9.set (p := ⟨wr.heap.size, 0, none⟩) (by simp) _).base (by simp)
          have hBV : Below w.heap.size w (w9.setCell ⟨wr.heap.size, 0, none⟩ (.slice A9 n c9)) := (Below.on (below_alloc hb _).drew hb9).setCell (p := ⟨wr.heap.size, 0, none⟩) hb.size _
          have kV : (w9.setCell ⟨wr.heap.size, 0, none⟩ (.slice A9 n c9)).heap[w6.heap.size]? = some (.cells #[.slice A' n c'] 24 (0, 0)) := blk_far (p := ⟨wr.heap.size, 0, none⟩) ((hb9.block (w6.heap.size) (by simp; omega)).trans (blk_alloc hk17'.out _)) (Nat.ne_of_lt hl17) _
          have c19 : (w9.setCell ⟨wr.heap.size, 0, none⟩ (.slice A9 n c9)).cell? ⟨wr.heap.size, 0, none⟩ = some (.slice A9 n c9) := by rw [blk_cell (blk_set hx9 0 _)]; rfl
          have bV : (w9.setCell ⟨wr.heap.size, 0, none⟩ (.slice A9 n c9)).cell? ⟨w.heap.size, 0, none⟩ = some (.slice (some ⟨b, off, none⟩) n c) := far_set' r2 _ (Nat.ne_of_gt hlw)
          have cV : ((w9.setCell ⟨wr.heap.size, 0, none⟩ (.slice A9 n c9))).cell? ⟨w6.heap.size, 0, none⟩ = some (.slice A' n c') := by rw [blk_cell kV]; rfl
          have fV : ((w9.setCell ⟨wr.heap.size, 0, none⟩ (.slice A9 n c9))).frozen? ⟨w6.heap.size, 0, none⟩ = false := blk_frozen kV 0
          have kV' := hide (blk_set kV 0 (.slice A9 n c9))
          have hBV' := hide (hBV.setCell (p := ⟨w6.heap.size, 0, none⟩) (by show w.heap.size ≤ w6.heap.size; omega) (.slice A9 n c9))
          have bV' := hide (far_set' bV (.slice A9 n c9) (q := w6.heap.size) (by show w6.heap.size ≠ w.heap.size; omega))
          have hTV : Hid (IsTree (((w9.setCell ⟨wr.heap.size, 0, none⟩ (.slice A9 n c9))).setCell ⟨w6.heap.size, 0, none⟩ (.slice A9 n c9)) A9 n (rotT T m (d + 1))) := by
            obtain ⟨A3, c3, hv, _, _, hT3⟩ := isTree_of_own (hOV.set (p := ⟨w6.heap.size, 0, none⟩) hl17 (.slice A9 n c9)) hlX'.out (by omega) hfd.out
            injection hv with e1 e2 e3
            subst e1
            exact hT3
          clear kV hBV hOV hO9 hb9 r1 r2 r3 r4 happ1 happ2 hb17 hbox hgm gy hf17 hk17' bV
          go_wp2
          go_roundw
          case rel => exact ⟨d + 1, A9, c9, by omega, by go_num, hBV'.out, bV'.out, kV'.out, hTV.out⟩
          case measure => simp [intOf]; omega
      · obtain rfl : d = l.length := by omega
        have hTq := hTr'.out
        rw [hra.out] at hTq
        have hTq' := hide hTq
        clear hTq hTr'
        go_wp2_with fail
        refine (same_ok _ _ _ _ _ T _ hTq'.out (hT.out.below hb)).mono ?_
        rintro e w9 ⟨rfl, hb9⟩
        go_wp2
        go_ret
        exact ⟨rfl, Below.on hb hb9⟩
  · have hq0 : (moveI T i j != 0) = true := by simp [h0]
    clear h0
    go_enter Try.func3, Try.ntmps3
    go_wp2_with fail
    refine (alive15_ok _).mono ?_
    rintro e w1 ⟨rfl, hb1⟩
    have hbox1 := cell_later hb1 hbox0
    have hB1 := Below.on hB0 hb1
    go_wp2_with fail
    refine (rmask_ok _ _ _ T _ _ _ (hT.out.below hB1)).mono ?_
    rintro e w2 ⟨rfl, hb2⟩
    have hbox2 := cell_later hb2 hbox1
    have hB2 := Below.on hB1 hb2
    go_wp2
    go_ret
    exact ⟨rfl, hB2⟩

set_option maxRecDepth 100000 in
theorem lifted (os : Os) (started : os.Started) (H : Type) (enc : TypeId × Value → H) :
    ReturnsInHanded {} Try.checked os 3 .any (Rows.mutateOrderSpec.pre6 enc Try.prog Try.f3 Rows.mutateOrderRow.domain false) (Rows.mutateOrderSpec.post enc Try.prog Try.f3 false true false false) := by
  refine returnsInHanded_of_change (C := Try.checked) own started (by kernel_rfl) Try.func3
    (ChangeSpec.witness6 (enc := enc) (C := Try.checked) false ⟨#[], #[.agg #[.slice none 0 0], .int .i64 0, .int .i64 0], []⟩ 8 (by kernel_rfl) (by kernel_rfl) (by kernel_rfl) (by kernel_rfl)) ?_
  intro W base args ds gs before hval0 hW hcnd _
  have hval : ∀ (j : Nat) t v, Try.f3.params[j]? = some t → args[j]? = some v → Value.okWide Try.prog W .any base t v := hval0
  have hW' := hW
  obtain ⟨p, q, hA0, hV, rfl, hfz, hnd⟩ := hW
  have hA : DataW.TrodAll enc Try.prog W 0 (fun _ => true) true Try.f3.params.toList args.toList ds p := hA0
  rw [Try.params3] at hA hval
  obtain ⟨v0, vs0, d0, ds0, p0, q0, hargs, rfl, rfl, h0, r0⟩ := trodAll_cons hA
  obtain ⟨v1, vs1, d1, ds1, p1, q1, rfl, rfl, rfl, h1, r1⟩ := trodAll_cons r0
  obtain ⟨v2, vs2, d2, ds2, p2, q2, rfl, rfl, rfl, h2, r2⟩ := trodAll_cons r1
  obtain ⟨rfl, rfl, rfl⟩ := trodAll_nil r2
  obtain rfl : args = #[v0, v1, v2] := by cases args; simp_all
  obtain ⟨rfl, rfl⟩ := trodVars_none hV
  have lt0 : ∀ x ∈ p0, x.block < W.heap.size := by obtain ⟨m, hm⟩ := h0; exact DataW.trod_lt m _ _ _ hm
  have k0 := h0
  have lt1 : ∀ x ∈ p1, x.block < W.heap.size := by obtain ⟨m, hm⟩ := h1; exact DataW.trod_lt m _ _ _ hm
  have k1 := h1
  have lt2 : ∀ x ∈ p2, x.block < W.heap.size := by obtain ⟨m, hm⟩ := h2; exact DataW.trod_lt m _ _ _ hm
  have k2 := h2
  obtain ⟨A0, n0, c0, T0, rfl, hT0⟩ := tree_open (hval 0 _ v0 rfl rfl) h0
  obtain ⟨a1, rfl, rfl, rfl, w1⟩ := open_int Try.underlying3 (hval 1 _ v1 rfl rfl) h1
  obtain ⟨a2, rfl, rfl, rfl, w2⟩ := open_int Try.underlying3 (hval 2 _ v2 rfl rfl) h2
  clear hA0 hval0
  refine (walk A0 n0 c0 T0 a1 a2 W hT0  ).mono fun e W' ⟨he, bel⟩ => ?_
  subst he
  exact ⟨_, rfl, _, _, _, [], _, [], hW', trodAll_mk1 (shut_bool Try.underlying4 _), (trodAll_cons_mk (Below.trod laidOut (by kernel_rfl) (of_decide_eq_true (by kernel_rfl)) k0 bel lt0) (trodAll_cons_mk (Below.trod laidOut (by kernel_rfl) (of_decide_eq_true (by kernel_rfl)) k1 bel lt1) (trodAll_cons_mk (Below.trod laidOut (by kernel_rfl) (of_decide_eq_true (by kernel_rfl)) k2 bel lt2) trodAll_mk0))), rfl, bel.frame _, fun h => by cases h⟩

theorem proved : Rows.MutateOrderSaid :=
  OpenClaim.holds_of_wide 3 Try.f3 rfl rfl rfl rfl rfl rfl rfl ⟨rfl, rfl, rfl, rfl, rfl⟩ rfl rfl rfl rfl rfl (by kernel_rfl) Try.func3 (by kernel_rfl)
    (of_decide_eq_true (by kernel_rfl)) (by unfold Func.isWrapper; first | (rw [if_pos (by decide +kernel)]; kernel_rfl) | (rw [if_neg (by decide +kernel)]; exact ⟨rfl, rfl⟩))
    (fun os started H enc _ => lifted os started H enc)
#print axioms proved
end Go.Proofs.Ytkimjpcmcfnmkaa.mutateOrder
