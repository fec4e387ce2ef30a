/- Walks: a tree out of which an element is taken, by the program. Conditions: the tree is not great. -/
import Derived.Test.YtmdccplhmniiiaaGreatMua
import Derived.Test.YtmdccplhmniiiaaGreatAtw
namespace Go.Proofs.YtmdccplhmniiiaaGreat
open Go.RowKit

def cutT (T : List ANode) (x : Int) : List ANode := T.map fun d => { d with children := less1 d.children x }
def takenT (T : List ANode) (k : Nat) : List ANode := setP (cutT T k) k (-1)
theorem cutT_len (T : List ANode) (x : Int) : (cutT T x).length = T.length := List.length_map ..
theorem nd_cut (T : List ANode) (x : Int) (j : Nat) : nd (cutT T x) j = { nd T j with children := less1 (nd T j).children x } := by
  unfold nd cutT
  rw [List.getD_eq_getElem?_getD, List.getD_eq_getElem?_getD, List.getElem?_map]
  cases T[j]? with
  | none => rfl
  | some d => rfl
theorem fits_cut {T : List ANode} (h : Fits T) (x : Int) : Fits (cutT T x) := by
  intro d hd
  obtain ⟨y, hy, rfl⟩ := List.mem_map.1 hd
  have := h y hy
  exact ⟨this.1, this.2.1, Nat.le_trans (less1_len _ _) this.2.2.1, this.2.2.2⟩
theorem fits_setP {T : List ANode} (h : Fits T) {k : Nat} (hk : k < T.length) (x : Int) : Fits (setP T k x) := by
  intro d hd
  rcases List.mem_or_eq_of_mem_set hd with hd | rfl
  · exact h d hd
  · have hm : nd T k ∈ T := by unfold nd; rw [List.getD_eq_getElem?_getD, List.getElem?_eq_getElem hk]; exact List.getElem_mem _
    have := h _ hm
    exact ⟨this.1, this.2.1, this.2.2.1, this.2.2.2⟩

set_option maxRecDepth 100000 in
set_option maxHeartbeats 8000000 in
theorem taken_ok (A : Option Addr) (n c : Nat) (T : List ANode) (k : Nat) (w : World) (h : IsTree w A n T) (hn : n ≤ 70) (hf : Fits T) (hk : k < n) :
    Calls Tryz.prog 53 #[.agg #[.slice A n c], .int .i64 k] w (MadeOwn w n (takenT T k)) := by
  obtain ⟨ix, hIx, hzx0, hzx1, hzx2⟩ := info_parts info_node
  have hl := h.1
  have ho := hide h.2.2.2
  have hf' := hide hf
  clear h hf
  go_enter Tryz.func53, Tryz.ntmps53
  go_wp2
  go_loopw [11] (fun s wr => ∃ (q : Nat) (v : Value), q ≤ n ∧ s = .int .i64 q ∧ Below w.heap.size w wr ∧ wr.heap[w.heap.size]? = some (.cells #[.slice A n c] 26 (0, 0)) ∧ wr.heap[w.heap.size + 1]? = some (.cells #[.int .i64 k] 3 (0, 0)) ∧ wr.heap[w.heap.size + 2]? = some (.cells #[.slice none 0 0] 26 (0, 0)) ∧ wr.heap[w.heap.size + 3]? = some (.cells #[v] 26 (0, 0)) ∧ OwnTree wr (w.heap.size + 4) v q (cutT T k)) (fun s _ => n - (intOf s).toNat)
  case atStart =>
    exact ⟨0, .slice none 0 0, Nat.zero_le _, rfl, below_alloc (below_alloc (below_alloc (below_alloc (Below.refl _ _) _) _) _) _, blk_alloc (blk_alloc (blk_alloc (blk_new _ _ _) _) _) _, blk_alloc (blk_alloc (blk_at _ _ _ _ (by simp)) _) _, blk_alloc (blk_at _ _ _ _ (by simp)) _, blk_at _ _ _ _ (by simp), ownTree_nil _ _ _⟩
  case round =>
    obtain ⟨q, v, hq, rfl, hb, hk0, hkx, hk1, hk2, hO⟩ := hrel
    have lb : w.heap.size + 3 < wr.heap.size := blk_lt hk2
    have fo : wr.cell? ⟨w.heap.size + 3, 0, none⟩ = some v := by rw [blk_cell hk2]; rfl
    have fb : wr.cell? ⟨w.heap.size, 0, none⟩ = some (.slice A n c) := by rw [blk_cell hk0]; rfl
    have lb0 : w.heap.size < wr.heap.size := by omega
    by_cases hlt : q < n
    · obtain ⟨b, off, aA, cA, aC, cC, rfl, hbl, c0, c1, c2, c3, hA, hC⟩ := ho.out (by omega)
      have g0 := (old hb _ _ hbl).trans (c0 q hlt)
      have g1 := (old hb _ _ hbl).trans (c1 q hlt)
      have g2 := (old hb _ _ hbl).trans (c2 q hlt)
      have g3 := (old hb _ _ hbl).trans (c3 q hlt)
      have hbr : b < wr.heap.size := Nat.lt_of_lt_of_le hbl hb.size
      have hgA := hide ((hA q hlt).1.below hb)
      have hgC := hide ((hC q hlt).1.below hb)
      have hfk := hf'.out (nd T q) (by unfold nd; rw [List.getD_eq_getElem?_getD, List.getElem?_eq_getElem (by omega)]; exact List.getElem_mem _)
      have hna : (nd T q).attrs.length ≤ 70 := hfk.2.1
      have hnk : (kids T q).length ≤ 70 := hfk.2.2.1
      have hO' := hide hO
      have hnd := hide (nd_cut T k q)
      generalize aA q = AA at g1 hgA
      generalize cA q = CA at g3 hgC
      generalize aC q = ac at g1
      generalize cC q = cc at g3
      clear c0 c1 c2 c3 hA hC hfk hO
      go_wp2_with fail
      refine (cloneAttrs_ok _ _ _ (nd T q).attrs _ (hgA.out.below (below_alloc (Below.refl _ _) _)) (by omega)).mono ?_
      rintro e w3 ⟨A3, c3, rfl, hA3, hb3⟩
      have hn3 := (hb3.block wr.heap.size (by simp)).trans (blk_new _ _ _)
      have m3 : w3.cell? ⟨wr.heap.size, 3, none⟩ = some (.slice CA (kids T q).length cc) := (blk_cell hn3 3).trans rfl
      have m1 : w3.cell? ⟨wr.heap.size, 1, none⟩ = some (.slice AA (nd T q).attrs.length ac) := (blk_cell hn3 1).trans rfl
      have mf1 : w3.frozen? ⟨wr.heap.size, 1, none⟩ = false := blk_frozen hn3 1
      have lw3 : wr.heap.size < w3.heap.size := blk_lt hn3
      have hW3 := Below.on (below_alloc (Below.refl wr.heap.size wr) (.cells #[.string (nd T q).tag, .slice AA (nd T q).attrs.length ac, .int .i64 (par T q), .slice CA (kids T q).length cc] 58)) hb3
      have hW3' : Below wr.heap.size wr (w3.setCell ⟨wr.heap.size, 1, none⟩ (.slice A3 (nd T q).attrs.length c3)) := hW3.setCell (by simp) _
      have hs3 : (w3.setCell ⟨wr.heap.size, 1, none⟩ (.slice A3 (nd T q).attrs.length c3)).heap.size = w3.heap.size := by simp
      have hA3s := hide (ownsRow_setCell_below hA3 (a := ⟨wr.heap.size, 1, none⟩) (by simp) (.slice A3 (nd T q).attrs.length c3))
      have hn3s := blk_set hn3 1 (.slice A3 (nd T q).attrs.length c3)
      go_wp2_with fail
      refine (cloneInts_ok _ _ _ (kids T q) _ (hgC.out.below hW3') (by omega)).mono ?_
      generalize w3.setCell ⟨wr.heap.size, 1, none⟩ (.slice A3 (nd T q).attrs.length c3) = w3s at *
      rintro e w4 ⟨A4, c4, rfl, hK4, hb4⟩
      have hs4 : wr.heap.size < w3s.heap.size := by omega
      have hp4 : w4.cell? ⟨w.heap.size + 1, 0, none⟩ = some (.int .i64 k) := (blk_cell ((hb4.block _ (by omega)).trans ((hW3'.block _ (by omega)).trans hkx)) 0).trans rfl
      have hpb4 : A4.map (·.block) ≠ some (w.heap.size + 1) := fun e => by have := (own_lt hK4 _ e).1; omega
      go_wp2_with fail
      refine (delF_ok A4 (kids T q).length c4 _ (kids T q) k (w.heap.size + 1) w4 hK4 (by omega) hp4 hpb4).mono ?_
      rintro e w5 ⟨c5, rfl, hK5, -, hsz5, hB5⟩
      have hb5s := hB5 _ _ (Nat.le_refl _) hb4
      clear hB5 hp4 hpb4 hK4 hb4
      have hW5 := hide (Below.on hW3' hb5s)
      have hA5 := hide (own_base (base := wr.heap.size + 1) (own_below hA3s.out hb5s) (by simp))
      have hK5' := hide (own_base (base := wr.heap.size + 1) hK5 (by omega))
      have hn5 := (hb5s.block wr.heap.size hs4).trans hn3s
      have lw5 : w.heap.size + 3 < w5.heap.size := by have := hb5s.size; omega
      have hk0_5 := hide ((hW5.out.block _ (by omega)).trans hk0)
      have hkx_5 := hide ((hW5.out.block _ (by omega)).trans hkx)
      have hk1_5 := hide ((hW5.out.block _ (by omega)).trans hk1)
      have hk2_5 := hide ((hW5.out.block _ lb).trans hk2)
      have p0 : w5.cell? ⟨wr.heap.size, 0, none⟩ = some (.string (nd T q).tag) := (blk_cell hn5 0).trans rfl
      have p1 : w5.cell? ⟨wr.heap.size, 1, none⟩ = some (.slice A3 (nd T q).attrs.length c3) := (blk_cell hn5 1).trans rfl
      have p2 : w5.cell? ⟨wr.heap.size, 2, none⟩ = some (.int .i64 (par T q)) := (blk_cell hn5 2).trans rfl
      have p3 : w5.cell? ⟨wr.heap.size, 3, none⟩ = some (.slice CA (kids T q).length cc) := (blk_cell hn5 3).trans rfl
      have pf3 : w5.frozen? ⟨wr.heap.size, 3, none⟩ = false := blk_frozen hn5 3
      have po : w5.cell? ⟨w.heap.size + 3, 0, none⟩ = some v := (blk_cell hk2_5.out 0).trans rfl
      have hlw : wr.heap.size < w5.heap.size := blk_lt hn5
      obtain ⟨bA, bC, bc, bd, hrow, hra, hrk, hr4, hr5⟩ := id hO'.out
      have hb6 : Below wr.heap.size wr ((w5.setCell ⟨wr.heap.size, 3, none⟩ (.slice A4 (less1 (kids T q) k).length c5)).alloc (.cells #[.string (nd T q).tag, .slice A3 (nd T q).attrs.length c3, .int .i64 (par T q), .slice A4 (less1 (kids T q) k).length c5] 58)) := below_alloc (hW5.out.setCell (by simp) _) _
      have hrow6 := own_below hrow hb6
      clear hra hrk hr4 hr5 hW3 hb3 hA3 hK5 hn3 hn5 m3 m1 mf1 hk0 hkx hk1 hk2 hb5s hn3s hW3'
      go_wp2_with (at_builtin; refine wpList_append_own _ rfl (.tmp 26) (.tmp 28) 24 rfl (w.heap.size + 4) 58 ix _ 4 72 Tryz.underlying24 hIx hzx0 hzx1 hzx2 rfl (by decide) _ _ _ rfl hrow6 ⟨w5.heap.size, 0, none⟩ 1 1 [.string (nd T q).tag, .slice A3 (nd T q).attrs.length c3, .int .i64 (par T q), .slice A4 (less1 (kids T q) k).length c5] rfl rfl ?e1 ?e2 ?e3 ?e4 ?e5 ?_)
      case e1 =>
        intro j u hj
        have hj4 : j < 4 := by
          rcases Nat.lt_or_ge j 4 with h | h
          · exact h
          · rw [List.getElem?_eq_none (by simpa using h)] at hj; cases hj
        rw [show (⟨w5.heap.size, 0, none⟩ : Addr).add j = ⟨w5.heap.size, j, none⟩ by unfold Addr.add; split <;> simp_all]
        rw [blk_cell (blk_at _ _ _ _ (by simp)) j, ← hj]
        obtain rfl | rfl | rfl | rfl : j = 0 ∨ j = 1 ∨ j = 2 ∨ j = 3 := by omega
        all_goals rfl
      case e2 => intro u hu; simp at hu; rcases hu with rfl | rfl | rfl | rfl <;> rfl
      case e3 => unfold maxLen; omega
      case e4 => omega
      case e5 => simp; omega
      · intro v6 w6 hown6 hgr6 _
        obtain ⟨A6, c6, rfl⟩ := own_slice hown6
        have hT6 : Hid (OwnTree w6 (w.heap.size + 4) (.slice A6 (q + 1) c6) (q + 1) (cutT T k)) := by
          have hA7 := own_base (base := wr.heap.size) ((ownsRow_setCell_below hA5.out (a := ⟨wr.heap.size, 3, none⟩) (by simp) (.slice A4 (less1 (kids T q) k).length c5)).alloc (.cells #[.string (nd T q).tag, .slice A3 (nd T q).attrs.length c3, .int .i64 (par T q), .slice A4 (less1 (kids T q) k).length c5] 58)) (by omega)
          have hK7 := own_base (base := wr.heap.size) ((ownsRow_setCell_below hK5'.out (a := ⟨wr.heap.size, 3, none⟩) (by simp) (.slice A4 (less1 (kids T q) k).length c5)).alloc (.cells #[.string (nd T q).tag, .slice A3 (nd T q).attrs.length c3, .int .i64 (par T q), .slice A4 (less1 (kids T q) k).length c5] 58)) (by omega)
          have hatt : (nd (cutT T k) q).attrs = (nd T q).attrs := by rw [hnd.out]
          have htag : (nd (cutT T k) q).tag = (nd T q).tag := by rw [hnd.out]
          have hpar : par (cutT T k) q = par T q := by unfold par; rw [hnd.out]
          have hkid : kids (cutT T k) q = less1 (kids T q) k := by unfold kids; rw [hnd.out]
          refine OwnTree.push (T' := cutT T k) (A1 := A3) (c1 := c3) (A3 := A4) (c3 := c5) hO'.out (by omega) hb6 (fun _ _ => rfl) ?_ ?_ ?_ hgr6
          · rw [hatt]; exact hA7
          · rw [hkid]; exact hK7
          · intro xs hx
            rw [own_unique hx hrow, hatt, htag, hpar, hkid]
            exact hown6
        have ne1 : w.heap.size ≠ (⟨wr.heap.size, 3, none⟩ : Addr).block := by intro e; have e2 : w.heap.size = wr.heap.size := e; omega
        have nex : w.heap.size + 1 ≠ (⟨wr.heap.size, 3, none⟩ : Addr).block := by intro e; have e2 : w.heap.size + 1 = wr.heap.size := e; omega
        have ne2 : w.heap.size + 2 ≠ (⟨wr.heap.size, 3, none⟩ : Addr).block := by intro e; have e2 : w.heap.size + 2 = wr.heap.size := e; omega
        have ne3 : w.heap.size + 3 ≠ (⟨wr.heap.size, 3, none⟩ : Addr).block := by intro e; have e2 : w.heap.size + 3 = wr.heap.size := e; omega
        have hk0_6 := hide (blk_grown hrow6 hgr6 (by omega) (blk_alloc (blk_far hk0_5.out ne1 _) _))
        have hkx_6 := hide (blk_grown hrow6 hgr6 (by omega) (blk_alloc (blk_far hkx_5.out nex _) _))
        have hk1_6 := hide (blk_grown hrow6 hgr6 (by omega) (blk_alloc (blk_far hk1_5.out ne2 _) _))
        have hk2_6 := hide (blk_grown hrow6 hgr6 (by omega) (blk_alloc (blk_far hk2_5.out ne3 _) _))
        have hb7 : Below w.heap.size w w6 := (hb.trans (hb6.mono (by omega))).grown hgr6 (by simp; omega) (fun q hq => by have := (hrow6.lt q hq).1; omega)
        have po6 : w6.cell? ⟨w.heap.size + 3, 0, none⟩ = some v := (blk_cell hk2_6.out 0).trans rfl
        have pf6 : w6.frozen? ⟨w.heap.size + 3, 0, none⟩ = false := blk_frozen hk2_6.out 0
        clear hown6 hgr6 hrow6 hrow p0 p1 p2 p3 pf3 po ne1 ne2 ne3 nex
        go_wp2
        go_roundw
        case rel =>
          refine ⟨q + 1, .slice A6 (q + 1) c6, by omega, by go_num, hb7.setCell (p := ⟨w.heap.size + 3, 0, none⟩) (by show w.heap.size ≤ w.heap.size + 3; omega) _, blk_far hk0_6.out ?_ _, blk_far hkx_6.out ?_ _, blk_far hk1_6.out ?_ _, blk_set hk2_6.out 0 _, hT6.out.set (p := ⟨w.heap.size + 3, 0, none⟩) (by simp) _⟩
          · intro e; have e2 : w.heap.size = w.heap.size + 3 := e; omega
          · intro e; have e2 : w.heap.size + 1 = w.heap.size + 3 := e; omega
          · intro e; have e2 : w.heap.size + 2 = w.heap.size + 3 := e; omega
        case measure => simp [intOf]; omega
    · obtain rfl : q = n := by omega
      have hcl := cutT_len T (k : Int)
      obtain ⟨g, cap, A1, ac, C1, cc, N⟩ := hO.node hk (by omega)
      obtain rfl := N.val
      have hO' := hide hO
      have fx : wr.cell? ⟨w.heap.size + 1, 0, none⟩ = some (.int .i64 k) := by rw [blk_cell hkx]; rfl
      have ff : wr.frozen? ⟨w.heap.size + 2, 0, none⟩ = false := blk_frozen hk1 0
      have f1 : wr.cell? ⟨w.heap.size + 2, 0, none⟩ = some (.slice none 0 0) := by rw [blk_cell hk1]; rfl
      have n2 := N.c2
      have nf := N.fz (k * 4 + 2)
      have ng := N.low
      have hP := hide (N.onP (-1))
      have hcap := N.cap63
      have hroom := N.room
      have ne2 : ¬ (g = w.heap.size + 3) := by omega
      have ne3 : ¬ (g = w.heap.size + 2) := by omega
      clear N hO
      have hres : ((wr.setCell ⟨g, k * 4 + 2, none⟩ (.int .i64 (-1))).setCell ⟨w.heap.size + 2, 0, none⟩ (.slice (some ⟨g, 0, none⟩) q cap)).cell? ⟨w.heap.size + 2, 0, none⟩ = some (.slice (some ⟨g, 0, none⟩) q cap) := by go_simp
      have hO2 := hide (hP.out.set (p := ⟨w.heap.size + 2, 0, none⟩) (by simp) (.slice (some ⟨g, 0, none⟩) q cap))
      have hbe := hide ((hb.setCell (p := ⟨g, k * 4 + 2, none⟩) (by show w.heap.size ≤ g; omega) (.int .i64 (-1))).setCell (p := ⟨w.heap.size + 2, 0, none⟩) (by show w.heap.size ≤ w.heap.size + 2; omega) (.slice (some ⟨g, 0, none⟩) q cap))
      have hfe := fits_setP (fits_cut hf'.out (k : Int)) (k := k) (by omega) (-1)
      have hle : (takenT T k).length = q := by unfold takenT setP; rw [List.length_set, cutT_len]; exact hl
      go_wp2
      refine bodyPost_ret (v := .agg #[.slice (some ⟨g, 0, none⟩) q cap]) (by simp [results, Tryz.results53, go_sem, hres]) rfl ?_
      obtain ⟨A2, c2, hv, _, _, hT3⟩ := isTree_of_own hO2.out hle (by omega) hfe
      injection hv with e1 e2 e3
      subst e1 e3
      exact ⟨_, _, rfl, hO2.out.base (by omega), hT3, hbe.out⟩
end Go.Proofs.YtmdccplhmniiiaaGreat
