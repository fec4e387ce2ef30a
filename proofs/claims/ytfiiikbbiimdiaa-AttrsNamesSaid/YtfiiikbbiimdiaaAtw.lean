/- Walks: a copy of a tree, by the program. Conditions: the tree is not great. -/
import Derived.Test.YtfiiikbbiimdiaaWk
import Derived.Test.YtfiiikbbiimdiaaTset
namespace Go.Proofs.Ytfiiikbbiimdiaa
open Go.RowKit

set_option maxRecDepth 100000 in
set_option maxHeartbeats 4000000 in
theorem atwin_ok (A : Option Addr) (n c : Nat) (T : List ANode) (w : World) (h : IsTree w A n T) (hn : n ≤ 70) (hf : Fits T) :
    Calls Try.prog 71 #[.agg #[.slice A n c]] w (MadeOwn w n T) := by
  obtain ⟨ix, hIx, hzx0, hzx1, hzx2⟩ := info_parts info_node
  have hl := h.1
  have ho := hide h.2.2.2
  have hf' := hide hf
  clear h hf
  go_enter Try.func71, Try.ntmps71
  go_wp2
  go_loopw [9] (fun s wr => ∃ (k : Nat) (v : Value), k ≤ n ∧ s = .int .i64 k ∧ Below w.heap.size w wr ∧ wr.heap[w.heap.size]? = some (.cells #[.slice A n c] 24 (0, 0)) ∧ wr.heap[w.heap.size + 1]? = some (.cells #[.slice none 0 0] 24 (0, 0)) ∧ wr.heap[(w.heap.size + 2)]? = some (.cells #[v] 24 (0, 0)) ∧ OwnTree wr (w.heap.size + 3) v k T) (fun s _ => n - (intOf s).toNat)
  case atStart =>
    exact ⟨0, .slice none 0 0, Nat.zero_le _, rfl, below_alloc (below_alloc (below_alloc (Below.refl _ _) _) _) _, blk_alloc (blk_alloc (blk_new _ _ _) _) _, blk_alloc (blk_at _ _ _ _ (by simp)) _, blk_at _ _ _ _ (by simp), ownTree_nil _ _ _⟩
  case round =>
    obtain ⟨k, v, hk, rfl, hb, hk0, hk1, hk2, hO⟩ := hrel
    have lb : (w.heap.size + 2) < wr.heap.size := blk_lt hk2
    have fo : wr.cell? ⟨(w.heap.size + 2), 0, none⟩ = some v := by rw [blk_cell hk2]; rfl
    have fb : wr.cell? ⟨w.heap.size, 0, none⟩ = some (.slice A n c) := by rw [blk_cell hk0]; rfl
    have lb0 : w.heap.size < wr.heap.size := by omega
    by_cases hlt : k < n
    · obtain ⟨b, off, aA, cA, aC, cC, rfl, hbl, c0, c1, c2, c3, hA, hC⟩ := ho.out (by omega)
      have g0 := (old hb _ _ hbl).trans (c0 k hlt)
      have g1 := (old hb _ _ hbl).trans (c1 k hlt)
      have g2 := (old hb _ _ hbl).trans (c2 k hlt)
      have g3 := (old hb _ _ hbl).trans (c3 k hlt)
      have hbr : b < wr.heap.size := Nat.lt_of_lt_of_le hbl hb.size
      have hgA := hide ((hA k hlt).1.below hb)
      have hgC := hide ((hC k hlt).1.below hb)
      have hfk := hf'.out (nd T k) (by unfold nd; rw [List.getD_eq_getElem?_getD, List.getElem?_eq_getElem (by omega)]; exact List.getElem_mem _)
      have hna : (nd T k).attrs.length ≤ 70 := hfk.2.1
      have hnk : (kids T k).length ≤ 70 := hfk.2.2.1
      have hO' := hide hO
      generalize aA k = AA at g1 hgA
      generalize cA k = CA at g3 hgC
      generalize aC k = ac at g1
      generalize cC k = cc at g3
      clear c0 c1 c2 c3 hA hC hfk hO
      go_wp2
      go_region_with (first | (go_at_call 87; refine (cloneAttrs_ok _ _ _ (nd T k).attrs _ ?_ (by omega)).mono ?_; (exact hgA.out.below (below_alloc (Below.refl _ _) _).drew); rintro e w3 ⟨A3, c3, rfl, hA3, hb3⟩; have hn3 := (hb3.block wr.heap.size (by simp)).trans (blk_new _ _ _); have m3 : w3.cell? ⟨wr.heap.size, 3, none⟩ = some (.slice CA (kids T k).length cc) := (blk_cell hn3 3).trans rfl) | (go_at_call 89; refine (cloneInts_ok _ _ _ (kids T k) _ ?_ (by omega)).mono ?_; (exact (hgC.out.below (below_alloc (Below.refl _ _) _).drew).below hb3); rintro e w4 ⟨A4, c4, rfl, hK4, hb4⟩; have hn4 := (hb4.block wr.heap.size (blk_lt hn3)).trans hn3; have m41 : w4.cell? ⟨wr.heap.size, 1, none⟩ = some (.slice AA (nd T k).attrs.length ac) := (blk_cell hn4 1).trans rfl; have m43 : w4.cell? ⟨wr.heap.size, 3, none⟩ = some (.slice CA (kids T k).length cc) := (blk_cell hn4 3).trans rfl; have mf1 : w4.frozen? ⟨wr.heap.size, 1, none⟩ = false := blk_frozen hn4 1; have mf3 : w4.frozen? ⟨wr.heap.size, 3, none⟩ = false := blk_frozen hn4 3))
      all_goals
        have lw4 : wr.heap.size < w4.heap.size := blk_lt hn4
        have lw5 : (w.heap.size + 2) < w4.heap.size := by omega
        have hW3 := Below.on ((below_alloc (Below.refl wr.heap.size wr) (.cells #[.string (nd T k).tag, .slice AA (nd T k).attrs.length ac, .int .i64 (par T k), .slice CA (kids T k).length cc] 61)).drew) hb3
        have hW4 := hide (Below.on hW3 hb4)
        have lw3 : wr.heap.size < w3.heap.size := blk_lt hn3
        have hA4 := hide (own_base (base := wr.heap.size + 1) (own_below hA3 hb4) (by simp))
        have hK4' := hide (own_base (base := wr.heap.size + 1) hK4 (by omega))
        have hk0_4 := hide ((hW4.out.block _ (by omega)).trans hk0)
        have hk1_4 := hide ((hW4.out.block _ (by omega)).trans hk1)
        have hk2_4 := hide ((hW4.out.block _ lb).trans hk2)
        have hn4' := hide hn4
        have p0 : w4.cell? ⟨wr.heap.size, 0, none⟩ = some (.string (nd T k).tag) := (blk_cell hn4 0).trans rfl
        have p2 : w4.cell? ⟨wr.heap.size, 2, none⟩ = some (.int .i64 (par T k)) := (blk_cell hn4 2).trans rfl
        have po : w4.cell? ⟨(w.heap.size + 2), 0, none⟩ = some v := (blk_cell hk2_4.out 0).trans rfl
        obtain ⟨bA, bC, bc, bd, hrow, hra, hrk, hr4, hr5⟩ := id hO'.out
        have hb5 : Below wr.heap.size wr (((w4.setCell ⟨wr.heap.size, 1, none⟩ (.slice A3 (nd T k).attrs.length c3)).setCell ⟨wr.heap.size, 3, none⟩ (.slice A4 (kids T k).length c4)).alloc (.cells #[.string (nd T k).tag, .slice A3 (nd T k).attrs.length c3, .int .i64 (par T k), .slice A4 (kids T k).length c4] 61)) := below_alloc ((hW4.out.setCell (by simp) _).setCell (by simp) _) _
        have hrow5 := own_below hrow hb5
        clear hra hrk hr4 hr5 hW3 hb3 hb4 hA3 hK4 hn3 hn4 m3 hk0 hk1 hk2
        go_wp2_with (at_builtin; refine wpList_append_own _ rfl (.tmp 22) (.tmp 24) 22 rfl (w.heap.size + 3) 61 ix _ 4 72 Try.underlying22 hIx hzx0 hzx1 hzx2 rfl (by decide) _ _ _ rfl hrow5 ⟨w4.heap.size, 0, none⟩ 1 1 [.string (nd T k).tag, .slice A3 (nd T k).attrs.length c3, .int .i64 (par T k), .slice A4 (kids T k).length c4] rfl rfl ?e1 ?e2 ?e3 ?e4 ?e5 ?_)
        case e1 =>
          intro j u hj
          have hj4 : j < 4 := by
            rcases Nat.lt_or_ge j 4 with h | h
            · exact h
            · rw [List.getElem?_eq_none (by simpa using h)] at hj; cases hj
          rw [show (⟨w4.heap.size, 0, none⟩ : Addr).add j = ⟨w4.heap.size, j, none⟩ by unfold Addr.add; split <;> simp_all]
          rw [blk_cell (blk_at _ _ _ _ (by simp)) j, ← hj]
          obtain rfl | rfl | rfl | rfl : j = 0 ∨ j = 1 ∨ j = 2 ∨ j = 3 := by omega
          all_goals rfl
        case e2 => intro u hu; simp at hu; rcases hu with rfl | rfl | rfl | rfl <;> rfl
        case e3 => unfold maxLen; omega
        case e4 => omega
        case e5 => simp; omega
        · intro v6 w6 hown6 hgr6 _
          obtain ⟨A6, c6, rfl⟩ := own_slice hown6
          have hT6 := hide (OwnTree.push hO'.out (by omega) hb5 (fun _ _ => rfl)
            (own_base ((ownsRow_setCell_below (ownsRow_setCell_below hA4.out (a := ⟨wr.heap.size, 1, none⟩) (by simp) _) (a := ⟨wr.heap.size, 3, none⟩) (by simp) _).alloc _) (by omega))
            (own_base ((ownsRow_setCell_below (ownsRow_setCell_below hK4'.out (a := ⟨wr.heap.size, 1, none⟩) (by simp) _) (a := ⟨wr.heap.size, 3, none⟩) (by simp) _).alloc _) (by omega))
            (fun xs hx => by rw [own_unique hx hrow]; exact hown6) hgr6)
          have ne1 : w.heap.size ≠ (⟨wr.heap.size, 1, none⟩ : Addr).block := by intro e; have e2 : w.heap.size = wr.heap.size := e; omega
          have ne2 : w.heap.size + 1 ≠ (⟨wr.heap.size, 1, none⟩ : Addr).block := by intro e; have e2 : w.heap.size + 1 = wr.heap.size := e; omega
          have ne3 : (w.heap.size + 2) ≠ (⟨wr.heap.size, 1, none⟩ : Addr).block := by intro e; have e2 : (w.heap.size + 2) = wr.heap.size := e; omega
          have hk0_6 := hide (blk_grown hrow5 hgr6 (by omega) (blk_alloc (blk_far (p := ⟨wr.heap.size, 3, none⟩) (blk_far hk0_4.out ne1 _) ne1 _) _))
          have hk1_6 := hide (blk_grown hrow5 hgr6 (by omega) (blk_alloc (blk_far (p := ⟨wr.heap.size, 3, none⟩) (blk_far hk1_4.out ne2 _) ne2 _) _))
          have hk2_6 := hide (blk_grown hrow5 hgr6 (by omega) (blk_alloc (blk_far (p := ⟨wr.heap.size, 3, none⟩) (blk_far hk2_4.out ne3 _) ne3 _) _))
          have hb6 : Below w.heap.size w w6 := (hb.trans (hb5.mono (by omega))).grown hgr6 (by simp; omega) (fun q hq => by have := (hrow5.lt q hq).1; omega)
          have po6 : w6.cell? ⟨(w.heap.size + 2), 0, none⟩ = some v := (blk_cell hk2_6.out 0).trans rfl
          have pf6 : w6.frozen? ⟨(w.heap.size + 2), 0, none⟩ = false := blk_frozen hk2_6.out 0
          clear hown6 hgr6 hrow5 hrow p0 p2 po ne1 ne2 ne3 m41 m43 mf1 mf3
          go_wp2
          go_roundw
          case rel =>
            refine ⟨k + 1, .slice A6 (k + 1) c6, by omega, by go_num, hb6.setCell (p := ⟨(w.heap.size + 2), 0, none⟩) (by show w.heap.size ≤ (w.heap.size + 2); omega) _, blk_far hk0_6.out ?_ _, blk_far hk1_6.out ?_ _, blk_set hk2_6.out 0 _, hT6.out.set (p := ⟨(w.heap.size + 2), 0, none⟩) (by simp) _⟩
            · intro e; have e2 : w.heap.size = (w.heap.size + 2) := e; omega
            · intro e; have e2 : w.heap.size + 1 = (w.heap.size + 2) := e; omega
          case measure => simp [intOf]; omega
    · obtain rfl : k = n := by omega
      have ff : wr.frozen? ⟨w.heap.size + 1, 0, none⟩ = false := blk_frozen hk1 0
      have f1 : wr.cell? ⟨w.heap.size + 1, 0, none⟩ = some (.slice none 0 0) := by rw [blk_cell hk1]; rfl
      obtain ⟨A', c', rfl, hc1, hc2, hT'⟩ := isTree_of_own hO hl (by omega) hf'.out
      have hres : (wr.setCell ⟨w.heap.size + 1, 0, none⟩ (.slice A' k c')).cell? ⟨w.heap.size + 1, 0, none⟩ = some (.slice A' k c') := by go_simp
      have hO2 := hide (hO.set (p := ⟨w.heap.size + 1, 0, none⟩) (by simp) (.slice A' k c'))
      have hT2 := hide hT'
      clear hO hT'
      go_wp2
      refine bodyPost_ret (v := .agg #[.slice A' k c']) (by simp [results, Try.results71, go_sem, hres]) rfl ?_
      obtain ⟨A2, c2, hv, _, _, hT3⟩ := isTree_of_own hO2.out hl (by omega) hf'.out
      injection hv with e1 e2 e3
      subst e1
      exact ⟨_, _, rfl, hO2.out.base (by omega), hT3, hb.setCell (by simp) _⟩
end Go.Proofs.Ytfiiikbbiimdiaa
