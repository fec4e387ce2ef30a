/- Of the chapter's tree in which something is not right, and of names that are none, every function tells the error; right names and full trees are taken. No condition. -/
import Derived.Test.YtfidpmjjddkffaaOpen
import Derived.Test.YtfidpmjjddkffaaSpd
import Derived.Test.YtfidpmjjddkffaaSpe
import Derived.Test.YtfidpmjjddkffaaWk
import Derived.Deep.CutRange
namespace Go.Proofs.Ytfidpmjjddkffaa.treeNames
open Go.ChangeShapes Go.WideShapes Go.ChangeAt Go.RowKit

set_option maxRecDepth 100000 in
theorem spoilt_bad (i : Nat) (hi : i < 18) (w : World) : Calls Try.prog 27 #[.int .i64 i] w (MadeBad w) := by
  have : i = 0 ∨ i = 1 ∨ i = 2 ∨ i = 3 ∨ i = 4 ∨ i = 5 ∨ i = 6 ∨ i = 7 ∨ i = 8 ∨ i = 9 ∨ i = 10 ∨ i = 11 ∨ i = 12 ∨ i = 13 ∨ i = 14 ∨ i = 15 ∨ i = 16 ∨ i = 17 := by omega
  rcases this with rfl | rfl | rfl | rfl | rfl | rfl | rfl | rfl | rfl | rfl | rfl | rfl | rfl | rfl | rfl | rfl | rfl | rfl
  · exact (spoilt0 w).mono fun _ _ h => h.bad (by kernel_rfl) (by omega) (by kernel_rfl) (by kernel_rfl)
  · exact (spoilt1 w).mono fun _ _ h => h.bad (by kernel_rfl) (by omega) (by kernel_rfl) (by kernel_rfl)
  · exact (spoilt2 w).mono fun _ _ h => h.bad (by kernel_rfl) (by omega) (by kernel_rfl) (by kernel_rfl)
  · exact (spoilt3 w).mono fun _ _ h => h.bad (by kernel_rfl) (by omega) (by kernel_rfl) (by kernel_rfl)
  · exact (spoilt4 w).mono fun _ _ h => h.bad (by kernel_rfl) (by omega) (by kernel_rfl) (by kernel_rfl)
  · exact (spoilt5 w).mono fun _ _ h => h.bad (by kernel_rfl) (by omega) (by kernel_rfl) (by kernel_rfl)
  · exact (spoilt6 w).mono fun _ _ h => h.bad (by kernel_rfl) (by omega) (by kernel_rfl) (by kernel_rfl)
  · exact (spoilt7 w).mono fun _ _ h => h.bad (by kernel_rfl) (by omega) (by kernel_rfl) (by kernel_rfl)
  · exact (spoilt8 w).mono fun _ _ h => h.bad (by kernel_rfl) (by omega) (by kernel_rfl) (by kernel_rfl)
  · exact (spoilt9 w).mono fun _ _ h => h.bad (by kernel_rfl) (by omega) (by kernel_rfl) (by kernel_rfl)
  · exact (spoilt10 w).mono fun _ _ h => h.bad (by kernel_rfl) (by omega) (by kernel_rfl) (by kernel_rfl)
  · exact (spoilt11 w).mono fun _ _ h => h.bad (by kernel_rfl) (by omega) (by kernel_rfl) (by kernel_rfl)
  · exact (spoilt12 w).mono fun _ _ h => h.bad (by kernel_rfl) (by omega) (by kernel_rfl) (by kernel_rfl)
  · exact (spoilt13 w).mono fun _ _ h => h.bad (by kernel_rfl) (by omega) (by kernel_rfl) (by kernel_rfl)
  · exact (spoilt14 w).mono fun _ _ h => h.bad (by kernel_rfl) (by omega) (by kernel_rfl) (by kernel_rfl)
  · exact (spoilt15 w).mono fun _ _ h => h.bad (by kernel_rfl) (by omega) (by kernel_rfl) (by kernel_rfl)
  · exact (spoilt16 w).mono fun _ _ h => h.bad (by kernel_rfl) (by omega) (by kernel_rfl) (by kernel_rfl)
  · exact (spoilt17 w).mono fun _ _ h => h.bad (by kernel_rfl) (by omega) (by kernel_rfl) (by kernel_rfl)

theorem own_cut {w : World} {base size n m g cap : Nat} {e : TypeId} {xs : List Value} (h : w.ownsRow base e size (.slice (some ⟨g, 0, none⟩) n cap) n xs) (hm : m ≤ n) : w.ownsRow base e size (.slice (some ⟨g, 0, none⟩) m cap) m (xs.take (m * size)) := by
  have hmul : m * size ≤ n * size := Nat.mul_le_mul_right _ hm
  refine ⟨by rw [List.length_take, h.1]; omega, .inr ?_⟩
  rcases h.2 with ⟨h1, _⟩ | ⟨g', cap', cur, hv, h1, h2, h3, h4, h5, h6⟩
  · cases h1
  · injection hv with e1 _ e3
    injection e1 with e1
    injection e1 with e1
    subst e1 e3
    refine ⟨g, cap, cur, rfl, h1, h2, by omega, h4, h5, ?_⟩
    rw [← h6, List.take_take]
    congr 1
    omega
/-- The attributes that fit: 16 of them, one with a value of 400 bytes. -/
def fitL : List (ByteArray × ByteArray) := (bs [97, 97], longS 400) :: ((at17 17).take 16).tail
theorem cut17 : (atts (at17 17)).take (16 * 2) = atts ((at17 17).take 16) := by kernel_rfl
theorem fit_set : (atts ((at17 17).take 16)).set 1 (.string (longS 400)) = atts fitL := by kernel_rfl
theorem fit_step {W : World} {base g c ga ac : Nat} (ho : OwnTree W base (.slice (some ⟨g, 0, none⟩) 5 c) 5 (setA exT 1 ((at17 17).take 16))) (hk : W.cell? ⟨g, 5, none⟩ = some (.slice (some ⟨ga, 0, none⟩) 16 ac)) :
    (∃ u, W.cell? ⟨ga, 1, none⟩ = some u) ∧ W.frozen? ⟨ga, 1, none⟩ = false ∧ OwnTree (W.setCell ⟨ga, 1, none⟩ (.string (longS 400))) base (.slice (some ⟨g, 0, none⟩) 5 c) 5 (setA exT 1 fitL) := by
  obtain ⟨Ar, ar, Cr, cr, hN⟩ := ho.at (i := 1) (by omega) (setA_len _ _ _)
  have hnd : nd (setA exT 1 ((at17 17).take 16)) 1 = { nd exT 1 with attrs := (at17 17).take 16 } := by rw [setA, nd_set (by decide)]; rfl
  have hr := hN.rowA
  have c1 := hN.c1
  rw [hnd] at hr c1
  have e := c1.symm.trans hk
  injection e with e
  injection e with e5 _ e6
  subst e5 e6
  rw [show ((at17 17).take 16).length = 16 from rfl] at hr
  obtain ⟨ga', cap, cs2, hv, h1, h2, h3, h4⟩ := own_block hr (by omega)
  injection hv with e1 e2 e3
  injection e1 with e1
  injection e1 with e1
  subst e1
  have hrow' := own_setCell hr (o := 1) (by omega) (.string (longS 400))
  rw [fit_set] at hrow'
  refine ⟨?_, blk_frozen h4 _, ?_⟩
  · rw [hr.cellAt 1 (by omega)]
    exact ⟨_, List.getElem?_eq_getElem (by rw [atts_len]; decide)⟩
  · have hz := hN.inA (W.setCell ⟨ga, 1, none⟩ (.string (longS 400))) fitL (by rw [hnd]; rfl) (fun q hq hne => Below.heap_setCell _ _ _ _ (fun e => hne (congrArg some e.symm))) hrow'
    rw [setA_setA _ _ (by decide)] at hz
    exact hz
theorem fit_good : goodB (setA exT 1 fitL) = true := by kernel_rfl
theorem fit_fits : Fits (setA exT 1 fitL) := of_decide_eq_true (by kernel_rfl)
def badN : List ByteArray := [bs [], bs [65], bs [97, 66], bs [45, 97], bs [95, 97], bs [49], bs [128], bs [97, 32, 98], bs [97, 46, 98], longS 65]
def goodN : List ByteArray := [bs [97], bs [104, 49], bs [120, 45, 121, 95, 122], bs [97, 255, 128], longS 64]
def nn (l : List ByteArray) (j : Nat) : ByteArray := l.getD j default
theorem badN_no : ∀ j, j < 10 → namedB (nn badN j) = false ∧ (nn badN j).size ≤ 1000 := by decide +kernel
theorem goodN_yes : ∀ j, j < 5 → namedB (nn goodN j) = true ∧ (nn goodN j).size ≤ 1000 := by decide +kernel
set_option maxRecDepth 100000 in
set_option maxHeartbeats 10000000 in
theorem walk (w : World) :
    Calls Try.prog 8 #[] w fun e w' => e = .returned (.bool true) ∧ Below w.heap.size w w' := by
  go_enter Try.func8, Try.ntmps8
  go_wp2_with fail
  go_loopw [1] (fun i wr => ∃ k : Nat, k ≤ 18 ∧ i = .int .i64 k ∧ Below w.heap.size w wr) (fun i _ => 18 - (intOf i).toNat)
  case atStart => exact ⟨0, Nat.zero_le _, rfl, Below.refl _ _⟩
  case round =>
    obtain ⟨k, hk, rfl, hb⟩ := hrel
    by_cases hlt : k < 18
    · go_wp2_with fail
      refine (spoilt_bad k hlt wr).mono ?_
      rintro e w1 ⟨A, n, c, T, rfl, hT0, hn, hf0, hg, hb1⟩
      have hl := hT0.1
      have hf := hide hf0
      have a1 : askI T [-1] = 8 := askI_bad (by simp [hg])
      have a2 : askI T [-1, -1] = 8 := askI_bad (by simp [hg])
      have a3 : addE T (bs []) = 8 := by simp [addE, hg]
      have a4 : chk T = 8 := chk_bad (by simp [hg])
      have hT := hide (hT0.below (below_alloc (Below.refl _ _) (.cells #[.slice A n c] 24)))
      have hB1 := Below.refl (w1.alloc (.cells #[.slice A n c] 24)).heap.size (w1.alloc (.cells #[.slice A n c] 24))
      have hbox1 : (w1.alloc (.cells #[.slice A n c] 24)).cell? ⟨w1.heap.size, 0, none⟩ = some (.slice A n c) := by go_simp
      have hw1 := hide (Below.on hb (below_alloc hb1 (.cells #[.slice A n c] 24)))
      clear hT0 hf0 hb1
      go_wp2_with fail
      refine (add_ok _ _ _ T (bs []) _ hT.out hn hf.out (by decide)).mono ?_
      rintro e w2 ⟨A2, c2, rfl, hO2, hT2, hb2⟩
      clear hO2 hT2
      rw [a3]
      have hB2 := below_alloc hb2 (.cells #[.slice A2 (addT T (bs [])).length c2] 24)
      have hbox2 := cell_later hB2 hbox1
      clear hb2 hbox1 hB1
      go_wp2_with fail
      refine (top_ok _ _ _ T (-1) _ (hT.out.below hB2)).mono ?_
      rintro e w3 ⟨rfl, hb3⟩
      have hbox3 := cell_later hb3 hbox2
      have hB3 := Below.on hB2 hb3
      have hbox3 := cell_later hb3 hbox2
      clear hbox2 hB2 hb3
      rw [a1]
      go_wp2_with fail
      refine (below_ok _ _ _ T (-1) (-1) _ (hT.out.below hB3)).mono ?_
      rintro e w4 ⟨rfl, hb4⟩
      have hbox4 := cell_later hb4 hbox3
      have hB4 := Below.on hB3 hb4
      have hbox4 := cell_later hb4 hbox3
      clear hbox3 hB3 hb4
      rw [a2]
      go_wp2_with fail
      refine (depth_ok _ _ _ T (-1) _ (hT.out.below hB4)).mono ?_
      rintro e w5 ⟨rfl, hb5⟩
      have hbox5 := cell_later hb5 hbox4
      have hB5 := Below.on hB4 hb5
      have hbox5 := cell_later hb5 hbox4
      clear hbox4 hB4 hb5
      rw [a1]
      go_wp2_with fail
      refine (check_ok _ _ _ T _ (hT.out.below hB5)).mono ?_
      rintro e w6 ⟨rfl, hb6⟩
      have hbox6 := cell_later hb6 hbox5
      have hB6 := Below.on hB5 hb6
      rw [a4]
      clear hbox5 hB5
      go_wp2
      go_roundw
      case rel => exact ⟨k + 1, by omega, by go_num, Below.on hw1.out hB6⟩
      case measure => simp [intOf]; omega
    · obtain rfl : k = 18 := by omega
      clear hlt hk
      generalize wr = W0 at *
      go_wp2_with fail
      refine (long_ok 65 (by decide) _).mono ?_
      rintro e w1 ⟨rfl, hb1⟩
      have hN : (w1.alloc (.cells ((badN.map Value.string).toArray) 9)).heap[w1.heap.size]? = some (.cells ((badN.map Value.string).toArray) 9 (0, 0)) := blk_new _ _ _
      have hB := below_alloc (Below.on hb hb1) (.cells ((badN.map Value.string).toArray) 9)
      have hN' := hide hN
      have hB' := hide hB
      clear hN hB hb hb1
      go_wp2_with fail
      go_loopw [13] (fun i wr => ∃ k : Nat, k ≤ 10 ∧ i = .int .i64 k ∧ Below w.heap.size w wr ∧ wr.heap[w1.heap.size]? = some (.cells ((badN.map Value.string).toArray) 9 (0, 0))) (fun i _ => 10 - (intOf i).toNat)
      case atStart => exact ⟨0, Nat.zero_le _, rfl, hB'.out, hN'.out⟩
      case round =>
        obtain ⟨k, hk, rfl, hb, hN⟩ := hrel
        clear hN' hB'
        by_cases hlt : k < 10
        · obtain ⟨hnm, hsz⟩ := badN_no k hlt
          have hld : wr.cell? ⟨w1.heap.size, k, none⟩ = some (.string (nn badN k)) := by
            rw [blk_cell hN, nn, List.getD_eq_getElem?_getD, List.getElem?_toArray, List.getElem?_map, List.getElem?_eq_getElem (by exact hlt)]
            rfl
          have a1 : newE (nn badN k) = 2 := by simp [newE, hnm]
          have a2 : addE exT (nn badN k) = 2 := by simp [addE, goodB_ex, hnm]
          have a3 : addN exT (nn badN k) = 0 := by simp [addN, a2]
          have a4 : addT exT (nn badN k) = [] := by simp [addT, a2]
          have hi1 : (0 : Int) ≤ (k : Int) := by omega
          have hi2 : (k : Int) < 10 := by omega
          generalize nn badN k = s at *
          go_wp2_with fail
          refine (new_ok s _ (by omega)).mono ?_
          rintro e w2 ⟨A2, c2, rfl, hO2, hT2, hb2⟩
          rw [a1]
          clear hO2 hT2
          have hz2 := below_alloc hb2 (.cells #[.slice A2 (newT s).length c2] 24)
          have hld2 := cell_later hz2 hld
          have hN2 := hide ((hz2.block _ (blk_lt hN)).trans hN)
          have hB2 := hide (Below.on hb hz2)
          clear hz2 hb2 hld hN hb
          obtain ⟨W2, hW2⟩ : ∃ W2, W2 = w2.alloc (.cells #[.slice A2 (newT s).length c2] 24) := ⟨_, rfl⟩
          rw [← hW2] at hld2 hN2 hB2
          have hXl : ([] : List ANode).length = 0 := rfl
          have hXf : Fits [] := of_decide_eq_true (by kernel_rfl)
          go_upto_region 16 with fail
          rw [← hW2]
          clear hW2
          go_cut [16, 17, 18] from 105 to 114 (fun p nn v wx => nn = .int .i64 0 ∧ v = .int .i64 2 ∧ ∃ (g : Nat) (A : Option Addr) (c : Nat), p = .pointer (some ⟨g, 0, none⟩) ∧ wx.cell? ⟨g, 0, none⟩ = some (.slice A 0 c) ∧ IsTree wx A 0 [] ∧ Below W2.heap.size W2 wx)
          case first =>
            have hdr := (Below.refl W2.heap.size W2).drew
            have hin := cell_in' hld2
            go_region_held3 (fun X => X.cell? ⟨w1.heap.size, k, none⟩ = some (.string s)) (first | exact hld2 | exact far_al hld2 _ | exact r0 | exact far_al r0 _ | exact r1 | exact far_al r1 _ | exact far_st r1 _ (by have h2 := cell_in' r0; simp at *; omega) | exact far_al (far_st r1 _ (by have h2 := cell_in' r0; simp at *; omega)) _) (first | (go_at_call 29; refine (example_ok _).mono ?_; rintro e w5 ⟨A5, c5, rfl, hT5, hb5⟩; first | (have r0 := cell_later hb5 hld2; have hup := Below.on hdr hb5) | (have r0 := cell_later hb5 (far_al hld2 _); have hbx := (hb5.block W2.heap.size (by simp)).trans (blk_new W2.drew _ _); have hup := Below.on (below_alloc hdr _) hb5)) | (go_at_call 13; refine (add_ok _ _ _ exT s _ ?_ (by decide) (of_decide_eq_true (by kernel_rfl)) (by omega)).mono ?_; (first | exact hT5 | exact hT5.below (below_alloc (Below.refl _ _) _)); rintro e w6 ⟨A6, c6, rfl, hO6, hT6, hb6⟩; clear hT6; (rw [a2, a3, a4] at *); first | (have hbx6 := (hb6.block W2.heap.size (blk_lt hbx)).trans hbx; have r1 := cell_later hb6 r0; have rb : w6.cell? ⟨W2.heap.size, 0, none⟩ = some (.slice none 0 0) := (blk_cell hbx6 0).trans rfl; have rf : w6.frozen? ⟨W2.heap.size, 0, none⟩ = false := blk_frozen hbx6 0) | have r1 := cell_later hb6 r0 | (have r1 := cell_later hb6 (far_al r0 _); have hbx6 := (hb6.block w5.heap.size (by simp)).trans (blk_new _ _ _); have rb : w6.cell? ⟨w5.heap.size, 0, none⟩ = some (.slice none 0 0) := (blk_cell hbx6 0).trans rfl; have rf : w6.frozen? ⟨w5.heap.size, 0, none⟩ = false := blk_frozen hbx6 0)))
            all_goals
              go_wp2_with fail
              go_meet
              have hW : ∀ {W : World} {base c : Nat} {A : Option Addr}, OwnTree W base (.slice A 0 c) 0 [] → IsTree W A 0 [] := fun hO => by
                obtain ⟨A', c', hv, _, _, h⟩ := isTree_of_own hO hXl (by omega) hXf
                injection hv with e1 _ _
                rw [e1]; exact h
              refine ⟨rfl, rfl, _, A6, c6, rfl, ?_, ?_, ?_⟩
              · first | exact bx_cell (blk_set hbx6 0 _) | exact bx_cell (blk_new _ _ _)
              · first | exact hW (hO6.set (p := ⟨w5.heap.size, 0, none⟩) (by simp) _) | exact hW (hO6.set (p := ⟨W2.heap.size, 0, none⟩) (blk_lt hbx) _) | exact hW (hO6.below (below_alloc (Below.refl _ _) _))
              · first
                | exact below_alloc (Below.on hup hb6) _
                | exact (Below.on (below_alloc hup _) hb6).setCell (p := ⟨w5.heap.size, 0, none⟩) (by have := hup.size; simpa using this) _
                | exact (Below.on hup hb6).setCell (p := ⟨W2.heap.size, 0, none⟩) (Nat.le_refl _) _
          case rest =>
          obtain ⟨rfl, rfl, gx, Ax, cx, rfl, hbx, hTx, hbc⟩ := hcut
          have hBc := Below.on hB2.out hbc
          have hNc := (hbc.block _ (blk_lt hN2.out)).trans hN2.out
          go_wp2
          go_roundw
          case rel => exact ⟨k + 1, by omega, by go_num, hBc, hNc⟩
          case measure => simp [intOf]; omega
        · obtain rfl : k = 10 := by omega
          clear hlt hk
          have hb' := hb
          clear hb hN
          generalize wr = W1 at *
          generalize w1 = V1 at *
          go_wp2_with fail
          refine (long_ok 64 (by decide) _).mono ?_
          rintro e w1 ⟨rfl, hb1⟩
          have hN : (w1.alloc (.cells ((goodN.map Value.string).toArray) 9)).heap[w1.heap.size]? = some (.cells ((goodN.map Value.string).toArray) 9 (0, 0)) := blk_new _ _ _
          have hB := below_alloc (Below.on hb' hb1) (.cells ((goodN.map Value.string).toArray) 9)
          have hN' := hide hN
          have hB' := hide hB
          clear hN hB hb1 hb'
          go_wp2_with fail
          go_loopw [20] (fun i wr => ∃ k : Nat, k ≤ 5 ∧ i = .int .i64 k ∧ Below w.heap.size w wr ∧ wr.heap[w1.heap.size]? = some (.cells ((goodN.map Value.string).toArray) 9 (0, 0))) (fun i _ => 5 - (intOf i).toNat)
          case atStart => exact ⟨0, Nat.zero_le _, rfl, hB'.out, hN'.out⟩
          case round =>
            obtain ⟨k, hk, rfl, hb, hN⟩ := hrel
            clear hN' hB'
            by_cases hlt : k < 5
            · obtain ⟨hnm, hsz⟩ := goodN_yes k hlt
              have hld : wr.cell? ⟨w1.heap.size, k, none⟩ = some (.string (nn goodN k)) := by
                rw [blk_cell hN, nn, List.getD_eq_getElem?_getD, List.getElem?_toArray, List.getElem?_map, List.getElem?_eq_getElem (by exact hlt)]
                rfl
              have a1 : newE (nn goodN k) = 0 := by simp [newE, hnm]
              have a0 : newT (nn goodN k) = [rootT (nn goodN k)] := by simp [newT, hnm]
              have a2 : addE exT (nn goodN k) = 0 := by simp [addE, goodB_ex, hnm]; decide
              have a3 : addN exT (nn goodN k) = 5 := by simp [addN, a2]; rfl
              have a4 : addT exT (nn goodN k) = exT ++ [rootT (nn goodN k)] := by simp [addT, a2]
              have hi1 : (0 : Int) ≤ (k : Int) := by omega
              have hi2 : (k : Int) < 5 := by omega
              generalize nn goodN k = s at *
              go_wp2_with fail
              refine (new_ok s _ (by omega)).mono ?_
              rintro e w2 ⟨A2, c2, rfl, hO2, hT2, hb2⟩
              rw [a1, a0]
              clear hO2 hT2
              have hz2 := below_alloc hb2 (.cells #[.slice A2 1 c2] 24)
              have hld2 := cell_later hz2 hld
              have ht2 : (w2.alloc (.cells #[.slice A2 1 c2] 24)).cell? ⟨w2.heap.size, 0, none⟩ = some (.slice A2 1 c2) := bx_cell (blk_new _ _ _)
              have hN2 := hide ((hz2.block _ (blk_lt hN)).trans hN)
              have hB2 := hide (Below.on hb hz2)
              clear hz2 hb2 hld hN hb
              obtain ⟨W2, hW2⟩ : ∃ W2, W2 = w2.alloc (.cells #[.slice A2 1 c2] 24) := ⟨_, rfl⟩
              rw [← hW2] at hld2 hN2 hB2 ht2
              have hXl : (exT ++ [rootT s]).length = 6 := rfl
              have hXf : Fits (exT ++ [rootT s]) := fits_app (of_decide_eq_true (by kernel_rfl)) (fits_root (by omega))
              go_upto_region 24 with fail
              rw [← hW2]
              clear hW2
              go_cut [23, 24, 25] from 137 to 146 (fun p nn v wx => nn = .int .i64 5 ∧ v = .int .i64 0 ∧ ∃ (g : Nat) (A : Option Addr) (c : Nat), p = .pointer (some ⟨g, 0, none⟩) ∧ wx.cell? ⟨g, 0, none⟩ = some (.slice A 6 c) ∧ IsTree wx A 6 (exT ++ [rootT s]) ∧ Below W2.heap.size W2 wx)
              case first =>
                have hdr := (Below.refl W2.heap.size W2).drew
                have hin := cell_in' hld2
                go_region_held3 (fun X => X.cell? ⟨w1.heap.size, k, none⟩ = some (.string s)) (first | exact hld2 | exact far_al hld2 _ | exact r0 | exact far_al r0 _ | exact r1 | exact far_al r1 _ | exact far_st r1 _ (by have h2 := cell_in' r0; simp at *; omega) | exact far_al (far_st r1 _ (by have h2 := cell_in' r0; simp at *; omega)) _) (first | (go_at_call 29; refine (example_ok _).mono ?_; rintro e w5 ⟨A5, c5, rfl, hT5, hb5⟩; first | (have r0 := cell_later hb5 hld2; have hup := Below.on hdr hb5) | (have r0 := cell_later hb5 (far_al hld2 _); have hbx := (hb5.block W2.heap.size (by simp)).trans (blk_new W2.drew _ _); have hup := Below.on (below_alloc hdr _) hb5)) | (go_at_call 13; refine (add_ok _ _ _ exT s _ ?_ (by decide) (of_decide_eq_true (by kernel_rfl)) (by omega)).mono ?_; (first | exact hT5 | exact hT5.below (below_alloc (Below.refl _ _) _)); rintro e w6 ⟨A6, c6, rfl, hO6, hT6, hb6⟩; clear hT6; (rw [a2, a3, a4] at *); first | (have hbx6 := (hb6.block W2.heap.size (blk_lt hbx)).trans hbx; have r1 := cell_later hb6 r0; have rb : w6.cell? ⟨W2.heap.size, 0, none⟩ = some (.slice none 0 0) := (blk_cell hbx6 0).trans rfl; have rf : w6.frozen? ⟨W2.heap.size, 0, none⟩ = false := blk_frozen hbx6 0) | have r1 := cell_later hb6 r0 | (have r1 := cell_later hb6 (far_al r0 _); have hbx6 := (hb6.block w5.heap.size (by simp)).trans (blk_new _ _ _); have rb : w6.cell? ⟨w5.heap.size, 0, none⟩ = some (.slice none 0 0) := (blk_cell hbx6 0).trans rfl; have rf : w6.frozen? ⟨w5.heap.size, 0, none⟩ = false := blk_frozen hbx6 0)))
                all_goals
                  go_wp2_with fail
                  go_meet
                  have hW : ∀ {W : World} {base c : Nat} {A : Option Addr}, OwnTree W base (.slice A 6 c) 6 (exT ++ [rootT s]) → IsTree W A 6 (exT ++ [rootT s]) := fun hO => by
                    obtain ⟨A', c', hv, _, _, h⟩ := isTree_of_own hO hXl (by omega) hXf
                    injection hv with e1 _ _
                    rw [e1]; exact h
                  refine ⟨rfl, rfl, _, A6, c6, rfl, ?_, ?_, ?_⟩
                  · first | exact bx_cell (blk_set hbx6 0 _) | exact bx_cell (blk_new _ _ _)
                  · first | exact hW (hO6.set (p := ⟨w5.heap.size, 0, none⟩) (by simp) _) | exact hW (hO6.set (p := ⟨W2.heap.size, 0, none⟩) (blk_lt hbx) _) | exact hW (hO6.below (below_alloc (Below.refl _ _) _))
                  · first
                    | exact below_alloc (Below.on hup hb6) _
                    | exact (Below.on (below_alloc hup _) hb6).setCell (p := ⟨w5.heap.size, 0, none⟩) (by have := hup.size; simpa using this) _
                    | exact (Below.on hup hb6).setCell (p := ⟨W2.heap.size, 0, none⟩) (Nat.le_refl _) _
              case rest =>
              obtain ⟨rfl, rfl, gx, Ax, cx, rfl, hbx, hTx, hbc⟩ := hcut
              have hBc := Below.on hB2.out hbc
              have hNc := hide ((hbc.block _ (blk_lt hN2.out)).trans hN2.out)
              have htc := cell_later hbc ht2
              have hlc := cell_later hbc hld2
              obtain ⟨-, -, -, q4⟩ := hTx
              obtain ⟨b, off, aA, cA, aC, cC, rfl, hbl, f0, f1, f2, f3, -, -⟩ := q4 (by omega)
              have hn5 : nd (exT ++ [rootT s]) 5 = rootT s := nd_app_at exT (rootT s)
              have g0 := f0 5 (by omega)
              have g2 := f2 5 (by omega)
              rw [hn5] at g0
              rw [par, hn5] at g2
              have g0' : wc.cell? ⟨b, off + 20, none⟩ = some (.string s) := g0
              have g2' : wc.cell? ⟨b, off + 22, none⟩ = some (.int .i64 (-1)) := g2
              clear q4 f0 f1 f2 f3 hn5 g0 g2 hXl hXf a1 a0 a2 a3 a4 hB2 hN2 hld2 ht2 hnm hsz
              go_wp2_with fail
              go_region
              go_wp2
              go_roundw
              case rel => exact ⟨k + 1, by omega, by go_num, hBc.drew, hNc.out⟩
              case measure => simp [intOf]; omega
            · obtain rfl : k = 5 := by omega
              clear hlt hk hN
              have hb' := hb
              clear hb
              generalize wr = W3 at *
              go_wp2_with fail
              refine (example_own _).mono ?_
              rintro e w1 ⟨g, rfl, hbg, hgl, hO1, hb1⟩
              have hO2 := hide (hO1.below (below_alloc (Below.refl _ _) (.cells #[.slice (some ⟨g, 0, none⟩) 5 5] 24)))
              have hB2 := hide (below_alloc (Below.on hb' hb1) (.cells #[.slice (some ⟨g, 0, none⟩) 5 5] 24))
              have hsz := hide (show w.heap.size ≤ W3.heap.size ∧ W3.heap.size ≤ w1.heap.size from ⟨hb'.size, hb1.size⟩)
              clear hO1 hb1 hb' hbg hgl
              go_wp2_with fail
              obtain ⟨ix, hIx, hzx0, hzx1, hzx2⟩ := info_parts info_node
              go_loopw [] (fun wr => ∃ (k : Nat) (A : Option Addr) (c : Nat), 5 ≤ k ∧ k ≤ 64 ∧ Below w.heap.size w wr ∧ wr.heap[w1.heap.size]? = some (.cells #[.slice A k c] 24 (0, 0)) ∧ OwnTree wr W3.heap.size (.slice A k c) k (exP k)) (fun wr => 64 - boxLen wr w1.heap.size)
              case atStart => exact ⟨5, _, _, by omega, by omega, hB2.out, blk_new _ _ _, hO2.out⟩
              case round =>
                obtain ⟨k, A, c, hk5, hk, hb, hx1, hO⟩ := hrel
                have hxb := bx_cell hx1
                have hxf : wr.frozen? ⟨w1.heap.size, 0, none⟩ = false := blk_frozen hx1 0
                clear hO2 hB2
                by_cases hlt : k < 64
                · have h5b : W3.heap.size ≤ wr.heap.size := by have := blk_lt hx1; have := hsz.out; omega
                  have hw : Below wr.heap.size wr (wr.alloc (.cells #[.string (bs [112]), .slice none 0 0, .int .i64 (-1), .slice none 0 0] 53)) := below_alloc (Below.refl _ _) _
                  obtain ⟨aA, cA, aC, cC, hrow, hra, hrk, hr4, hr5⟩ := id hO
                  have hrow2 := own_below hrow hw
                  have hO' := hide hO
                  have hrow' := hide hrow
                  clear hra hrk hr4 hr5 hO hrow
                  go_wp2_with (at_builtin; refine wpList_append_own _ rfl _ _ 22 rfl _ 53 ix _ 4 72 Try.underlying22 hIx hzx0 hzx1 hzx2 rfl (by decide) _ _ _ rfl hrow2 ⟨wr.heap.size, 0, none⟩ 1 1 [.string (bs [112]), .slice none 0 0, .int .i64 (-1), .slice none 0 0] rfl rfl ?e1 ?e2 ?e3 ?e4 ?e5 ?_)
                  case e1 =>
                    intro j u hj
                    have hj4 : j < 4 := by
                      rcases Nat.lt_or_ge j 4 with h | h
                      · exact h
                      · rw [List.getElem?_eq_none (by simpa using h)] at hj; cases hj
                    rw [show (⟨wr.heap.size, 0, none⟩ : Addr).add j = ⟨wr.heap.size, j, none⟩ by unfold Addr.add; split <;> simp_all]
                    rw [blk_cell (blk_at _ _ _ _ (by simp)) j, ← hj]
                    obtain rfl | rfl | rfl | rfl : j = 0 ∨ j = 1 ∨ j = 2 ∨ j = 3 := by omega
                    all_goals rfl
                  case e2 => intro u hu; simp at hu; rcases hu with rfl | rfl | rfl | rfl <;> rfl
                  case e3 => unfold maxLen; omega
                  case e4 => omega
                  case e5 => simp; omega
                  intro v6 w6 hown6 hgr6 _
                  obtain ⟨A6, c6, rfl⟩ := own_slice hown6
                  have hT6 := hide (OwnTree.push (T' := exP (k + 1)) (A1 := none) (A3 := none) (c1 := 0) (c3 := 0) hO'.out (by omega) hw (fun j hj => by rw [exP_succ hk5]; exact (nd_app_lt (by rw [exP_len hk5]; omega)).symm)
                    (by rw [nd_exP_at hk5]; exact World.ownsRow_nil _ _ _ _)
                    (by rw [kids, nd_exP_at hk5]; exact World.ownsRow_nil _ _ _ _)
                    (fun xs hx => by rw [kids, par, nd_exP_at hk5, own_unique hx hrow'.out]; exact hown6) hgr6)
                  have hne6 : (Value.slice A k c).ownBlock ≠ some w1.heap.size := fun e => by
                    obtain ⟨g', cap', cs', hv, _, _, _, hg'⟩ := own_block hrow'.out (by omega)
                    rw [hv] at e
                    have e2 : g' = w1.heap.size := by injection e
                    subst e2
                    rw [hx1] at hg'; injection hg' with hg'; injection hg' with _ e4; exact absurd e4 (by decide)
                  have ho6 : w6.heap[w1.heap.size]? = some (.cells #[.slice A k c] 24 (0, 0)) := by
                    rw [hgr6.block w1.heap.size (by have := blk_lt hx1; simp; omega) (fun e => hne6 e.symm)]
                    exact blk_alloc hx1 _
                  have hb6 : Below w.heap.size w w6 := (hb.trans (hw.mono (by have := hb.size; omega))).grown hgr6 (by have := hb.size; simp; omega) (fun q hq => by have := (hrow2.lt q hq).1; have := hsz.out; omega)
                  have p1 := bx_cell ho6
                  have p2 : w6.frozen? ⟨w1.heap.size, 0, none⟩ = false := blk_frozen ho6 0
                  have hz := hide (hT6.out.set_typed (i := 0) ho6 (.slice A6 (k + 1) c6))
                  have hx7 := blk_set ho6 0 (.slice A6 (k + 1) c6)
                  have hx7' := hide hx7
                  have e0 := boxLen_at hxb
                  clear hx7 hT6 hown6 hgr6 hrow2 hx1 hxb hxf hO' hrow' hw
                  go_wp2
                  go_roundw
                  case rel => exact ⟨k + 1, A6, c6, by omega, by omega, hb6.setCell (by have := hsz.out; show w.heap.size ≤ w1.heap.size; omega) _, hx7'.out, hz.out⟩
                  case measure =>
                    have e1 := boxLen_at (bx_cell hx7'.out)
                    rw [e1, e0]
                    omega
                · obtain rfl : k = 64 := by omega
                  have gF : goodB (exP 64) = true := by kernel_rfl
                  have fF : Fits (exP 64) := of_decide_eq_true (by kernel_rfl)
                  obtain ⟨A', c', hv, -, -, hTF⟩ := isTree_of_own hO (by kernel_rfl) (by omega) fF
                  injection hv with e1 _ _
                  subst e1
                  have hTF' := hide hTF
                  have fF' := hide fF
                  have aF : addE (exP 64) (bs [112]) = 18 := by kernel_rfl
                  have cF : chk (exP 64) = 0 := by kernel_rfl
                  clear hO hTF fF gF hx1 hxf hk hk5 hlt
                  generalize wr = W4 at *
                  generalize w1.heap.size = gF at *
                  have hgF : gF < W4.heap.size := cell_in hxb
                  go_wp2_with fail
                  refine (add_ok _ _ _ (exP 64) (bs [112]) _ hTF'.out (by omega) fF'.out (by decide)).mono ?_
                  rintro e w2 ⟨A2, c2, rfl, hO2, hT2, hb2⟩
                  clear hO2 hT2
                  rw [aF]
                  have hF2 := cell_later (below_alloc hb2 (.cells #[.slice A2 (addT (exP 64) (bs [112])).length c2] 24)) hxb
                  have hB2 := below_alloc hb2 (.cells #[.slice A2 (addT (exP 64) (bs [112])).length c2] 24)
                  clear hb2 hxb aF ix hIx hzx0 hzx1 hzx2
                  have x1 : askI exT [5] = 2 := by kernel_rfl
                  have x2 : askI exT [-1] = 2 := by kernel_rfl
                  have x3 : askI exT [0, 5] = 2 := by kernel_rfl
                  have x4 : askI exT [5, 0] = 2 := by kernel_rfl
                  have x5 : askI exT [0, 0] = 0 := by kernel_rfl
                  have x6 : belE exT 0 0 = false := by kernel_rfl
                  have y1 := hide x1
                  have y2 := hide x2
                  have y3 := hide x3
                  have y4 := hide x4
                  have y5 := hide x5
                  have y6 := hide x6
                  clear x1 x2 x3 x4 x5 x6
                  go_wp2_with fail
                  refine (example_ok _).mono ?_
                  rintro e w3 ⟨A3, c3, rfl, hT3, hb3⟩
                  go_wp2_with fail
                  refine (top_ok _ _ _ exT 5 _ hT3).mono ?_
                  rintro e w4 ⟨rfl, hb4⟩
                  rw [y1.out]
                  have hB4 := Below.on hB2 (Below.on hb3 hb4)
                  have hF4 := cell_later (Below.on hb3 hb4) hF2
                  clear hT3 hb3 hb4 hB2 hF2
                  go_wp2_with fail
                  refine (example_ok _).mono ?_
                  rintro e w5 ⟨A5, c5, rfl, hT5, hb5⟩
                  go_wp2_with fail
                  refine (top_ok _ _ _ exT (-1) _ hT5).mono ?_
                  rintro e w6 ⟨rfl, hb6⟩
                  rw [y2.out]
                  have hB6 := Below.on hB4 (Below.on hb5 hb6)
                  have hF6 := cell_later (Below.on hb5 hb6) hF4
                  clear hT5 hb5 hb6 hB4 hF4
                  go_wp2_with fail
                  refine (example_ok _).mono ?_
                  rintro e w7 ⟨A7, c7, rfl, hT7, hb7⟩
                  go_wp2_with fail
                  refine (below_ok _ _ _ exT 0 5 _ hT7).mono ?_
                  rintro e w8 ⟨rfl, hb8⟩
                  rw [y3.out]
                  have hB8 := Below.on hB6 (Below.on hb7 hb8)
                  have hF8 := cell_later (Below.on hb7 hb8) hF6
                  clear hT7 hb7 hb8 hB6 hF6
                  go_wp2_with fail
                  refine (example_ok _).mono ?_
                  rintro e w9 ⟨A9, c9, rfl, hT9, hb9⟩
                  go_wp2_with fail
                  refine (below_ok _ _ _ exT 5 0 _ hT9).mono ?_
                  rintro e w10 ⟨rfl, hb10⟩
                  rw [y4.out]
                  have hB10 := Below.on hB8 (Below.on hb9 hb10)
                  have hF10 := cell_later (Below.on hb9 hb10) hF8
                  clear hT9 hb9 hb10 hB8 hF8
                  go_wp2_with fail
                  refine (example_ok _).mono ?_
                  rintro e w11 ⟨A11, c11, rfl, hT11, hb11⟩
                  go_wp2_with fail
                  refine (below_ok _ _ _ exT 0 0 _ hT11).mono ?_
                  rintro e w12 ⟨rfl, hb12⟩
                  rw [y5.out, y6.out]
                  have hB12 := Below.on hB10 (Below.on hb11 hb12)
                  have hF12 := cell_later (Below.on hb11 hb12) hF10
                  clear hT11 hb11 hb12 hB10 hF10
                  go_wp2_with fail
                  refine (example_ok _).mono ?_
                  rintro e w13 ⟨A13, c13, rfl, hT13, hb13⟩
                  go_wp2_with fail
                  refine (depth_ok _ _ _ exT 5 _ hT13).mono ?_
                  rintro e w14 ⟨rfl, hb14⟩
                  rw [y1.out]
                  have hB14 := Below.on hB12 (Below.on hb13 hb14)
                  have hF14 := cell_later (Below.on hb13 hb14) hF12
                  clear hT13 hb13 hb14 hB12 hF12
                  clear y1 y2 y3 y4 y5 y6
                  go_wp2_with fail
                  refine (spoilt16 _).mono ?_
                  rintro e w15 ⟨A15, c15, rfl, hO, hb15⟩
                  have hB15 := Below.on hB14 hb15
                  have hF15 := cell_later hb15 hF14
                  obtain ⟨g, cap, cs, hv, -, -, hgb, hg4⟩ := own_block hO.choose_spec.choose_spec.choose_spec.choose_spec.1 (by omega)
                  injection hv with e1 _ e3
                  subst e1 e3
                  have hB16 := below_alloc hB15 (.cells #[.slice (some ⟨g, 0, none⟩) 5 c15] 24)
                  have hF16 := cell_later (below_alloc (Below.refl _ _) (.cells #[.slice (some ⟨g, 0, none⟩) 5 c15] 24)) hF15
                  have hx16 : (w15.alloc (.cells #[.slice (some ⟨g, 0, none⟩) 5 c15] 24)).heap[w15.heap.size]? = some (.cells #[.slice (some ⟨g, 0, none⟩) 5 c15] 24 (0, 0)) := blk_new _ _ _
                  have hO16 := hO.below (below_alloc (Below.refl _ _) (.cells #[.slice (some ⟨g, 0, none⟩) 5 c15] 24))
                  have hlow : W4.heap.size ≤ w14.heap.size := hB14.size
                  have hle : w14.heap.size ≤ w15.heap.size := hb15.size
                  obtain ⟨W16, hW16⟩ : ∃ W16, W16 = w15.alloc (.cells #[.slice (some ⟨g, 0, none⟩) 5 c15] 24) := ⟨_, rfl⟩
                  rw [← hW16] at hB16 hF16 hx16 hO16
                  clear hO hg4 hB15 hF15 hb15 hB14 hF14
                  go_upto_region 38 with fail
                  rw [← hW16]
                  clear hW16
                  obtain ⟨Aq, ac, C, cc, hN⟩ := hO16.at (i := 1) (by omega) (setA_len _ _ _)
                  have hnd : nd (setA exT 1 (at17 17)) 1 = { nd exT 1 with attrs := at17 17 } := by rw [setA, nd_set (by decide)]; rfl
                  have hr := hN.rowA
                  have c1 := hN.c1
                  rw [hnd] at hr c1
                  simp only [at17_len] at hr c1
                  obtain ⟨ga, cap, cs2, hv, h1, h2, h3, h4⟩ := own_block hr (by omega)
                  injection hv with e1 e2 e3
                  subst e1 e3
                  have c1' : W16.cell? ⟨g, 5, none⟩ = some (.slice (some ⟨ga, 0, none⟩) 17 ac) := c1
                  have f1 := hN.fz 5
                  have xb := bx_cell hx16
                  have hgg : ¬ ga = g := fun e => hN.isA (by rw [e]; rfl)
                  have hgx : ¬ g = w15.heap.size := fun e => by
                    obtain ⟨cs', hcs'⟩ := hN.typ
                    rw [e, hx16] at hcs'; injection hcs' with hcs'; injection hcs' with _ e4; exact absurd e4 (by decide)
                  have hax : ¬ ga = w15.heap.size := fun e => by
                    rw [e, hx16] at h4; injection h4 with h4; injection h4 with _ e4; exact absurd e4 (by decide)
                  have hcut := own_cut hr (show 16 ≤ 17 by omega)
                  rw [cut17] at hcut
                  have hO17 := hide (hN.onA W16 (some ⟨ga, 0, none⟩) ac ((at17 17).take 16) (fun _ _ _ => rfl) hcut (fun q hq => .inl hq))
                  have hB17 := hide (hB16.setCell (p := ⟨g, 5, none⟩) (by show W4.heap.size ≤ g; omega) (.slice (some ⟨ga, 0, none⟩) 16 ac))
                  have hx17 := blk_far hx16 (p := ⟨g, 5, none⟩) (fun e => hgx e.symm) (.slice (some ⟨ga, 0, none⟩) 16 ac)
                  have h417 := blk_far h4 (p := ⟨g, 5, none⟩) (fun e => hgg e) (.slice (some ⟨ga, 0, none⟩) 16 ac)
                  have hg17 : (W16.setCell ⟨g, 5, none⟩ (.slice (some ⟨ga, 0, none⟩) 16 ac)).cell? ⟨g, 5, none⟩ = some (.slice (some ⟨ga, 0, none⟩) 16 ac) := by
                    clear hF16 hO17 hB17 hx17 h417
                    go_simp
                  have hF17 := far_st hF16 (q := g) (i := 5) (.slice (some ⟨ga, 0, none⟩) 16 ac) (by show g ≠ gF; omega)
                  clear hN hnd hr c1 hO16 hB16 hcut
                  go_region
                  have hl17 : ga < (W16.setCell ⟨g, 5, none⟩ (.slice (some ⟨ga, 0, none⟩) 16 ac)).heap.size := blk_lt h417
                  have hg17' : g < (W16.setCell ⟨g, 5, none⟩ (.slice (some ⟨ga, 0, none⟩) 16 ac)).heap.size := cell_in hg17
                  have hO17' := hO17.out.drew'
                  have hB17' := hB17.out.drew
                  have hx17' := hide hx17
                  have h417' := hide h417
                  clear hO17 hB17 hx17 h417 hx16 hF16 h4 c1' f1 xb
                  obtain ⟨W17, hW17⟩ : ∃ W17, W17 = (W16.setCell ⟨g, 5, none⟩ (.slice (some ⟨ga, 0, none⟩) 16 ac)).drew := ⟨_, rfl⟩
                  have hb17 : Below W4.heap.size W4 W17 := by rw [hW17]; exact hB17'
                  have ho17 : OwnTree W17 (w14.heap.size + 1) (.slice (some ⟨g, 0, none⟩) 5 c15) 5 (setA (setA exT 1 (at17 17)) 1 ((at17 17).take 16)) := by rw [hW17]; exact hO17'
                  have hk1 : W17.cell? ⟨w15.heap.size, 0, none⟩ = some (.slice (some ⟨g, 0, none⟩) 5 c15) := by rw [hW17]; exact bx_cell hx17'.out
                  have hk2 : W17.cell? ⟨g, 5, none⟩ = some (.slice (some ⟨ga, 0, none⟩) 16 ac) := by rw [hW17]; exact hg17
                  have hk3 : W17.cell? ⟨gF, 0, none⟩ = some (.slice A 64 c) := by rw [hW17]; exact hF17
                  rw [← hW17]
                  clear hW17 hO17' hB17' hx17' h417' hg17 hF17 hl17 hg17'
                  rw [setA_setA _ _ (by decide)] at ho17
                  go_upto_region 39 with fail
                  obtain ⟨old, hold⟩ := (fit_step ho17 hk2).1
                  go_region_held3 (fun X => X.cell? ⟨w15.heap.size, 0, none⟩ = some (.slice (some ⟨g, 0, none⟩) 5 c15) ∧ X.cell? ⟨g, 5, none⟩ = some (.slice (some ⟨ga, 0, none⟩) 16 ac)) (first | exact ⟨hk1, hk2⟩ | exact ⟨r0, r1⟩ | exact ⟨far_st r0 _ (by show ga ≠ w15.heap.size; omega), far_st r1 _ (by show ga ≠ g; omega)⟩) (first | (go_at_call 28; refine (long_ok 400 (by decide) _).mono ?_; rintro e w18 ⟨rfl, hb18⟩; have r0 := cell_later hb18 hk1; have r1 := cell_later hb18 hk2; have r2 := cell_later hb18 hold; have r3 := cell_later hb18 hk3; have ho18 := ho17.below (Below.on (Below.refl W17.heap.size W17).drew hb18); have r4 := (fit_step ho18 r1).2.1; have r5 := hide (fit_step ho18 r1).2.2))
                  obtain ⟨A', c', hv, -, -, hTX⟩ := isTree_of_own r5.out rfl (by omega) fit_fits
                  injection hv with e1 _ _
                  subst e1
                  have hW18 := hide (((Below.on hb17 (Below.on (Below.refl W17.heap.size W17).drew hb18))).setCell (p := ⟨ga, 1, none⟩) (by show W4.heap.size ≤ ga; omega) (.string (longS 400)))
                  have hk4 : (w18.setCell ⟨ga, 1, none⟩ (.string (longS 400))).cell? ⟨w15.heap.size, 0, none⟩ = some (.slice (some ⟨g, 0, none⟩) 5 c15) := far_st r0 _ (by show ga ≠ w15.heap.size; omega)
                  have hk5 := far_st r3 (q := ga) (i := 1) (.string (longS 400)) (by show ga ≠ gF; omega)
                  clear r0 r1 r2 r3 r4 r5 ho18 hb18 ho17 hk1 hk2 hk3 hold hb17
                  generalize w18.setCell ⟨ga, 1, none⟩ (.string (longS 400)) = W18 at *
                  have hTX' := hide hTX
                  have gX : chk (setA exT 1 fitL) = 0 := chk_ok fit_good
                  clear hTX
                  go_wp2_with fail
                  refine (alive_ok _).mono ?_
                  rintro e w19 ⟨rfl, hb19⟩
                  have s1 := cell_later hb19 hk4
                  have s2 := cell_later hb19 hk5
                  have hW19 := Below.on hW18.out hb19
                  have hTX2 := hTX'.out.below hb19
                  clear hk4 hk5 hTX' hW18
                  go_wp2_with fail
                  refine (check_ok _ _ _ (exP 64) _ (hTF'.out.below hW19)).mono ?_
                  rintro e w20 ⟨rfl, hb20⟩
                  rw [cF]
                  have t1 := cell_later hb20 s1
                  have hTX3 := hTX2.below hb20
                  have hW20 := Below.on hW19 hb20
                  clear s1 s2 hTX2 hW19
                  go_wp2_with fail
                  refine (check_ok _ _ _ (setA exT 1 fitL) _ hTX3).mono ?_
                  rintro e w21 ⟨rfl, hb21⟩
                  rw [gX]
                  have hW21 := hide (Below.on hb (Below.on hW20 hb21))
                  clear t1 hTX3 hW20 hb20 hb21 hb19
                  go_wp2
                  go_ret
                  exact ⟨rfl, hW21.out⟩

set_option maxRecDepth 100000 in
theorem lifted (os : Os) (started : os.Started) (H : Type) (enc : TypeId × Value → H) :
    ReturnsInHanded {} Try.checked os 8 .any (Rows.treeNamesSpec.pre6 enc Try.prog Try.f8 Rows.treeNamesRow.domain false) (Rows.treeNamesSpec.post enc Try.prog Try.f8 false true false false) := by
  refine returnsInHanded_of_change (C := Try.checked) own started (by kernel_rfl) Try.func8
    (ChangeSpec.witness6 (enc := enc) (C := Try.checked) false ⟨#[], #[], []⟩ 8 (by kernel_rfl) (by kernel_rfl) (by kernel_rfl) (by kernel_rfl)) ?_
  intro W base args ds gs before hval0 hW hcnd _
  have hW' := hW
  obtain ⟨p, q, hA0, hV, rfl, hfz, hnd⟩ := hW
  have hA : DataW.TrodAll enc Try.prog W 0 (fun _ => true) true Try.f8.params.toList args.toList ds p := hA0
  rw [Try.params8] at hA
  obtain ⟨h1, rfl, rfl⟩ := trodAll_nil hA
  obtain rfl : args = #[] := by cases args; simp_all
  obtain ⟨rfl, rfl⟩ := trodVars_none hV
  clear hA0 hval0
  refine (walk W).mono fun e W' ⟨he, bel⟩ => ?_
  subst he
  exact ⟨_, rfl, _, _, _, [], _, [], hW', trodAll_mk1 (shut_bool Try.underlying4 _), trodAll_mk0, rfl, bel.frame _, fun h => by cases h⟩

theorem proved : Rows.TreeNamesSaid :=
  OpenClaim.holds_of_wide 8 Try.f8 rfl rfl rfl rfl rfl rfl rfl ⟨rfl, rfl, rfl, rfl, rfl⟩ rfl rfl rfl rfl rfl (by kernel_rfl) Try.func8 (by kernel_rfl)
    (of_decide_eq_true (by kernel_rfl)) (by unfold Func.isWrapper; first | (rw [if_pos (by decide +kernel)]; kernel_rfl) | (rw [if_neg (by decide +kernel)]; exact ⟨rfl, rfl⟩))
    (fun os started H enc _ => lifted os started H enc)
#print axioms proved
end Go.Proofs.Ytfidpmjjddkffaa.treeNames
