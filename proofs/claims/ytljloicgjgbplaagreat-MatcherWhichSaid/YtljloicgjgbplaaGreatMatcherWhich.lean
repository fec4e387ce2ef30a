/- An element matches a list exactly if Which has an index, just those of selectors that it matches alone; the order of a list, and selectors that are there twice, do not matter for Match. Condition: no text and no list is larger than a machine holds. -/
import Derived.Test.YtljloicgjgbplaaGreatG47
import Derived.Test.YtljloicgjgbplaaGreatG44
import Derived.Test.YtljloicgjgbplaaGreatG41
import Derived.Test.YtljloicgjgbplaaGreatG25
import Derived.Test.YtljloicgjgbplaaGreatG17
import Derived.Deep.RegionHeld3
import Derived.Deep.CutRange
namespace Go.Proofs.YtljloicgjgbplaaGreat.matcherWhich
open Go.ChangeShapes Go.WideShapes Go.ChangeAt Go.RowKit

set_option maxRecDepth 100000 in
set_option maxHeartbeats 10000000 in
theorem walk (A : Option Addr) (n c : Nat) (T : List ANode) (i : Int) (LA : Option Addr) (ln lc N : Nat) (l : List (SelL (N + 1))) (m at' : Int) (w : World) (h : IsTree w A n T) (hr : IsRow (IsV (N + 1)) w LA ln l) (hz : ∀ x ∈ l, szV (N + 1) x) (hk1 : ln ≤ lc) (hk2 : lc ≤ 9223372036854775807) (hmx : HasMax w) :
    Calls Tryz.prog 8 #[.agg #[.slice A n c], .int .i64 i, .slice LA ln lc, .int .i64 m, .int .i64 at'] w fun e w' => e = .returned (.bool true) ∧ Below w.heap.size w w' := by
  have hl := h.1
  have hz' := hide hz
  have hll := hr.1
  have hbx := below_alloc (Below.refl w.heap.size w) (.cells #[.slice A n c] 24)
  have B_0 := hbx
  have T_0 := hide (h.below hbx)
  have mx_0 := hide (hmx.below hbx)
  have r_0 := hide (hr.below (isV_stays (N + 1)) hbx)
  have box_0 := (show (w.alloc (.cells #[.slice A n c] 24)).cell? ⟨w.heap.size, 0, none⟩ = some (.slice A n c) from blk_cell (blk_new _ _ _) 0)
  clear h hr hmx hz hbx
  go_enter Tryz.func8, Tryz.ntmps8
  go_wp2_with fail
  refine (alive23_ok _ mx_0.out).mono ?_
  rintro e w1 ⟨rfl, hb⟩
  have hz := hb
  have B_1 := Below.on B_0 hz
  have T_1 := hide (T_0.out.below hz)
  have mx_1 := hide (mx_0.out.below hz)
  have r_1 := hide (r_0.out.below (isV_stays _) hz)
  have box_1 := cell_later hz box_0
  clear B_0 T_0 mx_0 r_0 box_0
  clear hz hb
  go_wp2_with fail
  refine (rgreat23_ok (N + 1) A n c T LA ln lc l _ T_1.out r_1.out hz'.out).mono ?_
  rintro e w2 ⟨g, rfl, hg, hb⟩
  have hz := hb
  have B_2 := Below.on B_1 hz
  have T_2 := hide (T_1.out.below hz)
  have mx_2 := hide (mx_1.out.below hz)
  have r_2 := hide (r_1.out.below (isV_stays _) hz)
  have box_2 := cell_later hz box_1
  clear B_1 T_1 mx_1 r_1 box_1
  clear hz hb
  have hg' := hide hg
  clear hg
  cases g
  rotate_left
  · go_wp2
    go_ret
    exact ⟨rfl, B_2⟩
  have hn6 : numV (N + 1) l ≤ 600 := (hg'.out rfl).1
  have hn6' := hide hn6
  clear hg' hn6
  obtain ⟨E, hE⟩ : ∃ E, aksE T m (N + 1) l = E := ⟨_, rfl⟩
  have hE' := hide hE
  have hx := rasked23_ok A n c T (N + 1) LA ln lc l m _ T_2.out r_2.out (by have := hn6'.out; omega)
  rw [hE] at hx
  clear hE
  go_wp2_with fail
  refine hx.mono ?_
  clear hx
  rintro e w3 ⟨rfl, hb⟩
  have hz := hb
  have B_3 := Below.on B_2 hz
  have T_3 := hide (T_2.out.below hz)
  have mx_3 := hide (mx_2.out.below hz)
  have r_3 := hide (r_2.out.below (isV_stays _) hz)
  have box_3 := cell_later hz box_2
  clear B_2 T_2 mx_2 r_2 box_2
  clear hz hb
  by_cases h0 : E = 0
  rotate_left
  · have hcb : (E != 0) = true := by rw [bne_iff_ne]; exact h0
    clear h0
    go_wp2
    go_ret
    exact ⟨rfl, B_3⟩
  subst h0
  obtain ⟨D, hD⟩ : ∃ D, askI T [i] = D := ⟨_, rfl⟩
  have hD' := hide hD
  have hx := rasked_ok A n c T i _ T_3.out
  rw [hD] at hx
  clear hD
  go_wp2_with fail
  refine hx.mono ?_
  clear hx
  rintro e w4 ⟨rfl, hb⟩
  have hz := hb
  have B_4 := Below.on B_3 hz
  have T_4 := hide (T_3.out.below hz)
  have mx_4 := hide (mx_3.out.below hz)
  have r_4 := hide (r_3.out.below (isV_stays _) hz)
  have box_4 := cell_later hz box_3
  clear B_3 T_3 mx_3 r_3 box_3
  clear hz hb
  by_cases h0 : D = 0
  rotate_left
  · have hcb : (D != 0) = true := by rw [bne_iff_ne]; exact h0
    clear h0
    go_wp2
    go_ret
    exact ⟨rfl, B_4⟩
  subst h0
  by_cases hat : 0 ≤ at' ∧ at' < ln
  rotate_left
  · by_cases h1 : at' < 0
    · have t1 : decide (at' < 0) = true := decide_eq_true h1
      clear hat h1
      go_wp2
      go_ret
      exact ⟨rfl, B_4⟩
    · have t1 : decide (at' < 0) = false := decide_eq_false h1
      have t2 : decide ((ln : Int) ≤ at') = true := decide_eq_true (by omega)
      clear hat h1
      go_wp2
      go_ret
      exact ⟨rfl, B_4⟩
  obtain ⟨p, rfl⟩ := Int.eq_ofNat_of_zero_le hat.1
  have hpl : p < ln := by omega
  clear hat
  have hE0 := hE'.out
  have hD0 := hD'.out
  obtain ⟨hg0, hm0, hc0⟩ := aksE_zero.1 hE0
  have hir := (askI_zero.1 hD0).2 i (by simp)
  obtain ⟨k, rfl⟩ := Int.eq_ofNat_of_zero_le hir.1
  have hkn : k < n := by omega
  have hn64 : n ≤ 64 := by have := ((goodB_iff T).1 hg0).2.1; omega
  have hln64 : ln ≤ 64 := by have := (chkV_zero.1 hc0).2; have := len_numV (N + 1) l; omega
  have hM0 : mmatE T k m (N + 1) l = 0 := mmatE_zero.2 ⟨hD0, hE0⟩
  obtain ⟨F, hF⟩ : ∃ F, inV T m (N + 1) l = F := ⟨_, rfl⟩
  obtain ⟨wn, hwn⟩ : ∃ wn, (whiL T m (N + 1) l k ln).length = wn := ⟨_, rfl⟩
  have hpos := whi_pos T m (N + 1) l k
  rw [hll, hF, hwn] at hpos
  have hmv : F k = decide ((0 : Int) < (wn : Int)) := by rw [← hpos]; exact decide_eq_decide.2 (by omega)
  clear hpos
  have hMV : mmatV T k m (N + 1) l = decide ((0 : Int) < (wn : Int)) := by unfold mmatV; rw [if_pos hM0, ← hmv, ← hF]; rfl
  have hWV : whiV T k m (N + 1) l = whiL T m (N + 1) l k ln := by unfold whiV; rw [if_pos hM0, hll]; rfl
  have hPm := hide (And.intro hM0 (And.intro hE0 (And.intro hD0 (And.intro hF hmv))))
  have hc0' := hide hc0
  clear hE0 hD0 hE' hD' hF hmv hir hc0
  have hx := mMatch_ok A n c T k (N + 1) LA ln lc l m _ T_4.out mx_4.out r_4.out (num64 hPm.out.2.1)
  rw [hMV, hM0] at hx
  clear hMV
  go_wp2_with fail
  refine hx.mono ?_
  clear hx
  rintro e w5 ⟨rfl, hb⟩
  have hz := hb
  have B_5 := Below.on B_4 hz
  have T_5 := hide (T_4.out.below hz)
  have mx_5 := hide (mx_4.out.below hz)
  have r_5 := hide (r_4.out.below (isV_stays _) hz)
  have box_5 := cell_later hz box_4
  clear B_4 T_4 mx_4 r_4 box_4
  clear hz hb
  have hx := mWhich_ok A n c T k (N + 1) LA ln lc l m _ T_5.out mx_5.out r_5.out (num64 hPm.out.2.1) hk1 hk2
  rw [hWV, hM0] at hx
  clear hWV hM0
  have hwn' := hide hwn
  have hx2 : Calls Tryz.prog 23 #[.agg #[.slice A n c], .int .i64 k, .slice LA ln lc, .int .i64 m] w5 fun e w' => ∃ A' c', e = .returned (.tuple #[.slice A' wn c', .int .i64 0]) ∧ IsInts w' A' wn (whiL T m (N + 1) l k ln) ∧ Below w5.heap.size w5 w' := by
    unfold MadeIE at hx
    rw [hwn] at hx
    exact hx
  clear hwn hx
  go_wp2_with fail
  refine hx2.mono ?_
  clear hx2
  rintro e w6 ⟨XW, xw, rfl, iw, hb⟩
  have hz := hb
  have B_6 := Below.on B_5 hz
  have T_6 := hide (T_5.out.below hz)
  have mx_6 := hide (mx_5.out.below hz)
  have r_6 := hide (r_5.out.below (isV_stays _) hz)
  have box_6 := cell_later hz box_5
  clear B_5 T_5 mx_5 r_5 box_5
  have W_6 := hide iw
  clear hz hb iw
  go_wp2_with fail
  refine (mAllF T m (N + 1) l F hPm.out.2.1 (fun i _ => congrFun hPm.out.2.2.2.1 i) (num64 hPm.out.2.1) A n c LA ln lc _ T_6.out mx_6.out r_6.out).mono ?_
  rintro e w7 ⟨XA, xa, rfl, ia, hb⟩
  have hz := hb
  have B_7 := Below.on B_6 hz
  have T_7 := hide (T_6.out.below hz)
  have mx_7 := hide (mx_6.out.below hz)
  have r_7 := hide (r_6.out.below (isV_stays _) hz)
  have box_7 := cell_later hz box_6
  have W_7 := hide (W_6.out.below hz)
  clear B_6 T_6 mx_6 r_6 box_6 W_6
  have a_7 := hide ia
  clear ia
  clear hz hb
  obtain ⟨ba, oa, rfl, hba, hca⟩ := a_7.out.2.2 (by omega)
  have ga := hca k hkn
  rw [bx_map _ hkn, hPm.out.2.2.2.2] at ga
  clear hca
  clear a_7
  have j0 : (0 : Int) ≤ (k : Int) := by omega
  have j1 : (k : Int) < (n : Int) := by omega
  go_wp2_with fail
  go_loopw [18, 19] (fun a b wr => ∃ q : Nat, q ≤ ln ∧ b = .int .i64 q ∧ a = .int .i64 ((whiL T m (N + 1) l k q).length : Int) ∧ Below w7.heap.size w7 wr) (fun _ b _ => ln - (intOf b).toNat)
  case atStart => exact ⟨0, Nat.zero_le _, rfl, rfl, Below.refl _ _⟩
  case round =>
    obtain ⟨q, hq, rfl, rfl, hb⟩ := hrel
    have hBr := Below.on B_7 hb
    have hbox := cell_later hb box_7
    have hTr := hide (T_7.out.below hb)
    have hmr := hide (mx_7.out.below hb)
    have hrr := hide (r_7.out.below (isV_stays _) hb)
    by_cases hlt : q < ln
    · obtain ⟨b, off, ld, PA, pn, pc, KA, kn, kc, hLA, hbl, -, -, -, -⟩ := hrr.out.at hlt hll
      subst hLA
      have hxl : l[q]? = some (l[q]'(by omega)) := List.getElem?_eq_getElem (by omega)
      have hxm : l[q]'(by omega) ∈ l := List.getElem_mem _
      have hone := hide (IsRow.one hrr.out hlt hll)
      have hhit := hit_some (T := T) (m := m) (i := k) hxl
      generalize l[q] = x at *
      have hck1 : chkV (N + 1) [x] = 0 := chk_one hc0'.out hxm
      have hm1 : mmatE T k m (N + 1) [x] = 0 := mmatE_zero.2 ⟨hPm.out.2.2.1, aks_of hPm.out.2.1 hck1⟩
      have hv1 : mmatV T k m (N + 1) [x] = hitV T m (N + 1) l k q := by unfold mmatV; rw [if_pos hm1, hhit]; rfl
      have hk3 := hide (fun W (lc' : Nat) (hW : Below wr.heap.size wr W) => (show Calls Tryz.prog 20 #[.agg #[.slice A n c], .int .i64 k, .slice (if lc = q then some ⟨b, off, none⟩ else some ⟨b, off + q * 3, none⟩) 1 lc', .int .i64 m] W fun e w' => e = .returned (.tuple #[.bool (hitV T m (N + 1) l k q), .int .i64 0]) ∧ Below W.heap.size W w' from by
        have hx := mMatch_ok A n c T k (N + 1) (some ⟨b, off + q * 3, none⟩) 1 lc' [x] m W (hTr.out.below hW) (hmr.out.below hW) (hone.out.below (isV_stays _) hW) (by have := (chkV_zero.1 hck1).2; omega)
        rw [hv1, hm1] at hx
        rw [if_neg (by omega)]
        exact hx))
      have hat1 := fun (h : hitV T m (N + 1) l k q = true) => whi_at T m (N + 1) l k h hlt
      have hss := whiL_succ T m (N + 1) l k q
      have hwl := whiL_len T m (N + 1) l k q
      obtain ⟨cq, hcq⟩ : ∃ cq, (whiL T m (N + 1) l k q).length = cq := ⟨_, rfl⟩
      have hsl := congrArg List.length hss
      rw [List.length_append, hcq] at hsl
      rw [hcq] at hat1 hwl ⊢
      rw [hwn'.out] at hat1
      have hsl' := hide hsl
      have hat' := hide hat1
      clear hxl hxm hone hhit hck1 hm1 hv1 hss hcq hsl hat1
      generalize hitV T m (N + 1) l k q = rb at *
      have j2 : (0 : Int) ≤ (q : Int) := by omega
      have j3 : (q : Int) < (q : Int) + 1 := by omega
      have j4 : (q : Int) + 1 ≤ (lc : Int) := by omega
      have j5 : IntKind.i64.wrap ((q : Int) + 1) = (q : Int) + 1 := IntWalk.i64_in _ (by omega)
      have j6 : (0 : Int) ≤ (q : Int) + 1 := by omega
      have j7 : ((q : Int) + 1).toNat = q + 1 := by omega
      cases rb
      · go_wp2
        go_region_held3 (fun X => X.cell? ⟨w.heap.size, 0, none⟩ = some (.slice A n c)) (first | exact hbox | exact r0) (first | (go_at_call 20; (with_reducible refine (hk3.out _ _ (Below.refl _ _).drew).mono ?_); rintro e3 v3 ⟨rfl, hb3⟩; have r0 := cell_later hb3 hbox))
        have hB3 := hide (Below.on (w1 := wr.drew) hb.drew hb3)
        have hf : Hid ((whiL T m (N + 1) l k (q + 1)).length = cq) := by show _ = _; rw [hsl'.out]; rfl
        clear hat' hsl'
        go_wp2
        go_roundw
        case rel => exact ⟨q + 1, by omega, by go_num, by rw [hf.out], hB3.out⟩
        case measure => simp [intOf]; omega
      · obtain ⟨a1, a2⟩ := hat'.out rfl
        obtain ⟨bw, ow, rfl, hbw, hcw⟩ := W_7.out.2.2 (by omega)
        have gw := hcw cq a1
        rw [a2] at gw
        clear a2 hcw hat'
        go_wp2
        go_region_held3 (fun X => X.cell? ⟨w.heap.size, 0, none⟩ = some (.slice A n c)) (first | exact hbox | exact r0) (first | (go_at_call 20; (with_reducible refine (hk3.out _ _ (Below.refl _ _).drew).mono ?_); rintro e3 v3 ⟨rfl, hb3⟩; have r0 := cell_later hb3 hbox))
        have hB3 := hide (Below.on (w1 := wr.drew) hb.drew hb3)
        have gw3 := (old hB3.out _ _ hbw).trans gw
        have hf : Hid ((whiL T m (N + 1) l k (q + 1)).length = cq + 1) := by show _ = _; rw [hsl'.out]; rfl
        have t4 : decide ((wn : Int) ≤ (cq : Int)) = false := decide_eq_false (by omega)
        have i4 : (0 : Int) ≤ (cq : Int) := by omega
        have i5 : (cq : Int) < (wn : Int) := by omega
        clear gw hsl'
        go_wp2
        go_roundw
        case rel => exact ⟨q + 1, by omega, by go_num, by rw [hf.out]; exact congrArg (Value.int .i64) (by omega), hB3.out⟩
        case measure => simp [intOf]; omega
    · obtain rfl : ln = q := by omega
      rw [hwn'.out]
      obtain ⟨S, hSl, hSf, hSc⟩ := hrr.out.trips
      obtain ⟨b, off, hLA, hbl, hcell⟩ := hSc (by omega)
      subst hLA
      have hMp := hide (fun (W : World) (L : Option Addr) (lc' q : Nat) (l' : List (SelL (N + 1))) (hmem : ∀ x, x ∈ l' ↔ x ∈ l) (hck : chkV (N + 1) l' = 0) (hW : Below wr.heap.size wr W) (hR : IsRow (IsV (N + 1)) W L q l') => (show Calls Tryz.prog 20 #[.agg #[.slice A n c], .int .i64 k, .slice L q lc', .int .i64 m] W fun e w' => e = .returned (.tuple #[.bool (decide ((0 : Int) < (wn : Int))), .int .i64 0]) ∧ Below W.heap.size W w' from by
        have hm1 : mmatE T k m (N + 1) l' = 0 := mmatE_zero.2 ⟨hPm.out.2.2.1, aks_of hPm.out.2.1 hck⟩
        have hx := mMatch_ok A n c T k (N + 1) L q lc' l' m W (hTr.out.below hW) (hmr.out.below hW) hR (by have := (chkV_zero.1 hck).2; omega)
        have hv1 : mmatV T k m (N + 1) l' = decide ((0 : Int) < (wn : Int)) := by
          unfold mmatV
          rw [if_pos hm1, inV_perm hmem, hPm.out.2.2.2.1]
          exact hPm.out.2.2.2.2
        rw [hv1, hm1] at hx
        exact hx))
      have hsz0 : wr.heap.size ≤ (wr.alloc (.cells #[] 62)).drew.heap.size := (below_alloc (Below.refl wr.heap.size wr) (.cells #[] 62)).drew.size
      have hcell1 : ∀ (W : World), Below wr.heap.size wr W → ∀ j u, (trips S)[j]? = some u → W.cell? ⟨b, off + j, none⟩ = some u := fun W hW j u hj => (hW.cell (p := ⟨b, off + j, none⟩) hbl).trans (hcell j u hj)
      have hR1 := hide (fun ty => runX (wr.alloc (.cells #[] 62)).drew ty ((laid_nil wr wr.heap.size rfl).drew) (if lc = p then some ⟨b, off, none⟩ else some ⟨b, off + p * 3, none⟩) (ln - p) (lc - p) (ln - p) (R := S.drop p) (by rw [List.length_drop, hSl]) (fun _ => ⟨⟨b, off + p * 3, none⟩, if_neg (by omega), fun j u hj => by
        rw [trips_drop, if_pos (by omega)] at hj
        rw [add_plain, Nat.add_assoc]
        exact hcell1 _ (below_alloc (Below.refl _ _) _).drew _ _ hj⟩) (by omega) hsz0 (by omega))
      have hR2 := hide (fun ty v1 x1 (hL : Laid wr.heap.size wr (ln - p) (S.drop p) v1 x1) (hs : wr.heap.size ≤ x1.heap.size) (hb1 : Below wr.heap.size wr x1) => runX x1 ty hL (some ⟨b, off, none⟩) p lc ln (R := S.take p) (by rw [List.length_take, hSl]; omega) (fun _ => ⟨⟨b, off, none⟩, rfl, fun j u hj => by
        rw [add_plain]
        exact hcell1 _ hb1 _ _ (trips_take S p j u hj)⟩) (by omega) hs (by omega))
      have hW1 := (below_alloc (Below.refl wr.heap.size wr) (.cells #[] 62)).drew
      have c1 := cell_later hW1 hbox
      have t5 : decide ((p : Int) < 0) = false := decide_eq_false (by omega)
      have z0 : (0 : Int) ≤ (p : Int) := by omega
      have z1 : (p : Int) ≤ (ln : Int) := by omega
      have z2 : (ln : Int) ≤ (lc : Int) := by omega
      have z3 : (p : Int) ≤ (lc : Int) := by omega
      have hSf' := hide hSf
      have hcell' := hide hcell1
      clear hSf hSc hcell hcell1 hsz0 ga
      go_wp2_with fail
      go_region_held3 (fun X => X.cell? ⟨w.heap.size, 0, none⟩ = some (.slice A n c)) (first | exact hbox | exact c1 | exact c2 | exact c3) (first | (refine step_append_R rfl _ _ 25 25 rfl (.slice (some ⟨wr.heap.size, 0, none⟩) 0 0) (.slice (if lc = p then some ⟨b, off, none⟩ else some ⟨b, off + p * 3, none⟩) (ln - p) (lc - p)) ?_ ?_ (hR1.out _) ?_; (focus (simp [Act.eval]; done)); (focus (simp [Act.eval]; done)); rintro v1 x1 ⟨g1, e1, rfl, hr1, hr2, hr3, hr4, hr5⟩; have hL1 := hide (show Laid wr.heap.size wr (ln - p) (S.drop p) (.slice (some ⟨g1, 0, none⟩) (ln - p) e1) x1 from ⟨g1, e1, rfl, hr1, hr2, hr3, hr4, hr5⟩); have c2 := cell_later hr5 hbox) | (refine step_append_R rfl _ _ 25 25 rfl (.slice (some ⟨g1, 0, none⟩) (ln - p) e1) (.slice (some ⟨b, off, none⟩) p lc) ?_ ?_ (hR2.out _ _ _ hL1.out hr5.size hr5) ?_; (focus (simp [Act.eval]; done)); (focus (simp [Act.eval]; done)); rintro v2 x2 ⟨g2, e2, rfl, hs1, hs2, hs3, hs4, hs5⟩; have hL2 := hide (show Laid wr.heap.size wr ln (S.drop p ++ S.take p) (.slice (some ⟨g2, 0, none⟩) ln e2) x2 from ⟨g2, e2, rfl, hs1, hs2, hs3, hs4, hs5⟩); have c3 := cell_later hs5 hbox))
      have hfx := hide ((Fit.append (hSf'.out.drop p) (hSf'.out.take p)).below (isV_stays _) hs5)
      have hrowt := hide (hL2.out.row hfx.out (by omega))
      obtain ⟨At, ct, hvt, -, -, hIt⟩ := hrowt.out
      injection hvt with q1 q2 q3
      subst q1; subst q3
      have hmt := hide (hMp.out _ _ e2 _ _ (mem_turn l p) (chk_turn hc0'.out p) hs5 hIt)
      clear hrowt hIt q2 hfx hs1 hs2 hs3 hs4 hL2 hr1 hr2 hr3 hr4 hr5 hL1 c2 hR1 hR2 hW1 c1
      go_wp2_with fail
      refine hmt.out.mono ?_
      rintro e3 u ⟨rfl, hb3⟩
      clear hmt
      have hu := Below.on hs5 hb3
      clear hs5 hb3 c3
      obtain ⟨t, ht⟩ : ∃ t, S[p]? = some t := ⟨_, List.getElem?_eq_getElem (by omega)⟩
      have hmemx : ∃ x, l[p]? = some x := ⟨_, List.getElem?_eq_getElem (by omega)⟩
      obtain ⟨x, hx⟩ := hmemx
      have hxl : x ∈ l := List.mem_of_getElem? hx
      have htp : tp S p = t := by unfold tp; rw [List.getD_eq_getElem?_getD, ht]; rfl
      have hVx := hSf'.out.2 p x hx
      rw [htp] at hVx
      have hVx' := hide hVx
      clear hVx htp
      have hcu := hide (fun (W : World) (hW : Below u.heap.size u W) => hcell'.out W (Below.on hu hW))
      have hcS : ∀ (W : World), Below u.heap.size u W → ∀ j v, (trips S)[j]? = some v → W.cell? ((⟨b, off, none⟩ : Addr).add j) = some v := fun W hb j v hj => by rw [add_plain]; exact hcu.out W hb j v hj
      have hA1 := hide (fun ty (g : Nat) (W : World) (hL : Laid u.heap.size u 0 [] (.slice (some ⟨g, 0, none⟩) 0 0) W) (hs : u.heap.size ≤ W.heap.size) (hb : Below u.heap.size u W) => runX2 W ty hL (some ⟨b, off, none⟩) ln lc ln (R := S) hSl (fun _ => ⟨⟨b, off, none⟩, rfl, hcS W hb⟩) (by omega) hs (by omega))
      clear hcS
      have hl1 : ∀ r, r < 3 → u.cell? ⟨b, off + p * 3 + r, none⟩ = (tripC t).toList[r]? := fun r hr => by
        rw [Nat.add_assoc]
        have h3 := trips_get S (j := p) (r := r) (by omega) hr
        have h4 : tp S p = t := by unfold tp; rw [List.getD_eq_getElem?_getD, ht]; rfl
        rw [h4] at h3
        have h5 : (tripC t).toList[r]? = some ((tripC t).toList[r]'hr) := List.getElem?_eq_getElem hr
        rw [h5] at h3 ⊢
        exact hcu.out u (Below.refl _ _) _ _ h3
      obtain ⟨tl, tA, ta, tb, tB, tc, td⟩ := t
      have k0 := hl1 0 (by omega)
      have k1 := hl1 1 (by omega)
      have k2 := hl1 2 (by omega)
      rw [Nat.add_zero] at k0
      simp only [tripC] at k0 k1 k2
      simp only [List.getElem?_cons_zero, List.getElem?_cons_succ] at k0 k1 k2
      clear hl1 hcell'
      have hA2 := hide (fun ty (v1 : Value) (g : Nat) (W : World) (hL : Laid u.heap.size u ln S v1 W) (hs : u.heap.size ≤ W.heap.size) (hg : W.heap[g]? = some (.cells #[.int .u8 tl, .slice tA ta tb, .slice tB tc td] 62 (0, 0))) => runX2 W ty hL (some ⟨g, 0, none⟩) 1 1 (ln + 1) (R := [⟨tl, tA, ta, tb, tB, tc, td⟩]) rfl (fun _ => ⟨⟨g, 0, none⟩, rfl, trip_at (t := ⟨tl, tA, ta, tb, tB, tc, td⟩) hg⟩) (by omega) hs (by omega))
      have hbu : b < u.heap.size := Nat.lt_of_lt_of_le hbl hu.size
      have hK := hide (fun (W : World) (hW : Below u.heap.size u W) => (show W.cell? ⟨b, off + p * 3, none⟩ = some (.int .u8 tl) ∧ W.cell? ⟨b, off + p * 3 + 1, none⟩ = some (.slice tA ta tb) ∧ W.cell? ⟨b, off + p * 3 + 2, none⟩ = some (.slice tB tc td) from ⟨(hW.cell (p := ⟨b, off + p * 3, none⟩) hbu).trans k0, (hW.cell (p := ⟨b, off + p * 3 + 1, none⟩) hbu).trans k1, (hW.cell (p := ⟨b, off + p * 3 + 2, none⟩) hbu).trans k2⟩))
      have le_al : ∀ (W : World) (o : Obj), W.heap.size ≤ (W.alloc o).heap.size := fun W o => (below_alloc (Below.refl _ _) o).size
      have i0 : (0 : Int) ≤ (p : Int) := by omega
      have i1 : (p : Int) < (ln : Int) := by omega
      clear hcu
      have hn7 := hide (show numV (N + 1) (l ++ [x]) ≤ 1000000 from by have h1 := (chkV_zero.1 (chk_one hc0'.out hxl)).2; have h2 := hn6'.out; rw [numV_app]; omega)
      obtain ⟨D, hD⟩ : ∃ D, chkV (N + 1) (l ++ [x]) = D := ⟨_, rfl⟩
      have hD' := hide hD
      clear hD
      go_wp2_with fail
      go_region_held3 (fun u => u.cell? ⟨b, off + p * 3, none⟩ = some (.int .u8 tl) ∧ u.cell? ⟨b, off + p * 3 + 1, none⟩ = some (.slice tA ta tb) ∧ u.cell? ⟨b, off + p * 3 + 2, none⟩ = some (.slice tB tc td)) (first | with_reducible exact ⟨k0, k1, k2⟩ | with_reducible exact y1 | (refine hK.out _ ?_; first | with_reducible exact (Below.refl _ _).drew | with_reducible exact (below_alloc (Below.refl _ _) _).drew | with_reducible exact below_alloc (Below.refl _ _) _ | with_reducible exact (below_alloc (below_alloc (Below.refl _ _) _) _).drew | with_reducible exact below_alloc (below_alloc (Below.refl _ _) _) _ | with_reducible exact (below_alloc hr5 _).drew | with_reducible exact below_alloc hr5 _)) (first | (refine step_append_R rfl _ _ 25 25 rfl (.slice (some ⟨u.heap.size, 0, none⟩) 0 0) (.slice (some ⟨b, off, none⟩) ln lc) ?_ ?_ (hA1.out _ u.heap.size _ ?_ ?_ ?_) ?_; (focus (simp [Act.eval]; done)); (focus (simp [Act.eval]; done)); (focus (first | with_reducible exact laid_nil u _ (Eq.refl _) | with_reducible exact (laid_nil u _ (Eq.refl _)).drew)); (focus first | (simp; done) | (simp; omega)); (focus (first | with_reducible exact (Below.refl _ _).drew | with_reducible exact (below_alloc (Below.refl _ _) _).drew | with_reducible exact below_alloc (Below.refl _ _) _ | with_reducible exact (below_alloc (below_alloc (Below.refl _ _) _) _).drew | with_reducible exact below_alloc (below_alloc (Below.refl _ _) _) _)); rintro v1 x1 ⟨⟨g1, e1, rfl, hr1, hr2, hr3, hr4, hr5⟩, hr6, hr7⟩; have hL1 := hide (show Laid u.heap.size u ln S (.slice (some ⟨g1, 0, none⟩) ln e1) x1 from ⟨g1, e1, rfl, hr1, hr2, hr3, hr4, hr5⟩); have y1 := hK.out _ hr5) | (refine step_append_R rfl _ _ 25 25 rfl (.slice (some ⟨(u.alloc (.cells #[.int .u8 tl, .slice tA ta tb, .slice tB tc td] 62)).heap.size, 0, none⟩) 0 0) (.slice (some ⟨b, off, none⟩) ln lc) ?_ ?_ (hA1.out _ (u.alloc (.cells #[.int .u8 tl, .slice tA ta tb, .slice tB tc td] 62)).heap.size _ ?_ ?_ ?_) ?_; (focus (simp [Act.eval]; done)); (focus (simp [Act.eval]; done)); (focus (first | with_reducible exact laid_nil' (below_alloc (Below.refl _ _) _) (le_al u _) _ (Eq.refl _) | with_reducible exact (laid_nil' (below_alloc (Below.refl _ _) _) (le_al u _) _ (Eq.refl _)).drew)); (focus first | (simp; done) | (simp; omega)); (focus (first | with_reducible exact (Below.refl _ _).drew | with_reducible exact (below_alloc (Below.refl _ _) _).drew | with_reducible exact below_alloc (Below.refl _ _) _ | with_reducible exact (below_alloc (below_alloc (Below.refl _ _) _) _).drew | with_reducible exact below_alloc (below_alloc (Below.refl _ _) _) _)); rintro v1 x1 ⟨⟨g1, e1, rfl, hr1, hr2, hr3, hr4, hr5⟩, hr6, hr7⟩; have hL1 := hide (show Laid u.heap.size u ln S (.slice (some ⟨g1, 0, none⟩) ln e1) x1 from ⟨g1, e1, rfl, hr1, hr2, hr3, hr4, hr5⟩); have y1 := hK.out _ hr5) | (refine step_append_R rfl _ _ 25 25 rfl (.slice (some ⟨u.heap.size, 0, none⟩) 0 0) (.slice (some ⟨b, off, none⟩) ln lc) ?_ ?_ (hA1.out _ u.heap.size _ ?_ ?_ ?_) ?_; (focus (simp [Act.eval]; done)); (focus (simp [Act.eval]; done)); (focus (first | with_reducible exact (laid_nil u _ (Eq.refl _)).alloc (le_al u _) _ | with_reducible exact ((laid_nil u _ (Eq.refl _)).alloc (le_al u _) _).drew)); (focus first | (simp; done) | (simp; omega)); (focus (first | with_reducible exact (Below.refl _ _).drew | with_reducible exact (below_alloc (Below.refl _ _) _).drew | with_reducible exact below_alloc (Below.refl _ _) _ | with_reducible exact (below_alloc (below_alloc (Below.refl _ _) _) _).drew | with_reducible exact below_alloc (below_alloc (Below.refl _ _) _) _)); rintro v1 x1 ⟨⟨g1, e1, rfl, hr1, hr2, hr3, hr4, hr5⟩, hr6, hr7⟩; have hL1 := hide (show Laid u.heap.size u ln S (.slice (some ⟨g1, 0, none⟩) ln e1) x1 from ⟨g1, e1, rfl, hr1, hr2, hr3, hr4, hr5⟩); have y1 := hK.out _ hr5) | (refine step_append_R rfl _ _ 25 25 rfl (.slice (some ⟨g1, 0, none⟩) ln e1) (.slice (some ⟨x1.heap.size, 0, none⟩) 1 1) ?_ ?_ (hA2.out _ _ x1.heap.size _ ?_ ?_ ?_) ?_; (focus (simp [Act.eval]; done)); (focus (simp [Act.eval]; done)); (focus (first | with_reducible exact hL1.out.alloc hr5.size _ | with_reducible exact (hL1.out.alloc hr5.size _).drew)); (focus (have q2 := hr5.size; first | exact q2 | (simp; omega))); (focus (with_reducible exact blk_new x1 _ _)); rintro v2 x2 ⟨⟨g2, e2, rfl, hs1, hs2, hs3, hs4, hs5⟩, -, -⟩; have hL2 := hide (show Laid u.heap.size u (ln + 1) (S ++ [⟨tl, tA, ta, tb, tB, tc, td⟩]) (.slice (some ⟨g2, 0, none⟩) (ln + 1) e2) x2 from ⟨g2, e2, rfl, hs1, hs2, hs3, hs4, hs5⟩); have y1 := hK.out _ hs5) | (refine step_append_R rfl _ _ 25 25 rfl (.slice (some ⟨g1, 0, none⟩) ln e1) (.slice (some ⟨u.heap.size, 0, none⟩) 1 1) ?_ ?_ (hA2.out _ _ u.heap.size _ ?_ ?_ ?_) ?_; (focus (simp [Act.eval]; done)); (focus (simp [Act.eval]; done)); (focus (first | with_reducible exact hL1.out | with_reducible exact (hL1.out).drew)); (focus (have q2 := hr5.size; first | exact q2 | (simp; omega))); (focus (refine (hr7 u.heap.size ?_ ?_).trans ?_; (focus first | (simp; done) | (simp; omega)); (focus first | (simp [Value.ownBlock]; done) | (simp [Value.ownBlock]; omega)); first | with_reducible exact blk_alloc (blk_new u _ _) _ | (show ((u.alloc (.cells #[.int .u8 tl, .slice tA ta tb, .slice tB tc td] 62)).alloc (.cells #[] 62)).heap[u.heap.size]? = _; exact blk_alloc (blk_new u _ _) _))); rintro v2 x2 ⟨⟨g2, e2, rfl, hs1, hs2, hs3, hs4, hs5⟩, -, -⟩; have hL2 := hide (show Laid u.heap.size u (ln + 1) (S ++ [⟨tl, tA, ta, tb, tB, tc, td⟩]) (.slice (some ⟨g2, 0, none⟩) (ln + 1) e2) x2 from ⟨g2, e2, rfl, hs1, hs2, hs3, hs4, hs5⟩); have y1 := hK.out _ hs5) | (refine step_append_R rfl _ _ 25 25 rfl (.slice (some ⟨g1, 0, none⟩) ln e1) (.slice (some ⟨(u.alloc (.cells #[] 62)).heap.size, 0, none⟩) 1 1) ?_ ?_ (hA2.out _ _ (u.alloc (.cells #[] 62)).heap.size _ ?_ ?_ ?_) ?_; (focus (simp [Act.eval]; done)); (focus (simp [Act.eval]; done)); (focus (first | with_reducible exact hL1.out | with_reducible exact (hL1.out).drew)); (focus (have q2 := hr5.size; first | exact q2 | (simp; omega))); (focus (refine (hr7 (u.alloc (.cells #[] 62)).heap.size ?_ ?_).trans ?_; (focus first | (simp; done) | (simp; omega)); (focus first | (simp [Value.ownBlock]; done) | (simp [Value.ownBlock]; omega)); first | with_reducible exact blk_new (u.alloc (.cells #[] 62)) _ _ | (show ((u.alloc (.cells #[] 62)).alloc (.cells #[.int .u8 tl, .slice tA ta tb, .slice tB tc td] 62)).heap[(u.alloc (.cells #[] 62)).heap.size]? = _; exact blk_new (u.alloc (.cells #[] 62)) _ _))); rintro v2 x2 ⟨⟨g2, e2, rfl, hs1, hs2, hs3, hs4, hs5⟩, -, -⟩; have hL2 := hide (show Laid u.heap.size u (ln + 1) (S ++ [⟨tl, tA, ta, tb, tB, tc, td⟩]) (.slice (some ⟨g2, 0, none⟩) (ln + 1) e2) x2 from ⟨g2, e2, rfl, hs1, hs2, hs3, hs4, hs5⟩); have y1 := hK.out _ hs5))
      all_goals
        have hb2 := Below.on hu hs5
        have hfx := hide (Fit.push (t := ⟨tl, tA, ta, tb, tB, tc, td⟩) (hSf'.out.below (isV_stays _) hb2) (isV_stays _ _ _ _ _ _ _ _ _ _ _ hb2 hVx'.out))
        have hrowt := hide (hL2.out.row hfx.out (by omega))
        obtain ⟨At, ct, hvt, -, -, hIt⟩ := hrowt.out
        injection hvt with q1 q2 q3
        subst q1; subst q3
        have hck := hide (rsChk_ok (N + 1) _ _ e2 _ _ hIt hn7.out)
        have hIt' := hide hIt
        clear hrowt hIt q2 hfx hs1 hs2 hs3 hs4 hL2 hr1 hr2 hr3 hr4 hr5 hr6 hr7 hL1
        go_wp2_with fail
        refine hck.out.mono ?_
        rintro e4 v4 ⟨rfl, hb4⟩
        clear hck
        have hb5 := Below.on hb2 hb4
        rw [hD'.out]
        by_cases hd0 : D = 0
        · subst hd0
          have hbx4 := cell_later hb5 hbox
          have hmt := hide (hMp.out _ _ e2 _ _ (mem_twice hxl) hD'.out hb5 (hIt'.out.below (isV_stays _) hb4))
          go_wp2_with fail
          refine hmt.out.mono ?_
          rintro e5 v5 ⟨rfl, hb6⟩
          clear hmt
          have hb7 := Below.on hBr (Below.on hb5 hb6)
          go_wp2
          go_ret
          exact ⟨by first | rfl | simp, hb7⟩
        · have hcb : (D != 0) = true := by rw [bne_iff_ne]; exact hd0
          clear hd0
          have hb7 := Below.on hBr hb5
          go_wp2
          go_ret
          exact ⟨rfl, hb7⟩
set_option maxRecDepth 100000 in
theorem lifted (os : Os) (started : os.Started) (H : Type) (enc : TypeId × Value → H) :
    ReturnsInHanded {} Tryz.checked os 8 .any (Rows.matcherWhichSpec.pre6 enc Tryz.prog Tryz.f8 Rows.matcherWhichRow.domain false) (Rows.matcherWhichSpec.post enc Tryz.prog Tryz.f8 false true false false) := by
  refine returnsInHanded_of_change_shaped (C := Tryz.checked) own started (by kernel_rfl) Tryz.func8
    (ChangeSpec.witness6 (enc := enc) (C := Tryz.checked) false ⟨#[], #[.agg #[.slice none 0 0], .int .i64 0, .slice none 0 0, .int .i64 0, .int .i64 0], []⟩ 8 (by kernel_rfl) (by kernel_rfl) (by kernel_rfl) (by kernel_rfl)) ?_
  intro W base args ds gs before hval0 hW hcnd hsz hsh _
  have hval : ∀ (j : Nat) t v, Tryz.f8.params[j]? = some t → args[j]? = some v → Value.okWide Tryz.prog W .any base t v := hval0
  have hW' := hW
  obtain ⟨p, q, hA0, hV, rfl, hfz, hnd⟩ := hW
  have hA : DataW.TrodAll enc Tryz.prog W 0 (fun _ => true) true Tryz.f8.params.toList args.toList ds p := hA0
  rw [Tryz.params8] at hA hval hsz
  obtain ⟨v0, vs0, d0, ds0, p0, q0, hargs, rfl, rfl, h0, r0⟩ := trodAll_cons hA
  obtain ⟨v1, vs1, d1, ds1, p1, q1, rfl, rfl, rfl, h1, r1⟩ := trodAll_cons r0
  obtain ⟨v2, vs2, d2, ds2, p2, q2, rfl, rfl, rfl, h2, r2⟩ := trodAll_cons r1
  obtain ⟨v3, vs3, d3, ds3, p3, q3, rfl, rfl, rfl, h3, r3⟩ := trodAll_cons r2
  obtain ⟨v4, vs4, d4, ds4, p4, q4, rfl, rfl, rfl, h4, r4⟩ := trodAll_cons r3
  obtain ⟨rfl, rfl, rfl⟩ := trodAll_nil r4
  obtain rfl : args = #[v0, v1, v2, v3, v4] := by cases args; simp_all
  obtain ⟨rfl, rfl⟩ := trodVars_none hV
  have lt0 : ∀ x ∈ p0, x.block < W.heap.size := by obtain ⟨m, hm⟩ := h0; exact DataW.trod_lt m _ _ _ hm
  have k0 := h0
  have lt1 : ∀ x ∈ p1, x.block < W.heap.size := by obtain ⟨m, hm⟩ := h1; exact DataW.trod_lt m _ _ _ hm
  have k1 := h1
  have lt2 : ∀ x ∈ p2, x.block < W.heap.size := by obtain ⟨m, hm⟩ := h2; exact DataW.trod_lt m _ _ _ hm
  have k2 := h2
  have lt3 : ∀ x ∈ p3, x.block < W.heap.size := by obtain ⟨m, hm⟩ := h3; exact DataW.trod_lt m _ _ _ hm
  have k3 := h3
  have lt4 : ∀ x ∈ p4, x.block < W.heap.size := by obtain ⟨m, hm⟩ := h4; exact DataW.trod_lt m _ _ _ hm
  have k4 := h4
  obtain ⟨A0, n0, c0, T0, rfl, hT0⟩ := tree_open (hval 0 _ v0 rfl rfl) h0
  obtain ⟨a1, rfl, rfl, rfl, w1⟩ := open_int Tryz.underlying3 (hval 1 _ v1 rfl rfl) h1
  obtain ⟨A2, n2, c2, N2, l2, rfl, hk2a, hk2b, hR2, hz2⟩ := sels_open (hval 2 _ v2 rfl rfl) h2 (weight_le hsz (j := 2) rfl rfl)
  obtain ⟨a3, rfl, rfl, rfl, w3⟩ := open_int Tryz.underlying3 (hval 3 _ v3 rfl rfl) h3
  obtain ⟨a4, rfl, rfl, rfl, w4⟩ := open_int Tryz.underlying3 (hval 4 _ v4 rfl rfl) h4
  clear hA0 hval0
  refine (walk A0 n0 c0 T0 a1 A2 n2 c2 N2 l2 a3 a4 W hT0  hR2 hz2 hk2a hk2b   (hasMax_of hsh)).mono fun e W' ⟨he, bel⟩ => ?_
  subst he
  exact ⟨_, rfl, _, _, _, [], _, [], hW', trodAll_mk1 (shut_bool Tryz.underlying4 _), (trodAll_cons_mk (Below.trod laidOut (by kernel_rfl) (of_decide_eq_true (by kernel_rfl)) k0 bel lt0) (trodAll_cons_mk (Below.trod laidOut (by kernel_rfl) (of_decide_eq_true (by kernel_rfl)) k1 bel lt1) (trodAll_cons_mk (Below.trod laidOut (by kernel_rfl) (of_decide_eq_true (by kernel_rfl)) k2 bel lt2) (trodAll_cons_mk (Below.trod laidOut (by kernel_rfl) (of_decide_eq_true (by kernel_rfl)) k3 bel lt3) (trodAll_cons_mk (Below.trod laidOut (by kernel_rfl) (of_decide_eq_true (by kernel_rfl)) k4 bel lt4) trodAll_mk0))))), rfl, bel.frame _, fun h => by cases h⟩

theorem proved : Rows.MatcherWhichSaid :=
  OpenClaim.holds_of_wide 8 Tryz.f8 rfl rfl rfl rfl rfl rfl rfl ⟨rfl, rfl, rfl, rfl, rfl⟩ rfl rfl rfl rfl rfl (by kernel_rfl) Tryz.func8 (by kernel_rfl)
    (of_decide_eq_true (by kernel_rfl)) (by unfold Func.isWrapper; first | (rw [if_pos (by decide +kernel)]; kernel_rfl) | (rw [if_neg (by decide +kernel)]; exact ⟨rfl, rfl⟩))
    (fun os started H enc _ => lifted os started H enc)
#print axioms proved
end Go.Proofs.YtljloicgjgbplaaGreat.matcherWhich
