/- An element is in the reach of each of its partners for the same combinator, and no others, in document order; unless the tree is greater than the statement considers. No condition. -/
import Derived.Test.YtaliekkdamghbaaHx
import Derived.Test.YtaliekkdamghbaaHe
import Derived.Test.YtaliekkdamghbaaPhr
import Derived.Test.YtaliekkdamghbaaDa
import Derived.Test.YtaliekkdamghbaaOpen
import Derived.Deep.RegionHeld3
namespace Go.Proofs.Ytaliekkdamghbaa.hasReach
open Go.ChangeShapes Go.WideShapes Go.ChangeAt Go.RowKit

theorem compare_at (T : List ANode) (i k v c0 : Int) (h0 : cmpE T i k = c0) (hl : cmpV T i k = v) (A : Option Addr) (n c : Nat) (w : World) (h : IsTree w A n T) :
    Calls Try.prog 42 #[.agg #[.slice A n c], .int .i64 i, .int .i64 k] w fun e w' => e = .returned (.tuple #[.int .i64 v, .int .i64 c0]) ∧ Below w.heap.size w w' := by
  have := compare_ok A n c T i k w h
  rw [h0, hl] at this
  exact this
theorem dec_take {l : List Int} {q : Nat} (hq : q < l.length) (k : Int) : decide (k ∈ l.take (q + 1)) = (decide (k ∈ l.take q) || decide (ix l q = k)) := by
  rw [Bool.eq_iff_iff, Bool.or_eq_true, decide_eq_true_eq, decide_eq_true_eq, decide_eq_true_eq, List.take_succ_eq_append_getElem hq, List.mem_append, List.mem_singleton, ix_get hq]
  exact ⟨fun h => h.imp id Eq.symm, fun h => h.imp id Eq.symm⟩

theorem own_one (W : World) (g base n ii : Nat) (hg : g = W.heap.size) (hb : base ≤ g) (hn : n ≤ 140737488351232) : (W.alloc (.cells ((madeCells #[.bool false] n).setIfInBounds ii (.bool true)) 4)).ownsRow base 4 1 (.slice (some ⟨g, 0, none⟩) n n) n (bools (oneB n ii)) := by
  subst hg
  have h := World.ownsRow_lit W (e := 4) (base := base) (size := 1) ((madeCells #[.bool false] n).setIfInBounds ii (.bool true)) n hb (by unfold maxLen; omega) (by rw [Array.size_setIfInBounds, ← Array.length_toList, toList_madeCells_one, List.length_replicate]; omega)
  rw [Array.toList_setIfInBounds, toList_madeCells_one] at h
  have e : bools (oneB n ii) = (List.replicate n (.bool false)).set ii (.bool true) := by unfold bools oneB; rw [List.map_set]; simp
  rw [e]; exact h
set_option maxRecDepth 100000 in
set_option maxHeartbeats 6000000 in
theorem walk (A : Option Addr) (n c : Nat) (T : List ANode) (i k ld : Int) (w : World) (h : IsTree w A n T) :
    Calls Try.prog 13 #[.agg #[.slice A n c], .int .i64 i, .int .i64 k, .int .u8 ld] w fun e w' => e = .returned (.bool true) ∧ Below w.heap.size w w' := by
  have hT := hide h
  have hl := h.1
  clear h
  have hB0 := below_alloc (Below.refl w.heap.size w) (.cells #[.slice A n c] 24)
  have hbox0 : (w.alloc (.cells #[.slice A n c] 24)).cell? ⟨w.heap.size, 0, none⟩ = some (.slice A n c) := by go_simp
  cases hs : small21 T [] []
  · have hs' := hide hs
    clear hs
    go_enter Try.func13, Try.ntmps13
    go_wp2_with fail
    refine (alive22_ok _).mono ?_
    rintro e w1 ⟨rfl, hb1⟩
    have hbox1 := cell_later hb1 hbox0
    have hB1 := Below.on hB0 hb1
    go_wp2_with fail
    have hx := great21_ok _ none none _ c 0 0 0 0 T [] [] _ (hT.out.below hB1) (isU8_nil _) (isBB_nil _)
    rw [hs'.out] at hx
    refine hx.mono ?_
    clear hx
    rintro e1 w2 ⟨rfl, hb2⟩
    have hB2 := Below.on hB1 hb2
    have hbox2 := cell_later hb2 hbox1
    clear hb2 hbox1
    go_wp2
    go_ret
    exact ⟨rfl, hB2⟩
  · have hs' := hide hs
    clear hs
    by_cases hi0 : askI T [i] = 0
    · have hgi := askI_zero.1 hi0
      have hg := hgi.1
      have hir := hgi.2 i (by simp)
      obtain ⟨ii, rfl⟩ := Int.eq_ofNat_of_zero_le hir.1
      have hii : ii < n := by omega
      have hi0' := hide hi0
      have hg' := hide hg
      clear hgi hir hi0
      by_cases hk0 : askI T [k] = 0
      · have hkr := (askI_zero.1 hk0).2 k (by simp)
        obtain ⟨kk, rfl⟩ := Int.eq_ofNat_of_zero_le hkr.1
        have hkk : kk < n := by omega
        have hk0' := hide hk0
        clear hkr hk0
        by_cases hld : 1 ≤ ld ∧ ld ≤ 4
        · have hldv : Hid ((decide (1 ≤ ld) && decide (ld ≤ 4)) = true) := by show _ = _; rw [decide_eq_true hld.1, decide_eq_true hld.2]; rfl
          have hld' := hide hld
          obtain ⟨L, hL0⟩ : ∃ L, nearF T ii ld = L := ⟨_, rfl⟩
          obtain ⟨lm, hlm⟩ : ∃ lm, L.length = lm := ⟨_, rfl⟩
          have hL := hide hL0
          have hlm' := hide hlm
          have hrc : Hid (rchC T ii ld = 0) := rchC_zero.2 ⟨hg, ⟨by omega, by omega⟩, hld.1, hld.2⟩
          have hrx : Hid (rchX T ii ld = L) := by
            show _ = _
            unfold rchX
            rw [if_pos hi0'.out, if_pos (ldE_zero.2 ⟨hg, hld.1, hld.2⟩), Int.toNat_natCast, hL0]
          have hm0 : Hid (cask T (kk : Int) [ld] (twoH (oneB n ii) n) = 0) := by
            show _ = _
            have := two_ask hg (c := ld) (oneB T.length ii) (by simp [oneB]) hld.1 hld.2 (i := kk) (by omega)
            rwa [hl] at this
          have hm1 : Hid (matE T (kk : Int) [ld] (twoH (oneB n ii) n) = decide ((kk : Int) ∈ L)) := by
            show _ = _
            have := two_mat hg (c := ld) (oneB T.length ii) (by simp [oneB]) hld.1 hld.2 (i := kk) (by omega)
            rw [one_any hg (show ii < T.length by omega) (show kk < T.length by omega) hld.1 hld.2, hL0, hl] at this
            exact this
          have hlen : lm ≤ n := by have := near_len hg (show ii < T.length by omega) ld; rw [hL0, hlm] at this; omega
          have hn64 : n ≤ 64 := by have := ((goodB_iff T).1 hg).2.1; omega
          clear hg hld hL0 hlm
          go_enter Try.func13, Try.ntmps13
          go_wp2_with fail
          refine (alive22_ok _).mono ?_
          rintro e w1 ⟨rfl, hb1⟩
          have hbox1 := cell_later hb1 hbox0
          have hB1 := Below.on hB0 hb1
          go_wp2_with fail
          have hx := great21_ok _ none none _ c 0 0 0 0 T [] [] _ (hT.out.below hB1) (isU8_nil _) (isBB_nil _)
          rw [hs'.out] at hx
          refine hx.mono ?_
          clear hx
          rintro e1 w2 ⟨rfl, hb2⟩
          have hB2 := Below.on hB1 hb2
          have hbox2 := cell_later hb2 hbox1
          clear hb2 hbox1
          go_wp2_with fail
          have hx := rasked_ok _ _ c T ii _ (hT.out.below hB2)
          rw [hi0'.out] at hx
          refine hx.mono ?_
          clear hx
          rintro e1 w3 ⟨rfl, hb3⟩
          have hB3 := Below.on hB2 hb3
          have hbox3 := cell_later hb3 hbox2
          clear hb3 hbox2
          go_wp2_with fail
          have hx := rasked_ok _ _ c T kk _ (hT.out.below hB3)
          rw [hk0'.out] at hx
          refine hx.mono ?_
          clear hx
          rintro e1 w4 ⟨rfl, hb4⟩
          have hB4 := Below.on hB3 hb4
          have hbox4 := cell_later hb4 hbox3
          clear hb4 hbox3
          go_wp2_with fail
          have hx := rlead_ok ld w4
          rw [hldv.out] at hx
          refine hx.mono ?_
          clear hx
          rintro e1 w5 ⟨rfl, rfl⟩
          go_wp2_with fail
          refine (hReach_at T ii ld L 0 hrc.out hrx.out _ _ c _ (hT.out.below hB4)).mono ?_
          rintro e6 w6 ⟨A6, c6, rfl, hI6, hb6⟩
          have hB6 := Below.on hB4 hb6
          have hbox6 := cell_later hb6 hbox4
          rw [hlm'.out] at hI6 ⊢
          have hI6' := hide hI6
          clear hb6 hbox4 hI6
          go_wp2
          go_loopw [12, 13] (fun v s wr => ∃ q : Nat, q ≤ lm ∧ s = .int .i64 q ∧ v = .bool (decide ((kk : Int) ∈ L.take q)) ∧ Below w6.heap.size w6 wr) (fun _ s _ => lm - (intOf s).toNat)
          case atStart => exact ⟨0, by omega, rfl, by simp, Below.refl _ _⟩
          case round =>
            obtain ⟨q, hq, rfl, rfl, hb⟩ := hrel
            have hBr := Below.on hB6 hb
            have hboxr := cell_later hb hbox6
            by_cases hlt : q < lm
            · obtain ⟨b6, o6, rfl, hb6, hc6⟩ := hI6'.out.2.2 (by omega)
              have gq := (old hb _ _ hb6).trans (hc6 q (by omega))
              have hv : decide ((kk : Int) ∈ L.take (q + 1)) = (decide ((kk : Int) ∈ L.take q) || decide (ix L q = kk)) := dec_take (by have := hlm'.out; omega) _
              have gq1 : 0 < q → wr.cell? ⟨b6, o6 + (q - 1), none⟩ = some (.int .i64 (ix L (q - 1))) := fun h0 => (old hb _ _ hb6).trans (hc6 (q - 1) (by omega))
              have hcons : 0 < q → cmpE T (ix L (q - 1)) (ix L q) = 0 ∧ cmpV T (ix L (q - 1)) (ix L q) = -1 := fun h0 => by
                have := near_next hg'.out (show ii < T.length by omega) (c := ld) (k := q - 1) (by rw [hL.out, hlm'.out]; omega)
                rw [hL.out, show q - 1 + 1 = q by omega] at this
                exact this
              have q0 : (0 : Int) ≤ (q : Int) := by omega
              have q1 : (q : Int) < (lm : Int) := by omega
              clear hc6
              obtain ⟨vn, hvn⟩ : ∃ v, decide ((kk : Int) ∈ L.take (q + 1)) = v := ⟨_, rfl⟩
              rw [hvn] at hv
              have hvn' := hide hvn
              clear hvn
              generalize decide ((kk : Int) ∈ L.take q) = va at hv ⊢
              obtain ⟨z, hz⟩ : ∃ z, ix L q = z := ⟨_, rfl⟩
              rw [hz] at hv gq hcons
              have hz' := hide hz
              clear hz
              by_cases hq0 : 0 < q
              · obtain ⟨h91, h92⟩ := hcons hq0
                have g1 := gq1 hq0
                have h91' := hide h91
                have h92' := hide h92
                have e1' : IntKind.i64.wrap ((q : Int) - 1) = ((q - 1 : Nat) : Int) := by rw [show ((q : Int) - 1) = ((q - 1 : Nat) : Int) by omega]; exact IntWalk.i64_in _ (by omega)
                have hx0 : (0 : Int) ≤ ((q - 1 : Nat) : Int) := by omega
                have hx1 : ((q - 1 : Nat) : Int) < (lm : Int) := by omega
                have hx2 : q - 1 < lm := by omega
                have hx5 : (0 : Int) < (q : Int) := by omega
                clear gq1 hcons h91 h92
                generalize ix L (q - 1) = zp at g1 h91' h92'
                have hk9 := hide (fun W (hW : Below w.heap.size w W) => compare_at T zp z (-1) 0 h91'.out h92'.out A n c W (hT.out.below hW))
                have hbd : Below w.heap.size w wr.drew := hBr.drew
                cases va
                · by_cases hzk : z = kk
                  · subst hzk
                    go_wp2
                    go_region_held3 (fun X => X.cell? ⟨w.heap.size, 0, none⟩ = some (.slice A n c) ∧ X.cell? ⟨b6, o6 + (q - 1), none⟩ = some (.int .i64 zp) ∧ X.cell? ⟨b6, o6 + q, none⟩ = some (.int .i64 (kk : Int))) (first | exact ⟨hboxr, g1, gq⟩ | exact ⟨r0, r1, r2⟩) (first | (go_at_call 42; (with_reducible refine (hk9.out _ hbd).mono ?_); rintro e u1 ⟨rfl, hu1⟩; have r0 := cell_later hu1 hboxr; have r1 := cell_later hu1 g1; have r2 := cell_later hu1 gq))
                    go_wp2
                    go_roundw
                    case rel => exact ⟨q + 1, by omega, by go_num, by rw [hvn'.out, hv]; simp_all, Below.on hb.drew hu1⟩
                    case measure => simp [intOf]; omega
                  · go_wp2
                    go_region_held3 (fun X => X.cell? ⟨w.heap.size, 0, none⟩ = some (.slice A n c) ∧ X.cell? ⟨b6, o6 + (q - 1), none⟩ = some (.int .i64 zp) ∧ X.cell? ⟨b6, o6 + q, none⟩ = some (.int .i64 z)) (first | exact ⟨hboxr, g1, gq⟩ | exact ⟨r0, r1, r2⟩) (first | (go_at_call 42; (with_reducible refine (hk9.out _ hbd).mono ?_); rintro e u1 ⟨rfl, hu1⟩; have r0 := cell_later hu1 hboxr; have r1 := cell_later hu1 g1; have r2 := cell_later hu1 gq))
                    go_wp2
                    go_roundw
                    case rel => exact ⟨q + 1, by omega, by go_num, by rw [hvn'.out, hv]; simp_all, Below.on hb.drew hu1⟩
                    case measure => simp [intOf]; omega
                · go_wp2
                  go_region_held3 (fun X => X.cell? ⟨w.heap.size, 0, none⟩ = some (.slice A n c) ∧ X.cell? ⟨b6, o6 + (q - 1), none⟩ = some (.int .i64 zp) ∧ X.cell? ⟨b6, o6 + q, none⟩ = some (.int .i64 z)) (first | exact ⟨hboxr, g1, gq⟩ | exact ⟨r0, r1, r2⟩) (first | (go_at_call 42; (with_reducible refine (hk9.out _ hbd).mono ?_); rintro e u1 ⟨rfl, hu1⟩; have r0 := cell_later hu1 hboxr; have r1 := cell_later hu1 g1; have r2 := cell_later hu1 gq))
                  go_wp2
                  go_roundw
                  case rel => exact ⟨q + 1, by omega, by go_num, by rw [hvn'.out, hv]; simp_all, Below.on hb.drew hu1⟩
                  case measure => simp [intOf]; omega
              · obtain rfl : q = 0 := by omega
                clear gq1 hcons
                rw [Nat.add_zero] at gq
                cases va
                · by_cases hzk : z = kk
                  · subst hzk
                    go_wp2
                    go_roundw
                    case rel => exact ⟨0 + 1, by omega, by go_num, by rw [hvn'.out, hv]; simp_all, hb⟩
                    case measure => simp [intOf]; omega
                  · go_wp2
                    go_roundw
                    case rel => exact ⟨0 + 1, by omega, by go_num, by rw [hvn'.out, hv]; simp_all, hb⟩
                    case measure => simp [intOf]; omega
                · go_wp2
                  go_roundw
                  case rel => exact ⟨0 + 1, by omega, by go_num, by rw [hvn'.out, hv]; simp_all, hb⟩
                  case measure => simp [intOf]; omega
            · obtain rfl : lm = q := by omega
              have hall : decide ((kk : Int) ∈ L.take lm) = decide ((kk : Int) ∈ L) := by rw [← hlm'.out, List.take_length]
              rw [hall]
              have hmk := mk_bools n (by omega)
              have hmc : (madeCells #[Value.bool false] n)[ii]? = some (.bool false) := by rw [← Array.getElem?_toList, toList_madeCells_one, List.getElem?_replicate, if_pos hii]
              clear hall hq hlt
              generalize wr = w7 at *
              go_wp2
              go_region_held3 (fun X => X.cell? ⟨w.heap.size, 0, none⟩ = some (.slice A n c)) (first | exact hboxr | exact far_alloc' hboxr _ | exact far_alloc' (far_alloc' hboxr _) _) (first | fail)
              all_goals go_wp2
              · have hWB : Below w7.heap.size w7 ((w7.alloc (.cells ((madeCells #[.bool false] n).setIfInBounds ii (.bool true)) 4)).alloc (.cells (madeCells #[.bool false] n) 4)).drew := (below_alloc (below_alloc (Below.refl _ _) _) _).drew
                have hdr : Below (((w7.alloc (.cells ((madeCells #[.bool false] n).setIfInBounds ii (.bool true)) 4)).alloc (.cells (madeCells #[.bool false] n) 4))).heap.size ((w7.alloc (.cells ((madeCells #[.bool false] n).setIfInBounds ii (.bool true)) 4)).alloc (.cells (madeCells #[.bool false] n) 4)) ((w7.alloc (.cells ((madeCells #[.bool false] n).setIfInBounds ii (.bool true)) 4)).alloc (.cells (madeCells #[.bool false] n) 4)).drew := (Below.refl _ _).drew
                have hone : IsBools ((w7.alloc (.cells ((madeCells #[.bool false] n).setIfInBounds ii (.bool true)) 4)).alloc (.cells (madeCells #[.bool false] n) 4)).drew (some ⟨w7.heap.size, 0, none⟩) n (oneB n ii) := (own_isBools (World.ownsRow.alloc (own_one w7 _ w7.heap.size n ii rfl (Nat.le_refl _) (by omega)) _) (by omega)).below hdr
                have hall : (((w7.alloc (.cells ((madeCells #[.bool false] n).setIfInBounds ii (.bool true)) 4)).alloc (.cells (madeCells #[.bool false] n) 4)).drew).ownsRow w7.heap.size 4 1 (.slice (some ⟨w7.heap.size + 1, 0, none⟩) n n) n (bools (List.replicate n false)) := own_below (own_mk' _ _ w7.heap.size n (by simp) (by omega) (by omega)) hdr
                generalize World.drew _ = wx at *
                go_loopw [18] (fun s wr => ∃ q : Nat, q ≤ n ∧ s = .int .i64 q ∧ Below w7.heap.size w7 wr ∧ IsBools wr (some ⟨w7.heap.size, 0, none⟩) n (oneB n ii) ∧ wr.ownsRow w7.heap.size 4 1 (.slice (some ⟨w7.heap.size + 1, 0, none⟩) n n) n (bools (List.replicate q true ++ List.replicate (n - q) false))) (fun s _ => n - (intOf s).toNat)
                case atStart => exact ⟨0, Nat.zero_le _, rfl, hWB, hone, by simpa using hall⟩
                case round =>
                  obtain ⟨q, hq, rfl, hbz, honez, hown⟩ := hrel
                  by_cases hlt : q < n
                  · obtain ⟨g, cap, cs, hv, h1, h2, h3, h4⟩ := own_blk hown (by omega)
                    injection hv with e1 e2 e3
                    injection e1 with e1
                    injection e1 with e1 e4 e5
                    subst e1 e3
                    have hcell : wr.cell? ⟨w7.heap.size + 1, q, none⟩ = some (.bool (bx (List.replicate q true ++ List.replicate (n - q) false) q)) := by
                      rw [World.ownsRow.cellAt hown q (by omega), bools_get (by simp; omega)]
                    have hfz : wr.frozen? ⟨w7.heap.size + 1, q, none⟩ = false := blk_frozen h4 _
                    have hlr := blk_lt h4
                    have hown' := hide hown
                    have hone' := hide honez
                    have hs1 := hide (fill_set' n q hlt)
                    clear hown honez h4 e2 e4 e5
                    go_wp2
                    go_roundw
                    case rel =>
                      refine ⟨q + 1, by omega, by go_num, hbz.setCell (p := ⟨w7.heap.size + 1, q, none⟩) (by show w7.heap.size ≤ _; omega) _, isBools_far hone'.out (by show w7.heap.size + 1 ≠ w7.heap.size; omega) _, ?_⟩
                      have h9 := own_upd (o := q) hown'.out (.bool true)
                      rw [bools_set, hs1.out] at h9
                      exact h9
                    case measure => simp [intOf]; omega
                  · obtain rfl : q = n := by omega
                    have hIL := own_isBools hown (by omega)
                    rw [Nat.sub_self, List.replicate_zero, List.append_nil] at hIL
                    generalize wr = u at *
                    have hB2 := Below.on hBr (show Below w7.heap.size w7 u from hbz)
                    have hbox2 := cell_later hbz hboxr
                    have hlu : w.heap.size < u.heap.size := cell_in hbox2
                    have z1 := below_alloc (Below.refl u.heap.size u) (.cells #[.int .u8 ld] 5)
                    have hI0 : IsBB ((u.alloc (.cells #[.int .u8 ld] 5)).alloc (.cells #[.slice (some ⟨w7.heap.size, 0, none⟩) q q, .slice (some ⟨w7.heap.size + 1, 0, none⟩) q q] 31)) (some ⟨u.heap.size + 1, 0, none⟩) 2 (twoH (oneB q ii) q) := by
                      refine isBB_lt _ _ _ (twoH (oneB q ii) q) (fun j => if j = 0 then some ⟨w7.heap.size, 0, none⟩ else some ⟨w7.heap.size + 1, 0, none⟩) (fun j => q) _ (by show 2 ≤ 1000; omega) (by simp) (fun j hj => ?_) (fun j hj => ?_)
                      · have hj2 : j = 0 ∨ j = 1 := by simp [twoH] at hj; omega
                        rcases hj2 with rfl | rfl
                        · show some _ = some (Value.slice (some ⟨w7.heap.size, 0, none⟩) (oneB q ii).length q)
                          rw [show (oneB q ii).length = q by simp [oneB]]; rfl
                        · show some _ = some (Value.slice (some ⟨w7.heap.size + 1, 0, none⟩) (List.replicate q true).length q)
                          rw [List.length_replicate]; rfl
                      · have hj2 : j = 0 ∨ j = 1 := by simp [twoH] at hj; omega
                        rcases hj2 with rfl | rfl
                        · show IsBools _ (some ⟨w7.heap.size, 0, none⟩) (oneB q ii).length (oneB q ii) ∧ (oneB q ii).length ≤ q ∧ q ≤ 9223372036854775807
                          rw [show (oneB q ii).length = q by simp [oneB]]
                          exact ⟨honez.below z1, Nat.le_refl _, by omega⟩
                        · show IsBools _ _ (List.replicate q true).length (List.replicate q true) ∧ (List.replicate q true).length ≤ q ∧ q ≤ 9223372036854775807
                          rw [List.length_replicate]
                          exact ⟨hIL.below z1, Nat.le_refl _, by omega⟩
                    have hI := hide hI0
                    have z2 := below_alloc z1 (.cells #[.slice (some ⟨w7.heap.size, 0, none⟩) q q, .slice (some ⟨w7.heap.size + 1, 0, none⟩) q q] 31)
                    have hU := hide ((isU8_lt u u.heap.size 5 [ld] (by simp) (by have := hld'.out; simp; omega) rfl).below (below_alloc (Below.refl _ _) (.cells #[.slice (some ⟨w7.heap.size, 0, none⟩) q q, .slice (some ⟨w7.heap.size + 1, 0, none⟩) q q] 31)))
                    clear hIL hown hI0
                    go_wp2_with fail
                    refine (cmatch_at T kk [ld] (twoH (oneB q ii) q) (decide ((kk : Int) ∈ L)) 0 hm0.out hm1.out _ _ _ _ c 1 _ 2 _ _ (hT.out.below (Below.on hB2 z2)) hU.out hI.out).mono ?_
                    rintro e9 w9 ⟨rfl, hb9⟩
                    have hB9 := Below.on hB2 (Below.on z2 hb9)
                    generalize decide ((kk : Int) ∈ L) = v
                    clear hI hU hm1 hb9
                    cases v
                    all_goals
                      go_wp2
                      go_ret
                      exact ⟨rfl, hB9⟩
              · have hWB : Below w7.heap.size w7 ((w7.alloc (.cells (madeCells #[.bool false] n) 4)).alloc (.cells ((madeCells #[.bool false] n).setIfInBounds ii (.bool true)) 4)).drew := (below_alloc (below_alloc (Below.refl _ _) _) _).drew
                have hdr : Below (((w7.alloc (.cells (madeCells #[.bool false] n) 4)).alloc (.cells ((madeCells #[.bool false] n).setIfInBounds ii (.bool true)) 4))).heap.size ((w7.alloc (.cells (madeCells #[.bool false] n) 4)).alloc (.cells ((madeCells #[.bool false] n).setIfInBounds ii (.bool true)) 4)) ((w7.alloc (.cells (madeCells #[.bool false] n) 4)).alloc (.cells ((madeCells #[.bool false] n).setIfInBounds ii (.bool true)) 4)).drew := (Below.refl _ _).drew
                have hall : (((w7.alloc (.cells (madeCells #[.bool false] n) 4)).alloc (.cells ((madeCells #[.bool false] n).setIfInBounds ii (.bool true)) 4)).drew).ownsRow w7.heap.size 4 1 (.slice (some ⟨w7.heap.size, 0, none⟩) n n) n (bools (List.replicate n false)) := own_below (World.ownsRow.alloc (own_mk' w7 _ w7.heap.size n rfl (Nat.le_refl _) (by omega)) _) hdr
                have hone : IsBools ((w7.alloc (.cells (madeCells #[.bool false] n) 4)).alloc (.cells ((madeCells #[.bool false] n).setIfInBounds ii (.bool true)) 4)).drew (some ⟨w7.heap.size + 1, 0, none⟩) n (oneB n ii) := (own_isBools (own_one _ _ w7.heap.size n ii (by simp) (by omega) (by omega)) (by omega)).below hdr
                generalize World.drew _ = wx at *
                go_loopw [18] (fun s wr => ∃ q : Nat, q ≤ n ∧ s = .int .i64 q ∧ Below w7.heap.size w7 wr ∧ IsBools wr (some ⟨(w7.heap.size + 1), 0, none⟩) n (oneB n ii) ∧ wr.ownsRow w7.heap.size 4 1 (.slice (some ⟨w7.heap.size, 0, none⟩) n n) n (bools (List.replicate q true ++ List.replicate (n - q) false))) (fun s _ => n - (intOf s).toNat)
                case atStart => exact ⟨0, Nat.zero_le _, rfl, hWB, hone, by simpa using hall⟩
                case round =>
                  obtain ⟨q, hq, rfl, hbz, honez, hown⟩ := hrel
                  by_cases hlt : q < n
                  · obtain ⟨g, cap, cs, hv, h1, h2, h3, h4⟩ := own_blk hown (by omega)
                    injection hv with e1 e2 e3
                    injection e1 with e1
                    injection e1 with e1 e4 e5
                    subst e1 e3
                    have hcell : wr.cell? ⟨w7.heap.size, q, none⟩ = some (.bool (bx (List.replicate q true ++ List.replicate (n - q) false) q)) := by
                      rw [World.ownsRow.cellAt hown q (by omega), bools_get (by simp; omega)]
                    have hfz : wr.frozen? ⟨w7.heap.size, q, none⟩ = false := blk_frozen h4 _
                    have hlr := blk_lt h4
                    have hown' := hide hown
                    have hone' := hide honez
                    have hs1 := hide (fill_set' n q hlt)
                    clear hown honez h4 e2 e4 e5
                    go_wp2
                    go_roundw
                    case rel =>
                      refine ⟨q + 1, by omega, by go_num, hbz.setCell (p := ⟨w7.heap.size, q, none⟩) (by show w7.heap.size ≤ _; omega) _, isBools_far hone'.out (by show w7.heap.size ≠ (w7.heap.size + 1); omega) _, ?_⟩
                      have h9 := own_upd (o := q) hown'.out (.bool true)
                      rw [bools_set, hs1.out] at h9
                      exact h9
                    case measure => simp [intOf]; omega
                  · obtain rfl : q = n := by omega
                    have hIL := own_isBools hown (by omega)
                    rw [Nat.sub_self, List.replicate_zero, List.append_nil] at hIL
                    generalize wr = u at *
                    have hB2 := Below.on hBr (show Below w7.heap.size w7 u from hbz)
                    have hbox2 := cell_later hbz hboxr
                    have hlu : w.heap.size < u.heap.size := cell_in hbox2
                    have z1 := below_alloc (Below.refl u.heap.size u) (.cells #[.int .u8 ld] 5)
                    have hI0 : IsBB ((u.alloc (.cells #[.int .u8 ld] 5)).alloc (.cells #[.slice (some ⟨(w7.heap.size + 1), 0, none⟩) q q, .slice (some ⟨w7.heap.size, 0, none⟩) q q] 31)) (some ⟨u.heap.size + 1, 0, none⟩) 2 (twoH (oneB q ii) q) := by
                      refine isBB_lt _ _ _ (twoH (oneB q ii) q) (fun j => if j = 0 then some ⟨(w7.heap.size + 1), 0, none⟩ else some ⟨w7.heap.size, 0, none⟩) (fun j => q) _ (by show 2 ≤ 1000; omega) (by simp) (fun j hj => ?_) (fun j hj => ?_)
                      · have hj2 : j = 0 ∨ j = 1 := by simp [twoH] at hj; omega
                        rcases hj2 with rfl | rfl
                        · show some _ = some (Value.slice (some ⟨(w7.heap.size + 1), 0, none⟩) (oneB q ii).length q)
                          rw [show (oneB q ii).length = q by simp [oneB]]; rfl
                        · show some _ = some (Value.slice (some ⟨w7.heap.size, 0, none⟩) (List.replicate q true).length q)
                          rw [List.length_replicate]; rfl
                      · have hj2 : j = 0 ∨ j = 1 := by simp [twoH] at hj; omega
                        rcases hj2 with rfl | rfl
                        · show IsBools _ (some ⟨(w7.heap.size + 1), 0, none⟩) (oneB q ii).length (oneB q ii) ∧ (oneB q ii).length ≤ q ∧ q ≤ 9223372036854775807
                          rw [show (oneB q ii).length = q by simp [oneB]]
                          exact ⟨honez.below z1, Nat.le_refl _, by omega⟩
                        · show IsBools _ _ (List.replicate q true).length (List.replicate q true) ∧ (List.replicate q true).length ≤ q ∧ q ≤ 9223372036854775807
                          rw [List.length_replicate]
                          exact ⟨hIL.below z1, Nat.le_refl _, by omega⟩
                    have hI := hide hI0
                    have z2 := below_alloc z1 (.cells #[.slice (some ⟨(w7.heap.size + 1), 0, none⟩) q q, .slice (some ⟨w7.heap.size, 0, none⟩) q q] 31)
                    have hU := hide ((isU8_lt u u.heap.size 5 [ld] (by simp) (by have := hld'.out; simp; omega) rfl).below (below_alloc (Below.refl _ _) (.cells #[.slice (some ⟨(w7.heap.size + 1), 0, none⟩) q q, .slice (some ⟨w7.heap.size, 0, none⟩) q q] 31)))
                    clear hIL hown hI0
                    go_wp2_with fail
                    refine (cmatch_at T kk [ld] (twoH (oneB q ii) q) (decide ((kk : Int) ∈ L)) 0 hm0.out hm1.out _ _ _ _ c 1 _ 2 _ _ (hT.out.below (Below.on hB2 z2)) hU.out hI.out).mono ?_
                    rintro e9 w9 ⟨rfl, hb9⟩
                    have hB9 := Below.on hB2 (Below.on z2 hb9)
                    generalize decide ((kk : Int) ∈ L) = v
                    clear hI hU hm1 hb9
                    cases v
                    all_goals
                      go_wp2
                      go_ret
                      exact ⟨rfl, hB9⟩
        · have hldv : Hid ((decide (1 ≤ ld) && decide (ld ≤ 4)) = false) := by
            show _ = _
            rw [Bool.and_eq_false_iff, decide_eq_false_iff_not, decide_eq_false_iff_not]
            omega
          clear hld
          go_enter Try.func13, Try.ntmps13
          go_wp2_with fail
          refine (alive22_ok _).mono ?_
          rintro e w1 ⟨rfl, hb1⟩
          have hbox1 := cell_later hb1 hbox0
          have hB1 := Below.on hB0 hb1
          go_wp2_with fail
          have hx := great21_ok _ none none _ c 0 0 0 0 T [] [] _ (hT.out.below hB1) (isU8_nil _) (isBB_nil _)
          rw [hs'.out] at hx
          refine hx.mono ?_
          clear hx
          rintro e1 w2 ⟨rfl, hb2⟩
          have hB2 := Below.on hB1 hb2
          have hbox2 := cell_later hb2 hbox1
          clear hb2 hbox1
          go_wp2_with fail
          have hx := rasked_ok _ _ c T ii _ (hT.out.below hB2)
          rw [hi0'.out] at hx
          refine hx.mono ?_
          clear hx
          rintro e1 w3 ⟨rfl, hb3⟩
          have hB3 := Below.on hB2 hb3
          have hbox3 := cell_later hb3 hbox2
          clear hb3 hbox2
          go_wp2_with fail
          have hx := rasked_ok _ _ c T kk _ (hT.out.below hB3)
          rw [hk0'.out] at hx
          refine hx.mono ?_
          clear hx
          rintro e1 w4 ⟨rfl, hb4⟩
          have hB4 := Below.on hB3 hb4
          have hbox4 := cell_later hb4 hbox3
          clear hb4 hbox3
          go_wp2_with fail
          have hx := rlead_ok ld w4
          rw [hldv.out] at hx
          refine hx.mono ?_
          clear hx
          rintro e1 w5 ⟨rfl, rfl⟩
          go_wp2
          go_ret
          exact ⟨rfl, hB4⟩
      · have hk0' : (askI T [k] != 0) = true := by simp [hk0]
        clear hk0
        go_enter Try.func13, Try.ntmps13
        go_wp2_with fail
        refine (alive22_ok _).mono ?_
        rintro e w1 ⟨rfl, hb1⟩
        have hbox1 := cell_later hb1 hbox0
        have hB1 := Below.on hB0 hb1
        go_wp2_with fail
        have hx := great21_ok _ none none _ c 0 0 0 0 T [] [] _ (hT.out.below hB1) (isU8_nil _) (isBB_nil _)
        rw [hs'.out] at hx
        refine hx.mono ?_
        clear hx
        rintro e1 w2 ⟨rfl, hb2⟩
        have hB2 := Below.on hB1 hb2
        have hbox2 := cell_later hb2 hbox1
        clear hb2 hbox1
        go_wp2_with fail
        have hx := rasked_ok _ _ c T ii _ (hT.out.below hB2)
        rw [hi0'.out] at hx
        refine hx.mono ?_
        clear hx
        rintro e1 w3 ⟨rfl, hb3⟩
        have hB3 := Below.on hB2 hb3
        have hbox3 := cell_later hb3 hbox2
        clear hb3 hbox2
        go_wp2_with fail
        refine (rasked_ok _ _ c T k _ (hT.out.below hB3)).mono ?_
        rintro e1 w4 ⟨rfl, hb4⟩
        have hB4 := Below.on hB3 hb4
        go_wp2
        go_ret
        exact ⟨rfl, hB4⟩
    · have hi0' : (askI T [i] != 0) = true := by simp [hi0]
      clear hi0
      go_enter Try.func13, Try.ntmps13
      go_wp2_with fail
      refine (alive22_ok _).mono ?_
      rintro e w1 ⟨rfl, hb1⟩
      have hbox1 := cell_later hb1 hbox0
      have hB1 := Below.on hB0 hb1
      go_wp2_with fail
      have hx := great21_ok _ none none _ c 0 0 0 0 T [] [] _ (hT.out.below hB1) (isU8_nil _) (isBB_nil _)
      rw [hs'.out] at hx
      refine hx.mono ?_
      clear hx
      rintro e1 w2 ⟨rfl, hb2⟩
      have hB2 := Below.on hB1 hb2
      have hbox2 := cell_later hb2 hbox1
      clear hb2 hbox1
      go_wp2_with fail
      refine (rasked_ok _ _ c T i _ (hT.out.below hB2)).mono ?_
      rintro e1 w3 ⟨rfl, hb3⟩
      have hB3 := Below.on hB2 hb3
      have hbox3 := cell_later hb3 hbox2
      clear hb3 hbox2
      go_wp2
      go_ret
      exact ⟨rfl, hB3⟩

set_option maxRecDepth 100000 in
theorem lifted (os : Os) (started : os.Started) (H : Type) (enc : TypeId × Value → H) :
    ReturnsInHanded {} Try.checked os 13 .any (Rows.hasReachSpec.pre6 enc Try.prog Try.f13 Rows.hasReachRow.domain false) (Rows.hasReachSpec.post enc Try.prog Try.f13 false true false false) := by
  refine returnsInHanded_of_change (C := Try.checked) own started (by kernel_rfl) Try.func13
    (ChangeSpec.witness6 (enc := enc) (C := Try.checked) false ⟨#[], #[.agg #[.slice none 0 0], .int .i64 0, .int .i64 0, .int .u8 0], []⟩ 8 (by kernel_rfl) (by kernel_rfl) (by kernel_rfl) (by kernel_rfl)) ?_
  intro W base args ds gs before hval0 hW hcnd _
  have hval : ∀ (j : Nat) t v, Try.f13.params[j]? = some t → args[j]? = some v → Value.okWide Try.prog W .any base t v := hval0
  have hW' := hW
  obtain ⟨p, q, hA0, hV, rfl, hfz, hnd⟩ := hW
  have hA : DataW.TrodAll enc Try.prog W 0 (fun _ => true) true Try.f13.params.toList args.toList ds p := hA0
  rw [Try.params13] at hA hval
  obtain ⟨v0, vs0, d0, ds0, p0, q0, hargs, rfl, rfl, h0, r0⟩ := trodAll_cons hA
  obtain ⟨v1, vs1, d1, ds1, p1, q1, rfl, rfl, rfl, h1, r1⟩ := trodAll_cons r0
  obtain ⟨v2, vs2, d2, ds2, p2, q2, rfl, rfl, rfl, h2, r2⟩ := trodAll_cons r1
  obtain ⟨v3, vs3, d3, ds3, p3, q3, rfl, rfl, rfl, h3, r3⟩ := trodAll_cons r2
  obtain ⟨rfl, rfl, rfl⟩ := trodAll_nil r3
  obtain rfl : args = #[v0, v1, v2, v3] := by cases args; simp_all
  obtain ⟨rfl, rfl⟩ := trodVars_none hV
  have lt0 : ∀ x ∈ p0, x.block < W.heap.size := by obtain ⟨m, hm⟩ := h0; exact DataW.trod_lt m _ _ _ hm
  have k0 := h0
  have lt1 : ∀ x ∈ p1, x.block < W.heap.size := by obtain ⟨m, hm⟩ := h1; exact DataW.trod_lt m _ _ _ hm
  have k1 := h1
  have lt2 : ∀ x ∈ p2, x.block < W.heap.size := by obtain ⟨m, hm⟩ := h2; exact DataW.trod_lt m _ _ _ hm
  have k2 := h2
  have lt3 : ∀ x ∈ p3, x.block < W.heap.size := by obtain ⟨m, hm⟩ := h3; exact DataW.trod_lt m _ _ _ hm
  have k3 := h3
  obtain ⟨A0, n0, c0, T0, rfl, hT0⟩ := tree_open (hval 0 _ v0 rfl rfl) h0
  obtain ⟨a1, rfl, rfl, rfl, w1⟩ := open_int Try.underlying3 (hval 1 _ v1 rfl rfl) h1
  obtain ⟨a2, rfl, rfl, rfl, w2⟩ := open_int Try.underlying3 (hval 2 _ v2 rfl rfl) h2
  obtain ⟨a3, rfl, rfl, rfl, w3⟩ := open_int Try.underlying5 (hval 3 _ v3 rfl rfl) h3
  clear hA0 hval0
  refine (walk A0 n0 c0 T0 a1 a2 a3 W hT0   ).mono fun e W' ⟨he, bel⟩ => ?_
  subst he
  exact ⟨_, rfl, _, _, _, [], _, [], hW', trodAll_mk1 (shut_bool Try.underlying4 _), (trodAll_cons_mk (Below.trod laidOut (by kernel_rfl) (of_decide_eq_true (by kernel_rfl)) k0 bel lt0) (trodAll_cons_mk (Below.trod laidOut (by kernel_rfl) (of_decide_eq_true (by kernel_rfl)) k1 bel lt1) (trodAll_cons_mk (Below.trod laidOut (by kernel_rfl) (of_decide_eq_true (by kernel_rfl)) k2 bel lt2) (trodAll_cons_mk (Below.trod laidOut (by kernel_rfl) (of_decide_eq_true (by kernel_rfl)) k3 bel lt3) trodAll_mk0)))), rfl, bel.frame _, fun h => by cases h⟩

theorem proved : Rows.HasReachSaid :=
  OpenClaim.holds_of_wide 13 Try.f13 rfl rfl rfl rfl rfl rfl rfl ⟨rfl, rfl, rfl, rfl, rfl⟩ rfl rfl rfl rfl rfl (by kernel_rfl) Try.func13 (by kernel_rfl)
    (of_decide_eq_true (by kernel_rfl)) (by unfold Func.isWrapper; first | (rw [if_pos (by decide +kernel)]; kernel_rfl) | (rw [if_neg (by decide +kernel)]; exact ⟨rfl, rfl⟩))
    (fun os started H enc _ => lifted os started H enc)
#print axioms proved
end Go.Proofs.Ytaliekkdamghbaa.hasReach
