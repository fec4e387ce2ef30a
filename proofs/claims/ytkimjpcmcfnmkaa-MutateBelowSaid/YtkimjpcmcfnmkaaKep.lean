/- Walks: what is asked of a tree in which one element was moved. Condition: the tree is so. -/
import Derived.Test.YtkimjpcmcfnmkaaPlr
import Derived.Test.YtkimjpcmcfnmkaaWl
import Derived.Test.YtkimjpcmcfnmkaaOe
import Derived.Deep.RegionHeld3
import Derived.Deep.CutRange
namespace Go.Proofs.Ytkimjpcmcfnmkaa
open Go.RowKit

structure Kept (T X : List ANode) (k : Nat) : Prop where
  good : goodB X = true
  len : X.length = T.length
  tag : ∀ i, (nd X i).tag = (nd T i).tag
  att : ∀ i, (nd X i).attrs = (nd T i).attrs
  par : ∀ i, i ≠ k → par X i = par T i
  kid : ∀ i, less1 (kids X i) k = less1 (kids T i) k
theorem kept_put {T : List ANode} {p k : Nat} (hp : p < T.length) (hk : k < T.length) {nx : Int} (hg : goodB (putT T p k nx) = true) : Kept T (putT T p k nx) k := by
  refine ⟨hg, putT_len _ _ _ _, fun i => by rw [nd_put hp hk], fun i => by rw [nd_put hp hk], fun i hi => by rw [par_put hp hk, if_neg hi], fun i => ?_⟩
  rw [kids_put hp hk]
  split
  · rename_i h; rw [h, less1_insB _ (less1_self _ _)]
  · exact less1_less1 _ _
theorem kept_taken {T : List ANode} {k : Nat} (hk : k < T.length) (hg : goodB (takenT T k) = true) : Kept T (takenT T k) k :=
  ⟨hg, takenT_len _ _, fun i => tag_taken hk i, fun i => att_taken hk i, fun i hi => by rw [par_taken hk, if_neg hi], fun i => by rw [kids_taken hk, less1_less1]⟩

set_option maxRecDepth 100000 in
set_option maxHeartbeats 8000000 in
theorem kept_ok (A B : Option Addr) (n c d : Nat) (T X : List ANode) (k : Nat) (w : World) (h : IsTree w A n T) (h' : IsTree w B n X) (hK : Kept T X k) (hn64 : n ≤ 64) (hfT : Fits T) (hfX : Fits X) :
    Calls Try.prog 25 #[.agg #[.slice A n c], .agg #[.slice B n d], .int .i64 k] w fun e w' => e = .returned (.bool true) ∧ Below w.heap.size w w' := by
  have hl := h.1
  have hlX := h'.1
  have hT := hide h
  have hX := hide h'
  have ho1 := hide h.2.2.2
  have ho2 := hide h'.2.2.2
  have hK' := hide hK
  have hfT' := hide hfT
  have hfX' := hide hfX
  have hch : Hid (chk X = 0) := chk_ok hK.good
  clear h h' hK hfT hfX
  have hB0 : Below w.heap.size w ((w.alloc (.cells #[.slice A n c] 24)).alloc (.cells #[.slice B n d] 24)) := below_alloc (below_alloc (Below.refl _ _) _) _
  have hbox0 : ((w.alloc (.cells #[.slice A n c] 24)).alloc (.cells #[.slice B n d] 24)).cell? ⟨w.heap.size, 0, none⟩ = some (.slice A n c) := by go_simp
  have hbx0 : ((w.alloc (.cells #[.slice A n c] 24)).alloc (.cells #[.slice B n d] 24)).cell? ⟨w.heap.size + 1, 0, none⟩ = some (.slice B n d) := by clear hbox0; go_simp
  go_enter Try.func25, Try.ntmps25
  go_wp2_with fail
  have hx := rcheck_ok _ _ d X _ (hX.out.below hB0)
  rw [hch.out] at hx
  refine hx.mono ?_
  clear hx
  rintro e w1 ⟨rfl, hb1⟩
  have hbox1 := cell_later hb1 hbox0
  have hbx1 := cell_later hb1 hbx0
  have hB1 := Below.on hB0 hb1
  clear hB0 hbox0 hbx0 hb1
  go_wp2
  go_loopw [7] (fun s wr => ∃ (q : Nat), q ≤ n ∧ s = .int .i64 q ∧ Below w.heap.size w wr ∧ wr.cell? ⟨w.heap.size, 0, none⟩ = some (.slice A n c) ∧ wr.cell? ⟨w.heap.size + 1, 0, none⟩ = some (.slice B n d)) (fun s _ => n - (intOf s).toNat)
  case atStart => exact ⟨0, Nat.zero_le _, rfl, hB1, hbox1, hbx1⟩
  case round =>
    clear hB1 hbox1 hbx1
    obtain ⟨q, hq, rfl, hb, hbox, hbox2⟩ := hrel
    generalize wr = w9 at *
    have lb : w.heap.size + 1 < w9.heap.size := cell_in hbox2
    have lb0 : w.heap.size < w9.heap.size := by omega
    by_cases hlt : q < n
    · obtain ⟨b, off, aA, cA, aC, cC, rfl, hbl, c0, c1, c2, c3, hA, hC⟩ := ho1.out (by omega)
      obtain ⟨b', off', aA', cA', aC', cC', rfl, hbl', c0', c1', c2', c3', hA', hC'⟩ := ho2.out (by omega)
      have g0 := (old hb _ _ hbl).trans (c0 q hlt)
      have g1 := (old hb _ _ hbl).trans (c1 q hlt)
      have g2 := (old hb _ _ hbl).trans (c2 q hlt)
      have g3 := (old hb _ _ hbl).trans (c3 q hlt)
      have k0 := (old hb _ _ hbl').trans (c0' q hlt)
      have k1 := (old hb _ _ hbl').trans (c1' q hlt)
      have k2 := (old hb _ _ hbl').trans (c2' q hlt)
      have k3 := (old hb _ _ hbl').trans (c3' q hlt)
      have hbr : b < w9.heap.size := Nat.lt_of_lt_of_le hbl hb.size
      have hbr' : b' < w9.heap.size := Nat.lt_of_lt_of_le hbl' hb.size
      have hgA := hide ((hA q hlt).1.below hb)
      have hgC := hide ((hC q hlt).1.below hb)
      have hgA' := hide ((hA' q hlt).1.below hb)
      have hgC' := hide ((hC' q hlt).1.below hb)
      rw [hK'.out.tag q] at k0
      rw [hK'.out.att q] at k1 hgA'
      have han : (nd T q).attrs.length ≤ 9223372036854775807 := hgA.out.2.1
      have hkn : (kids T q).length ≤ 70 := (hfT'.out (nd T q) (nd_mem (by omega))).2.2.1
      have hkn' : (kids X q).length ≤ 70 := (hfX'.out (nd X q) (nd_mem (by omega))).2.2.1
      generalize aA q = AA at g1 hgA
      generalize cA q = CA at g3 hgC
      generalize aC q = ac at g1
      generalize cC q = cc at g3
      generalize aA' q = AA' at k1 hgA'
      generalize cA' q = CA' at k3 hgC'
      generalize aC' q = ac' at k1
      generalize cC' q = cc' at k3
      have hkid := hide (hK'.out.kid q)
      have hpc : ((q : Int) != (k : Int)) = false ∨ (((q : Int) != (k : Int)) = true ∧ par X q = par T q) := by
        by_cases h : q = k
        · exact .inl (by simp [h])
        · exact .inr ⟨by simp; omega, hK'.out.par q h⟩
      generalize par X q = pX at k2 hpc
      generalize kids X q = kX at k3 hgC' hkid hkn'
      clear c0 c1 c2 c3 hA hC c0' c1' c2' c3' hA' hC'
      have e1 : ((nd T q).tag != (nd T q).tag) = false := by simp [bne, beq_toListBytes]
      have e3 : ((((nd T q).attrs.length : Nat) : Int) != (((nd T q).attrs.length : Nat) : Int)) = false := by simp
      clear ho1 ho2
      go_upto_region 6 with fail
      go_cut [8, 9] from 23 to 93 (fun a b wx => ∃ ga gb : Nat, a = .pointer (some ⟨ga, 0, none⟩) ∧ b = .pointer (some ⟨gb, 0, none⟩) ∧ Below w9.heap.size w9 wx ∧ wx.heap[ga]? = some (.cells #[.string (nd T q).tag, .slice AA (nd T q).attrs.length ac, .int .i64 (par T q), .slice CA (kids T q).length cc] 33 (0, 0)) ∧ wx.heap[gb]? = some (.cells #[.string (nd T q).tag, .slice AA' (nd T q).attrs.length ac', .int .i64 pX, .slice CA' kX.length cc'] 33 (0, 0)))
      case first =>
        go_region
        · go_wp2_with fail
          go_meet
          exact ⟨_, _, rfl, rfl, (below_alloc (below_alloc (Below.refl _ _) _) _).drew, blk_alloc (blk_new w9 _ _) _, blk_at _ _ _ _ (by simp)⟩
        · go_wp2_with fail
          go_meet
          exact ⟨_, _, rfl, rfl, (below_alloc (below_alloc (Below.refl _ _) _) _).drew, blk_at _ _ _ _ (by simp), blk_alloc (blk_new w9 _ _) _⟩
      case rest =>
      obtain ⟨ga, gb, rfl, rfl, hBc, hga, hgb⟩ := hcut
      have fa0 : wc.cell? ⟨ga, 0, none⟩ = some (.string (nd T q).tag) := (blk_cell hga 0).trans rfl
      have fa1 : wc.cell? ⟨ga, 1, none⟩ = some (.slice AA (nd T q).attrs.length ac) := (blk_cell hga 1).trans rfl
      have fa2 : wc.cell? ⟨ga, 2, none⟩ = some (.int .i64 (par T q)) := (blk_cell hga 2).trans rfl
      have fa3 : wc.cell? ⟨ga, 3, none⟩ = some (.slice CA (kids T q).length cc) := (blk_cell hga 3).trans rfl
      have fb0 : wc.cell? ⟨gb, 0, none⟩ = some (.string (nd T q).tag) := (blk_cell hgb 0).trans rfl
      have fb1 : wc.cell? ⟨gb, 1, none⟩ = some (.slice AA' (nd T q).attrs.length ac') := (blk_cell hgb 1).trans rfl
      have fb2 : wc.cell? ⟨gb, 2, none⟩ = some (.int .i64 pX) := (blk_cell hgb 2).trans rfl
      have fb3 : wc.cell? ⟨gb, 3, none⟩ = some (.slice CA' kX.length cc') := (blk_cell hgb 3).trans rfl
      clear hga hgb g0 g1 g2 g3 k0 k1 k2 k3
      go_upto_region 7 with fail
      go_cut [65] from 23 to 93 (fun v wx => v = .bool false ∧ wx = wc)
      case first =>
        rcases hpc with hpc | ⟨hpc, rfl⟩
        · go_wp2_with fail
          go_meet
          exact ⟨rfl, rfl⟩
        · go_wp2_with fail
          go_meet
          exact ⟨rfl, rfl⟩
      case rest =>
      obtain ⟨rfl, rfl⟩ := hcut
      clear hpc fa0 fa2 fb0 fb2
      go_wp2
      go_loopw [10] (fun s ZZ => ∃ j : Nat, j ≤ (nd T q).attrs.length ∧ s = .int .i64 j ∧ Below w9.heap.size w9 ZZ ∧ ZZ.cell? ⟨ga, 1, none⟩ = some (.slice AA (nd T q).attrs.length ac) ∧ ZZ.cell? ⟨gb, 1, none⟩ = some (.slice AA' (nd T q).attrs.length ac') ∧ ZZ.cell? ⟨ga, 3, none⟩ = some (.slice CA (kids T q).length cc) ∧ ZZ.cell? ⟨gb, 3, none⟩ = some (.slice CA' kX.length cc')) (fun s _ => (nd T q).attrs.length - (intOf s).toNat)
      case atStart => exact ⟨0, Nat.zero_le _, rfl, hBc, fa1, fb1, fa3, fb3⟩
      case round =>
        obtain ⟨j, hj, rfl, hb2, fx, fy, fx3, fy3⟩ := hrel
        by_cases hltj : j < (nd T q).attrs.length
        · obtain ⟨p, po, rfl, hpl, hpn, hpv⟩ := hgA.out.2.2.2 (by omega)
          obtain ⟨p', po', rfl, hpl', hpn', hpv'⟩ := hgA'.out.2.2.2 (by omega)
          have m0 := (old hb2 _ _ hpl).trans (hpn j hltj)
          have m1 := (old hb2 _ _ hpl).trans (hpv j hltj)
          have m2 := (old hb2 _ _ hpl').trans (hpn' j hltj)
          have m3 := (old hb2 _ _ hpl').trans (hpv' j hltj)
          have hq' := attr_neq (nm (nd T q).attrs j) (vl (nd T q).attrs j)
          have fx3' := hide fx3
          have fy3' := hide fy3
          clear hpn hpv hpn' hpv' e1 e3 hbox hbox2 fx3 fy3
          go_wp2
          go_quiet (fail)
          go_wp2
          go_roundw
          case rel => exact ⟨j + 1, by omega, by go_num, below_drewN hb2 _, fx, fy, fx3'.out, fy3'.out⟩
          case measure => simp [intOf]; omega
        · have hx1 := hide ((old hb2 _ _ lb0).trans hbox)
          have hx2 := hide ((old hb2 _ _ lb).trans hbox2)
          have hb3 := hide (hb.trans (hb2.mono hb.size))
          have hC1 := hide (hgC.out.below hb2)
          have hC2 := hide (hgC'.out.below hb2)
          obtain ⟨L, hL⟩ : ∃ L, less1 (kids T q) k = L := ⟨_, rfl⟩
          have hwa := hide (fun W (h : Below wr.heap.size wr W) => rwithout_ok CA (kids T q).length cc (kids T q) k W (hC1.out.below h) (by omega))
          have hwb := hide (fun W (h : Below wr.heap.size wr W) => rwithout_ok CA' kX.length cc' kX k W (hC2.out.below h) (by omega))
          rw [hL] at hwa
          rw [hkid.out, hL] at hwb
          have hll : L.length ≤ 70 := by have := less1_len (kids T q) (k : Int); rw [hL] at this; omega
          clear hL hkid hbox hbox2 hgA hgA' e1 e3 fa1 fa3 fb1 fb3 hBc
          go_wp2
          go_region_held3 (fun Y => Y.cell? ⟨ga, 3, none⟩ = some (.slice CA (kids T q).length cc) ∧ Y.cell? ⟨gb, 3, none⟩ = some (.slice CA' kX.length cc')) (first | exact ⟨fx3, fy3⟩ | exact ⟨r1, r2⟩ | exact ⟨s1, s2⟩ | exact ⟨t1, t2⟩) (first | (go_at_call 37; first | ((with_reducible refine (hwa.out _ ?_).mono ?_); (exact (Below.refl _ _).drew); rintro e w5 ⟨A5, c5, rfl, -, hb5, -, -, -, hI5⟩; have r1 := cell_later hb5 fx3; have r2 := cell_later hb5 fy3) | ((with_reducible refine (hwb.out _ ?_).mono ?_); (exact Below.on (Below.refl _ _).drew hb5); rintro e w6 ⟨A6, c6, rfl, -, hb6, -, -, -, hI6⟩; have s1 := cell_later hb6 r1; have s2 := cell_later hb6 r2)) | (go_at_call 22; (with_reducible refine (sameInts_yes _ _ _ _ _ _ L _ (hI5.below hb6) hI6).mono ?_); rintro e w7 ⟨rfl, hb7⟩; have t1 := cell_later hb7 s1; have t2 := cell_later hb7 s2))
          all_goals
            have hB7 := hide (hb3.out.trans ((Below.on (Below.on (Below.on (Below.refl _ _).drew hb5) hb6) hb7).mono (Nat.le_trans hb.size hb2.size)))
            have x7 := hide (cell_later (Below.on (Below.on (Below.on (Below.refl _ _).drew hb5) hb6) hb7) hx1.out)
            have y7 := hide (cell_later (Below.on (Below.on (Below.on (Below.refl _ _).drew hb5) hb6) hb7) hx2.out)
            clear hb5 hb6 hb7 r1 r2 s1 s2 t1 t2 hI5 hI6 hwa hwb hC1 hC2
            go_wp2
            go_roundw
            case rel => exact ⟨q + 1, by omega, by go_num, hB7.out, x7.out, y7.out⟩
            case measure => simp [intOf]; omega
    · go_wp2
      go_ret
      exact ⟨rfl, hb⟩
end Go.Proofs.Ytkimjpcmcfnmkaa
