/- Walks: whether there is a way to an element by the compounds of a selector, by chapter 23's reference: what is said of each compound is given. Conditions: the tree is good, the selector is right, the element is in the tree. -/
import Derived.Test.YtljloicgjgbplaaGreatG48
import Derived.Test.YtljloicgjgbplaaGreatG49
import Derived.Test.YtljloicgjgbplaaGreatG12
import Derived.Test.YtljloicgjgbplaaGreatG24
namespace Go.Proofs.YtljloicgjgbplaaGreat
open Go.RowKit

/-- There is a way to an element ahead of its own compound. -/
def okF (T : List ANode) (cs : List Int) (H : List (List Bool)) : Nat → Nat → Bool
  | 0, _ => true
  | k + 1, j => (prtF T j (ix cs k)).any fun p => rchF T cs H k p.toNat
theorem rch_ok (T : List ANode) (cs : List Int) (H : List (List Bool)) : ∀ k j, rchF T cs H k j = (okF T cs H k j && bx (rowB H k) j)
  | 0, _ => by simp [rchF, okF]
  | k + 1, j => by simp [rchF, okF, Bool.and_comm]
/-- Which elements are reached by so many compounds. -/
def rowK (T : List ANode) (cs : List Int) (H : List (List Bool)) : Nat → Nat → Bool
  | 0, _ => false
  | k + 1, j => rchF T cs H k j
section
variable {X : Type} {V : Lies X} {Wf : Nat → Bool → Bool → X → Bool} {T : List ANode} {m : Int} {L : X → Int} {C : X → List Int} {R : X → List (List Bool)}
set_option maxRecDepth 100000 in
set_option maxHeartbeats 4000000 in
theorem rback_ok (hV : Stays V) (hC : RCompM V Wf T m L C R) (hg : goodB T = true) (A : Option Addr) (n c i : Nat) (ld : Int) (PA : Option Addr) (pn pc : Nat) (KA : Option Addr) (kn kc : Nat) (x : CpxX X) (w : World) (h : IsTree w A n T) (hx : IsCpx V w ld PA pn pc KA kn kc x) (hB : ∃ d h r, wholeB Wf d h r x = true) (hi : i < n) :
    Calls Tryz.prog 64 #[.agg #[.slice A n c], .int .i64 i, .agg #[.int .u8 ld, .slice PA pn pc, .slice KA kn kc], .int .i64 kn, .int .i64 m] w fun e w' => e = .returned (.bool (rchF T x.combs (rowsM T m L C R x) kn i)) ∧ Below w.heap.size w w' := by
  obtain ⟨d0, h0, r0, hB⟩ := hB
  obtain ⟨-, -, w3, w4, w5, w6⟩ := wholeB_iff.1 hB
  obtain ⟨rfl, hl8, hpl, hkl, hrowP, hrowK, hcP, hcK⟩ := hx
  have hV' := hide hV
  have hC' := hide hC
  have hg' := hide hg
  have hT := hide h
  have hTl := h.1
  have hn64 : n ≤ 64 := by have := ((goodB_iff T).1 hg).2.1; omega
  have hn1 : 1 ≤ n := by have := ((goodB_iff T).1 hg).1; omega
  have hkp1 : kn < pn := by omega
  have hkp2 : pn ≤ kn + 1 := by omega
  have hk63 : kn ≤ 63 := by omega
  obtain ⟨b, off, SA, SC, rfl, hbl, c0, c1, hc⟩ := hrowP.2.2 (by omega)
  obtain ⟨H, hH⟩ : ∃ H, rowsM T m L C R x = H := ⟨_, rfl⟩
  have hbx := hide (fun (k j : Nat) (hk : k < pn) (hj : j < n) => (show bx (rowB H k) j = compM T m L C R (px x.parts k) j from by rw [← hH, rowsM_row T m L C R (by omega), rowOf_bx T _ (by omega)]))
  have hcm := hide (fun (k : Nat) (hk : k < pn) => (show (∀ (W : World) (j : Nat), j < n → Below w.heap.size w W → Calls Tryz.prog 81 #[.agg #[.slice A n c], .int .i64 j, .agg #[.string (px x.parts k).tag, .slice (SA k) (px x.parts k).sims.length (SC k)], .int .i64 m] W fun e w' => e = .returned (.bool (compM T m L C R (px x.parts k) j)) ∧ Below W.heap.size W w') from
    fun W j hj hW => hC A n c j (SA k) _ (SC k) (px x.parts k) W (h.below hW) ((hc k hk).1.below hV hW) ⟨d0, h0, w6 (px x.parts k) (px_mem (by omega))⟩ hj))
  have hco := hide (fun (k : Nat) (hk : k < kn) => (show 1 ≤ ix x.combs k ∧ ix x.combs k ≤ 4 from w5 _ (by rw [ix_get (by omega)]; exact List.getElem_mem _)))
  have hU := hide hrowK
  have c0' := hide c0
  have c1' := hide c1
  obtain ⟨cs, hcs⟩ : ∃ cs, x.combs = cs := ⟨_, rfl⟩
  rw [hcs] at hco hU
  rw [hH, hcs]
  have hmk := mk_bools n (by omega)
  have hB0 := below_alloc (below_alloc (Below.refl w.heap.size w) (.cells #[.slice A n c] 24)) (.cells #[.int .u8 x.lead, .slice (some ⟨b, off, none⟩) pn pc, .slice KA kn kc] 62)
  have hX : ((w.alloc (.cells #[.slice A n c] 24)).alloc (.cells #[.int .u8 x.lead, .slice (some ⟨b, off, none⟩) pn pc, .slice KA kn kc] 62)).heap[w.heap.size + 1]? = some (.cells #[.int .u8 x.lead, .slice (some ⟨b, off, none⟩) pn pc, .slice KA kn kc] 62 (0, 0)) := blk_at _ _ _ _ (by simp)
  have e0 : ((w.alloc (.cells #[.slice A n c] 24)).alloc (.cells #[.int .u8 x.lead, .slice (some ⟨b, off, none⟩) pn pc, .slice KA kn kc] 62)).cell? ⟨w.heap.size, 0, none⟩ = some (.slice A n c) := blk_cell (blk_alloc (blk_new _ _ _) _) 0
  obtain ⟨W2, hW2⟩ : ∃ W2, W2 = (w.alloc (.cells #[.slice A n c] 24)).alloc (.cells #[.int .u8 x.lead, .slice (some ⟨b, off, none⟩) pn pc, .slice KA kn kc] 62) := ⟨_, rfl⟩
  have hXc := fun r => blk_cell hX r
  rw [← hW2] at hB0
  have e2 : W2.cell? ⟨w.heap.size + 1, 1, none⟩ = some (.slice (some ⟨b, off, none⟩) pn pc) := by rw [hW2]; exact hXc 1
  have e3 : W2.cell? ⟨w.heap.size + 1, 2, none⟩ = some (.slice KA kn kc) := by rw [hW2]; exact hXc 2
  have hws : Hid (w.heap.size + 1 + 1 = W2.heap.size) := by show _ = _; rw [hW2]; simp
  clear hB w3 w4 w5 w6 hV hC hg h hrowP hrowK hc c0 c1 hX hXc hH hcs hpl hkl hl8 hcP hcK
  go_enter Tryz.func64, Tryz.ntmps64
  go_wp2_with fail
  rw [← hW2] at e0 ⊢
  clear hW2
  have hBz := Bs.zero W2 (w.heap.size + 1 + 1) n hws.out
  have hBa := below_alloc (Below.refl W2.heap.size W2) (.cells (madeCells #[.bool false] n) 4)
  go_loopw [11, 12] (fun rv kv wr => ∃ (k g : Nat), k ≤ kn + 1 ∧ kv = .int .i64 k ∧ rv = .slice (some ⟨g, 0, none⟩) n n ∧ W2.heap.size ≤ g ∧ Bs wr g n n (rowK T cs H k) ∧ Below W2.heap.size W2 wr) (fun _ kv _ => kn + 1 - (intOf kv).toNat)
  case atStart => exact ⟨0, w.heap.size + 1 + 1, Nat.zero_le _, rfl, rfl, Nat.le_of_eq hws.out.symm, hBz.congr (fun j _ => rfl), hBa⟩
  case round =>
    clear hBz hBa
    obtain ⟨k, g, hk, rfl, rfl, hg0, hG, hb⟩ := hrel
    have hBr := Below.on hB0 hb
    have b0 := cell_later hb e0
    have b2 := cell_later hb e2
    have b3 := cell_later hb e3
    have hGl := hG.lt
    by_cases hlt : k ≤ kn
    · have hcmk := hide (hcm.out k (by omega))
      have hbxk := hide (fun j hj => hbx.out k j (by omega) hj)
      have hstep := hide (rch_ok T cs H k)
      have d0 := c0'.out k (by omega)
      have d1 := c1'.out k (by omega)
      generalize px x.parts k = cc at *
      generalize SA k = sa at *
      generalize SC k = sc at *
      generalize cc.sims.length = sn at *
      have hG' := hide hG
      clear hG
      generalize wr = u0 at *
      have hu2 : w.heap.size + 1 < u0.heap.size := by have h1 := hws.out; have h2 := hb.size; omega
      have hBz := Bs.zero u0 u0.heap.size n rfl
      have hBa := below_alloc (Below.refl u0.heap.size u0) (.cells (madeCells #[.bool false] n) 4)
      have hBg := hG'.out.below hBa
      go_wp2_with fail
      go_loopw [14] (fun mv wr => ∃ mm : Nat, mm ≤ n ∧ mv = .int .i64 mm ∧ Bs wr u0.heap.size n n (fun j => decide (j < mm) && rchF T cs H k j) ∧ Bs wr g n n (rowK T cs H k) ∧ Below u0.heap.size u0 wr) (fun mv _ => n - (intOf mv).toNat)
      case atStart => exact ⟨0, Nat.zero_le _, rfl, hBz.congr (fun j _ => by simp), hBg, hBa⟩
      case round =>
        clear hBz hBa hBg
        obtain ⟨mm, hmm, rfl, hN, hG, hb2⟩ := hrel
        have hB2 := Below.on hBr hb2
        have z0 := cell_later hb2 b0
        by_cases hlm : mm < n
        · have z2 := cell_later hb2 b2
          have z3 := cell_later hb2 b3
          have y0 := cell_later hB2 d0
          have y1 := cell_later hB2 d1
          by_cases hk0 : k = 0
          · have hok : Hid (okF T cs H k mm = true) := by show _ = _; rw [hk0]; rfl
            have k1 : ((k : Int) == 0) = true := by rw [hk0]; rfl
            have k2 : decide (0 < (k : Int)) = false := by rw [hk0]; rfl
            have k3 : decide (0 < k) = false := by rw [hk0]; rfl
            have k4 : (k == 0) = true := by rw [hk0]; rfl
            have v0 := z0
            have v2 := z2
            have hBx := hb2
            have hNx := hN
            have hGx := hG
            have x0 : (0 : Int) ≤ (k : Int) := by omega
            have x1 : (k : Int) < (pn : Int) := by omega
            have x2 : (0 : Int) ≤ (mm : Int) := by omega
            have x3 : (mm : Int) < (n : Int) := by omega
            clear hk0 hN hG hb2 z0 z2 z3
            generalize wr = wx at *
            have hcx := hcmk.out wx.drew mm hlm (show Below w.heap.size w wx.drew from (Below.on hBr hBx).drew)
            obtain ⟨cv, hcv⟩ : ∃ cv, compM T m L C R cc mm = cv := ⟨_, rfl⟩
            rw [hcv] at hcx
            have hcm' := hide hcx
            have hval : Hid (rchF T cs H k mm = cv) := by show _ = _; rw [hstep.out, hok.out, hbxk.out mm hlm, hcv]; rfl
            have hfar := hide (fun (W : World) (v : Value) (hW : Below w.heap.size w W ∧ u0.heap.size < W.heap.size) (h4 : W.cell? ⟨w.heap.size, 0, none⟩ = some (.slice A n c) ∧ W.cell? ⟨w.heap.size + 1, 1, none⟩ = some (.slice (some ⟨b, off, none⟩) pn pc) ∧ W.cell? ⟨b, off + k * 2, none⟩ = some (.string cc.tag) ∧ W.cell? ⟨b, off + k * 2 + 1, none⟩ = some (.slice sa sn sc)) => (show (W.setCell ⟨u0.heap.size, mm, none⟩ v).cell? ⟨w.heap.size, 0, none⟩ = some (.slice A n c) ∧ (W.setCell ⟨u0.heap.size, mm, none⟩ v).cell? ⟨w.heap.size + 1, 1, none⟩ = some (.slice (some ⟨b, off, none⟩) pn pc) ∧ (W.setCell ⟨u0.heap.size, mm, none⟩ v).cell? ⟨b, off + k * 2, none⟩ = some (.string cc.tag) ∧ (W.setCell ⟨u0.heap.size, mm, none⟩ v).cell? ⟨b, off + k * 2 + 1, none⟩ = some (.slice sa sn sc) from
              ⟨(World.cell?_setCell_far W ⟨u0.heap.size, mm, none⟩ ⟨w.heap.size, 0, none⟩ v (by simp; omega)).trans h4.1, (World.cell?_setCell_far W ⟨u0.heap.size, mm, none⟩ ⟨w.heap.size + 1, 1, none⟩ v (by simp; omega)).trans h4.2.1, (World.cell?_setCell_far W ⟨u0.heap.size, mm, none⟩ ⟨b, off + k * 2, none⟩ v (by simp; omega)).trans h4.2.2.1, (World.cell?_setCell_far W ⟨u0.heap.size, mm, none⟩ ⟨b, off + k * 2 + 1, none⟩ v (by simp; omega)).trans h4.2.2.2⟩))
            have hBx' := hide hBx
            have hNx' := hide hNx
            have hGx' := hide hGx
            clear hcx hcv hBx hNx hGx
            go_wp2
            go_region_held3 (fun X => X.cell? ⟨w.heap.size, 0, none⟩ = some (.slice A n c) ∧ X.cell? ⟨w.heap.size + 1, 1, none⟩ = some (.slice (some ⟨b, off, none⟩) pn pc) ∧ X.cell? ⟨b, off + k * 2, none⟩ = some (.string cc.tag) ∧ X.cell? ⟨b, off + k * 2 + 1, none⟩ = some (.slice sa sn sc)) (first | exact ⟨v0, v2, y0, y1⟩ | exact ⟨r0, r2, t0, t1⟩ | exact hfar.out _ _ ⟨hW7.out, hs7⟩ ⟨r0, r2, t0, t1⟩) (first | (go_at_call 81; (with_reducible refine hcm'.out.mono ?_); rintro e7 w7 ⟨rfl, hb7⟩; have r0 := cell_later hb7 v0; have r2 := cell_later hb7 v2; have t0 := cell_later hb7 y0; have t1 := cell_later hb7 y1; have hb7' := hide (Below.on (w1 := wx.drew) (Below.refl _ _).drew hb7); have hN7 := hNx'.out.below hb7'.out; have n0 := hN7.cell hlm; have n1 := hN7.free mm; have hW7 := hide (Below.on (Below.on hBr hBx'.out) hb7'.out); have hs7 := hN7.lt; have hN8 := hide hN7; clear hN7))
            have hN9 := hide (hN8.out.upd (k := mm) (v := cv) (f' := fun j => decide (j < mm + 1) && rchF T cs H k j) (by rw [hval.out]; simp) (fun j _ hj => by
              by_cases h1 : j < mm
              · simp only [decide_eq_true h1, decide_eq_true (show j < mm + 1 by omega)]
              · simp only [decide_eq_false h1, decide_eq_false (show ¬ j < mm + 1 by omega)]))
            have hG9 := hide ((hGx'.out.below hb7'.out).far (show g ≠ u0.heap.size by omega) (k := mm) (.bool cv))
            have hB9 := hide ((Below.on hBx'.out hb7'.out).setCell (p := ⟨u0.heap.size, mm, none⟩) (Nat.le_refl _) (.bool cv))
            clear hN8 hNx' hGx' hBx' hb7' hW7 hfar hb7 r0 r2 t0 t1 n0 n1
            go_wp2
            go_roundw
            case rel => exact ⟨mm + 1, by omega, by go_num, hN9.out, hG9.out, hB9.out⟩
            case measure => simp [intOf]; omega
          · obtain ⟨bc, oc, rfl, hbc, hck⟩ := hU.out.2.2.2 (by omega)
            have gy := cell_later hB2 (hck (k - 1) (by omega))
            obtain ⟨y1c, y4c⟩ := hco.out (k - 1) (by omega)
            have hokF : okF T cs H k mm = (prtF T mm (ix cs (k - 1))).any fun p => rchF T cs H (k - 1) p.toNat := by
              obtain ⟨k', rfl⟩ : ∃ k', k = k' + 1 := ⟨k - 1, by omega⟩
              rfl
            have hrk : ∀ j, rowK T cs H k j = rchF T cs H (k - 1) j := fun j => by
              obtain ⟨k', rfl⟩ : ∃ k', k = k' + 1 := ⟨k - 1, by omega⟩
              rfl
            have hpr := prt_range hg'.out (i := mm) (by omega) (ix cs (k - 1))
            have hpa := rpartners_ok A n c T mm (ix cs (k - 1)) wr.drew (hT.out.below (show Below w.heap.size w wr.drew from hB2.drew)) hg'.out hlm y1c y4c
            generalize ix cs (k - 1) = y at *
            obtain ⟨P, hP⟩ : ∃ P, prtF T mm y = P := ⟨_, rfl⟩
            obtain ⟨G, hG1⟩ : ∃ G, rchF T cs H (k - 1) = G := ⟨_, rfl⟩
            rw [hP] at hpr hpa hokF
            simp only [hG1] at hokF hrk
            have hpa' := hide hpa
            have hpr' := hide hpr
            have hokF' := hide hokF
            have hrk' := hide hrk
            have hkp : 1 ≤ k := by omega
            have k1 : ((k : Int) == 0) = false := by rw [beq_eq_false_iff_ne]; omega
            have k4 : (k == 0) = false := by rw [beq_eq_false_iff_ne]; omega
            have x0 : (0 : Int) ≤ (k : Int) - 1 := by omega
            have x1 : (k : Int) - 1 < (kn : Int) := by omega
            have x0' : (1 : Int) ≤ (k : Int) := by omega
            have x1' : (k : Int) ≤ (kn : Int) := by omega
            have hw1 : IntKind.i64.wrap ((k : Int) - 1) = (k : Int) - 1 := IntWalk.i64_in _ (by omega)
            have ht1 : ((k : Int) - 1).toNat = k - 1 := by omega
            have hN' := hide hN
            have hG' := hide hG
            have hz2 := hide z2
            clear hpr hpa hokF hrk hP hG1 hck hN hG z2 hk0
            go_wp2
            go_region_held3 (fun X => X.cell? ⟨w.heap.size, 0, none⟩ = some (.slice A n c) ∧ X.cell? ⟨w.heap.size + 1, 2, none⟩ = some (.slice (some ⟨bc, oc, none⟩) kn kc) ∧ X.cell? ⟨bc, oc + (k - 1), none⟩ = some (.int .u8 y)) (first | exact ⟨z0, z3, gy⟩ | exact ⟨r0, r3, ry⟩) (first | (go_at_call 80; (with_reducible refine hpa'.out.mono ?_); rintro e5 w5 ⟨A5, c5, rfl, hI5, hb5⟩; have r0 := cell_later hb5 z0; have r3 := cell_later hb5 z3; have ry := cell_later hb5 gy))
            have hI5' := hide hI5
            have hC5 := hide (Below.on (w1 := wr.drew) (Below.refl _ _).drew hb5)
            have hb2' := hide hb2
            have hP63 : P.length ≤ 9223372036854775807 := hI5'.out.2.1
            have hq1 := hide (And.intro y0 y1)
            generalize wr = wi at *
            clear hI5 hb5 hpa' r0 r3 ry z0 z3 gy y0 y1 hb2 hB2 x0 x1 x0' x1' hw1 ht1
            go_wp2
            go_loopw [15, 17] (fun ok pv wr => ∃ q : Nat, q ≤ P.length ∧ pv = .int .i64 q ∧ ok = .bool ((P.take q).any fun z => G z.toNat) ∧ Below w5.heap.size w5 wr) (fun _ pv _ => P.length - (intOf pv).toNat)
            case atStart => exact ⟨0, Nat.zero_le _, rfl, rfl, Below.refl _ _⟩
            case round =>
              obtain ⟨q, hq, rfl, rfl, hb6⟩ := hrel
              have hC6 := hide (Below.on hC5.out hb6)
              by_cases hlq : q < P.length
              · obtain ⟨b6, o6, rfl, hb6l, hc6⟩ := hI5'.out.2.2 (by omega)
                have gz := (old hb6 _ _ hb6l).trans (hc6 q hlq)
                obtain ⟨zz, hzz⟩ := Int.eq_ofNat_of_zero_le (hpr'.out _ (ix_mem hlq)).1
                have hzl := (hpr'.out _ (ix_mem hlq)).2
                rw [hzz] at gz
                have hzn : zz < n := by omega
                have gr : wr.cell? ⟨g, zz, none⟩ = some (.bool (G zz)) := by have h1 := (hG'.out.below hC6.out).cell hzn; rw [hrk'.out] at h1; exact h1
                have htk : Hid ((P.take (q + 1)).any (fun z => G z.toNat) = ((P.take q).any (fun z => G z.toNat) || G zz)) := by show _ = _; rw [take_any hlq, ← ix_get hlq, hzz, Int.toNat_natCast]
                have x2 : (0 : Int) ≤ (q : Int) := by omega
                have x3 : (q : Int) < (P.length : Int) := by omega
                have x4 : (0 : Int) ≤ (zz : Int) := by omega
                have x5 : (zz : Int) < (n : Int) := by omega
                clear hc6 hzz hzl
                generalize ((P.take q).any fun z => G z.toNat) = v at *
                generalize G zz = u at *
                cases v
                · go_wp2
                  go_roundw
                  case rel => exact ⟨q + 1, by omega, by go_num, by rw [htk.out]; simp, hb6⟩
                  case measure => simp [intOf]; omega
                · go_wp2
                  go_roundw
                  case rel => exact ⟨q + 1, by omega, by go_num, by rw [htk.out]; simp, hb6⟩
                  case measure => simp [intOf]; omega
              · obtain rfl : P.length = q := by omega
                have hokv : Hid (okF T cs H k mm = P.any fun z => G z.toNat) := hokF'.out
                have htl : Hid (((P.take P.length).any fun z => G z.toNat) = P.any fun z => G z.toNat) := by show _ = _; rw [List.take_length]
                rw [htl.out]
                generalize (P.any fun z => G z.toNat) = v at *
                have v0 := cell_later (Below.on hb2'.out hC6.out) b0
                have v2 := cell_later (Below.on hb2'.out hC6.out) b2
                have y0 := cell_later hC6.out hq1.out.1
                have y1 := cell_later hC6.out hq1.out.2
                have hBx := Below.on hb2'.out hC6.out
                have hNx := hN'.out.below hC6.out
                have hGx := hG'.out.below hC6.out
                have x0 : (0 : Int) ≤ (k : Int) := by omega
                have x1 : (k : Int) < (pn : Int) := by omega
                have x2 : (0 : Int) ≤ (mm : Int) := by omega
                have x3 : (mm : Int) < (n : Int) := by omega
                clear hokF' htl hN' hG' hb2' hC6 hb6 hI5' hC5 hq1 hpr' hrk' hP63 hq
                generalize wr = wx at *
                cases v
                · have hok : Hid (okF T cs H k mm = false) := hokv
                  clear hokv
                  have hval : Hid (rchF T cs H k mm = false) := by show _ = _; rw [hstep.out, hok.out]; rfl
                  have n0 := hNx.cell hlm
                  have n1 := hNx.free mm
                  have hBx' := hide hBx
                  have hNx' := hide hNx
                  have hGx' := hide hGx
                  clear hBx hNx hGx
                  go_wp2
                  refine wp_region_held_drew (S := fun _ => True) (by kernel_rfl) trivial (fun hHeld => ?_)
                  refine heldTake 0 67 (.slice (some ⟨u0.heap.size, 0, none⟩) n n) (by kernel_rfl) (by kernel_rfl) (by kernel_rfl) (by kernel_rfl) (fun _ _ _ h => h) (by rfl) ?_ (by assumption) ?_
                  · intro W hW
                    try dsimp only at hW
                    simp only [List.getElem?_toArray, List.getElem?_cons_zero, Option.map_some, Option.some.injEq]
                    go_simp
                  try simp only [Act.put, List.setIfInBounds_toArray, List.set_cons_zero, List.set_cons_succ]
                  refine heldTake 1 68 (.int .i64 mm) (by kernel_rfl) (by kernel_rfl) (by kernel_rfl) (by kernel_rfl) (fun _ _ _ h => h) (by rfl) ?_ (by assumption) ?_
                  · intro W hW
                    try dsimp only at hW
                    simp only [List.getElem?_toArray, List.getElem?_cons_succ, List.getElem?_cons_zero, Option.map_some, Option.some.injEq]
                    go_simp
                  try simp only [Act.put, List.setIfInBounds_toArray, List.set_cons_zero, List.set_cons_succ]
                  refine heldTake 2 69 (.bool false) (by kernel_rfl) (by kernel_rfl) (by kernel_rfl) (by kernel_rfl) (fun _ _ _ h => h) (by rfl) ?_ (by assumption) ?_
                  · intro W hW
                    try dsimp only at hW
                    simp only [List.getElem?_toArray, List.getElem?_cons_succ, List.getElem?_cons_zero, Option.map_some, Option.some.injEq]
                    go_simp
                  try simp only [Act.put, List.setIfInBounds_toArray, List.set_cons_zero, List.set_cons_succ]
                  refine heldTake 3 70 (.bool false) (by kernel_rfl) (by kernel_rfl) (by kernel_rfl) (by kernel_rfl) (fun _ _ _ h => h) (by rfl) ?_ (by assumption) ?_
                  · intro W hW
                    try dsimp only at hW
                    simp only [List.getElem?_toArray, List.getElem?_cons_succ, List.getElem?_cons_zero, Option.map_some, Option.some.injEq]
                    go_simp
                  try simp only [Act.put, List.setIfInBounds_toArray, List.set_cons_zero, List.set_cons_succ]
                  refine heldSkip 4 71 (by kernel_rfl) (by kernel_rfl) (by kernel_rfl) (by kernel_rfl) (fun _ _ _ h => h) (by rfl) (by assumption) ?_
                  try simp only [Act.put, List.setIfInBounds_toArray, List.set_cons_zero, List.set_cons_succ]
                  refine heldSkip 5 72 (by kernel_rfl) (by kernel_rfl) (by kernel_rfl) (by kernel_rfl) (fun _ _ _ h => h) (by rfl) (by assumption) ?_
                  try simp only [Act.put, List.setIfInBounds_toArray, List.set_cons_zero, List.set_cons_succ]
                  refine heldSkip 6 73 (by kernel_rfl) (by kernel_rfl) (by kernel_rfl) (by kernel_rfl) (fun _ _ _ h => h) (by rfl) (by assumption) ?_
                  try simp only [Act.put, List.setIfInBounds_toArray, List.set_cons_zero, List.set_cons_succ]
                  refine heldSkip 7 74 (by kernel_rfl) (by kernel_rfl) (by kernel_rfl) (by kernel_rfl) (fun _ _ _ h => h) (by rfl) (by assumption) ?_
                  try simp only [Act.put, List.setIfInBounds_toArray, List.set_cons_zero, List.set_cons_succ]
                  refine heldSkip 8 75 (by kernel_rfl) (by kernel_rfl) (by kernel_rfl) (by kernel_rfl) (fun _ _ _ h => h) (by rfl) (by assumption) ?_
                  try simp only [Act.put, List.setIfInBounds_toArray, List.set_cons_zero, List.set_cons_succ]
                  refine heldSkip 9 76 (by kernel_rfl) (by kernel_rfl) (by kernel_rfl) (by kernel_rfl) (fun _ _ _ h => h) (by rfl) (by assumption) ?_
                  try simp only [Act.put, List.setIfInBounds_toArray, List.set_cons_zero, List.set_cons_succ]
                  refine heldSkip 10 77 (by kernel_rfl) (by kernel_rfl) (by kernel_rfl) (by kernel_rfl) (fun _ _ _ h => h) (by rfl) (by assumption) ?_
                  try simp only [Act.put, List.setIfInBounds_toArray, List.set_cons_zero, List.set_cons_succ]
                  refine heldSkip 11 78 (by kernel_rfl) (by kernel_rfl) (by kernel_rfl) (by kernel_rfl) (fun _ _ _ h => h) (by rfl) (by assumption) ?_
                  try simp only [Act.put, List.setIfInBounds_toArray, List.set_cons_zero, List.set_cons_succ]
                  refine heldSkip 12 79 (by kernel_rfl) (by kernel_rfl) (by kernel_rfl) (by kernel_rfl) (fun _ _ _ h => h) (by rfl) (by assumption) ?_
                  try simp only [Act.put, List.setIfInBounds_toArray, List.set_cons_zero, List.set_cons_succ]
                  refine heldTake 13 80 (.bool false) (by kernel_rfl) (by kernel_rfl) (by kernel_rfl) (by kernel_rfl) (fun _ _ _ h => h) (by rfl) ?_ (by assumption) ?_
                  · intro W hW
                    try dsimp only at hW
                    simp only [List.getElem?_toArray, List.getElem?_cons_succ, List.getElem?_cons_zero, Option.map_some, Option.some.injEq]
                    go_simp
                  try simp only [Act.put, List.setIfInBounds_toArray, List.set_cons_zero, List.set_cons_succ]
                  refine heldTake 14 81 (.pointer (some ⟨u0.heap.size, mm, none⟩)) (by kernel_rfl) (by kernel_rfl) (by kernel_rfl) (by kernel_rfl) (fun _ _ _ h => h) (by rfl) ?_ (by assumption) ?_
                  · intro W hW
                    try dsimp only at hW
                    simp only [List.getElem?_toArray, List.getElem?_cons_succ, List.getElem?_cons_zero, Option.map_some, Option.some.injEq]
                    go_simp
                  try simp only [Act.put, List.setIfInBounds_toArray, List.set_cons_zero, List.set_cons_succ]
                  refine wpAnyH_ready (rs := [15]) (by kernel_rfl) (by simp) (AllReadyH.cons rfl (fun K hK => ?_) AllReadyH.nil)
                  go_simp
                  refine hK.out _ _ trivial (fun hHeld1 => ?_)
                  clear hK K hHeld
                  try simp only [Act.put, List.setIfInBounds_toArray, List.set_cons_zero, List.set_cons_succ]
                  refine wpAnyH_done (by kernel_rfl) ?_ _
                  have hN9 := hide (hNx'.out.upd (k := mm) (v := false) (f' := fun j => decide (j < mm + 1) && rchF T cs H k j) (by rw [hval.out]; simp) (fun j _ hj => by
                    by_cases h1 : j < mm
                    · simp only [decide_eq_true h1, decide_eq_true (show j < mm + 1 by omega)]
                    · simp only [decide_eq_false h1, decide_eq_false (show ¬ j < mm + 1 by omega)]))
                  have hG9 := hide (hGx'.out.far (show g ≠ u0.heap.size by omega) (k := mm) (.bool false))
                  have hB9 := hide (hBx'.out.setCell (p := ⟨u0.heap.size, mm, none⟩) (Nat.le_refl _) (.bool false)).drew
                  go_wp2
                  go_roundw
                  case rel => exact ⟨mm + 1, by omega, by go_num, hN9.out, hG9.out, hB9.out⟩
                  case measure => simp [intOf]; omega
                · have hok : Hid (okF T cs H k mm = true) := hokv
                  clear hokv
                  have hcx := hcmk.out wx.drew mm hlm (show Below w.heap.size w wx.drew from (Below.on hBr hBx).drew)
                  obtain ⟨cv, hcv⟩ : ∃ cv, compM T m L C R cc mm = cv := ⟨_, rfl⟩
                  rw [hcv] at hcx
                  have hcm' := hide hcx
                  have hval : Hid (rchF T cs H k mm = cv) := by show _ = _; rw [hstep.out, hok.out, hbxk.out mm hlm, hcv]; rfl
                  have hfar := hide (fun (W : World) (v : Value) (hW : Below w.heap.size w W ∧ u0.heap.size < W.heap.size) (h4 : W.cell? ⟨w.heap.size, 0, none⟩ = some (.slice A n c) ∧ W.cell? ⟨w.heap.size + 1, 1, none⟩ = some (.slice (some ⟨b, off, none⟩) pn pc) ∧ W.cell? ⟨b, off + k * 2, none⟩ = some (.string cc.tag) ∧ W.cell? ⟨b, off + k * 2 + 1, none⟩ = some (.slice sa sn sc)) => (show (W.setCell ⟨u0.heap.size, mm, none⟩ v).cell? ⟨w.heap.size, 0, none⟩ = some (.slice A n c) ∧ (W.setCell ⟨u0.heap.size, mm, none⟩ v).cell? ⟨w.heap.size + 1, 1, none⟩ = some (.slice (some ⟨b, off, none⟩) pn pc) ∧ (W.setCell ⟨u0.heap.size, mm, none⟩ v).cell? ⟨b, off + k * 2, none⟩ = some (.string cc.tag) ∧ (W.setCell ⟨u0.heap.size, mm, none⟩ v).cell? ⟨b, off + k * 2 + 1, none⟩ = some (.slice sa sn sc) from
                    ⟨(World.cell?_setCell_far W ⟨u0.heap.size, mm, none⟩ ⟨w.heap.size, 0, none⟩ v (by simp; omega)).trans h4.1, (World.cell?_setCell_far W ⟨u0.heap.size, mm, none⟩ ⟨w.heap.size + 1, 1, none⟩ v (by simp; omega)).trans h4.2.1, (World.cell?_setCell_far W ⟨u0.heap.size, mm, none⟩ ⟨b, off + k * 2, none⟩ v (by simp; omega)).trans h4.2.2.1, (World.cell?_setCell_far W ⟨u0.heap.size, mm, none⟩ ⟨b, off + k * 2 + 1, none⟩ v (by simp; omega)).trans h4.2.2.2⟩))
                  have hBx' := hide hBx
                  have hNx' := hide hNx
                  have hGx' := hide hGx
                  clear hcx hcv hBx hNx hGx
                  go_wp2
                  go_region_held3 (fun X => X.cell? ⟨w.heap.size, 0, none⟩ = some (.slice A n c) ∧ X.cell? ⟨w.heap.size + 1, 1, none⟩ = some (.slice (some ⟨b, off, none⟩) pn pc) ∧ X.cell? ⟨b, off + k * 2, none⟩ = some (.string cc.tag) ∧ X.cell? ⟨b, off + k * 2 + 1, none⟩ = some (.slice sa sn sc)) (first | exact ⟨v0, v2, y0, y1⟩ | exact ⟨r0, r2, t0, t1⟩ | exact hfar.out _ _ ⟨hW7.out, hs7⟩ ⟨r0, r2, t0, t1⟩) (first | (go_at_call 81; (with_reducible refine hcm'.out.mono ?_); rintro e7 w7 ⟨rfl, hb7⟩; have r0 := cell_later hb7 v0; have r2 := cell_later hb7 v2; have t0 := cell_later hb7 y0; have t1 := cell_later hb7 y1; have hb7' := hide (Below.on (w1 := wx.drew) (Below.refl _ _).drew hb7); have hN7 := hNx'.out.below hb7'.out; have n0 := hN7.cell hlm; have n1 := hN7.free mm; have hW7 := hide (Below.on (Below.on hBr hBx'.out) hb7'.out); have hs7 := hN7.lt; have hN8 := hide hN7; clear hN7))
                  have hN9 := hide (hN8.out.upd (k := mm) (v := cv) (f' := fun j => decide (j < mm + 1) && rchF T cs H k j) (by rw [hval.out]; simp) (fun j _ hj => by
                    by_cases h1 : j < mm
                    · simp only [decide_eq_true h1, decide_eq_true (show j < mm + 1 by omega)]
                    · simp only [decide_eq_false h1, decide_eq_false (show ¬ j < mm + 1 by omega)]))
                  have hG9 := hide ((hGx'.out.below hb7'.out).far (show g ≠ u0.heap.size by omega) (k := mm) (.bool cv))
                  have hB9 := hide ((Below.on hBx'.out hb7'.out).setCell (p := ⟨u0.heap.size, mm, none⟩) (Nat.le_refl _) (.bool cv))
                  clear hN8 hNx' hGx' hBx' hb7' hW7 hfar hb7 r0 r2 t0 t1 n0 n1
                  go_wp2
                  go_roundw
                  case rel => exact ⟨mm + 1, by omega, by go_num, hN9.out, hG9.out, hB9.out⟩
                  case measure => simp [intOf]; omega
        · obtain rfl : n = mm := by omega
          have hN' := hide (hN.congr (f' := rowK T cs H (k + 1)) fun j hj => by simp [hj, rowK])
          clear hN hG
          have hb9 := hide (Below.on hb hb2)
          have hu : W2.heap.size ≤ u0.heap.size := hb.size
          go_wp2
          go_roundw
          case rel => exact ⟨k + 1, u0.heap.size, by omega, by go_num, rfl, hu, hN'.out, hb9.out⟩
          case measure => simp [intOf]; omega
    · obtain rfl : k = kn + 1 := by omega
      have gi := hG.cell hi
      have gi : wr.cell? ⟨g, i, none⟩ = some (.bool (rchF T cs H kn i)) := gi
      clear hG
      go_wp2
      go_ret
      exact ⟨rfl, hBr⟩
set_option maxRecDepth 100000 in
set_option maxHeartbeats 1000000 in
theorem rcpxT_ok (hV : Stays V) (hC : RCompM V Wf T m L C R) (hg : goodB T = true) : RCpxT (IsCpx V) (wholeB Wf) T m (fun x => x.combs) (rowsM T m L C R) := by
  intro A n c i ld PA pn pc KA kn kc x w h hx hB hi
  obtain ⟨d0, h0, r0, hB⟩ := hB
  obtain ⟨-, -, w3, w4, w5, w6⟩ := wholeB_iff.1 hB
  have hpl := hx.lenP
  have hkl := hx.lenK
  have hl8 := hx.l8
  have hpk : (pn : Int) - 1 = (kn : Int) := by omega
  have hbk := hide (fun (W : World) (hW : Below w.heap.size w W) => (show Calls Tryz.prog 64 #[.agg #[.slice A n c], .int .i64 i, .agg #[.int .u8 ld, .slice PA pn pc, .slice KA kn kc], .int .i64 ((pn : Int) - 1), .int .i64 m] W fun e w' => e = .returned (.bool (isI T (fun x : CpxX X => x.combs) (rowsM T m L C R) x i)) ∧ Below W.heap.size W w' from by
    rw [hpk]
    have := rback_ok hV hC hg A n c i ld PA pn pc KA kn kc x W (h.below hW) (IsCpx.below hV _ _ _ _ _ _ _ _ _ _ hW hx) ⟨d0, h0, r0, hB⟩ hi
    rw [hkl] at this ⊢
    exact this))
  have hp1 : 1 ≤ pn := by omega
  have hp64 : pn ≤ 64 := by omega
  generalize isI T (fun x : CpxX X => x.combs) (rowsM T m L C R) x i = rv at *
  have hB0 := below_alloc (below_alloc (Below.refl w.heap.size w) (.cells #[.slice A n c] 24)) (.cells #[.int .u8 ld, .slice PA pn pc, .slice KA kn kc] 62)
  clear h hx hB w3 w4 w5 w6 hpl hkl hpk hV hC hg
  go_enter Tryz.func46, Tryz.ntmps46
  go_wp2_with fail
  (with_reducible refine (hbk.out _ hB0).mono ?_)
  rintro e w1 ⟨rfl, hb1⟩
  have hB1 := Below.on hB0 hb1
  go_wp2
  go_ret
  exact ⟨rfl, hB1⟩
end
end Go.Proofs.YtljloicgjgbplaaGreat
