/- Walks: whether a way goes on from an element, by chapter 23's reference: what is said of each compound is given. Conditions: the selector is right, the element is in the tree. -/
import Derived.Test.YtljloicgjgbplaaGreatG48
import Derived.Test.YtljloicgjgbplaaGreatG49
namespace Go.Proofs.YtljloicgjgbplaaGreat
open Go.RowKit

def RAhdT {X : Type} (V : Lies X) (Wf : Nat → Bool → Bool → X → Bool) (T : List ANode) (m : Int) (C : X → List Int) (R : X → List (List Bool)) : Prop :=
  ∀ (A : Option Addr) (n c : Nat) (q k i : Nat) (ld : Int) (PA : Option Addr) (pn pc : Nat) (KA : Option Addr) (kn kc : Nat) (x : X) (W : World), IsTree W A n T → V W ld PA pn pc KA kn kc x → (∃ d h r, Wf d h r x = true) → i < n → k + q = (C x).length →
    Calls Tryz.prog 151 #[.agg #[.slice A n c], .int .i64 i, .agg #[.int .u8 ld, .slice PA pn pc, .slice KA kn kc], .int .i64 k, .int .i64 m] W fun e w' => e = .returned (.bool (begF T (C x) (R x) q k i)) ∧ Below W.heap.size W w'
section
variable {X : Type} {V : Lies X} {Wf : Nat → Bool → Bool → X → Bool} {T : List ANode} {m : Int} {L : X → Int} {C : X → List Int} {R : X → List (List Bool)}
set_option maxRecDepth 100000 in
set_option maxHeartbeats 2000000 in
theorem raheadT_ok (hV : Stays V) (hC : RCompM V Wf T m L C R) (hg : goodB T = true) : RAhdT (IsCpx V) (wholeB Wf) T m (fun x => x.combs) (rowsM T m L C R) := by
  intro A n c q
  have hV' := hide hV
  have hC' := hide hC
  have hg' := hide hg
  have hn64 : T.length ≤ 64 := ((goodB_iff T).1 hg).2.1
  clear hV hC hg
  induction q with
  | zero =>
    intro k i ld PA pn pc KA kn kc x w h hx hB hi hk
    have hk : k + 0 = x.combs.length := hk
    obtain ⟨d0, h0, r0, hB⟩ := hB
    have hB' : ∃ d h r, wholeB Wf d h r x = true := ⟨d0, h0, r0, hB⟩
    obtain ⟨-, -, w3, w4, w5, w6⟩ := wholeB_iff.1 hB
    have hx' := hide hx
    obtain ⟨rfl, hl8, hpl, hkl, hrowP, hrowK, hcP, hcK⟩ := hx
    have hkpn : k < pn := by omega
    have hkn63 : kn ≤ 63 := by omega
    have hpn64 : pn ≤ 64 := by omega
    obtain ⟨b, off, SA, SC, rfl, hbl, c0, c1, hc⟩ := hrowP.2.2 (by omega)
    obtain ⟨r1, r2, r3, r4⟩ := hc k hkpn
    have hT := hide h
    have hTl := h.1
    have hbx : Hid (bx (rowB (rowsM T m L C R x) k) i = compM T m L C R (px x.parts k) i) := by show _ = _; rw [rowsM_row T m L C R (by omega), rowOf_bx T _ (by omega)]
    have hcB := w6 (px x.parts k) (px_mem (by omega))
    have hB0 := below_alloc (below_alloc (Below.refl w.heap.size w) (.cells #[.slice A n c] 24)) (.cells #[.int .u8 x.lead, .slice (some ⟨b, off, none⟩) pn pc, .slice KA kn kc] 62)
    have hX : ((w.alloc (.cells #[.slice A n c] 24)).alloc (.cells #[.int .u8 x.lead, .slice (some ⟨b, off, none⟩) pn pc, .slice KA kn kc] 62)).heap[w.heap.size + 1]? = some (.cells #[.int .u8 x.lead, .slice (some ⟨b, off, none⟩) pn pc, .slice KA kn kc] 62 (0, 0)) := blk_at _ _ _ _ (by simp)
    have e0 : ((w.alloc (.cells #[.slice A n c] 24)).alloc (.cells #[.int .u8 x.lead, .slice (some ⟨b, off, none⟩) pn pc, .slice KA kn kc] 62)).cell? ⟨w.heap.size, 0, none⟩ = some (.slice A n c) := blk_cell (blk_alloc (blk_new _ _ _) _) 0
    obtain ⟨W2, hW2⟩ : ∃ W2, W2 = (w.alloc (.cells #[.slice A n c] 24)).alloc (.cells #[.int .u8 x.lead, .slice (some ⟨b, off, none⟩) pn pc, .slice KA kn kc] 62) := ⟨_, rfl⟩
    rw [← hW2] at hB0 hX e0
    have hXc := fun r => blk_cell hX r
    have e1 : W2.cell? ⟨w.heap.size + 1, 0, none⟩ = some (.int .u8 x.lead) := hXc 0
    have e2 : W2.cell? ⟨w.heap.size + 1, 1, none⟩ = some (.slice (some ⟨b, off, none⟩) pn pc) := hXc 1
    have e3 : W2.cell? ⟨w.heap.size + 1, 2, none⟩ = some (.slice KA kn kc) := hXc 2
    have g0 := cell_later hB0 (c0 k hkpn)
    have g1 := cell_later hB0 (c1 k hkpn)
    have hcm := hC'.out A n c i (SA k) _ (SC k) (px x.parts k) W2.drew (h.below hB0.drew) (r1.below hV'.out hB0.drew) ⟨d0, h0, hcB⟩ hi
    have hS9 := hide (fun (W : World) (hW : Below W2.heap.size W2 W) => (show W.cell? ⟨w.heap.size, 0, none⟩ = some (.slice A n c) ∧ W.cell? ⟨w.heap.size + 1, 1, none⟩ = some (.slice (some ⟨b, off, none⟩) pn pc) ∧ W.cell? ⟨b, off + k * 2, none⟩ = some (.string (px x.parts k).tag) ∧ W.cell? ⟨b, off + k * 2 + 1, none⟩ = some (.slice (SA k) (px x.parts k).sims.length (SC k)) from ⟨cell_later hW e0, cell_later hW e2, cell_later hW g0, cell_later hW g1⟩))
    have x0 : (0 : Int) ≤ (k : Int) := by omega
    have x1 : (k : Int) < (pn : Int) := by omega
    clear hB c0 c1 hc r1 r4 h hXc hX hcB w6 hrowP
    generalize px x.parts k = cc at *
    generalize SA k = sa at *
    generalize SC k = sc at *
    generalize cc.sims.length = sn at *
    have hkk : kn = k := by omega
    cases hv : compM T m L C R cc i
    · have e : Hid (begF T x.combs (rowsM T m L C R x) 0 k i = false) := by show _ = _; unfold begF; rw [hbx.out, hv]
      rw [hv] at hcm
      have hcm' := hide hcm
      rw [e.out]
      clear hv hcm hbx hk hkl hpl w3 w4 w5 hkk
      go_enter Tryz.func151, Tryz.ntmps151
      go_wp2
      rw [← hW2]
      clear hW2
      go_region_held3 (fun X => X.cell? ⟨w.heap.size, 0, none⟩ = some (.slice A n c) ∧ X.cell? ⟨w.heap.size + 1, 1, none⟩ = some (.slice (some ⟨b, off, none⟩) pn pc) ∧ X.cell? ⟨b, off + k * 2, none⟩ = some (.string cc.tag) ∧ X.cell? ⟨b, off + k * 2 + 1, none⟩ = some (.slice sa sn sc)) (first | exact ⟨e0, e2, g0, g1⟩ | exact hS9.out _ (Below.on (w1 := W2.drew) (Below.refl _ _).drew hb1)) (first | (go_at_call 81; (with_reducible refine hcm'.out.mono ?_); rintro e5 w1 ⟨rfl, hb1⟩))
      have hB1 := Below.on (w1 := W2.drew) hB0.drew hb1
      clear hb1
      go_wp2
      go_ret
      exact ⟨rfl, hB1⟩
    · have e : Hid (begF T x.combs (rowsM T m L C R x) 0 k i = true) := by show _ = _; unfold begF; rw [hbx.out, hv]
      rw [hv] at hcm
      have hcm' := hide hcm
      rw [e.out]
      obtain rfl : k = kn := hkk.symm
      clear hv hcm hbx hk hkl hpl w3 w4 w5 hkk
      go_enter Tryz.func151, Tryz.ntmps151
      go_wp2
      rw [← hW2]
      clear hW2
      go_region_held3 (fun X => X.cell? ⟨w.heap.size, 0, none⟩ = some (.slice A n c) ∧ X.cell? ⟨w.heap.size + 1, 1, none⟩ = some (.slice (some ⟨b, off, none⟩) pn pc) ∧ X.cell? ⟨b, off + k * 2, none⟩ = some (.string cc.tag) ∧ X.cell? ⟨b, off + k * 2 + 1, none⟩ = some (.slice sa sn sc)) (first | exact ⟨e0, e2, g0, g1⟩ | exact hS9.out _ (Below.on (w1 := W2.drew) (Below.refl _ _).drew hb1)) (first | (go_at_call 81; (with_reducible refine hcm'.out.mono ?_); rintro e5 w1 ⟨rfl, hb1⟩))
      have hB1 := Below.on (w1 := W2.drew) hB0.drew hb1
      have z3 := cell_later (Below.on (w1 := W2.drew) (Below.refl _ _).drew hb1) e3
      clear hb1
      go_wp2
      go_ret
      exact ⟨rfl, hB1⟩
  | succ q ih =>
    intro k i ld PA pn pc KA kn kc x w h hx hB hi hk
    have hk : k + (q + 1) = x.combs.length := hk
    have ih' := hide ih
    clear ih
    obtain ⟨d0, h0, r0, hB⟩ := hB
    have hB' : ∃ d h r, wholeB Wf d h r x = true := ⟨d0, h0, r0, hB⟩
    obtain ⟨-, -, w3, w4, w5, w6⟩ := wholeB_iff.1 hB
    have hx' := hide hx
    obtain ⟨rfl, hl8, hpl, hkl, hrowP, hrowK, hcP, hcK⟩ := hx
    have hkpn : k < pn := by omega
    have hkn63 : kn ≤ 63 := by omega
    have hpn64 : pn ≤ 64 := by omega
    obtain ⟨b, off, SA, SC, rfl, hbl, c0, c1, hc⟩ := hrowP.2.2 (by omega)
    obtain ⟨r1, r2, r3, r4⟩ := hc k hkpn
    have hT := hide h
    have hTl := h.1
    have hbx : Hid (bx (rowB (rowsM T m L C R x) k) i = compM T m L C R (px x.parts k) i) := by show _ = _; rw [rowsM_row T m L C R (by omega), rowOf_bx T _ (by omega)]
    have hcB := w6 (px x.parts k) (px_mem (by omega))
    have hB0 := below_alloc (below_alloc (Below.refl w.heap.size w) (.cells #[.slice A n c] 24)) (.cells #[.int .u8 x.lead, .slice (some ⟨b, off, none⟩) pn pc, .slice KA kn kc] 62)
    have hX : ((w.alloc (.cells #[.slice A n c] 24)).alloc (.cells #[.int .u8 x.lead, .slice (some ⟨b, off, none⟩) pn pc, .slice KA kn kc] 62)).heap[w.heap.size + 1]? = some (.cells #[.int .u8 x.lead, .slice (some ⟨b, off, none⟩) pn pc, .slice KA kn kc] 62 (0, 0)) := blk_at _ _ _ _ (by simp)
    have e0 : ((w.alloc (.cells #[.slice A n c] 24)).alloc (.cells #[.int .u8 x.lead, .slice (some ⟨b, off, none⟩) pn pc, .slice KA kn kc] 62)).cell? ⟨w.heap.size, 0, none⟩ = some (.slice A n c) := blk_cell (blk_alloc (blk_new _ _ _) _) 0
    obtain ⟨W2, hW2⟩ : ∃ W2, W2 = (w.alloc (.cells #[.slice A n c] 24)).alloc (.cells #[.int .u8 x.lead, .slice (some ⟨b, off, none⟩) pn pc, .slice KA kn kc] 62) := ⟨_, rfl⟩
    rw [← hW2] at hB0 hX e0
    have hXc := fun r => blk_cell hX r
    have e1 : W2.cell? ⟨w.heap.size + 1, 0, none⟩ = some (.int .u8 x.lead) := hXc 0
    have e2 : W2.cell? ⟨w.heap.size + 1, 1, none⟩ = some (.slice (some ⟨b, off, none⟩) pn pc) := hXc 1
    have e3 : W2.cell? ⟨w.heap.size + 1, 2, none⟩ = some (.slice KA kn kc) := hXc 2
    have g0 := cell_later hB0 (c0 k hkpn)
    have g1 := cell_later hB0 (c1 k hkpn)
    have hcm := hC'.out A n c i (SA k) _ (SC k) (px x.parts k) W2.drew (h.below hB0.drew) (r1.below hV'.out hB0.drew) ⟨d0, h0, hcB⟩ hi
    have hS9 := hide (fun (W : World) (hW : Below W2.heap.size W2 W) => (show W.cell? ⟨w.heap.size, 0, none⟩ = some (.slice A n c) ∧ W.cell? ⟨w.heap.size + 1, 1, none⟩ = some (.slice (some ⟨b, off, none⟩) pn pc) ∧ W.cell? ⟨b, off + k * 2, none⟩ = some (.string (px x.parts k).tag) ∧ W.cell? ⟨b, off + k * 2 + 1, none⟩ = some (.slice (SA k) (px x.parts k).sims.length (SC k)) from ⟨cell_later hW e0, cell_later hW e2, cell_later hW g0, cell_later hW g1⟩))
    have x0 : (0 : Int) ≤ (k : Int) := by omega
    have x1 : (k : Int) < (pn : Int) := by omega
    clear hB c0 c1 hc r1 r4 h hXc hX hcB w6 hrowP
    generalize px x.parts k = cc at *
    generalize SA k = sa at *
    generalize SC k = sc at *
    generalize cc.sims.length = sn at *
    have hkk : k < kn := by omega
    cases hv : compM T m L C R cc i
    · have e : Hid (begF T x.combs (rowsM T m L C R x) (q + 1) k i = false) := by show _ = _; unfold begF; rw [hbx.out, hv]; rfl
      rw [hv] at hcm
      have hcm' := hide hcm
      rw [e.out]
      clear hv hcm hbx hk hkl hpl w3 w4 w5
      go_enter Tryz.func151, Tryz.ntmps151
      go_wp2
      rw [← hW2]
      clear hW2
      go_region_held3 (fun X => X.cell? ⟨w.heap.size, 0, none⟩ = some (.slice A n c) ∧ X.cell? ⟨w.heap.size + 1, 1, none⟩ = some (.slice (some ⟨b, off, none⟩) pn pc) ∧ X.cell? ⟨b, off + k * 2, none⟩ = some (.string cc.tag) ∧ X.cell? ⟨b, off + k * 2 + 1, none⟩ = some (.slice sa sn sc)) (first | exact ⟨e0, e2, g0, g1⟩ | exact hS9.out _ (Below.on (w1 := W2.drew) (Below.refl _ _).drew hb1)) (first | (go_at_call 81; (with_reducible refine hcm'.out.mono ?_); rintro e5 w1 ⟨rfl, hb1⟩))
      have hB1 := Below.on (w1 := W2.drew) hB0.drew hb1
      clear hb1
      go_wp2
      go_ret
      exact ⟨rfl, hB1⟩
    · have e : Hid (begF T x.combs (rowsM T m L C R x) (q + 1) k i = (nearH T i (ix x.combs k)).any fun l => begF T x.combs (rowsM T m L C R x) q (k + 1) l.toNat) := by show _ = _; rw [begF, hbx.out, hv]; rfl
      rw [hv] at hcm
      have hcm' := hide hcm
      have hnr := fun z hz => near_range hg'.out (i := i) (by omega) (c := ix x.combs k) (x := z) hz
      obtain ⟨bc, oc, rfl, hbc, hck⟩ := hrowK.2.2.2 (by omega)
      have gy := cell_later hB0 (hck k hkk)
      have hy := w5 (ix x.combs k) (by rw [ix_get (by omega)]; exact List.getElem_mem _)
      have hih := hide (fun (W : World) (j : Nat) (hj : j < n) (hW : Below w.heap.size w W) => ih'.out (k + 1) j x.lead (some ⟨b, off, none⟩) pn pc (some ⟨bc, oc, none⟩) kn kc x W (hT.out.below hW) (IsCpx.below hV'.out _ _ _ _ _ _ _ _ _ _ hW hx'.out) hB' hj (show k + 1 + q = x.combs.length by omega))
      obtain ⟨y, hye⟩ : ∃ y, ix x.combs k = y := ⟨_, rfl⟩
      simp only [hye] at gy hy hnr e
      have hhnr := hide (fun (W : World) (hW : Below w.heap.size w W) => rnear_ok A n c T i y W (hT.out.below hW) hg'.out hi hy.1 hy.2)
      obtain ⟨N, hN⟩ : ∃ N, nearH T i y = N := ⟨_, rfl⟩
      simp only [hN] at hhnr hnr e
      have hnr' := hide hnr
      rw [e.out]
      obtain ⟨F, hF⟩ : ∃ F, (fun l : Nat => begF T x.combs (rowsM T m L C R x) q (k + 1) l) = F := ⟨_, rfl⟩
      have hih2 := hide (fun (W : World) (j : Nat) (hj : j < n) (hW : Below w.heap.size w W) => (show Calls Tryz.prog 151 #[.agg #[.slice A n c], .int .i64 j, .agg #[.int .u8 x.lead, .slice (some ⟨b, off, none⟩) pn pc, .slice (some ⟨bc, oc, none⟩) kn kc], .int .i64 ((k : Int) + 1), .int .i64 m] W fun e w' => e = .returned (.bool (F j)) ∧ Below W.heap.size W w' from by rw [← hF]; exact hih.out W j hj hW))
      obtain ⟨rv, hrv⟩ : ∃ rv, (N.any fun l => begF T x.combs (rowsM T m L C R x) q (k + 1) l.toNat) = rv := ⟨_, rfl⟩
      rw [hrv]
      have hrv' : Hid (N.any (fun l => F l.toNat) = rv) := by show _ = _; rw [← hF]; exact hrv
      have x2 : (k : Int) < (kn : Int) := by omega
      have hw1 : IntKind.i64.wrap ((k : Int) + 1) = (k : Int) + 1 := IntWalk.i64_in _ (by omega)
      have k0 : ((k : Int) == (kn : Int)) = false := by simp; omega
      clear hv hcm hbx hk hkl hpl w3 w4 w5 e hnr hck hye hN hF hih hrv hrowK hx'
      go_enter Tryz.func151, Tryz.ntmps151
      go_wp2
      rw [← hW2]
      clear hW2
      go_region_held3 (fun X => X.cell? ⟨w.heap.size, 0, none⟩ = some (.slice A n c) ∧ X.cell? ⟨w.heap.size + 1, 1, none⟩ = some (.slice (some ⟨b, off, none⟩) pn pc) ∧ X.cell? ⟨b, off + k * 2, none⟩ = some (.string cc.tag) ∧ X.cell? ⟨b, off + k * 2 + 1, none⟩ = some (.slice sa sn sc)) (first | exact ⟨e0, e2, g0, g1⟩ | exact hS9.out _ (Below.on (w1 := W2.drew) (Below.refl _ _).drew hb1)) (first | (go_at_call 81; (with_reducible refine hcm'.out.mono ?_); rintro e5 w1 ⟨rfl, hb1⟩))
      have hB1 := Below.on (w1 := W2.drew) hB0.drew hb1
      have hC1 := Below.on (w1 := W2.drew) (Below.refl _ _).drew hb1
      have z0 := cell_later hC1 e0
      have z1 := cell_later hC1 e1
      have z2 := cell_later hC1 e2
      have z3 := cell_later hC1 e3
      have zy := cell_later hC1 gy
      have hnear := hide (hhnr.out w1.drew hB1.drew)
      clear hb1 hC1 e0 e1 e2 e3 gy g0 g1 hS9 hcm'
      go_wp2
      go_region_held3 (fun X => X.cell? ⟨w.heap.size, 0, none⟩ = some (.slice A n c) ∧ X.cell? ⟨w.heap.size + 1, 2, none⟩ = some (.slice (some ⟨bc, oc, none⟩) kn kc) ∧ X.cell? ⟨bc, oc + k, none⟩ = some (.int .u8 y)) (first | exact ⟨z0, z3, zy⟩ | exact ⟨r0, r3, ry⟩) (first | (go_at_call 150; (with_reducible refine hnear.out.mono ?_); rintro e5 w5 ⟨A5, c5, rfl, hI5, hb5⟩; have r0 := cell_later hb5 z0; have r1 := cell_later hb5 z1; have r2 := cell_later hb5 z2; have r3 := cell_later hb5 z3; have ry := cell_later hb5 zy))
      have hI5' := hide hI5
      have hB5 := Below.on (w1 := w1.drew) hB1.drew hb5
      have hL63 : N.length ≤ 9223372036854775807 := hI5'.out.2.1
      clear hI5 hnear hb5 ry z0 z1 z2 z3 zy hhnr
      go_wp2
      go_loopw [12] (fun s wr => ∃ x : Nat, x ≤ N.length ∧ s = .int .i64 x ∧ Hid (∀ j, j < x → F (ix N j).toNat = false) ∧ Below w5.heap.size w5 wr) (fun s _ => N.length - (intOf s).toNat)
      case atStart => exact ⟨0, Nat.zero_le _, rfl, fun j hj => absurd hj (by omega), Below.refl _ _⟩
      case round =>
        obtain ⟨q9, hx, rfl, hno, hb⟩ := hrel
        have b0 := cell_later hb r0
        have b1 := cell_later hb r1
        have b2 := cell_later hb r2
        have b3 := cell_later hb r3
        have hBw := Below.on hB5 hb
        by_cases hlt : q9 < N.length
        · obtain ⟨b6, o6, rfl, hb6, hc6⟩ := hI5'.out.2.2 (by omega)
          have gz := (old hb _ _ hb6).trans (hc6 q9 hlt)
          obtain ⟨zz, hzz, hzn⟩ := hnr'.out _ (ix_mem hlt)
          rw [hzz] at gz
          have hzn' : zz < n := by omega
          have x3 : (0 : Int) ≤ (q9 : Int) := by omega
          have x4 : (q9 : Int) < (N.length : Int) := by omega
          have hz := hih2.out wr.drew zz hzn' hBw.drew
          have hzz' := hide hzz
          have hS8 := hide (fun (W : World) (hW : Below wr.heap.size wr W) => (show W.cell? ⟨w.heap.size, 0, none⟩ = some (.slice A n c) ∧ W.cell? ⟨w.heap.size + 1, 0, none⟩ = some (.int .u8 x.lead) ∧ W.cell? ⟨w.heap.size + 1, 1, none⟩ = some (.slice (some ⟨b, off, none⟩) pn pc) ∧ W.cell? ⟨w.heap.size + 1, 2, none⟩ = some (.slice (some ⟨bc, oc, none⟩) kn kc) ∧ W.cell? ⟨b6, o6 + q9, none⟩ = some (.int .i64 zz) from ⟨cell_later hW b0, cell_later hW b1, cell_later hW b2, cell_later hW b3, cell_later hW gz⟩))
          cases hr : F zz
          · rw [hr] at hz
            have hz' := hide hz
            have hno2 : Hid (∀ j, j < q9 + 1 → F (ix N j).toNat = false) := by
              intro j hj
              by_cases h : j = q9
              · subst h; rw [hzz'.out, Int.toNat_natCast]; exact hr
              · exact hno.out j (by omega)
            clear hc6 hzz hr hz
            go_wp2
            go_region_held3 (fun X => X.cell? ⟨w.heap.size, 0, none⟩ = some (.slice A n c) ∧ X.cell? ⟨w.heap.size + 1, 0, none⟩ = some (.int .u8 x.lead) ∧ X.cell? ⟨w.heap.size + 1, 1, none⟩ = some (.slice (some ⟨b, off, none⟩) pn pc) ∧ X.cell? ⟨w.heap.size + 1, 2, none⟩ = some (.slice (some ⟨bc, oc, none⟩) kn kc) ∧ X.cell? ⟨b6, o6 + q9, none⟩ = some (.int .i64 zz)) (first | exact ⟨b0, b1, b2, b3, gz⟩ | exact hS8.out _ (Below.on (w1 := wr.drew) (Below.refl _ _).drew hb7)) (first | (go_at_call 151; (with_reducible refine hz'.out.mono ?_); rintro e7 w7 ⟨rfl, hb7⟩))
            have hb7' := hide (Below.on (w1 := wr.drew) hb.drew hb7)
            clear hb7
            go_wp2
            go_roundw
            case rel => exact ⟨q9 + 1, by omega, by go_num, hno2.out, hb7'.out⟩
            case measure => simp [intOf]; omega
          · rw [hr] at hz
            have hz' := hide hz
            have hrt : Hid (rv = true) := by
              show _ = _
              rw [← hrv'.out, List.any_eq_true]
              exact ⟨_, ix_mem hlt, by rw [hzz, Int.toNat_natCast]; exact hr⟩
            clear hc6 hzz hr hz
            go_wp2
            go_region_held3 (fun X => X.cell? ⟨w.heap.size, 0, none⟩ = some (.slice A n c) ∧ X.cell? ⟨w.heap.size + 1, 0, none⟩ = some (.int .u8 x.lead) ∧ X.cell? ⟨w.heap.size + 1, 1, none⟩ = some (.slice (some ⟨b, off, none⟩) pn pc) ∧ X.cell? ⟨w.heap.size + 1, 2, none⟩ = some (.slice (some ⟨bc, oc, none⟩) kn kc) ∧ X.cell? ⟨b6, o6 + q9, none⟩ = some (.int .i64 zz)) (first | exact ⟨b0, b1, b2, b3, gz⟩ | exact hS8.out _ (Below.on (w1 := wr.drew) (Below.refl _ _).drew hb7)) (first | (go_at_call 151; (with_reducible refine hz'.out.mono ?_); rintro e7 w7 ⟨rfl, hb7⟩))
            have hb7' := hide (Below.on (w1 := wr.drew) hBw.drew hb7)
            clear hb7
            go_wp2
            go_ret
            exact ⟨ret_bool hrt.out.symm, hb7'.out⟩
        · have hrt : Hid (rv = false) := by
            show _ = _
            rw [← hrv'.out, List.any_eq_false]
            intro z hz
            obtain ⟨j, hj, rfl⟩ := mem_ix hz
            rw [hno.out j (by omega)]
            decide
          go_wp2
          go_ret
          exact ⟨ret_bool hrt.out.symm, hBw⟩
end
end Go.Proofs.YtljloicgjgbplaaGreat
