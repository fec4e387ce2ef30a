/- Walks: the list in which each link is any link, and a visited one is none, by the law. Condition: lists of at most a million. -/
import Derived.Test.YtljloicgjgbplaaGreatG56
import Derived.Test.YtljloicgjgbplaaGreatG41
namespace Go.Proofs.YtljloicgjgbplaaGreat
open Go.RowKit

def okPX {X : Type} (Q : X → Prop) (x : CpxX X) : Prop := x.parts.length ≤ 1000000 ∧ ∀ c ∈ x.parts, c.sims.length ≤ 1000000 ∧ ∀ s ∈ c.sims, s.list.length ≤ 1000000 ∧ ∀ y ∈ s.list, Q y
def okPV : (n : Nat) → SelL n → Prop
  | 0 => fun _ => True
  | n + 1 => okPX (X := SelL n) (okPV n)
/-- A list that comes back; it stays so while what was there at w0 and what the call has made stay. -/
def PlainP {X : Type} (V : Lies X) (w0 w : World) (n : Nat) (l : List X) (e : Ending) (w' : World) : Prop := ∃ A c, e = .returned (.slice A n c) ∧ Sure (Fz w0.heap.size w.heap.size w') w' (fun W => IsRow V W A n l) ∧ n ≤ c ∧ c ≤ 9223372036854775807 ∧ Below w.heap.size w w'
def PlainT {X : Type} (V : Lies X) (Q : X → Prop) (f : X → X) : Prop := ∀ (w0 : World) (A : Option Addr) (m c : Nat) (l : List X) (w : World), IsRow V w0 A m l → Below w0.heap.size w0 w → m ≤ c → c ≤ 9223372036854775807 → m ≤ 1000000 → (∀ y ∈ l, Q y) →
  Calls Tryz.prog 12 #[.slice A m c] w (PlainP V w0 w m (l.map f))
theorem On.below {k base : Nat} {w W : World} (h : On (Fz k base w) w W) : Below k w W := ⟨h.os, h.tape, h.output, h.size, fun x hx => h.block x (.inl hx)⟩
theorem Grow0.blk {W w' : World} {base : Nat} {v v' : Value} (h : Grow0 W w' base v v') {g : Nat} {o : Obj} (hg : W.heap[g]? = some o) (hl : g < base) (_hb : base ≤ W.heap.size) : w'.heap[g]? = some o := by
  rw [(h.1 base W (Nat.le_refl _) (Below.refl _ _)).block g hl]; exact hg
theorem kind_pl {k : Int} (h : 0 ≤ k ∧ k ≤ 255) : 0 ≤ (if k = 4 then 6 else if k = 5 then 9 else k) ∧ (if k = 4 then 6 else if k = 5 then 9 else k) ≤ 255 := by
  split
  · omega
  · split <;> omega
set_option maxRecDepth 100000 in
set_option maxHeartbeats 8000000 in
theorem plainT_ok {X : Type} {V : Lies X} {Q : X → Prop} {f : X → X} (hV : Stays V) (hP : PlainT V Q f) : PlainT (IsCpx V) (okPX Q) (plX f) := by
  intro w0 A ln lc l w hrow hbw0 hk1 hk2 hk3 hq
  have hll := hrow.1
  have hk0 : w0.heap.size ≤ w.heap.size := hbw0.size
  have hrow' := hide hrow
  have hP' := hide hP
  have hq' := hide hq
  have hV' := hide hV
  have hbw' := hide hbw0
  clear hrow hP hq hV hbw0
  unfold PlainP
  go_enter Tryz.func12, Tryz.ntmps12
  go_wp2
  go_loopw [3, 4] (fun v i wr => ∃ (q : Nat) (S : List Trip), q ≤ ln ∧ i = .int .i64 q ∧ S.length = q ∧ OwnX wr w.heap.size v S ∧ Hid (Sure (Fv w0.heap.size w.heap.size v wr) wr (fun W => Fit (IsCpx V) W S ((l.take q).map (plX f)))) ∧ Below w.heap.size w wr) (fun _ i _ => ln - (intOf i).toNat)
  case atStart => exact ⟨0, [], Nat.zero_le _, rfl, rfl, OwnX.nil _ _, (fun W _ => Fit.nil _ _), Below.refl _ _⟩
  case round =>
    obtain ⟨q, S, hq, rfl, hSl, hown, hfit, hb⟩ := hrel
    generalize wr = u0 at *
    have hbu := hide (Below.on hbw'.out hb)
    by_cases hlt : q < ln
    · obtain ⟨b, off, l0, PA, pn, pc, KA, kn, kc, rfl, hbl, c0, c1, c2, hv⟩ := hrow'.out.at hlt hll
      have c0 := cell_later hbu.out c0
      have c1 := cell_later hbu.out c1
      have c2 := cell_later hbu.out c2
      have htk : l.take (q + 1) = l.take q ++ [l[q]'(by omega)] := List.take_succ_eq_append_getElem (by omega)
      have hqx := hq'.out (l[q]'(by omega)) (List.getElem_mem _)
      generalize l[q] = x at *
      have hv' := hide hv
      have hown' := hide hown
      have hfit' := hfit
      have htk' := hide htk
      have hqx' := hide hqx
      have hb' := hide hb
      have hul0 : w.heap.size ≤ u0.heap.size := hb.size
      clear hv hown hfit htk hqx hb
      have hK := hide (fun (W : World) (hW : Below u0.heap.size u0 W) => (show W.cell? ⟨b, off + q * 3, none⟩ = some (.int .u8 l0) ∧ W.cell? ⟨b, off + q * 3 + 2, none⟩ = some (.slice KA kn kc) from ⟨cell_later hW c0, cell_later hW c2⟩))
      go_wp2_with fail
      go_region_held3 (fun X => X.cell? ⟨b, off + q * 3, none⟩ = some (.int .u8 l0) ∧ X.cell? ⟨b, off + q * 3 + 2, none⟩ = some (.slice KA kn kc)) (first | with_reducible exact ⟨c0, c2⟩ | (refine hK.out _ ?_; first | with_reducible exact (Below.refl _ _).drew | with_reducible exact (below_alloc (Below.refl _ _) _).drew | with_reducible exact below_alloc (Below.refl _ _) _)) (fail)
      have hB1 := hide (below_alloc (Below.refl u0.heap.size u0) (.cells #[.int .u8 l0, .slice none 0 0, .slice KA kn kc] 62)).drew
      have hX1 := hide (show (u0.alloc (.cells #[.int .u8 l0, .slice none 0 0, .slice KA kn kc] 62)).drew.heap[u0.heap.size]? = some (.cells #[.int .u8 l0, .slice none 0 0, .slice KA kn kc] 62 (0, 0)) from blk_new u0 _ _)
      have hs1 : u0.heap.size < (u0.alloc (.cells #[.int .u8 l0, .slice none 0 0, .slice KA kn kc] 62)).drew.heap.size := by simp
      generalize (u0.alloc (.cells #[.int .u8 l0, .slice none 0 0, .slice KA kn kc] 62)).drew = W1 at *
      have hpl' := hide hv'.out.lenP
      clear hK
      have hp64 := hide (hpl'.out ▸ hqx'.out.1 : pn ≤ 1000000)
      go_wp2
      go_loopw [6] (fun p wr => ∃ (k : Nat) (P : List Duo) (v : Value), k ≤ pn ∧ p = .int .i64 k ∧ P.length = k ∧ wr.heap[u0.heap.size]? = some (.cells #[.int .u8 l0, v, .slice KA kn kc] 62 (0, 0)) ∧ OwnC wr W1.heap.size v P ∧ Hid (Sure (Fv w0.heap.size W1.heap.size v wr) wr (fun W => FitC V W P ((x.parts.take k).map (plC f)))) ∧ Below u0.heap.size u0 wr ∧ W1.heap.size ≤ wr.heap.size) (fun p _ => pn - (intOf p).toNat)
      case atStart => exact ⟨0, [], .slice none 0 0, Nat.zero_le _, rfl, rfl, hX1.out, OwnC.nil _ _, (fun W _ => FitC.nil _ _), hB1.out, Nat.le_refl _⟩
      case round =>
        obtain ⟨k, P, v, hk, rfl, hPl, hxb, hownC, hfitC, hb2, hsz2⟩ := hrel
        generalize wr = u1 at *
        have g1 := cell_later hb2 c1
        have hbu1 := hide (Below.on hbu.out hb2)
        have hul1 : u0.heap.size ≤ u1.heap.size := hb2.size
        have hxb' := hide hxb
        have hb2' := hide hb2
        clear hxb hb2
        by_cases hkl : k < pn
        · obtain ⟨b5, off5, SA, SC, rfl, hbl5, t0, t1, hC⟩ := hv'.out.rowP.2.2 (by omega)
          have hpk2 : px x.parts k = x.parts[k]'(by have := hpl'.out; omega) := by unfold px; rw [List.getD_eq_getElem?_getD, List.getElem?_eq_getElem (by have := hpl'.out; omega)]; rfl
          have htk2 : x.parts.take (k + 1) = x.parts.take k ++ [px x.parts k] := by rw [hpk2]; exact List.take_succ_eq_append_getElem (by have := hpl'.out; omega)
          have hcm : px x.parts k ∈ x.parts := by rw [hpk2]; exact List.getElem_mem _
          have e0 := cell_later hbu1.out (t0 k hkl)
          have e1 := cell_later hbu1.out (t1 k hkl)
          have hqc := hqx'.out.2 _ hcm
          obtain ⟨hI, hI1, hI2, hI3⟩ := hC k hkl
          clear t0 t1 hC hpk2 hcm
          generalize px x.parts k = cc at *
          obtain ⟨sn, hsn⟩ : ∃ sn, cc.sims.length = sn := ⟨_, rfl⟩
          rw [hsn] at e1 hI hI1
          have hsn' := hide hsn
          have hI' := hide hI
          have hqc' := hide hqc
          have htk2' := hide htk2
          have hownC' := hide hownC
          have hfitC' := hfitC
          have hn5 := hide (hsn ▸ hqc.1 : sn ≤ 1000000)
          generalize SA k = SAk at *
          generalize SC k = SCk at *
          clear hsn hI hqc htk2 hownC hfitC
          go_wp2
          have hB2 := hide (below_alloc (Below.refl u1.heap.size u1) (.cells #[.string cc.tag, .slice none 0 0] 70))
          have hX2 := hide (blk_new u1 #[.string cc.tag, .slice none 0 0] 70)
          have hs2 : u1.heap.size < (u1.alloc (.cells #[.string cc.tag, .slice none 0 0] 70)).heap.size := by simp
          generalize u1.alloc (.cells #[.string cc.tag, .slice none 0 0] 70) = W2 at *
          go_loopw [8] (fun r wr => ∃ (z : Nat) (S2 : List Sim) (v : Value), z ≤ sn ∧ r = .int .i64 z ∧ S2.length = z ∧ wr.heap[u1.heap.size]? = some (.cells #[.string cc.tag, v] 70 (0, 0)) ∧ OwnSm wr W2.heap.size v S2 ∧ Hid (Sure (Fv w0.heap.size W2.heap.size v wr) wr (fun W => FitS V W S2 ((cc.sims.take z).map (plS f)))) ∧ Below u1.heap.size u1 wr ∧ W2.heap.size ≤ wr.heap.size) (fun r _ => sn - (intOf r).toNat)
          case atStart => exact ⟨0, [], .slice none 0 0, Nat.zero_le _, rfl, rfl, hX2.out, OwnSm.nil _ _, (fun W _ => FitS.nil _ _), hB2.out, Nat.le_refl _⟩
          case round =>
            obtain ⟨z, S2, v2, hz, rfl, hSl2, hcb, hownS, hfitS, hb3, hsz3⟩ := hrel
            generalize wr = u2 at *
            have g1 := cell_later hb3 g1
            have e0 := cell_later hb3 e0
            have e1 := cell_later hb3 e1
            have hbu2 := hide (Below.on hbu1.out hb3)
            have hb3' := hide hb3
            clear hb3
            by_cases hzl : z < sn
            · obtain ⟨hIl, S9, ⟨hSl9, -, hin⟩, hrel9⟩ := hI'.out
              obtain ⟨b7, off7, rfl, hbl7, hin⟩ := hin (by omega)
              have hin1 := (hin z hzl).later hbu2.out
              have hr1 := hrel9 z hzl
              have hpk3 : sy cc.sims z = cc.sims[z]'(by omega) := by unfold sy; rw [List.getD_eq_getElem?_getD, List.getElem?_eq_getElem (by omega)]; rfl
              have htk3 : cc.sims.take (z + 1) = cc.sims.take z ++ [sy cc.sims z] := by rw [hpk3]; exact List.take_succ_eq_append_getElem (by omega)
              have hcm : sy cc.sims z ∈ cc.sims := by rw [hpk3]; exact List.getElem_mem _
              have hqs := hqc'.out.2 _ hcm
              clear hin hrel9 hpk3 hcm
              generalize sy cc.sims z = xs at *
              generalize sm S9 z = s9 at *
              have hr1' := hide hr1
              have hqs' := hide hqs
              have htk3' := hide htk3
              have hownS' := hide hownS
              have hfitS' := hfitS
              obtain ⟨f0, f1, f2, f3, f4, f5, f6, f7, f8⟩ := hin1
              clear hr1 hqs htk3 hownS hfitS
              obtain ⟨kk, hkk⟩ : ∃ kk, (if s9.kind = 4 then 6 else if s9.kind = 5 then 9 else s9.kind) = kk := ⟨_, rfl⟩
              have hkk8 := kind_pl hr1'.out.k8
              rw [hkk] at hkk8
              have hGo := hide (show Calls Tryz.prog 12 #[.slice s9.LA s9.ln s9.lc] (u2.alloc (.cells #[.int .u8 kk, .string s9.name, .int .u8 s9.op, .string s9.val, .bool s9.fold, .int .i64 s9.a, .int .i64 s9.b, .bool s9.of, .slice s9.LA s9.ln s9.lc] 41)) fun e w' => ∃ A' c', e = .returned (.slice A' s9.ln c') ∧ w'.heap[u2.heap.size]? = some (.cells #[.int .u8 kk, .string s9.name, .int .u8 s9.op, .string s9.val, .bool s9.fold, .int .i64 s9.a, .int .i64 s9.b, .bool s9.of, .slice s9.LA s9.ln s9.lc] 41 (0, 0)) ∧ Below u2.heap.size u2 w' ∧ Sure (Fz w0.heap.size (u2.heap.size + 1) w') w' (fun W' => SimRel V W' { s9 with kind := kk, LA := A', lc := c' } (plS f xs)) from by
                have hW := blk_new u2 #[.int .u8 kk, .string s9.name, .int .u8 s9.op, .string s9.val, .bool s9.fold, .int .i64 s9.a, .int .i64 s9.b, .bool s9.of, .slice s9.LA s9.ln s9.lc] 41
                have hBW := below_alloc (Below.refl u2.heap.size u2) (.cells #[.int .u8 kk, .string s9.name, .int .u8 s9.op, .string s9.val, .bool s9.fold, .int .i64 s9.a, .int .i64 s9.b, .bool s9.of, .slice s9.LA s9.ln s9.lc] 41)
                have hx := hP'.out w0 s9.LA s9.ln s9.lc xs.list _ hr1'.out.row (Below.on hbu2.out hBW) hr1'.out.lc hr1'.out.lc' (by rw [hr1'.out.ln]; exact hqs'.out.1) hqs'.out.2
                refine hx.mono ?_
                rintro e w' ⟨A', c', rfl, hR, hc1, hc2, hb⟩
                have hwl := blk_lt hW
                refine ⟨A', c', rfl, (hb.block _ hwl).trans hW, Below.on hBW hb, fun W' hW' => ?_⟩
                have hR' := hR W' (hW'.less fun y hy => hy.imp id fun h => ⟨by omega, h.2⟩)
                have hkz : kk = (plS f xs).kind := by rw [← hkk, hr1'.out.kind]; rfl
                exact { kind := hkz, name := hr1'.out.name, op := hr1'.out.op, val := hr1'.out.val, fold := hr1'.out.fold, a := hr1'.out.a, b := hr1'.out.b, of := hr1'.out.of, ln := by show s9.ln = _; rw [hr1'.out.ln]; exact (List.length_map f).symm, lc := hc1, lc' := hc2, k8 := hkk8, o8 := hr1'.out.o8, ns := hr1'.out.ns, vs := hr1'.out.vs, a64 := hr1'.out.a64, b64 := hr1'.out.b64, row := hR' })
              have hkk' := hide hkk
              clear hkk
              by_cases h4 : s9.kind = 4
              · have b4 : (s9.kind == 4) = true := by rw [h4]; rfl
                obtain rfl : kk = 6 := by rw [← hkk'.out, if_pos h4]
                clear h4
                go_wp2_with fail
                (with_reducible refine hGo.out.mono ?_)
                rintro e w5 ⟨A', c', rfl, hy, hb5, hrel5⟩
                have y0 : w5.cell? ⟨u2.heap.size, 0, none⟩ = some (.int .u8 6) := blk_cell hy 0
                have y1 : w5.cell? ⟨u2.heap.size, 1, none⟩ = some (.string s9.name) := blk_cell hy 1
                have y2 : w5.cell? ⟨u2.heap.size, 2, none⟩ = some (.int .u8 s9.op) := blk_cell hy 2
                have y3 : w5.cell? ⟨u2.heap.size, 3, none⟩ = some (.string s9.val) := blk_cell hy 3
                have y4 : w5.cell? ⟨u2.heap.size, 4, none⟩ = some (.bool s9.fold) := blk_cell hy 4
                have y5 : w5.cell? ⟨u2.heap.size, 5, none⟩ = some (.int .i64 s9.a) := blk_cell hy 5
                have y6 : w5.cell? ⟨u2.heap.size, 6, none⟩ = some (.int .i64 s9.b) := blk_cell hy 6
                have y7 : w5.cell? ⟨u2.heap.size, 7, none⟩ = some (.bool s9.of) := blk_cell hy 7
                have y8 : w5.cell? ⟨u2.heap.size, 8, none⟩ = some (.slice s9.LA s9.ln s9.lc) := blk_cell hy 8
                have yf := blk_frozen hy 8
                have hcb5 := (hb5.block _ (blk_lt hcb)).trans hcb
                have cc1 : w5.cell? ⟨u1.heap.size, 1, none⟩ = some v2 := blk_cell hcb5 1
                have cf := blk_frozen hcb5 1
                have hul : u1.heap.size < u2.heap.size := blk_lt hcb
                have hW6 := below_alloc (hb5.setCell (p := ⟨u2.heap.size, 8, none⟩) (Nat.le_refl _) (.slice A' s9.ln c')) (.cells #[.int .u8 6, .string s9.name, .int .u8 s9.op, .string s9.val, .bool s9.fold, .int .i64 s9.a, .int .i64 s9.b, .bool s9.of, .slice A' s9.ln c'] 41)
                have hg6 : ((w5.setCell ⟨u2.heap.size, 8, none⟩ (.slice A' s9.ln c')).alloc (.cells #[.int .u8 6, .string s9.name, .int .u8 s9.op, .string s9.val, .bool s9.fold, .int .i64 s9.a, .int .i64 s9.b, .bool s9.of, .slice A' s9.ln c'] 41)).heap[w5.heap.size]? = some (.cells (simC { s9 with kind := 6, LA := A', lc := c' }) 41 (0, 0)) := blk_at _ _ _ _ (by simp)
                have hown6 := hownS'.out.below hW6
                have hn6 : S2.length ≤ 1000000 := by have := hn5.out; omega
                have hsz6 : W2.heap.size ≤ ((w5.setCell ⟨u2.heap.size, 8, none⟩ (.slice A' s9.ln c')).alloc (.cells #[.int .u8 6, .string s9.name, .int .u8 s9.op, .string s9.val, .bool s9.fold, .int .i64 s9.a, .int .i64 s9.b, .bool s9.of, .slice A' s9.ln c'] 41)).heap.size := Nat.le_trans hsz3 hW6.size
                have hS6 := hide (show Sure (Fv w0.heap.size W2.heap.size v2 ((w5.setCell ⟨u2.heap.size, 8, none⟩ (.slice A' s9.ln c')).alloc (.cells #[.int .u8 6, .string s9.name, .int .u8 s9.op, .string s9.val, .bool s9.fold, .int .i64 s9.a, .int .i64 s9.b, .bool s9.of, .slice A' s9.ln c'] 41))) ((w5.setCell ⟨u2.heap.size, 8, none⟩ (.slice A' s9.ln c')).alloc (.cells #[.int .u8 6, .string s9.name, .int .u8 s9.op, .string s9.val, .bool s9.fold, .int .i64 s9.a, .int .i64 s9.b, .bool s9.of, .slice A' s9.ln c'] 41)) (fun W => FitS V W (S2 ++ [{ s9 with kind := 6, LA := A', lc := c' }]) ((cc.sims.take (z + 1)).map (plS f))) from by
                  have h1 := hfitS'.out.below (by omega) hW6
                  have h2 := hrel5.call (v := v2) (base := W2.heap.size) (W := (w5.setCell ⟨u2.heap.size, 8, none⟩ (.slice A' s9.ln c')).alloc (.cells #[.int .u8 6, .string s9.name, .int .u8 s9.op, .string s9.val, .bool s9.fold, .int .i64 s9.a, .int .i64 s9.b, .bool s9.of, .slice A' s9.ln c'] 41)) (fun g hg => by have := (World.ownsRow.lt hownS'.out g hg).2; omega) (by omega)
                    ⟨rfl, rfl, rfl, by simp [World.setCell], fun x hx => by
                      have hx5 : x < w5.heap.size := by have := hb5.size; rcases hx with hx | hx <;> omega
                      rw [Below.heap_alloc _ _ _ (by simpa [World.setCell] using hx5)]
                      exact Below.heap_setCell _ _ _ _ (by show x ≠ u2.heap.size; rcases hx with hx | hx <;> omega)⟩
                  intro W hW
                  have h3 := (h1 W hW).push (h2 W hW)
                  rw [htk3'.out, List.map_append]
                  exact h3)
                have hb5' := hide hb5
                have hW6' := hide hW6
                have hcb6 := (hW6.block _ (blk_lt hcb)).trans hcb
                have hcb6' := hide hcb6
                clear hy hrel5 hb5 hW6 hcb5 hcb6 hownS' hfitS'
                go_wp2_with (at_builtin; refine wpList_appS rfl _ _ rfl hown6 { s9 with kind := 6, LA := A', lc := c' } w5.heap.size rfl rfl hg6 hn6 hsz6 ?_)
                intro A8 c8 w8 hown8 hgr8
                have hcb8 := hgr8.blk hcb6'.out (by omega) hsz6
                have d1 : w8.cell? ⟨u1.heap.size, 1, none⟩ = some v2 := blk_cell hcb8 1
                have d2 := blk_frozen hcb8 1
                have hcb9 := hide (blk_set hcb8 1 (.slice A8 (z + 1) c8))
                have hown9 := hide (ownsRow_setCell_below hown8 (a := ⟨u1.heap.size, 1, none⟩) (show u1.heap.size < W2.heap.size by omega) (.slice A8 (z + 1) c8))
                have hfit9 := hide ((hS6.out.grow hgr8 (by omega)).set (g := u1.heap.size) (o := 1) (by omega) (by omega) (.slice A8 (z + 1) c8))
                have hB9 := hide ((hgr8.1 u1.heap.size u1 (by omega) (hb3'.out.trans (hW6'.out.mono hb3'.out.size))).setCell (p := ⟨u1.heap.size, 1, none⟩) (Nat.le_refl _) (.slice A8 (z + 1) c8))
                have hsz9 : W2.heap.size ≤ w8.heap.size := Nat.le_trans hsz6 hgr8.2.1
                have hl9 : (S2 ++ [({ s9 with kind := 6, LA := A', lc := c' } : Sim)]).length = z + 1 := by rw [List.length_append, hSl2]; rfl
                have hl9' := hide hl9
                clear hgr8 hown8 hown6 hg6 hS6 hcb8 hcb6' hl9 hW6' hb5' y0 y1 y2 y3 y4 y5 y6 y7 y8 yf cc1 cf
                go_wp2
                go_roundw
                case rel => exact ⟨z + 1, _, _, by omega, by go_num, hl9'.out, hcb9.out, hown9.out, hfit9, hB9.out, by simpa [World.setCell] using hsz9⟩
                case measure => simp [intOf]; omega
              · have b4 : (s9.kind == 4) = false := by rw [beq_eq_false_iff_ne]; exact h4
                by_cases h5 : s9.kind = 5
                · have b5 : (s9.kind == 5) = true := by rw [h5]; rfl
                  obtain rfl : kk = 9 := by rw [← hkk'.out, if_neg h4, if_pos h5]
                  clear h4 h5
                  go_wp2_with fail
                  (with_reducible refine hGo.out.mono ?_)
                  rintro e w5 ⟨A', c', rfl, hy, hb5, hrel5⟩
                  have y0 : w5.cell? ⟨u2.heap.size, 0, none⟩ = some (.int .u8 9) := blk_cell hy 0
                  have y1 : w5.cell? ⟨u2.heap.size, 1, none⟩ = some (.string s9.name) := blk_cell hy 1
                  have y2 : w5.cell? ⟨u2.heap.size, 2, none⟩ = some (.int .u8 s9.op) := blk_cell hy 2
                  have y3 : w5.cell? ⟨u2.heap.size, 3, none⟩ = some (.string s9.val) := blk_cell hy 3
                  have y4 : w5.cell? ⟨u2.heap.size, 4, none⟩ = some (.bool s9.fold) := blk_cell hy 4
                  have y5 : w5.cell? ⟨u2.heap.size, 5, none⟩ = some (.int .i64 s9.a) := blk_cell hy 5
                  have y6 : w5.cell? ⟨u2.heap.size, 6, none⟩ = some (.int .i64 s9.b) := blk_cell hy 6
                  have y7 : w5.cell? ⟨u2.heap.size, 7, none⟩ = some (.bool s9.of) := blk_cell hy 7
                  have y8 : w5.cell? ⟨u2.heap.size, 8, none⟩ = some (.slice s9.LA s9.ln s9.lc) := blk_cell hy 8
                  have yf := blk_frozen hy 8
                  have hcb5 := (hb5.block _ (blk_lt hcb)).trans hcb
                  have cc1 : w5.cell? ⟨u1.heap.size, 1, none⟩ = some v2 := blk_cell hcb5 1
                  have cf := blk_frozen hcb5 1
                  have hul : u1.heap.size < u2.heap.size := blk_lt hcb
                  have hW6 := below_alloc (hb5.setCell (p := ⟨u2.heap.size, 8, none⟩) (Nat.le_refl _) (.slice A' s9.ln c')) (.cells #[.int .u8 9, .string s9.name, .int .u8 s9.op, .string s9.val, .bool s9.fold, .int .i64 s9.a, .int .i64 s9.b, .bool s9.of, .slice A' s9.ln c'] 41)
                  have hg6 : ((w5.setCell ⟨u2.heap.size, 8, none⟩ (.slice A' s9.ln c')).alloc (.cells #[.int .u8 9, .string s9.name, .int .u8 s9.op, .string s9.val, .bool s9.fold, .int .i64 s9.a, .int .i64 s9.b, .bool s9.of, .slice A' s9.ln c'] 41)).heap[w5.heap.size]? = some (.cells (simC { s9 with kind := 9, LA := A', lc := c' }) 41 (0, 0)) := blk_at _ _ _ _ (by simp)
                  have hown6 := hownS'.out.below hW6
                  have hn6 : S2.length ≤ 1000000 := by have := hn5.out; omega
                  have hsz6 : W2.heap.size ≤ ((w5.setCell ⟨u2.heap.size, 8, none⟩ (.slice A' s9.ln c')).alloc (.cells #[.int .u8 9, .string s9.name, .int .u8 s9.op, .string s9.val, .bool s9.fold, .int .i64 s9.a, .int .i64 s9.b, .bool s9.of, .slice A' s9.ln c'] 41)).heap.size := Nat.le_trans hsz3 hW6.size
                  have hS6 := hide (show Sure (Fv w0.heap.size W2.heap.size v2 ((w5.setCell ⟨u2.heap.size, 8, none⟩ (.slice A' s9.ln c')).alloc (.cells #[.int .u8 9, .string s9.name, .int .u8 s9.op, .string s9.val, .bool s9.fold, .int .i64 s9.a, .int .i64 s9.b, .bool s9.of, .slice A' s9.ln c'] 41))) ((w5.setCell ⟨u2.heap.size, 8, none⟩ (.slice A' s9.ln c')).alloc (.cells #[.int .u8 9, .string s9.name, .int .u8 s9.op, .string s9.val, .bool s9.fold, .int .i64 s9.a, .int .i64 s9.b, .bool s9.of, .slice A' s9.ln c'] 41)) (fun W => FitS V W (S2 ++ [{ s9 with kind := 9, LA := A', lc := c' }]) ((cc.sims.take (z + 1)).map (plS f))) from by
                    have h1 := hfitS'.out.below (by omega) hW6
                    have h2 := hrel5.call (v := v2) (base := W2.heap.size) (W := (w5.setCell ⟨u2.heap.size, 8, none⟩ (.slice A' s9.ln c')).alloc (.cells #[.int .u8 9, .string s9.name, .int .u8 s9.op, .string s9.val, .bool s9.fold, .int .i64 s9.a, .int .i64 s9.b, .bool s9.of, .slice A' s9.ln c'] 41)) (fun g hg => by have := (World.ownsRow.lt hownS'.out g hg).2; omega) (by omega)
                      ⟨rfl, rfl, rfl, by simp [World.setCell], fun x hx => by
                        have hx5 : x < w5.heap.size := by have := hb5.size; rcases hx with hx | hx <;> omega
                        rw [Below.heap_alloc _ _ _ (by simpa [World.setCell] using hx5)]
                        exact Below.heap_setCell _ _ _ _ (by show x ≠ u2.heap.size; rcases hx with hx | hx <;> omega)⟩
                    intro W hW
                    have h3 := (h1 W hW).push (h2 W hW)
                    rw [htk3'.out, List.map_append]
                    exact h3)
                  have hb5' := hide hb5
                  have hW6' := hide hW6
                  have hcb6 := (hW6.block _ (blk_lt hcb)).trans hcb
                  have hcb6' := hide hcb6
                  clear hy hrel5 hb5 hW6 hcb5 hcb6 hownS' hfitS'
                  go_wp2_with (at_builtin; refine wpList_appS rfl _ _ rfl hown6 { s9 with kind := 9, LA := A', lc := c' } w5.heap.size rfl rfl hg6 hn6 hsz6 ?_)
                  intro A8 c8 w8 hown8 hgr8
                  have hcb8 := hgr8.blk hcb6'.out (by omega) hsz6
                  have d1 : w8.cell? ⟨u1.heap.size, 1, none⟩ = some v2 := blk_cell hcb8 1
                  have d2 := blk_frozen hcb8 1
                  have hcb9 := hide (blk_set hcb8 1 (.slice A8 (z + 1) c8))
                  have hown9 := hide (ownsRow_setCell_below hown8 (a := ⟨u1.heap.size, 1, none⟩) (show u1.heap.size < W2.heap.size by omega) (.slice A8 (z + 1) c8))
                  have hfit9 := hide ((hS6.out.grow hgr8 (by omega)).set (g := u1.heap.size) (o := 1) (by omega) (by omega) (.slice A8 (z + 1) c8))
                  have hB9 := hide ((hgr8.1 u1.heap.size u1 (by omega) (hb3'.out.trans (hW6'.out.mono hb3'.out.size))).setCell (p := ⟨u1.heap.size, 1, none⟩) (Nat.le_refl _) (.slice A8 (z + 1) c8))
                  have hsz9 : W2.heap.size ≤ w8.heap.size := Nat.le_trans hsz6 hgr8.2.1
                  have hl9 : (S2 ++ [({ s9 with kind := 9, LA := A', lc := c' } : Sim)]).length = z + 1 := by rw [List.length_append, hSl2]; rfl
                  have hl9' := hide hl9
                  clear hgr8 hown8 hown6 hg6 hS6 hcb8 hcb6' hl9 hW6' hb5' y0 y1 y2 y3 y4 y5 y6 y7 y8 yf cc1 cf
                  go_wp2
                  go_roundw
                  case rel => exact ⟨z + 1, _, _, by omega, by go_num, hl9'.out, hcb9.out, hown9.out, hfit9, hB9.out, by simpa [World.setCell] using hsz9⟩
                  case measure => simp [intOf]; omega
                · have b5 : (s9.kind == 5) = false := by rw [beq_eq_false_iff_ne]; exact h5
                  obtain rfl : kk = s9.kind := by rw [← hkk'.out, if_neg h4, if_neg h5]
                  clear h4 h5
                  go_wp2_with fail
                  (with_reducible refine hGo.out.mono ?_)
                  rintro e w5 ⟨A', c', rfl, hy, hb5, hrel5⟩
                  have y0 : w5.cell? ⟨u2.heap.size, 0, none⟩ = some (.int .u8 s9.kind) := blk_cell hy 0
                  have y1 : w5.cell? ⟨u2.heap.size, 1, none⟩ = some (.string s9.name) := blk_cell hy 1
                  have y2 : w5.cell? ⟨u2.heap.size, 2, none⟩ = some (.int .u8 s9.op) := blk_cell hy 2
                  have y3 : w5.cell? ⟨u2.heap.size, 3, none⟩ = some (.string s9.val) := blk_cell hy 3
                  have y4 : w5.cell? ⟨u2.heap.size, 4, none⟩ = some (.bool s9.fold) := blk_cell hy 4
                  have y5 : w5.cell? ⟨u2.heap.size, 5, none⟩ = some (.int .i64 s9.a) := blk_cell hy 5
                  have y6 : w5.cell? ⟨u2.heap.size, 6, none⟩ = some (.int .i64 s9.b) := blk_cell hy 6
                  have y7 : w5.cell? ⟨u2.heap.size, 7, none⟩ = some (.bool s9.of) := blk_cell hy 7
                  have y8 : w5.cell? ⟨u2.heap.size, 8, none⟩ = some (.slice s9.LA s9.ln s9.lc) := blk_cell hy 8
                  have yf := blk_frozen hy 8
                  have hcb5 := (hb5.block _ (blk_lt hcb)).trans hcb
                  have cc1 : w5.cell? ⟨u1.heap.size, 1, none⟩ = some v2 := blk_cell hcb5 1
                  have cf := blk_frozen hcb5 1
                  have hul : u1.heap.size < u2.heap.size := blk_lt hcb
                  have hW6 := below_alloc (hb5.setCell (p := ⟨u2.heap.size, 8, none⟩) (Nat.le_refl _) (.slice A' s9.ln c')) (.cells #[.int .u8 s9.kind, .string s9.name, .int .u8 s9.op, .string s9.val, .bool s9.fold, .int .i64 s9.a, .int .i64 s9.b, .bool s9.of, .slice A' s9.ln c'] 41)
                  have hg6 : ((w5.setCell ⟨u2.heap.size, 8, none⟩ (.slice A' s9.ln c')).alloc (.cells #[.int .u8 s9.kind, .string s9.name, .int .u8 s9.op, .string s9.val, .bool s9.fold, .int .i64 s9.a, .int .i64 s9.b, .bool s9.of, .slice A' s9.ln c'] 41)).heap[w5.heap.size]? = some (.cells (simC { s9 with kind := s9.kind, LA := A', lc := c' }) 41 (0, 0)) := blk_at _ _ _ _ (by simp)
                  have hown6 := hownS'.out.below hW6
                  have hn6 : S2.length ≤ 1000000 := by have := hn5.out; omega
                  have hsz6 : W2.heap.size ≤ ((w5.setCell ⟨u2.heap.size, 8, none⟩ (.slice A' s9.ln c')).alloc (.cells #[.int .u8 s9.kind, .string s9.name, .int .u8 s9.op, .string s9.val, .bool s9.fold, .int .i64 s9.a, .int .i64 s9.b, .bool s9.of, .slice A' s9.ln c'] 41)).heap.size := Nat.le_trans hsz3 hW6.size
                  have hS6 := hide (show Sure (Fv w0.heap.size W2.heap.size v2 ((w5.setCell ⟨u2.heap.size, 8, none⟩ (.slice A' s9.ln c')).alloc (.cells #[.int .u8 s9.kind, .string s9.name, .int .u8 s9.op, .string s9.val, .bool s9.fold, .int .i64 s9.a, .int .i64 s9.b, .bool s9.of, .slice A' s9.ln c'] 41))) ((w5.setCell ⟨u2.heap.size, 8, none⟩ (.slice A' s9.ln c')).alloc (.cells #[.int .u8 s9.kind, .string s9.name, .int .u8 s9.op, .string s9.val, .bool s9.fold, .int .i64 s9.a, .int .i64 s9.b, .bool s9.of, .slice A' s9.ln c'] 41)) (fun W => FitS V W (S2 ++ [{ s9 with kind := s9.kind, LA := A', lc := c' }]) ((cc.sims.take (z + 1)).map (plS f))) from by
                    have h1 := hfitS'.out.below (by omega) hW6
                    have h2 := hrel5.call (v := v2) (base := W2.heap.size) (W := (w5.setCell ⟨u2.heap.size, 8, none⟩ (.slice A' s9.ln c')).alloc (.cells #[.int .u8 s9.kind, .string s9.name, .int .u8 s9.op, .string s9.val, .bool s9.fold, .int .i64 s9.a, .int .i64 s9.b, .bool s9.of, .slice A' s9.ln c'] 41)) (fun g hg => by have := (World.ownsRow.lt hownS'.out g hg).2; omega) (by omega)
                      ⟨rfl, rfl, rfl, by simp [World.setCell], fun x hx => by
                        have hx5 : x < w5.heap.size := by have := hb5.size; rcases hx with hx | hx <;> omega
                        rw [Below.heap_alloc _ _ _ (by simpa [World.setCell] using hx5)]
                        exact Below.heap_setCell _ _ _ _ (by show x ≠ u2.heap.size; rcases hx with hx | hx <;> omega)⟩
                    intro W hW
                    have h3 := (h1 W hW).push (h2 W hW)
                    rw [htk3'.out, List.map_append]
                    exact h3)
                  have hb5' := hide hb5
                  have hW6' := hide hW6
                  have hcb6 := (hW6.block _ (blk_lt hcb)).trans hcb
                  have hcb6' := hide hcb6
                  clear hy hrel5 hb5 hW6 hcb5 hcb6 hownS' hfitS'
                  go_wp2_with (at_builtin; refine wpList_appS rfl _ _ rfl hown6 { s9 with kind := s9.kind, LA := A', lc := c' } w5.heap.size rfl rfl hg6 hn6 hsz6 ?_)
                  intro A8 c8 w8 hown8 hgr8
                  have hcb8 := hgr8.blk hcb6'.out (by omega) hsz6
                  have d1 : w8.cell? ⟨u1.heap.size, 1, none⟩ = some v2 := blk_cell hcb8 1
                  have d2 := blk_frozen hcb8 1
                  have hcb9 := hide (blk_set hcb8 1 (.slice A8 (z + 1) c8))
                  have hown9 := hide (ownsRow_setCell_below hown8 (a := ⟨u1.heap.size, 1, none⟩) (show u1.heap.size < W2.heap.size by omega) (.slice A8 (z + 1) c8))
                  have hfit9 := hide ((hS6.out.grow hgr8 (by omega)).set (g := u1.heap.size) (o := 1) (by omega) (by omega) (.slice A8 (z + 1) c8))
                  have hB9 := hide ((hgr8.1 u1.heap.size u1 (by omega) (hb3'.out.trans (hW6'.out.mono hb3'.out.size))).setCell (p := ⟨u1.heap.size, 1, none⟩) (Nat.le_refl _) (.slice A8 (z + 1) c8))
                  have hsz9 : W2.heap.size ≤ w8.heap.size := Nat.le_trans hsz6 hgr8.2.1
                  have hl9 : (S2 ++ [({ s9 with kind := s9.kind, LA := A', lc := c' } : Sim)]).length = z + 1 := by rw [List.length_append, hSl2]; rfl
                  have hl9' := hide hl9
                  clear hgr8 hown8 hown6 hg6 hS6 hcb8 hcb6' hl9 hW6' hb5' y0 y1 y2 y3 y4 y5 y6 y7 y8 yf cc1 cf
                  go_wp2
                  go_roundw
                  case rel => exact ⟨z + 1, _, _, by omega, by go_num, hl9'.out, hcb9.out, hown9.out, hfit9, hB9.out, by simpa [World.setCell] using hsz9⟩
                  case measure => simp [intOf]; omega
            · obtain rfl : sn = z := by omega
              obtain ⟨SA9, sc9, rfl, q1, q2, hIS⟩ := hownS.sure (show Sure (Fv w0.heap.size W2.heap.size v2 u2) u2 (fun W => FitS V W S2 (cc.sims.map (plS f))) from by
                have h1 := hfitS.out
                rw [show cc.sims.take sn = cc.sims from by rw [← hsn'.out]; exact List.take_length] at h1
                exact h1) (by have := hn5.out; omega)
              have hIS' := hide hIS
              rw [hSl2] at hcb q1
              have e9 : u2.cell? ⟨u1.heap.size, 0, none⟩ = some (.string cc.tag) := blk_cell hcb 0
              have e8 : u2.cell? ⟨u1.heap.size, 1, none⟩ = some (.slice SA9 sn sc9) := blk_cell hcb 1
              have hul2 : u1.heap.size < u2.heap.size := blk_lt hcb
              have hW7 := below_alloc (Below.refl u2.heap.size u2) (.cells #[.string cc.tag, .slice SA9 sn sc9] 70)
              have hg7 : (u2.alloc (.cells #[.string cc.tag, .slice SA9 sn sc9] 70)).heap[u2.heap.size]? = some (.cells (duoC ⟨cc.tag, SA9, sn, sc9⟩) 70 (0, 0)) := blk_new _ _ _
              have hW71 : Below u1.heap.size u1 (u2.alloc (.cells #[.string cc.tag, .slice SA9 sn sc9] 70)) := below_alloc hb3'.out _
              have hown7 := hownC'.out.below hW71
              have hxb7 := (hW71.block _ (blk_lt hxb'.out)).trans hxb'.out
              have x1 : u2.cell? ⟨u0.heap.size, 1, none⟩ = some v := blk_cell ((hb3'.out.block _ (blk_lt hxb'.out)).trans hxb'.out) 1
              have hn7 : P.length ≤ 1000000 := by have := hp64.out; omega
              have hsz7 : W1.heap.size ≤ (u2.alloc (.cells #[.string cc.tag, .slice SA9 sn sc9] 70)).heap.size := Nat.le_trans hsz2 hW71.size
              have hS7 := hide (show Sure (Fv w0.heap.size W1.heap.size v (u2.alloc (.cells #[.string cc.tag, .slice SA9 sn sc9] 70))) (u2.alloc (.cells #[.string cc.tag, .slice SA9 sn sc9] 70)) (fun W => FitC V W (P ++ [⟨cc.tag, SA9, sn, sc9⟩]) ((x.parts.take (k + 1)).map (plC f))) from by
                have h1 := hfitC'.out.below (by omega) hW71
                have h2 := hIS'.out.call (v := v) (base := W1.heap.size) (W := u2.alloc (.cells #[.string cc.tag, .slice SA9 sn sc9] 70)) (fun g hg => by have := (World.ownsRow.lt hownC'.out g hg).2; omega) (by omega)
                  (On.of hW7 (fun y hy => by rcases hy with hy | hy <;> omega))
                intro W hW
                have h4 := h2 W hW
                rw [hSl2] at h4
                have h3 := (h1 W hW).push (t := ⟨cc.tag, SA9, sn, sc9⟩) (c := plC f cc) ⟨rfl, by show sn = _; rw [← hsn'.out]; exact (List.length_map _).symm, h4, ⟨q1, q2⟩, hI3⟩
                rw [htk2'.out, List.map_append]
                exact h3)
              have hb3 := hide (hb2'.out.trans (hW71.mono hb2'.out.size))
              have hxb7' := hide hxb7
              clear hIS hIS' hW7 hW71 hownC' hfitC' hxb7 hcb hownS hfitS
              go_wp2_with (at_builtin; refine wpList_appC rfl _ _ rfl hown7 ⟨cc.tag, SA9, sn, sc9⟩ u2.heap.size rfl rfl hg7 hn7 hsz7 ?_)
              intro A8 c8 w8 hown8 hgr8
              have hxb8 := hgr8.blk hxb7'.out (by omega) hsz7
              have d1 : w8.cell? ⟨u0.heap.size, 1, none⟩ = some v := blk_cell hxb8 1
              have d2 := blk_frozen hxb8 1
              have hxb9 := hide (blk_set hxb8 1 (.slice A8 (k + 1) c8))
              have hown9 := hide (ownsRow_setCell_below hown8 (a := ⟨u0.heap.size, 1, none⟩) (show u0.heap.size < W1.heap.size by omega) (.slice A8 (k + 1) c8))
              have hfit9 := hide ((hS7.out.grow hgr8 (by omega)).set (g := u0.heap.size) (o := 1) (by omega) (by omega) (.slice A8 (k + 1) c8))
              have hB9 := hide ((hgr8.1 u0.heap.size u0 (by omega) hb3.out).setCell (p := ⟨u0.heap.size, 1, none⟩) (Nat.le_refl _) (.slice A8 (k + 1) c8))
              have hsz9 : W1.heap.size ≤ w8.heap.size := Nat.le_trans hsz7 hgr8.2.1
              have hl9 := hide (show (P ++ [(⟨cc.tag, SA9, sn, sc9⟩ : Duo)]).length = k + 1 by rw [List.length_append, hPl]; rfl)
              clear hgr8 hown8 hown7 hg7 hS7 hxb8 hxb7' hb3 e9 e8 x1
              go_wp2
              go_roundw
              case rel => exact ⟨k + 1, _, _, by omega, by go_num, hl9.out, hxb9.out, hown9.out, hfit9, hB9.out, by simpa [World.setCell] using hsz9⟩
              case measure => simp [intOf]; omega
        · obtain rfl : pn = k := by omega
          obtain ⟨PA9, pc9, rfl, q1, q2, hIP⟩ := hownC.sure (show Sure (Fv w0.heap.size W1.heap.size v u1) u1 (fun W => FitC V W P (x.parts.map (plC f))) from by
            have h1 := hfitC.out
            rw [show x.parts.take pn = x.parts from by rw [hpl'.out]; exact List.take_length] at h1
            exact h1) (by have := hp64.out; omega)
          have hIP' := hide hIP
          have hPl' := hide hPl
          have hxb := hxb'.out
          rw [hPl] at hxb q1
          have x0 : u1.cell? ⟨u0.heap.size, 0, none⟩ = some (.int .u8 l0) := blk_cell hxb 0
          have x1 : u1.cell? ⟨u0.heap.size, 1, none⟩ = some (.slice PA9 pn pc9) := blk_cell hxb 1
          have x2 : u1.cell? ⟨u0.heap.size, 2, none⟩ = some (.slice KA kn kc) := blk_cell hxb 2
          have hW7 := below_alloc (Below.refl u1.heap.size u1) (.cells #[.int .u8 l0, .slice PA9 pn pc9, .slice KA kn kc] 62)
          have hg7 : (u1.alloc (.cells #[.int .u8 l0, .slice PA9 pn pc9, .slice KA kn kc] 62)).heap[u1.heap.size]? = some (.cells (tripC ⟨l0, PA9, pn, pc9, KA, kn, kc⟩) 62 (0, 0)) := blk_new _ _ _
          have hW70 : Below u0.heap.size u0 (u1.alloc (.cells #[.int .u8 l0, .slice PA9 pn pc9, .slice KA kn kc] 62)) := below_alloc hb2'.out _
          have hown7 := hown'.out.below hW70
          have hn7 : S.length + 1 ≤ 1000000 := by omega
          have hsz7 : w.heap.size ≤ (u1.alloc (.cells #[.int .u8 l0, .slice PA9 pn pc9, .slice KA kn kc] 62)).heap.size := Nat.le_trans hul0 hW70.size
          have hS7 := hide (show Sure (Fv w0.heap.size w.heap.size u3 (u1.alloc (.cells #[.int .u8 l0, .slice PA9 pn pc9, .slice KA kn kc] 62))) (u1.alloc (.cells #[.int .u8 l0, .slice PA9 pn pc9, .slice KA kn kc] 62)) (fun W => Fit (IsCpx V) W (S ++ [⟨l0, PA9, pn, pc9, KA, kn, kc⟩]) ((l.take (q + 1)).map (plX f))) from by
            have h1 := hfit'.out.below (by omega) hW70
            have h2 := hIP'.out.call (v := u3) (base := w.heap.size) (W := (u1.alloc (.cells #[.int .u8 l0, .slice PA9 pn pc9, .slice KA kn kc] 62))) (fun g hg => by have := (World.ownsRow.lt hown'.out g hg).2; omega) (by omega)
              (On.of hW7 (fun y hy => by rcases hy with hy | hy <;> omega))
            intro W hW
            have h4 := h2 W hW
            rw [hPl] at h4
            have hb0 : Below w0.heap.size w0 W := (hbu1.out.trans (hW7.mono (by omega))).trans ⟨hW.os, hW.tape, hW.output, hW.size, fun y hy => hW.block y (.inl hy)⟩
            have h3 := (h1 W hW).push (t := ⟨l0, PA9, pn, pc9, KA, kn, kc⟩) (y := plX f x) { lead := hv'.out.lead, l8 := hv'.out.l8, lenP := by show pn = (x.parts.map (plC f)).length; rw [List.length_map]; exact hpl'.out, lenK := hv'.out.lenK, rowP := h4, rowK := hv'.out.rowK.below hb0, capP := ⟨q1, q2⟩, capK := hv'.out.capK }
            rw [htk'.out, List.map_append]
            exact h3)
          have hB7 := hide (Below.on hb'.out hW70)
          clear hIP hIP' hW7 hW70 hown' hfit' hxb hxb' hownC hfitC hb2'
          go_wp2_with (at_builtin; refine wpList_appX rfl _ _ rfl hown7 [⟨l0, PA9, pn, pc9, KA, kn, kc⟩] ⟨u1.heap.size, 0, none⟩ 1 1 rfl rfl rfl (by omega) (trip_at hg7) hn7 hsz7 ?_)
          intro A8 c8 w8 hown8 hgr8
          have hown8' := hide hown8
          have hfit8 := hide (hS7.out.grow hgr8 hk0)
          have hB8 := hide (hgr8.1 w.heap.size w (Nat.le_refl _) hB7.out)
          have hl8 := hide (show (S ++ [(⟨l0, PA9, pn, pc9, KA, kn, kc⟩ : Trip)]).length = q + 1 by rw [List.length_append, hSl]; rfl)
          clear hown8 hgr8 hg7 hS7 hB7 hown7 x0 x1 x2
          go_wp2
          go_roundw
          case rel => exact ⟨q + 1, _, by omega, by go_num, hl8.out, hown8'.out, hfit8, hB8.out⟩
          case measure => simp [intOf]; omega
    · obtain rfl : ln = q := by omega
      obtain ⟨A9, c9, rfl, q1, q2, hIR⟩ := hown.sure (show Sure (Fv w0.heap.size w.heap.size u3 u0) u0 (fun W => Fit (IsCpx V) W S (l.map (plX f))) from by
        have h1 := hfit.out
        rw [show l.take ln = l from by rw [← hll]; exact List.take_length] at h1
        exact h1) (by omega)
      have hIR' := hide hIR
      have hSl' := hide hSl
      clear hIR hown hfit
      go_wp2
      go_ret
      refine ⟨A9, c9, ?_, ?_, ?_, q2, hb⟩
      · first | rfl | (rw [hSl'.out]; rfl) | (have e := hSl'.out; simp [e])
      · have := hIR'.out
        rw [hSl'.out] at this
        exact this
      · first | exact q1 | (rw [← hSl'.out]; exact q1)
set_option maxRecDepth 100000 in
theorem plainV_ok : ∀ n, PlainT (IsV n) (okPV n) (plV n)
  | 0 => by
    intro w0 A m c l w hrow hbw h1 h2 h3 h4
    have hl0 : l = [] := by cases l with | nil => rfl | cons x _ => exact x.elim
    subst hl0
    obtain rfl : m = 0 := hrow.1.symm
    clear h4 hrow
    unfold PlainP
    go_enter Tryz.func12, Tryz.ntmps12
    go_wp2
    go_loopw [3, 4] (fun v i wr => v = .slice none 0 0 ∧ i = .int .i64 0 ∧ w = wr) (fun _ i _ => 0)
    case atStart => exact ⟨rfl, rfl, rfl⟩
    case round =>
      obtain ⟨rfl, rfl, rfl⟩ := hrel
      go_wp2
      go_ret
      exact ⟨none, 0, rfl, (fun W _ => isRow_nil W), Nat.le_refl _, by omega, Below.refl _ _⟩
  | n + 1 => plainT_ok (isV_stays n) (plainV_ok n)
end Go.Proofs.YtljloicgjgbplaaGreat
