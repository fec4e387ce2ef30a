/- An element matches a compound exactly if it matches its tag and each of its simple selectors alone, and All and Match say the same; for every valid tree, number, right compound, mode and truth values. No condition. -/
import Derived.Test.YtbedomopojiehaaSt
import Derived.Test.YtbedomopojiehaaVk
import Derived.Test.YtbedomopojiehaaVi
import Derived.Test.YtbedomopojiehaaDd
import Derived.Deep.RegionHeld3
namespace Go.Proofs.Ytbedomopojiehaa.compoundEach
open Go.ChangeShapes Go.WideShapes Go.ChangeAt Go.RowKit

theorem compMatch_at (T : List ANode) (i : Int) (tag : ByteArray) (S : List Sim) (m : Int) (tn : Nat) (B : List Bool) (V : Bool) (E : Int) (hV : cmV T i tag S m B tn = V) (hE : cmE T i tag S m tn = E) (A : Option Addr) (n c : Nat) (SA : Option Addr) (sn sc : Nat) (TA : Option Addr) (tc : Nat) (w : World) (h : IsTree w A n T) (hS0 : IsSims w SA sn S) (hB' : IsBools w TA tn B) (hmx : HasMax w) :
    Calls Try.prog 37 #[.agg #[.slice A n c], .int .i64 i, .agg #[.string tag, .slice SA sn sc], .int .i64 m, .slice TA tn tc] w fun r w' => r = .returned (.tuple #[.bool V, .int .i64 E]) ∧ Below w.heap.size w w' := by
  rw [← hV, ← hE]; exact compMatch_ok A n c T i tag SA sn sc S m TA tn tc B w h hS0 hB' hmx
theorem compAll_eq (T : List ANode) (tag : ByteArray) (S : List Sim) (m : Int) (H : List (List Bool)) (X : List Bool) (E : Int) (N : Nat) (hV : calV T tag S m H = X) (hE : calE T tag S m H = E) (hN : X.length = N) (A : Option Addr) (n c : Nat) (SA : Option Addr) (sn sc : Nat) (TA : Option Addr) (tn tc : Nat) (w : World) (h : IsTree w A n T) (hS0 : IsSims w SA sn S) (hH : IsBB w TA tn H) (hmx : HasMax w) :
    Calls Try.prog 43 #[.agg #[.slice A n c], .agg #[.string tag, .slice SA sn sc], .int .i64 m, .slice TA tn tc] w
      fun e w' => ∃ (A' : Option Addr) (c' : Nat), e = .returned (.tuple #[.slice A' N c', .int .i64 E]) ∧ IsBools w' A' N X ∧ Below w.heap.size w w' := by
  have hx := compAll_ok A n c T tag SA sn sc S m TA tn tc H w h hS0 hH hmx
  rw [hV, hE] at hx
  refine hx.mono ?_
  rintro e w' ⟨A', c', rfl, hI, -, -, hb⟩
  rw [hN] at hI
  exact ⟨A', c', by rw [hN], hI, hb⟩
/-- What is told, for all elements alike. -/
def same (n : Nat) (B : List Bool) (sn : Nat) : List (List Bool) := (List.range sn).map fun k => (List.range n).map fun _ => bx B k
theorem same_len (n : Nat) (B : List Bool) (sn : Nat) : (same n B sn).length = sn := by simp [same]
theorem same_row (n : Nat) (B : List Bool) (sn : Nat) {k : Nat} (h : k < sn) : rowB (same n B sn) k = (List.range n).map fun _ => bx B k := by
  simp [same, rowB, h]
set_option maxRecDepth 100000 in
set_option maxHeartbeats 8000000 in
theorem walk (A : Option Addr) (n c : Nat) (T : List ANode) (i : Int) (tag : ByteArray) (SA : Option Addr) (sn sc : Nat) (S : List Sim) (m : Int) (TA : Option Addr) (tn tc : Nat) (B : List Bool) (w : World) (h : IsTree w A n T) (hS0 : IsSims w SA sn S) (hB' : IsBools w TA tn B) (hm0 : HasMax w) :
    Calls Try.prog 12 #[.agg #[.slice A n c], .int .i64 i, .agg #[.string tag, .slice SA sn sc], .int .i64 m, .slice TA tn tc] w fun r w' => r = .returned (.bool true) ∧ Below w.heap.size w w' := by
  have hT := hide h
  have hl := h.1
  have hm' := hide hm0
  have hS := hide hS0
  have hsl := hS0.1
  have hTB := hide hB'
  have hB0 := below_alloc (below_alloc (Below.refl w.heap.size w) (.cells #[.slice A n c] 43)) (.cells #[.string tag, .slice SA sn sc] 65)
  have hbox0 : ((w.alloc (.cells #[.slice A n c] 43)).alloc (.cells #[.string tag, .slice SA sn sc] 65)).cell? ⟨w.heap.size, 0, none⟩ = some (.slice A n c) := by go_simp
  have ht0 : ((w.alloc (.cells #[.slice A n c] 43)).alloc (.cells #[.string tag, .slice SA sn sc] 65)).cell? ⟨w.heap.size + 1, 0, none⟩ = some (.string tag) := by go_simp
  have htb0 : ((w.alloc (.cells #[.slice A n c] 43)).alloc (.cells #[.string tag, .slice SA sn sc] 65)).cell? ⟨w.heap.size + 1, 1, none⟩ = some (.slice SA sn sc) := by go_simp
  clear h hm0 hS0 hB'
  by_cases h0 : askI T [i] = 0
  · have hia := hide h0
    have hir := (askI_zero.1 h0).2 i (by simp)
    obtain ⟨j, rfl⟩ := Int.eq_ofNat_of_zero_le hir.1
    have hj : j < n := by omega
    obtain ⟨cc, hcc0⟩ : ∃ x, ccE T tag S m = x := ⟨_, rfl⟩
    have hcc := hide hcc0
    by_cases h1 : cc = 0
    · subst h1
      obtain ⟨hg, hmd, hck⟩ := ccE_zero.1 hcc0
      by_cases h2 : tn = sn
      · subst h2
        have hn64 : n ≤ 64 := by have := ((goodB_iff T).1 hg).2.1; omega
        have hs64 : tn ≤ 64 := by have := hck.2.1; omega
        have hE : Hid (cmE T j tag S m tn = 0) := by show _ = _; unfold cmE; rw [if_pos h0, if_pos hcc0, if_pos hsl.symm]
        obtain ⟨M, hM⟩ : ∃ M : Nat → Bool, ∀ q, matC T j tag S m (bx B) q = M q := ⟨fun q => matC T j tag S m (bx B) q, fun _ => rfl⟩
        have hMs := hide (show ∀ q, M (q + 1) = (M q && oneC T j S m (bx B) q) from fun q => by rw [← hM, ← hM]; exact matC_succ T j tag S m (bx B) q)
        have hV : Hid (cmV T j tag S m B tn = M tn) := by show _ = _; unfold cmV; rw [if_pos hE.out, Int.toNat_natCast, hsl, hM]
        have hTE : Hid (tagErr T j tag = 0) := by show _ = _; unfold tagErr; rw [if_pos h0]; exact if_pos hck.1
        have hTV : Hid (tagVal T j tag = M 0) := by show _ = _; rw [← hM]; unfold tagVal matC; rw [if_pos hTE.out, Int.toNat_natCast]; simp
        have hsm := hide (show ∀ k, k < tn → (lisS (sm S k) = true ∧ 9 ≤ (sm S k).kind) ∨ (lisS (sm S k) = false ∧ (sm S k).kind ≤ 8 ∧ smatV T j (sm S k) m = matS T j (sm S k) m ∧ smatE T j (sm S k) m = 0) from fun k hk => by
          cases hlk : lisS (sm S k)
          · refine .inr ⟨rfl, ?_⟩
            have h1 : chkS (sm S k) = 0 := by
              rcases hck.2.2.2 k (by omega) with h2 | h2
              · rw [hlk] at h2; cases h2
              · exact h2
            have h3 : smatE T j (sm S k) m = 0 := by unfold smatE; rw [if_pos h0]; exact smE_zero.2 ⟨hg, hmd, h1⟩
            have h4 := chkS_okP h1
            refine ⟨by unfold okP at h4; omega, by unfold smatV; rw [if_pos h3, Int.toNat_natCast], h3⟩
          · refine .inl ⟨rfl, ?_⟩
            have := hlk
            unfold lisS at this
            rw [Bool.and_eq_true, decide_eq_true_eq] at this
            exact this.1)
        obtain ⟨H, hH0⟩ : ∃ H, same n B tn = H := ⟨_, rfl⟩
        have hHl : H.length = tn := by rw [← hH0, same_len]
        have hHr := hide (show ∀ k, k < tn → rowB H k = (List.range n).map (fun _ => bx B k) from fun k hk => by rw [← hH0]; exact same_row n B tn hk)
        have hHE : Hid (calE T tag S m H = 0) := by
          show _ = _
          unfold calE
          rw [if_pos hcc0, if_pos ⟨by omega, fun k hk _ => by rw [hHr.out k (by omega)]; simp [hl]⟩]
        obtain ⟨XL, hXL⟩ : ∃ X, calL T tag S m H = X := ⟨_, rfl⟩
        have hHV : Hid (calV T tag S m H = XL) := by show _ = _; unfold calV; rw [if_pos hHE.out, hXL]
        have hXn : Hid (XL.length = n) := by show _ = _; rw [← hXL, calL_len, hl]
        have hXj : Hid (bx XL j = M tn) := by
          show _ = _
          rw [← hXL, ← hM]
          have e : bx (calL T tag S m H) j = calF T tag S m H j := by simp [calL, bx, show j < T.length by omega]
          rw [e]
          unfold calF
          rw [hsl]
          exact matC_congr fun k hk _ => by rw [hHr.out k hk, bx_map _ hj]
        have q3 : (0 : Int) ≤ (j : Int) := by omega
        have q4 : (j : Int) < (n : Int) := by omega
        clear h0 hcc0 hir hg hmd hck hM hH0 hXL
        go_enter Try.func12, Try.ntmps12
        go_wp2_with fail
        refine (alive19_ok _ (hm'.out.below hB0)).mono ?_
        rintro e w1 ⟨rfl, hb1⟩
        have hB1 := Below.on hB0 hb1
        have hbox1 := cell_later hb1 hbox0
        have ht1 := cell_later hb1 ht0
        have htb1 := cell_later hb1 htb0
        clear hb1 hbox0 ht0 htb0
        go_wp2_with fail
        refine (rasked_at T j 0 hia.out _ _ c _ (hT.out.below hB1)).mono ?_
        rintro e w2 ⟨rfl, hb2⟩
        have hB2 := Below.on hB1 hb2
        have hbox2 := cell_later hb2 hbox1
        have ht2 := cell_later hb2 ht1
        have htb2 := cell_later hb2 htb1
        clear hb2 hbox1 ht1 htb1
        go_wp2_with fail
        refine (rgreat19_ok tag _ _ sc S _ (hS.out.below hB2)).mono ?_
        rintro e w3 ⟨⟨v, rfl⟩, hb3⟩
        have hB3 := Below.on hB2 hb3
        have hbox3 := cell_later hb3 hbox2
        have ht3 := cell_later hb3 ht2
        have htb3 := cell_later hb3 htb2
        clear hb3 hbox2 ht2 htb2
        cases v
        · go_wp2_with fail
          refine (rc19asked_at T tag S m 0 hcc.out _ _ c _ _ sc _ (hT.out.below hB3) (hS.out.below hB3)).mono ?_
          rintro e w4 ⟨rfl, hb4⟩
          have hB4 := Below.on hB3 hb4
          have hbox4 := cell_later hb4 hbox3
          have ht4 := cell_later hb4 ht3
          have htb4 := cell_later hb4 htb3
          clear hb4 hbox3 ht3 htb3
          go_wp2_with fail
          refine (compMatch_at T j tag S m tn B (M tn) 0 hV.out hE.out _ _ c _ _ sc _ tc _ (hT.out.below hB4) (hS.out.below hB4) (hTB.out.below hB4) (hm'.out.below hB4)).mono ?_
          rintro e w5 ⟨rfl, hb5⟩
          have hB5 := Below.on hB4 hb5
          have hbox5 := cell_later hb5 hbox4
          have ht5 := cell_later hb5 ht4
          have htb5 := cell_later hb5 htb4
          clear hb5 hbox4 ht4 htb4
          go_wp2_with fail
          refine (compTag_at T j tag (M 0) 0 hTV.out hTE.out _ _ c _ (hT.out.below hB5)).mono ?_
          rintro e w6 ⟨rfl, hb6⟩
          have hB6 := Below.on hB5 hb6
          have hbox6 := cell_later hb6 hbox5
          have ht6 := cell_later hb6 ht5
          have htb6 := cell_later hb6 htb5
          clear hb6 hbox5 ht5 htb5
          go_wp2
          go_loopw [14, 16, 17] (fun vw vl s wr => ∃ q : Nat, q ≤ tn ∧ s = .int .i64 q ∧ vw = .bool (M q) ∧ OwnBB wr w6.heap.size vl q H ∧ Below w6.heap.size w6 wr) (fun _ _ s _ => tn - (intOf s).toNat)
          case atStart => exact ⟨0, Nat.zero_le _, rfl, rfl, ownBB_nil _ _ _, Below.refl _ _⟩
          case round =>
            obtain ⟨q, hq, rfl, rfl, hown, hb⟩ := hrel
            have hBw := Below.on hB6 hb
            have hboxr := cell_later hb hbox6
            have htr := cell_later hb ht6
            have htbr := cell_later hb htb6
            by_cases hlt : q < tn
            · generalize wr = w7 at *
              obtain ⟨bt, ot, rfl, hbt, hct⟩ := hTB.out.2.2 (by omega)
              have gt0 := hct q hlt
              obtain ⟨bv, hbv⟩ : ∃ x, bx B q = x := ⟨_, rfl⟩
              have hms := hMs.out q
              have hsq := hsm.out q hlt
              unfold oneC at hms
              rw [hbv] at gt0 hms
              have gt := (old hBw _ _ hbt).trans gt0
              have gt0' := hide gt0
              have hrow := hHr.out q hlt
              rw [hbv] at hrow
              have hrow' := hide hrow
              have hms' := hide hms
              have hsq' := hide hsq
              have hmk := mk_bools n (by omega) w7
              have hN := hide (Bs.new w7 n (fun _ => bv))
              have hw8 := below_alloc (Below.refl w7.heap.size w7) (.cells (madeCells #[.bool false] n) 4)
              have hown' := hide hown
              have hb' := hide hb
              have q1 : (0 : Int) ≤ (q : Int) := by omega
              have q2 : (q : Int) < (tn : Int) := by omega
              clear hct hms hsq hrow hbv hown hb gt0
              go_wp2
              go_loopw [19] (fun s wr => ∃ k : Nat, k ≤ n ∧ s = .int .i64 k ∧ Below w7.heap.size w7 wr ∧ Bs wr w7.heap.size n k (fun _ => bv)) (fun s _ => n - (intOf s).toNat)
              case atStart => exact ⟨0, Nat.zero_le _, rfl, hw8, hN.out⟩
              case round =>
                obtain ⟨k0, hk0, rfl, hb8, hBs⟩ := hrel
                by_cases hlk : k0 < n
                · have gt8 := cell_later hb8 gt
                  have hBs' := hide hBs
                  obtain ⟨cs, h1, h2, h3⟩ := hBs
                  have ec : wr.cell? ⟨w7.heap.size, k0, none⟩ = some (cs[k0]'(by omega)) := by rw [blk_cell h1]; simp
                  have ef : wr.frozen? ⟨w7.heap.size, k0, none⟩ = false := blk_frozen h1 k0
                  generalize cs[k0]'(by omega) = ov at ec
                  have q5 : (0 : Int) ≤ (k0 : Int) := by omega
                  have q6 : (k0 : Int) < (n : Int) := by omega
                  clear h1 h2 h3 hboxr htr htbr
                  go_wp2
                  go_roundw
                  case rel => exact ⟨k0 + 1, by omega, by go_num, hb8.setCell (Nat.le_refl _) _, hBs'.out.set hlk rfl⟩
                  case measure => simp [intOf]; omega
                · obtain rfl : n = k0 := by omega
                  have hrw8 : wr.ownsRow w6.heap.size 4 1 (.slice (some ⟨w7.heap.size, 0, none⟩) n n) n (bools (rowB H q)) := by
                    rw [hrow'.out]; exact hBs.own hb'.out.size (by omega)
                  have hrw8' := hide hrw8
                  have hO8 := hown'.out.below hb8
                  have hB8 := hide (Below.on hb'.out hb8)
                  have hsz8 : w6.heap.size ≤ wr.heap.size := hB8.out.size
                  have hln : Hid (n = (rowB H q).length) := by show _ = _; rw [hrow'.out]; simp
                  obtain ⟨bb, off, rfl, hbl, hc⟩ := hS.out.2.2 (by omega)
                  have hin := hc q hlt
                  clear hrw8 hBs hN hmk hboxr htr htbr gt hin
                  go_wp2_with (at_builtin; refine wpList_pushBB rfl _ _ rfl hO8 (some ⟨w7.heap.size, 0, none⟩) n n hln.out hrw8'.out _ rfl rfl (by omega) hsz8 ?_)
                  intro A9 c9 w9 hO9 hG9
                  have hB9 := hide (hG9.below (Nat.le_refl _) hB8.out)
                  have hO9' := hide hO9
                  have hBx := hide (Below.on hB6 hB9.out)
                  have hbox9 := cell_later hB9.out hbox6
                  have htb9 := cell_later hB9.out htb6
                  have gt9 := (old hBx.out _ _ hbt).trans gt0'.out
                  have hin := (hc q hlt).later hBx.out
                  clear hO9 hG9 hO8 hbox6 ht6 htb6 hc hrw8' hln
                  cases hs : sm S q with
                  | mk k nm op vl fo a b f LA ln lc =>
                    rw [hs] at hin hsq' hms'
                    obtain ⟨s0, s1, s2, s3, s4, s5, s6, s7, s8⟩ := hin
                    obtain ⟨vq, hvq⟩ : ∃ x, M q = x := ⟨_, rfl⟩
                    rw [hvq] at hms'
                    clear hs
                    rcases hsq'.out with ⟨e1, e2⟩ | ⟨e1, e2, e3, e4⟩
                    · have g9 : decide (9 ≤ k) = true := decide_eq_true e2
                      rw [e1] at hms'
                      simp only [if_true] at hms'
                      have hms2 := hide hms'.out
                      rw [hvq]
                      clear hsq' hms' e1 e2 hvq
                      cases vq
                      · rw [Bool.false_and] at hms2
                        go_wp2
                        go_roundw
                        case rel => exact ⟨q + 1, by omega, by go_num, by rw [hms2.out], hO9'.out, hB9.out⟩
                        case measure => simp [intOf]; omega
                      · rw [Bool.true_and] at hms2
                        go_wp2
                        go_roundw
                        case rel => exact ⟨q + 1, by omega, by go_num, by rw [hms2.out], hO9'.out, hB9.out⟩
                        case measure => simp [intOf]; omega
                    · have g9 : decide (9 ≤ k) = false := by rw [decide_eq_false_iff_not]; dsimp only at e2; omega
                      rw [e1] at hms'
                      simp only [Bool.false_eq_true, if_false] at hms'
                      rw [← e3] at hms'
                      obtain ⟨rv, hrv⟩ : ∃ x, smatV T j ⟨k, nm, op, vl, fo, a, b, f, LA, ln, lc⟩ m = x := ⟨_, rfl⟩
                      rw [hrv] at hms'
                      have hms2 := hide hms'.out
                      have hk8 := hide (sMatch_at T j k nm op vl fo a b f LA ln lc m rv 0 hrv e4 _ n c w9.drew ((hT.out.below hBx.out).below (Below.refl _ _).drew) ((hm'.out.below hBx.out).below (Below.refl _ _).drew))
                      rw [hvq]
                      clear hsq' hms' e1 e2 e3 e4 hrv hvq
                      go_wp2
                      go_region_held3 (fun X => X.cell? ⟨w.heap.size, 0, none⟩ = some (.slice A n c) ∧ X.cell? ⟨w.heap.size + 1, 1, none⟩ = some (.slice (some ⟨bb, off, none⟩) tn sc) ∧ X.cell? ⟨bb, off + q * 9, none⟩ = some (.int .u8 k) ∧ X.cell? ⟨bb, off + q * 9 + 1, none⟩ = some (.string nm) ∧ X.cell? ⟨bb, off + q * 9 + 2, none⟩ = some (.int .u8 op) ∧ X.cell? ⟨bb, off + q * 9 + 3, none⟩ = some (.string vl) ∧ X.cell? ⟨bb, off + q * 9 + 4, none⟩ = some (.bool fo) ∧ X.cell? ⟨bb, off + q * 9 + 5, none⟩ = some (.int .i64 a) ∧ X.cell? ⟨bb, off + q * 9 + 6, none⟩ = some (.int .i64 b) ∧ X.cell? ⟨bb, off + q * 9 + 7, none⟩ = some (.bool f) ∧ X.cell? ⟨bb, off + q * 9 + 8, none⟩ = some (.slice LA ln lc)) (first | exact ⟨hbox9, htb9, s0, s1, s2, s3, s4, s5, s6, s7, s8⟩ | exact ⟨rb, rt, r0, r1, r2, r3, r4, r5, r6, r7, r8⟩) (first | (go_at_call 25; (with_reducible refine hk8.out.mono ?_); rintro e u2 ⟨rfl, hu2⟩; have rb := cell_later hu2 hbox9; have rt := cell_later hu2 htb9; have r0 := cell_later hu2 s0; have r1 := cell_later hu2 s1; have r2 := cell_later hu2 s2; have r3 := cell_later hu2 s3; have r4 := cell_later hu2 s4; have r5 := cell_later hu2 s5; have r6 := cell_later hu2 s6; have r7 := cell_later hu2 s7; have r8 := cell_later hu2 s8))
                      have hO10 := hide (hO9'.out.below (Below.on (w1 := w9.drew) (Below.refl _ _).drew hu2))
                      have hB10 := hide (Below.on (w1 := w9.drew) hB9.out.drew hu2)
                      clear hu2 hk8 s0 s1 s2 s3 s4 s5 s6 s7 s8
                      cases vq
                      · rw [Bool.false_and] at hms2
                        go_wp2
                        go_roundw
                        case rel => exact ⟨q + 1, by omega, by go_num, by rw [hms2.out], hO10.out, hB10.out⟩
                        case measure => simp [intOf]; omega
                      · rw [Bool.true_and] at hms2
                        go_wp2
                        go_roundw
                        case rel => exact ⟨q + 1, by omega, by go_num, by rw [hms2.out], hO10.out, hB10.out⟩
                        case measure => simp [intOf]; omega
            · obtain rfl : q = tn := by omega
              generalize wr = u at *
              obtain ⟨AO, cO, rfl, -, -, hO⟩ := hown.isBB hHl (by omega) (fun k hk => by rw [hHr.out k hk]; simp; omega)
              have hO' := hide hO
              obtain ⟨r, hr⟩ : ∃ x, M q = x := ⟨_, rfl⟩
              rw [hr] at hXj ⊢
              clear hO hown ht6 htb6 hbox6
              go_wp2_with fail
              refine (compAll_eq T tag S m H XL 0 n hHV.out hHE.out hXn.out _ n c _ q sc _ q cO _ (hT.out.below hBw) (hS.out.below hBw) hO'.out (hm'.out.below hBw)).mono ?_
              rintro e w8 ⟨A8, c8, rfl, hI8, hb8⟩
              have hB8 := Below.on hBw hb8
              have hbox8 := cell_later hb8 hboxr
              obtain ⟨b8, o8, rfl, hb8l, hc8⟩ := hI8.2.2 (by omega)
              have g8 := hc8 j hj
              rw [hXj.out] at g8
              clear hc8 hI8 hboxr htr htbr hb8
              cases r
              · go_wp2
                go_ret
                exact ⟨rfl, hB8⟩
              · go_wp2
                go_ret
                exact ⟨rfl, hB8⟩
        · go_wp2
          go_ret
          exact ⟨rfl, hB3⟩
      · have g1 : ((tn : Int) != (sn : Int)) = true := by rw [bne_iff_ne]; omega
        clear h0 hcc0 hir hg hmd hck h2
        go_enter Try.func12, Try.ntmps12
        go_wp2_with fail
        refine (alive19_ok _ (hm'.out.below hB0)).mono ?_
        rintro e w1 ⟨rfl, hb1⟩
        have hB1 := Below.on hB0 hb1
        have hbox1 := cell_later hb1 hbox0
        have ht1 := cell_later hb1 ht0
        have htb1 := cell_later hb1 htb0
        clear hb1 hbox0 ht0 htb0
        go_wp2_with fail
        refine (rasked_at T j 0 hia.out _ _ c _ (hT.out.below hB1)).mono ?_
        rintro e w2 ⟨rfl, hb2⟩
        have hB2 := Below.on hB1 hb2
        have hbox2 := cell_later hb2 hbox1
        have ht2 := cell_later hb2 ht1
        have htb2 := cell_later hb2 htb1
        clear hb2 hbox1 ht1 htb1
        go_wp2_with fail
        refine (rgreat19_ok tag _ _ sc S _ (hS.out.below hB2)).mono ?_
        rintro e w3 ⟨⟨v, rfl⟩, hb3⟩
        have hB3 := Below.on hB2 hb3
        have hbox3 := cell_later hb3 hbox2
        have ht3 := cell_later hb3 ht2
        have htb3 := cell_later hb3 htb2
        clear hb3 hbox2 ht2 htb2
        cases v
        · go_wp2_with fail
          refine (rc19asked_at T tag S m 0 hcc.out _ _ c _ _ sc _ (hT.out.below hB3) (hS.out.below hB3)).mono ?_
          rintro e w4 ⟨rfl, hb4⟩
          have hB4 := Below.on hB3 hb4
          have hbox4 := cell_later hb4 hbox3
          have ht4 := cell_later hb4 ht3
          have htb4 := cell_later hb4 htb3
          clear hb4 hbox3 ht3 htb3
          go_wp2
          go_ret
          exact ⟨rfl, hB4⟩
        · go_wp2
          go_ret
          exact ⟨rfl, hB3⟩
    · have hcb : (cc != 0) = true := by rw [bne_iff_ne]; exact h1
      clear h0 hcc0 h1 hir
      go_enter Try.func12, Try.ntmps12
      go_wp2_with fail
      refine (alive19_ok _ (hm'.out.below hB0)).mono ?_
      rintro e w1 ⟨rfl, hb1⟩
      have hB1 := Below.on hB0 hb1
      have hbox1 := cell_later hb1 hbox0
      have ht1 := cell_later hb1 ht0
      have htb1 := cell_later hb1 htb0
      clear hb1 hbox0 ht0 htb0
      go_wp2_with fail
      refine (rasked_at T j 0 hia.out _ _ c _ (hT.out.below hB1)).mono ?_
      rintro e w2 ⟨rfl, hb2⟩
      have hB2 := Below.on hB1 hb2
      have hbox2 := cell_later hb2 hbox1
      have ht2 := cell_later hb2 ht1
      have htb2 := cell_later hb2 htb1
      clear hb2 hbox1 ht1 htb1
      go_wp2_with fail
      refine (rgreat19_ok tag _ _ sc S _ (hS.out.below hB2)).mono ?_
      rintro e w3 ⟨⟨v, rfl⟩, hb3⟩
      have hB3 := Below.on hB2 hb3
      have hbox3 := cell_later hb3 hbox2
      have ht3 := cell_later hb3 ht2
      have htb3 := cell_later hb3 htb2
      clear hb3 hbox2 ht2 htb2
      cases v
      · go_wp2_with fail
        refine (rc19asked_at T tag S m cc hcc.out _ _ c _ _ sc _ (hT.out.below hB3) (hS.out.below hB3)).mono ?_
        rintro e w4 ⟨rfl, hb4⟩
        have hB4 := Below.on hB3 hb4
        have hbox4 := cell_later hb4 hbox3
        have ht4 := cell_later hb4 ht3
        have htb4 := cell_later hb4 htb3
        clear hb4 hbox3 ht3 htb3
        go_wp2
        go_ret
        exact ⟨rfl, hB4⟩
      · go_wp2
        go_ret
        exact ⟨rfl, hB3⟩
  · obtain ⟨c1, hc1⟩ : ∃ x, askI T [i] = x := ⟨_, rfl⟩
    have hcz : ¬ c1 = 0 := by rw [← hc1]; exact h0
    have hia := hide hc1
    have hcb : (c1 != 0) = true := by rw [bne_iff_ne]; exact hcz
    clear h0 hc1 hcz
    go_enter Try.func12, Try.ntmps12
    go_wp2_with fail
    refine (alive19_ok _ (hm'.out.below hB0)).mono ?_
    rintro e w1 ⟨rfl, hb1⟩
    have hB1 := Below.on hB0 hb1
    have hbox1 := cell_later hb1 hbox0
    have ht1 := cell_later hb1 ht0
    have htb1 := cell_later hb1 htb0
    clear hb1 hbox0 ht0 htb0
    go_wp2_with fail
    refine (rasked_at T i c1 hia.out _ _ c _ (hT.out.below hB1)).mono ?_
    rintro e w2 ⟨rfl, hb2⟩
    have hB2 := Below.on hB1 hb2
    have hbox2 := cell_later hb2 hbox1
    have ht2 := cell_later hb2 ht1
    have htb2 := cell_later hb2 htb1
    clear hb2 hbox1 ht1 htb1
    go_wp2
    go_ret
    exact ⟨rfl, hB2⟩

set_option maxRecDepth 100000 in
theorem lifted (os : Os) (started : os.Started) (H : Type) (enc : TypeId × Value → H) :
    ReturnsInHanded {} Try.checked os 12 .any (Rows.compoundEachSpec.pre6 enc Try.prog Try.f12 Rows.compoundEachRow.domain false) (Rows.compoundEachSpec.post enc Try.prog Try.f12 false true false false) := by
  refine returnsInHanded_of_change_shaped (C := Try.checked) own started (by kernel_rfl) Try.func12
    (ChangeSpec.witness6 (enc := enc) (C := Try.checked) false ⟨#[], #[.agg #[.slice none 0 0], .int .i64 0, .agg #[.string .empty, .slice none 0 0], .int .i64 0, .slice none 0 0], []⟩ 8 (by kernel_rfl) (by kernel_rfl) (by kernel_rfl) (by kernel_rfl)) ?_
  intro W base args ds gs before hval0 hW hcnd hsz hsh _
  have hval : ∀ (j : Nat) t v, Try.f12.params[j]? = some t → args[j]? = some v → Value.okWide Try.prog W .any base t v := hval0
  have hW' := hW
  obtain ⟨p, q, hA0, hV, rfl, hfz, hnd⟩ := hW
  have hA : DataW.TrodAll enc Try.prog W 0 (fun _ => true) true Try.f12.params.toList args.toList ds p := hA0
  rw [Try.params12] at hA hval hsz
  obtain ⟨v0, vs0, d0, ds0, p0, q0, hargs, rfl, rfl, h0, r0⟩ := trodAll_cons hA
  obtain ⟨v1, vs1, d1, ds1, p1, q1, rfl, rfl, rfl, h1, r1⟩ := trodAll_cons r0
  obtain ⟨v2, vs2, d2, ds2, p2, q2, rfl, rfl, rfl, h2, r2⟩ := trodAll_cons r1
  obtain ⟨v3, vs3, d3, ds3, p3, q3, rfl, rfl, rfl, h3, r3⟩ := trodAll_cons r2
  obtain ⟨v4, vs4, d4, ds4, p4, q4, rfl, rfl, rfl, h4, r4⟩ := trodAll_cons r3
  obtain ⟨rfl, rfl, rfl⟩ := trodAll_nil r4
  obtain rfl : args = #[v0, v1, v2, v3, v4] := by cases args; simp_all
  obtain ⟨rfl, rfl⟩ := trodVars_none hV
  have lt0 : ∀ x ∈ p0, x.block < W.heap.size := by obtain ⟨m, hm⟩ := h0; exact DataW.trod_lt m _ _ _ hm
  have k0 := h0
  have lt1 : ∀ x ∈ p1, x.block < W.heap.size := by obtain ⟨m, hm⟩ := h1; exact DataW.trod_lt m _ _ _ hm
  have k1 := h1
  have lt2 : ∀ x ∈ p2, x.block < W.heap.size := by obtain ⟨m, hm⟩ := h2; exact DataW.trod_lt m _ _ _ hm
  have k2 := h2
  have lt3 : ∀ x ∈ p3, x.block < W.heap.size := by obtain ⟨m, hm⟩ := h3; exact DataW.trod_lt m _ _ _ hm
  have k3 := h3
  have lt4 : ∀ x ∈ p4, x.block < W.heap.size := by obtain ⟨m, hm⟩ := h4; exact DataW.trod_lt m _ _ _ hm
  have k4 := h4
  obtain ⟨A0, n0, c0, T0, rfl, hT0⟩ := tree_open (hval 0 _ v0 rfl rfl) h0
  obtain ⟨a1, rfl, rfl, rfl, w1⟩ := open_int Try.underlying3 (hval 1 _ v1 rfl rfl) h1
  obtain ⟨tg2, A2, n2, c2, S2, rfl, w2, hC2⟩ := comp_open (hval 2 _ v2 rfl rfl) h2
  obtain ⟨a3, rfl, rfl, rfl, w3⟩ := open_int Try.underlying3 (hval 3 _ v3 rfl rfl) h3
  obtain ⟨A4, n4, c4, xs4, rfl, hL4⟩ := bools_param (hval 4 _ v4 rfl rfl) h4
  clear hA0 hval0
  refine (walk A0 n0 c0 T0 a1 tg2 A2 n2 c2 S2 a3 A4 n4 c4 xs4 W hT0  hC2  hL4 (hasMax_of hsh)).mono fun e W' ⟨he, bel⟩ => ?_
  subst he
  exact ⟨_, rfl, _, _, _, [], _, [], hW', trodAll_mk1 (shut_bool Try.underlying4 _), (trodAll_cons_mk (Below.trod laidOut (by kernel_rfl) (of_decide_eq_true (by kernel_rfl)) k0 bel lt0) (trodAll_cons_mk (Below.trod laidOut (by kernel_rfl) (of_decide_eq_true (by kernel_rfl)) k1 bel lt1) (trodAll_cons_mk (Below.trod laidOut (by kernel_rfl) (of_decide_eq_true (by kernel_rfl)) k2 bel lt2) (trodAll_cons_mk (Below.trod laidOut (by kernel_rfl) (of_decide_eq_true (by kernel_rfl)) k3 bel lt3) (trodAll_cons_mk (Below.trod laidOut (by kernel_rfl) (of_decide_eq_true (by kernel_rfl)) k4 bel lt4) trodAll_mk0))))), rfl, bel.frame _, fun h => by cases h⟩

theorem proved : Rows.CompoundEachSaid :=
  OpenClaim.holds_of_wide 12 Try.f12 rfl rfl rfl rfl rfl rfl rfl ⟨rfl, rfl, rfl, rfl, rfl⟩ rfl rfl rfl rfl rfl (by kernel_rfl) Try.func12 (by kernel_rfl)
    (of_decide_eq_true (by kernel_rfl)) (by unfold Func.isWrapper; first | (rw [if_pos (by decide +kernel)]; kernel_rfl) | (rw [if_neg (by decide +kernel)]; exact ⟨rfl, rfl⟩))
    (fun os started H enc _ => lifted os started H enc)
#print axioms proved
end Go.Proofs.Ytbedomopojiehaa.compoundEach
