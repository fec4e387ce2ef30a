/- For every tree and every number there is one relevant link at most, on the way up, and the relevant link of a relevant link is itself. No condition. -/
import Derived.Test.YtfiiikbbiimdiaaOpen
import Derived.Test.YtfiiikbbiimdiaaEx17
import Derived.Deep.RegionHeld3
namespace Go.Proofs.Ytfiiikbbiimdiaa.linkNearest
open Go.ChangeShapes Go.WideShapes Go.ChangeAt Go.RowKit

theorem is_at (T : List ANode) (i : Int) (v : Bool) (c0 : Int) (h0 : askI T [i] = c0) (hl : isE T i = v) (A : Option Addr) (n c : Nat) (w : World) (h : IsTree w A n T) :
    Calls Try.prog 25 #[.agg #[.slice A n c], .int .i64 i] w fun e w' => e = .returned (.tuple #[.bool v, .int .i64 c0]) ∧ Below w.heap.size w w' := by
  have := linkIs_ok A n c T i w h
  rw [hl, h0] at this
  exact this
theorem near_is {T : List ANode} (hg : goodB T = true) {i : Nat} (hi : i < T.length) : nearF T i = -1 ∨ ∃ r : Nat, nearF T i = r ∧ r < T.length ∧ lkB T r = true := by
  unfold nearF
  cases hf : (anc T i).find? fun x => lkB T x.toNat with
  | none => exact .inl rfl
  | some x =>
    obtain ⟨h1, h2⟩ := anc_mem hg (x := (i : Int)) (by omega) (List.mem_of_find?_eq_some hf)
    obtain ⟨r, rfl⟩ := Int.eq_ofNat_of_zero_le h1
    refine .inr ⟨r, rfl, by omega, ?_⟩
    have := List.find?_some hf
    simpa using this

set_option maxRecDepth 100000 in
set_option maxHeartbeats 4000000 in
theorem walk (A : Option Addr) (n c : Nat) (T : List ANode) (i : Int) (w : World) (h : IsTree w A n T) :
    Calls Try.prog 6 #[.agg #[.slice A n c], .int .i64 i] w fun e w' => e = .returned (.bool true) ∧ Below w.heap.size w w' := by
  have hT := hide h
  have hl := h.1
  clear h
  have hB0 := below_alloc (Below.refl w.heap.size w) (.cells #[.slice A n c] 24)
  have hbox0 : (w.alloc (.cells #[.slice A n c] 24)).cell? ⟨w.heap.size, 0, none⟩ = some (.slice A n c) := by go_simp
  by_cases q1 : askI T [i] = 0
  · obtain ⟨hg, hir⟩ := askI_zero.1 q1
    have hir := hir i (by simp)
    obtain ⟨k, rfl⟩ := Int.eq_ofNat_of_zero_le hir.1
    have hk : k < n := by omega
    have hkT : k < T.length := by omega
    have hac := anc_cons hg hkT
    have hle : (anc T k).length ≤ 64 := by have := anc_le hg (x := (k : Int)) (by omega); have := ((goodB_iff T).1 hg).2.1; omega
    have hmem : Hid (∀ j, j < (anc T k).length → ∃ r : Nat, ix (anc T k) j = r ∧ r < n) := fun j hj => by
      obtain ⟨h1, h2⟩ := anc_mem hg (x := (k : Int)) (by omega) (ix_mem hj)
      obtain ⟨r, hr⟩ := Int.eq_ofNat_of_zero_le h1
      exact ⟨r, hr, by omega⟩
    have hfind : Hid (∀ j, j < (anc T k).length → ∀ r : Nat, ix (anc T k) j = r → lkB T r = true → (∀ q, q < j → lkB T (ix (anc T k) q).toNat = false) → nearF T k = r) := fun j hj r hr h1 h2 => by
      unfold nearF
      rw [find_at hj (by rw [hr, Int.toNat_natCast]; exact h1) h2, hr]; rfl
    have hnone : Hid ((∀ q, q < (anc T k).length → lkB T (ix (anc T k) q).toNat = false) → nearF T k = -1) := fun h2 => by
      unfold nearF
      rw [find_no h2]; rfl
    have hnr := hide (near_is hg hkT)
    have e1 : Hid (nearE T k = nearF T k) := if_pos q1
    have e2 : Hid (aboveE T k = anc T (par T k)) := by show _ = _; unfold aboveE; rw [if_pos q1, Int.toNat_natCast]
    have hg' := hide hg
    have q1' := hide q1
    have hup : (anc T (par T k)).length + 1 = (anc T k).length := by rw [hac]; rfl
    have hac' := hide hac
    have hb1 : -1 ≤ nearF T k ∧ nearF T k < n := by rcases near_is hg hkT with h | ⟨r, h, h2, _⟩ <;> omega
    obtain ⟨hn1, hn2⟩ := hb1
    generalize hN : nearF T (k : Int) = N at hn1 hn2 hfind hnone hnr e1
    have hN' := hide hN
    clear hir hg hac hN
    go_enter Try.func6, Try.ntmps6
    go_wp2_with fail
    refine (alive17_ok _).mono ?_
    rintro e w1 ⟨rfl, hb1⟩
    have hbox1 := cell_later hb1 hbox0
    have hB1 := Below.on hB0 hb1
    have hbox1 := cell_later hb1 hbox0
    go_wp2_with fail
    refine (rasked_ok _ _ _ T _ _ (hT.out.below hB1)).mono ?_
    rintro e w2 ⟨rfl, hb2⟩
    have hbox2 := cell_later hb2 hbox1
    have hB2 := Below.on hB1 hb2
    clear q1 hb1 hb2 hbox0 hbox1 hB0 hB1
    go_wp2_with fail
    refine (near_at T k N 0 q1'.out e1.out _ _ _ _ (hT.out.below hB2)).mono ?_
    rintro e w3 ⟨rfl, hb3⟩
    have hB3 := Below.on hB2 hb3
    have hbox3 := cell_later hb3 hbox2
    go_wp2_with fail
    have hab := above_ok _ _ c T k _ (hT.out.below hB3)
    rw [e2.out, q1'.out] at hab
    refine hab.mono ?_
    rintro e w4 ⟨A4, c4, rfl, hI4, -, -, hb4⟩
    have hB4 := Below.on hB3 hb4
    have hbox4 := cell_later hb4 hbox3
    clear hab
    generalize hys : anc T (par T k) = ys at *
    have hI4' := hide hI4
    have hlt4 : w.heap.size < w4.heap.size := cell_in hbox4
    have hon4 := hide (OwnI.lit w4 w4.heap.size w4.heap.size (k : Int) rfl (Nat.le_refl _))
    clear hI4 hb3 hb4 hbox2 hbox3 hB2 hB3 hys
    go_wp2_with (at_builtin; refine wpList_appI rfl _ _ rfl hon4.out (hI4'.out.below (below_alloc (Below.refl _ _) _)) rfl rfl (by simp; omega) (by simp) ?_)
    intro A5 c5 w5 hown5 hbb
    have hB5 := hbb w.heap.size w (by omega) (below_alloc hB4 _)
    have hb5 := hbb w4.heap.size w4 (Nat.le_refl _) (below_alloc (Below.refl _ _) _)
    have hbox5 := cell_later hb5 hbox4
    change OwnI w5 _ _ ((k : Int) :: ys) at hown5
    rw [← hac'.out] at hown5
    obtain ⟨A6, c6, hv6, -, -, hI6⟩ := hown5.isInts (by omega)
    injection hv6 with e3 e4 e5
    subst e3 e5
    obtain ⟨m, hm⟩ : ∃ m, (anc T (k : Int)).length = m := ⟨_, rfl⟩
    have hsl : 1 + ys.length = m := by omega
    rw [hsl]
    rw [hm] at hI6 hmem hfind hnone hle hup
    obtain ⟨b6, o6, rfl, hbl6, hc6⟩ := hI6.2.2 (by omega)
    have hc6' := hide hc6
    clear hown5 hI6 hc6 e4 hsl hm hon4 hI4' hbb hbox4 hB4 hb5 hup
    go_wp2
    go_loopw [11, 12] (fun f x wr => ∃ (j : Nat) (y : Int), j ≤ m ∧ x = .int .i64 j ∧ f = .int .i64 y ∧ -1 ≤ y ∧ Below w5.heap.size w5 wr ∧ Hid ((y = -1 ∧ ∀ q, q < j → lkB T (ix (anc T k) q).toNat = false) ∨ (0 ≤ y ∧ y = N))) (fun _ x _ => m - (intOf x).toNat)
    case atStart => exact ⟨0, -1, Nat.zero_le _, rfl, rfl, by omega, Below.refl _ _, .inl ⟨rfl, fun q hq => absurd hq (by omega)⟩⟩
    case round =>
      obtain ⟨j, y, hj, rfl, rfl, hy0, hb, hst⟩ := hrel
      have hBw := Below.on hB5 hb
      have hbx := cell_later hb hbox5
      by_cases hgo : j < m ∧ y < 0
      · obtain ⟨hlt, hy1⟩ := hgo
        have hno : Hid (∀ q, q < j → lkB T (ix (anc T k) q).toNat = false) := by
          rcases hst.out with ⟨_, h⟩ | ⟨h, _⟩
          · exact h
          · omega
        obtain ⟨r, hr, hrn⟩ := hmem.out j hlt
        have gk := (old hb _ _ hbl6).trans (hc6'.out j hlt)
        rw [hr] at gk
        have hr' := hide hr
        have hra := hide (askI_ok hg'.out (l := [(r : Int)]) (by simp; omega))
        have hrv : Hid (isE T r = lkB T r) := by show _ = _; unfold isE; rw [if_pos hra.out, Int.toNat_natCast]
        have hx0 : (0 : Int) ≤ (j : Int) := by omega
        have hx1 : (j : Int) < (m : Int) := by omega
        clear hr hst
        cases hlk : lkB T r
        · have hlk' : Hid (isE T r = false) := by show _ = _; rw [hrv.out, hlk]
          have hl2 := hide hlk
          clear hlk
          go_wp2
          go_region_held3 (fun X => X.cell? ⟨w.heap.size, 0, none⟩ = some (.slice A n c) ∧ X.cell? ⟨b6, o6 + j, none⟩ = some (.int .i64 r)) (first | exact ⟨hbx, gk⟩ | exact ⟨r0, r1⟩) (first | (go_at_call 25; refine (is_at T r false 0 hra.out hlk'.out _ _ _ _ ?_).mono ?_; (exact hT.out.below (show Below w.heap.size w wr.drew from hBw.drew)); rintro e w7 ⟨rfl, hb7⟩; have r0 := cell_later hb7 hbx; have r1 := cell_later hb7 gk))
          go_wp2
          go_roundw
          case rel => exact ⟨j + 1, y, by omega, by go_num, rfl, hy0, Below.on hb.drew hb7, .inl ⟨by omega, fun q hq => by
            by_cases h : q = j
            · subst h; rw [hr'.out, Int.toNat_natCast]; exact hl2.out
            · exact hno.out q (by omega)⟩⟩
          case measure => simp [intOf]; omega
        · have hlk' : Hid (isE T r = true) := by show _ = _; rw [hrv.out, hlk]
          have hres := hide (hfind.out j hlt r hr'.out hlk hno.out)
          clear hlk
          go_wp2
          go_region_held3 (fun X => X.cell? ⟨w.heap.size, 0, none⟩ = some (.slice A n c) ∧ X.cell? ⟨b6, o6 + j, none⟩ = some (.int .i64 r)) (first | exact ⟨hbx, gk⟩ | exact ⟨r0, r1⟩) (first | (go_at_call 25; refine (is_at T r true 0 hra.out hlk'.out _ _ _ _ ?_).mono ?_; (exact hT.out.below (show Below w.heap.size w wr.drew from hBw.drew)); rintro e w7 ⟨rfl, hb7⟩; have r0 := cell_later hb7 hbx; have r1 := cell_later hb7 gk))
          go_wp2
          go_roundw
          case rel => exact ⟨j + 1, r, by omega, by go_num, rfl, by omega, Below.on hb.drew hb7, .inr ⟨by omega, hres.out.symm⟩⟩
          case measure => simp [intOf]; omega
      · have hyN : Hid (y = N) := by
          show _ = _
          rcases hst.out with ⟨h1, h2⟩ | ⟨_, h2⟩
          · rw [hnone.out fun q hq => h2 q (by omega), h1]
          · exact h2
        have hyN2 := hyN.out
        subst hyN2
        have hgo' : (j < m ∧ 0 ≤ y) ∨ ¬ j < m := by omega
        clear hgo hst
        rcases hnr.out with hm1 | ⟨r, hr1, hr2, hr3⟩
        · subst hm1
          rcases hgo' with ⟨h1, h2⟩ | h1
          · omega
          · go_wp2
            go_ret
            exact ⟨rfl, hBw⟩
        · subst hr1
          have hra := hide (askI_ok hg'.out (l := [(r : Int)]) (by simp; omega))
          have hag : Hid (nearE T r = r) := by show _ = _; unfold nearE; rw [if_pos hra.out, near_yes hg'.out hr2 hr3]
          rcases hgo' with ⟨h1, h2⟩ | h1
          all_goals
            go_wp2_with fail
            refine (near_at T r r 0 hra.out hag.out _ _ _ _ (hT.out.below hBw)).mono ?_
            rintro e w8 ⟨rfl, hb8⟩
            go_wp2
            go_ret
            exact ⟨rfl, Below.on hBw hb8⟩
  · have j1 : (askI T [i] != 0) = true := by simp [q1]
    clear q1
    go_enter Try.func6, Try.ntmps6
    go_wp2_with fail
    refine (alive17_ok _).mono ?_
    rintro e w1 ⟨rfl, hb1⟩
    have hbox1 := cell_later hb1 hbox0
    have hB1 := Below.on hB0 hb1
    have hbox1 := cell_later hb1 hbox0
    go_wp2_with fail
    refine (rasked_ok _ _ _ T _ _ (hT.out.below hB1)).mono ?_
    rintro e w2 ⟨rfl, hb2⟩
    have hbox2 := cell_later hb2 hbox1
    have hB2 := Below.on hB1 hb2
    go_wp2
    go_ret
    exact ⟨rfl, hB2⟩

set_option maxRecDepth 100000 in
theorem lifted (os : Os) (started : os.Started) (H : Type) (enc : TypeId × Value → H) :
    ReturnsInHanded {} Try.checked os 6 .any (Rows.linkNearestSpec.pre6 enc Try.prog Try.f6 Rows.linkNearestRow.domain false) (Rows.linkNearestSpec.post enc Try.prog Try.f6 false true false false) := by
  refine returnsInHanded_of_change (C := Try.checked) own started (by kernel_rfl) Try.func6
    (ChangeSpec.witness6 (enc := enc) (C := Try.checked) false ⟨#[], #[.agg #[.slice none 0 0], .int .i64 0], []⟩ 8 (by kernel_rfl) (by kernel_rfl) (by kernel_rfl) (by kernel_rfl)) ?_
  intro W base args ds gs before hval0 hW hcnd _
  have hval : ∀ (j : Nat) t v, Try.f6.params[j]? = some t → args[j]? = some v → Value.okWide Try.prog W .any base t v := hval0
  have hW' := hW
  obtain ⟨p, q, hA0, hV, rfl, hfz, hnd⟩ := hW
  have hA : DataW.TrodAll enc Try.prog W 0 (fun _ => true) true Try.f6.params.toList args.toList ds p := hA0
  rw [Try.params6] at hA hval
  obtain ⟨v0, vs0, d0, ds0, p0, q0, hargs, rfl, rfl, h0, r0⟩ := trodAll_cons hA
  obtain ⟨v1, vs1, d1, ds1, p1, q1, rfl, rfl, rfl, h1, r1⟩ := trodAll_cons r0
  obtain ⟨rfl, rfl, rfl⟩ := trodAll_nil r1
  obtain rfl : args = #[v0, v1] := by cases args; simp_all
  obtain ⟨rfl, rfl⟩ := trodVars_none hV
  have lt0 : ∀ x ∈ p0, x.block < W.heap.size := by obtain ⟨m, hm⟩ := h0; exact DataW.trod_lt m _ _ _ hm
  have k0 := h0
  have lt1 : ∀ x ∈ p1, x.block < W.heap.size := by obtain ⟨m, hm⟩ := h1; exact DataW.trod_lt m _ _ _ hm
  have k1 := h1
  obtain ⟨A0, n0, c0, T0, rfl, hT0⟩ := tree_open (hval 0 _ v0 rfl rfl) h0
  obtain ⟨a1, rfl, rfl, rfl, w1⟩ := open_int Try.underlying3 (hval 1 _ v1 rfl rfl) h1
  clear hA0 hval0
  refine (walk A0 n0 c0 T0 a1 W hT0 ).mono fun e W' ⟨he, bel⟩ => ?_
  subst he
  exact ⟨_, rfl, _, _, _, [], _, [], hW', trodAll_mk1 (shut_bool Try.underlying4 _), (trodAll_cons_mk (Below.trod laidOut (by kernel_rfl) (of_decide_eq_true (by kernel_rfl)) k0 bel lt0) (trodAll_cons_mk (Below.trod laidOut (by kernel_rfl) (of_decide_eq_true (by kernel_rfl)) k1 bel lt1) trodAll_mk0)), rfl, bel.frame _, fun h => by cases h⟩

theorem proved : Rows.LinkNearestSaid :=
  OpenClaim.holds_of_wide 6 Try.f6 rfl rfl rfl rfl rfl rfl rfl ⟨rfl, rfl, rfl, rfl, rfl⟩ rfl rfl rfl rfl rfl (by kernel_rfl) Try.func6 (by kernel_rfl)
    (of_decide_eq_true (by kernel_rfl)) (by unfold Func.isWrapper; first | (rw [if_pos (by decide +kernel)]; kernel_rfl) | (rw [if_neg (by decide +kernel)]; exact ⟨rfl, rfl⟩))
    (fun os started H enc _ => lifted os started H enc)
#print axioms proved
end Go.Proofs.Ytfiiikbbiimdiaa.linkNearest
