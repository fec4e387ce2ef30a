/- Walks: links, nearest links and all links, by the reference. No condition but those of the inner functions. -/
import Derived.Test.YtfiiikbbiimdiaaAe
import Derived.Deep.RegionHeld3
namespace Go.Proofs.Ytfiiikbbiimdiaa
open Go.RowKit

set_option maxRecDepth 100000 in
theorem rlinkIs_ok (A : Option Addr) (n c : Nat) (T : List ANode) (i : Int) (w : World) (h : IsTree w A n T) :
    Calls Try.prog 26 #[.agg #[.slice A n c], .int .i64 i] w fun e w' => e = .returned (.tuple #[.bool (isE T i), .int .i64 (askI T [i])]) ∧ Below w.heap.size w w' := by
  have hT := hide h
  have hl := h.1
  clear h
  have hB0 := below_alloc (Below.refl w.heap.size w) (.cells #[.slice A n c] 24)
  have hbox0 : (w.alloc (.cells #[.slice A n c] 24)).cell? ⟨w.heap.size, 0, none⟩ = some (.slice A n c) := by go_simp
  by_cases h0 : askI T [i] = 0
  · obtain ⟨hg, hir⟩ := askI_zero.1 h0
    have hir := hir i (by simp)
    obtain ⟨k, rfl⟩ := Int.eq_ofNat_of_zero_le hir.1
    have hk : k < n := by omega
    have hr : Hid (isE T k = lkB T k) := by show _ = _; unfold isE; rw [if_pos h0, Int.toNat_natCast]
    have hg' := hide hg
    have h0' := hide h0
    have hq0 : (askI T [(k : Int)] != 0) = false := by simp [h0]
    clear hir hg h0
    go_enter Try.func26, Try.ntmps26
    go_wp2_with fail
    refine (rasked_ok _ _ _ T _ _ (hT.out.below hB0)).mono ?_
    rintro e w1 ⟨rfl, hb1⟩
    have hbox1 := cell_later hb1 hbox0
    have hB1 := Below.on hB0 hb1
    go_wp2_with fail
    refine (rlk_ok _ _ _ T k _ (hT.out.below hB1) hk hg'.out).mono ?_
    rintro e w2 ⟨rfl, hb2⟩
    go_wp2
    go_ret2
    exact ⟨ret_bi hr.out.symm h0'.out.symm, Below.on hB1 hb2⟩
  · have hr : Hid (isE T i = false) := if_neg h0
    have hq : (askI T [i] != 0) = true := by simp [h0]
    clear h0
    go_enter Try.func26, Try.ntmps26
    go_wp2_with fail
    refine (rasked_ok _ _ _ T _ _ (hT.out.below hB0)).mono ?_
    rintro e w1 ⟨rfl, hb1⟩
    have hbox1 := cell_later hb1 hbox0
    have hB1 := Below.on hB0 hb1
    go_wp2_with fail
    refine (rasked_ok _ _ _ T _ _ (hT.out.below hB1)).mono ?_
    rintro e w2 ⟨rfl, hb2⟩
    have hbox2 := cell_later hb2 hbox1
    have hB2 := Below.on hB1 hb2
    go_wp2
    go_ret2
    exact ⟨ret_bi hr.out.symm rfl, hB2⟩

set_option maxRecDepth 100000 in
theorem rlinkHref_ok (A : Option Addr) (n c : Nat) (T : List ANode) (i : Int) (w : World) (h : IsTree w A n T) :
    Calls Try.prog 28 #[.agg #[.slice A n c], .int .i64 i] w fun e w' => e = .returned (.tuple #[.string (hrefV T i), .int .i64 (hrefE T i)]) ∧ Below w.heap.size w w' := by
  have hT := hide h
  have hl := h.1
  clear h
  have hB0 := below_alloc (Below.refl w.heap.size w) (.cells #[.slice A n c] 24)
  have hbox0 : (w.alloc (.cells #[.slice A n c] 24)).cell? ⟨w.heap.size, 0, none⟩ = some (.slice A n c) := by go_simp
  by_cases h0 : askI T [i] = 0
  · obtain ⟨hg, hir⟩ := askI_zero.1 h0
    have hir := hir i (by simp)
    obtain ⟨k, rfl⟩ := Int.eq_ofNat_of_zero_le hir.1
    have hk : k < n := by omega
    have hE : Hid (hrefE T k = if lkB T k = true then 0 else 6) := by show _ = _; unfold hrefE; rw [if_pos h0, Int.toNat_natCast]
    have hg' := hide hg
    have h0' := hide h0
    have hq0 : (askI T [(k : Int)] != 0) = false := by simp [h0]
    cases hlk : lkB T k
    · have e1 : Hid (hrefE T k = 6) := by show _ = _; rw [hE.out, hlk]; rfl
      have e2 : Hid (hrefV T k = .empty) := by show _ = _; unfold hrefV; rw [e1.out]; rfl
      have hlk' := hide hlk
      clear hir hg h0 hlk
      go_enter Try.func28, Try.ntmps28
      go_wp2_with fail
      refine (rasked_ok _ _ _ T _ _ (hT.out.below hB0)).mono ?_
      rintro e w1 ⟨rfl, hb1⟩
      have hbox1 := cell_later hb1 hbox0
      have hB1 := Below.on hB0 hb1
      go_wp2_with fail
      refine (rlk_ok _ _ _ T k _ (hT.out.below hB1) hk hg'.out).mono ?_
      rw [hlk'.out]
      rintro e w2 ⟨rfl, hb2⟩
      go_wp2
      go_ret2
      exact ⟨ret_si e2.out.symm e1.out.symm, Below.on hB1 hb2⟩
    · have e1 : Hid (hrefE T k = 0) := by show _ = _; rw [hE.out, hlk]; rfl
      have e2 : Hid (hrefV T k = getV T k href) := by show _ = _; unfold hrefV; rw [e1.out]; rfl
      have hlk' := hide hlk
      clear hir hg h0 hlk
      go_enter Try.func28, Try.ntmps28
      go_wp2_with fail
      refine (rasked_ok _ _ _ T _ _ (hT.out.below hB0)).mono ?_
      rintro e w1 ⟨rfl, hb1⟩
      have hbox1 := cell_later hb1 hbox0
      have hB1 := Below.on hB0 hb1
      go_wp2_with fail
      refine (rlk_ok _ _ _ T k _ (hT.out.below hB1) hk hg'.out).mono ?_
      rw [hlk'.out]
      rintro e w2 ⟨rfl, hb2⟩
      have hbox2 := cell_later hb2 hbox1
      have hB2 := Below.on hB1 hb2
      go_wp2_with fail
      refine (rgot_ok _ _ _ T k href _ (hT.out.below hB2) hk hg'.out).mono ?_
      rintro e w3 ⟨rfl, hb3⟩
      go_wp2
      go_ret2
      exact ⟨ret_si e2.out.symm e1.out.symm, Below.on hB2 hb3⟩
  · have e1 : Hid (hrefE T i = askI T [i]) := if_neg h0
    have e2 : Hid (hrefV T i = .empty) := by show _ = _; unfold hrefV; rw [e1.out, if_neg h0]
    have hq : (askI T [i] != 0) = true := by simp [h0]
    clear h0
    go_enter Try.func28, Try.ntmps28
    go_wp2_with fail
    refine (rasked_ok _ _ _ T _ _ (hT.out.below hB0)).mono ?_
    rintro e w1 ⟨rfl, hb1⟩
    have hbox1 := cell_later hb1 hbox0
    have hB1 := Below.on hB0 hb1
    go_wp2_with fail
    refine (rasked_ok _ _ _ T _ _ (hT.out.below hB1)).mono ?_
    rintro e w2 ⟨rfl, hb2⟩
    have hbox2 := cell_later hb2 hbox1
    have hB2 := Below.on hB1 hb2
    go_wp2
    go_ret2
    exact ⟨ret_si e2.out.symm e1.out.symm, hB2⟩

set_option maxRecDepth 100000 in
set_option maxHeartbeats 1000000 in
theorem rlinkAll_ok (A : Option Addr) (n c : Nat) (T : List ANode) (i : Int) (w : World) (h : IsTree w A n T) :
    Calls Try.prog 32 #[.agg #[.slice A n c], .int .i64 i] w (MadeIntsR w (linksE T i) (askI T [i])) := by
  have hT := hide h
  have hl := h.1
  clear h
  have hB0 := below_alloc (Below.refl w.heap.size w) (.cells #[.slice A n c] 24)
  have hbox0 : (w.alloc (.cells #[.slice A n c] 24)).cell? ⟨w.heap.size, 0, none⟩ = some (.slice A n c) := by go_simp
  by_cases h0 : askI T [i] = 0
  · obtain ⟨hg, hir⟩ := askI_zero.1 h0
    have hir := hir i (by simp)
    obtain ⟨k, rfl⟩ := Int.eq_ofNat_of_zero_le hir.1
    have hk : k < n := by omega
    have hkT : k < T.length := by omega
    have hn64 : n ≤ 64 := by have := ((goodB_iff T).1 hg).2.1; omega
    have hpl : (preT T k).length ≤ n := by have := preT_len hg hkT; omega
    have hr : Hid (linksE T k = (preT T k).filter (fun x => lkB T x.toNat)) := if_pos h0
    have hmem : Hid (∀ j, j < (preT T k).length → ∃ r : Nat, ix (preT T k) j = r ∧ r < n) := fun j hj => by
      obtain ⟨y, h1, h2, _⟩ := pre_mem hg _ hkT (ix_mem (l := preT T k) hj); exact ⟨y, h1, by omega⟩
    have hg' := hide hg
    have h0' := hide h0
    have hq0 : (askI T [(k : Int)] != 0) = false := by simp [h0]
    clear hir hg h0
    go_enter Try.func32, Try.ntmps32
    go_wp2_with fail
    refine (rasked_ok _ _ _ T _ _ (hT.out.below hB0)).mono ?_
    rintro e w1 ⟨rfl, hb1⟩
    have hbox1 := cell_later hb1 hbox0
    have hB1 := Below.on hB0 hb1
    go_wp2_with fail
    refine (rwalk_ok _ _ _ T k _ (hT.out.below hB1) hk hg'.out).mono ?_
    rintro e w2 ⟨A1, c1, rfl, hI1, hb2⟩
    have hB2 := Below.on hB1 hb2
    have hbox2 := cell_later hb2 hbox1
    clear hB1 hbox1 hb1
    have hbox1 := hbox2
    have hB1 := hB2
    have hb1 := hb2
    clear hbox2 hB2 hb2
    obtain ⟨l, hl2⟩ : ∃ l, preT T k = l := ⟨_, rfl⟩
    rw [hl2] at hI1 hpl hr hmem ⊢
    obtain ⟨m, hm⟩ : ∃ m, l.length = m := ⟨_, rfl⟩
    rw [hm] at hI1 hpl hmem ⊢
    have hm' := hide hm
    have hI1' := hide hI1
    have hlt1 : w.heap.size < w2.heap.size := cell_in hbox1
    clear hl2 hm hI1 hb1 hbox0 hB0
    go_wp2
    go_loopw [6, 8] (fun v s wr => ∃ j : Nat, j ≤ m ∧ s = .int .i64 j ∧ OwnI wr w2.heap.size v ((l.take j).filter (fun x => lkB T x.toNat)) ∧ Below w2.heap.size w2 wr) (fun _ s _ => m - (intOf s).toNat)
    case atStart => exact ⟨0, Nat.zero_le _, rfl, OwnI.nil _ _, Below.refl _ _⟩
    case round =>
      obtain ⟨j, hj, rfl, hown, hb⟩ := hrel
      have hBw := Below.on hB1 hb
      have hbx := cell_later hb hbox1
      have hsz : w2.heap.size ≤ wr.heap.size := hb.size
      have hfl : ((l.take j).filter (fun x => lkB T x.toNat)).length ≤ j := Nat.le_trans (List.length_filter_le _ _) (List.length_take_le _ _)
      by_cases hlt : j < m
      · obtain ⟨r, hr2, hrn⟩ := hmem.out j hlt
        obtain ⟨b3, off3, rfl, hbl3, hc3⟩ := hI1'.out.2.2 (by omega)
        have gk := (old hb _ _ hbl3).trans (hc3 j hlt)
        have hfs := hide (filt_succ (fun x => lkB T x.toNat) l (k := j) (by have := hm'.out; omega))
        rw [hr2] at gk
        have hr2' := hide hr2
        clear hr2 hc3
        cases hlk : lkB T r
        · have hf2 : Hid ((l.take (j + 1)).filter (fun x => lkB T x.toNat) = (l.take j).filter (fun x => lkB T x.toNat)) := by show _ = _; rw [hfs.out, hr2'.out]; simp [hlk]
          have hlk' := hide hlk
          clear hlk
          have hx0 : (0 : Int) ≤ (j : Int) := by omega
          have hx1 : (j : Int) < (m : Int) := by omega
          go_wp2
          go_region_held3 (fun X => X.cell? ⟨w.heap.size, 0, none⟩ = some (.slice A n c) ∧ X.cell? ⟨b3, off3 + j, none⟩ = some (.int .i64 r)) (first | exact ⟨hbx, gk⟩ | exact ⟨r0, r1⟩) (first | (go_at_call 61; refine (rlk_ok _ _ _ T r _ ?_ hrn hg'.out).mono ?_; (exact hT.out.below (show Below w.heap.size w wr.drew from hBw.drew)); rw [hlk'.out]; rintro e w3 ⟨rfl, hb2⟩; have r0 := cell_later hb2 hbx; have r1 := cell_later hb2 gk))
          have hown := (show OwnI wr.drew _ _ _ from hown)
          have hb := hb.drew
          have hown2 := hide (hown.below hb2)
          clear hown
          go_wp2
          go_roundw
          case rel => exact ⟨j + 1, by omega, by go_num, by rw [hf2.out]; exact hown2.out, Below.on hb hb2⟩
          case measure => simp [intOf]; omega
        · have hf2 : Hid ((l.take (j + 1)).filter (fun x => lkB T x.toNat) = (l.take j).filter (fun x => lkB T x.toNat) ++ [(r : Int)]) := by show _ = _; rw [hfs.out, hr2'.out]; simp [hlk]
          have hlk' := hide hlk
          clear hlk
          have hx0 : (0 : Int) ≤ (j : Int) := by omega
          have hx1 : (j : Int) < (m : Int) := by omega
          go_wp2
          go_region_held3 (fun X => X.cell? ⟨w.heap.size, 0, none⟩ = some (.slice A n c) ∧ X.cell? ⟨b3, off3 + j, none⟩ = some (.int .i64 r)) (first | exact ⟨hbx, gk⟩ | exact ⟨r0, r1⟩) (first | (go_at_call 61; refine (rlk_ok _ _ _ T r _ ?_ hrn hg'.out).mono ?_; (exact hT.out.below (show Below w.heap.size w wr.drew from hBw.drew)); rw [hlk'.out]; rintro e w3 ⟨rfl, hb2⟩; have r0 := cell_later hb2 hbx; have r1 := cell_later hb2 gk))
          have hown := (show OwnI wr.drew _ _ _ from hown)
          have hb := hb.drew
          have hown2 := hown.below hb2
          have hB2 := Below.on hb hb2
          have hsz2 : w2.heap.size ≤ w3.heap.size := hB2.size
          clear hown
          go_wp2_with (at_builtin; refine wpList_pushI rfl _ _ rfl hown2 r _ rfl rfl (by omega) hsz2 ?_)
          intro A5 c5 w5 hown5 hgr
          have hB5 := hgr.below (Nat.le_refl _) hB2
          have hown5' := hide hown5
          clear hgr hown5 hown2
          go_wp2
          go_roundw
          case rel => exact ⟨j + 1, by omega, by go_num, by rw [hf2.out]; exact hown5'.out, hB5⟩
          case measure => simp [intOf]; omega
      · obtain rfl : m = j := by omega
        have hfin : (l.take m).filter (fun x => lkB T x.toNat) = linksE T k := by rw [hr.out, ← hm'.out, List.take_length]
        rw [hfin] at hown hfl
        obtain ⟨A', c', rfl, -, -, hI'⟩ := hown.isInts (by omega)
        have hI2 := hide hI'
        clear hI' hown hfin
        go_wp2
        go_ret2
        rw [h0'.out]
        exact ⟨A', c', rfl, hI2.out, hBw⟩
  · have hr : Hid (linksE T i = []) := if_neg h0
    have hq : (askI T [i] != 0) = true := by simp [h0]
    clear h0
    go_enter Try.func32, Try.ntmps32
    go_wp2_with fail
    refine (rasked_ok _ _ _ T _ _ (hT.out.below hB0)).mono ?_
    rintro e w1 ⟨rfl, hb1⟩
    have hbox1 := cell_later hb1 hbox0
    have hB1 := Below.on hB0 hb1
    go_wp2_with fail
    refine (rasked_ok _ _ _ T _ _ (hT.out.below hB1)).mono ?_
    rintro e w2 ⟨rfl, hb2⟩
    have hbox2 := cell_later hb2 hbox1
    have hB2 := Below.on hB1 hb2
    go_wp2
    go_ret2
    rw [hr.out]
    exact madeIntsR_nil hB2

end Go.Proofs.Ytfiiikbbiimdiaa
