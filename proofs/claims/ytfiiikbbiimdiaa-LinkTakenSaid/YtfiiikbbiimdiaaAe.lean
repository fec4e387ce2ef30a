/- Walks: all links, by the program; values of attributes, links, nearest links, all links, by the reference. No condition but those of the inner functions. -/
import Derived.Test.YtfiiikbbiimdiaaAd
namespace Go.Proofs.Ytfiiikbbiimdiaa
open Go.RowKit

theorem filt_succ (p : Int → Bool) (l : List Int) {k : Nat} (hk : k < l.length) : (l.take (k + 1)).filter p = (l.take k).filter p ++ (if p (ix l k) = true then [ix l k] else []) := by
  rw [take_snoc' l k hk, ← ix_get hk, List.filter_append]
  congr 1
  by_cases hb : p (ix l k) = true
  · rw [if_pos hb, List.filter_cons, if_pos hb]; rfl
  · rw [if_neg hb, List.filter_cons, if_neg hb]; rfl

set_option maxRecDepth 100000 in
set_option maxHeartbeats 1000000 in
theorem linkAll_ok (A : Option Addr) (n c : Nat) (T : List ANode) (i : Int) (w : World) (h : IsTree w A n T) :
    Calls Try.prog 31 #[.agg #[.slice A n c], .int .i64 i] w (MadeIntsR w (linksE T i) (askI T [i])) := by
  have hT := hide h
  have hl := h.1
  clear h
  have hB0 := below_alloc (Below.refl w.heap.size w) (.cells #[.slice A n c] 24)
  have hbox0 : (w.alloc (.cells #[.slice A n c] 24)).cell? ⟨w.heap.size, 0, none⟩ = some (.slice A n c) := by go_simp
  by_cases h0 : askI T [i] = 0
  · obtain ⟨hg, hir⟩ := askI_zero.1 h0
    have hir := hir i (by simp)
    obtain ⟨k, rfl⟩ := Int.eq_ofNat_of_zero_le hir.1
    have hk : k < n := by omega
    have hkT : k < T.length := by omega
    have hn64 : n ≤ 64 := by have := ((goodB_iff T).1 hg).2.1; omega
    have hpl : (preT T k).length ≤ n := by have := preT_len hg hkT; omega
    have hr : Hid (linksE T k = (preT T k).filter (fun x => lkB T x.toNat)) := if_pos h0
    have hmem : Hid (∀ j, j < (preT T k).length → ∃ r : Nat, ix (preT T k) j = r ∧ r < n) := fun j hj => by
      obtain ⟨y, h1, h2, _⟩ := pre_mem hg _ hkT (ix_mem (l := preT T k) hj); exact ⟨y, h1, by omega⟩
    have hg' := hide hg
    have h0' := hide h0
    clear hir hg h0
    go_enter Try.func31, Try.ntmps31
    go_wp2_with fail
    refine (listF_ok _ _ _ T _ _ (hT.out.below hB0) h0'.out).mono ?_
    rintro e w1 ⟨A1, c1, rfl, hI1, -, -, hb1⟩
    have hB1 := Below.on hB0 hb1
    have hbox1 := cell_later hb1 hbox0
    obtain ⟨l, hl2⟩ : ∃ l, preT T k = l := ⟨_, rfl⟩
    rw [hl2] at hI1 hpl hr hmem ⊢
    obtain ⟨m, hm⟩ : ∃ m, l.length = m := ⟨_, rfl⟩
    rw [hm] at hI1 hpl hmem ⊢
    have hm' := hide hm
    have hI1' := hide hI1
    have hlt1 : w.heap.size < w1.heap.size := cell_in hbox1
    clear hl2 hm hI1 hb1 hbox0 hB0
    go_wp2
    go_loopw [8, 22] (fun v s wr => ∃ j : Nat, j ≤ m ∧ s = .int .i64 j ∧ OwnI wr w1.heap.size v ((l.take j).filter (fun x => lkB T x.toNat)) ∧ Below w1.heap.size w1 wr) (fun _ s _ => m - (intOf s).toNat)
    case atStart => exact ⟨0, Nat.zero_le _, rfl, OwnI.nil _ _, Below.refl _ _⟩
    case round =>
      obtain ⟨j, hj, rfl, hown, hb⟩ := hrel
      have hBw := Below.on hB1 hb
      have hbx := cell_later hb hbox1
      have hsz : w1.heap.size ≤ wr.heap.size := hb.size
      have hfl : ((l.take j).filter (fun x => lkB T x.toNat)).length ≤ j := Nat.le_trans (List.length_filter_le _ _) (List.length_take_le _ _)
      by_cases hlt : j < m
      · obtain ⟨r, hr2, hrn⟩ := hmem.out j hlt
        obtain ⟨b3, off3, rfl, hbl3, hc3⟩ := hI1'.out.2.2 (by omega)
        have gk := (old hb _ _ hbl3).trans (hc3 j hlt)
        have hfs := hide (filt_succ (fun x => lkB T x.toNat) l (k := j) (by have := hm'.out; omega))
        rw [hr2] at gk
        have hr2' := hide hr2
        clear hr2 hc3
        cases hlk : lkB T r
        · have hf2 : Hid ((l.take (j + 1)).filter (fun x => lkB T x.toNat) = (l.take j).filter (fun x => lkB T x.toNat)) := by show _ = _; rw [hfs.out, hr2'.out]; simp [hlk]
          have hlk' := hide hlk
          clear hlk
          go_wp2_with fail
          refine (lis_ok _ _ _ T r _ (hT.out.below hBw) hrn hg'.out).mono ?_
          rw [hlk'.out]
          rintro e w2 ⟨rfl, hb2⟩
          have hown2 := hide (hown.below hb2)
          clear hown
          go_wp2
          go_roundw
          case rel => exact ⟨j + 1, by omega, by go_num, by rw [hf2.out]; exact hown2.out, Below.on hb hb2⟩
          case measure => simp [intOf]; omega
        · have hf2 : Hid ((l.take (j + 1)).filter (fun x => lkB T x.toNat) = (l.take j).filter (fun x => lkB T x.toNat) ++ [(r : Int)]) := by show _ = _; rw [hfs.out, hr2'.out]; simp [hlk]
          have hlk' := hide hlk
          clear hlk
          go_wp2_with fail
          refine (lis_ok _ _ _ T r _ (hT.out.below hBw) hrn hg'.out).mono ?_
          rw [hlk'.out]
          rintro e w2 ⟨rfl, hb2⟩
          have hown2 := hown.below hb2
          have hB2 := Below.on hb hb2
          have hsz2 : w1.heap.size ≤ w2.heap.size := hB2.size
          clear hown
          go_wp2_with (at_builtin; refine wpList_pushI rfl _ _ rfl hown2 r _ rfl rfl (by omega) hsz2 ?_)
          intro A5 c5 w5 hown5 hgr
          have hB5 := hgr.below (Nat.le_refl _) hB2
          have hown5' := hide hown5
          clear hgr hown5 hown2
          go_wp2
          go_roundw
          case rel => exact ⟨j + 1, by omega, by go_num, by rw [hf2.out]; exact hown5'.out, hB5⟩
          case measure => simp [intOf]; omega
      · obtain rfl : m = j := by omega
        have hfin : (l.take m).filter (fun x => lkB T x.toNat) = linksE T k := by rw [hr.out, ← hm'.out, List.take_length]
        rw [hfin] at hown hfl
        obtain ⟨A', c', rfl, -, -, hI'⟩ := hown.isInts (by omega)
        have hI2 := hide hI'
        clear hI' hown hfin
        go_wp2
        go_ret2
        rw [h0'.out]
        exact ⟨A', c', rfl, hI2.out, hBw⟩
  · have hr : Hid (linksE T i = []) := if_neg h0
    have hq : (askI T [i] != 0) = true := by simp [h0]
    have hle : Hid (listE T i = []) := if_neg h0
    clear h0
    go_enter Try.func31, Try.ntmps31
    go_wp2_with fail
    have hlo := list_ok _ _ c T i _ (hT.out.below hB0)
    rw [hle.out] at hlo
    refine hlo.mono ?_
    rintro e w1 ⟨A1, c1, rfl, -, -, -, hb1⟩
    clear hlo
    go_wp2
    go_ret2
    rw [hr.out]
    exact madeIntsR_nil (Below.on hB0 hb1)

set_option maxRecDepth 100000 in
set_option maxHeartbeats 1000000 in
theorem rgot_ok (A : Option Addr) (n c : Nat) (T : List ANode) (i : Nat) (s : ByteArray) (w : World) (h : IsTree w A n T) (hi : i < n) (hg : goodB T = true) :
    Calls Try.prog 62 #[.agg #[.slice A n c], .int .i64 i, .string s] w fun e w' => e = .returned (.tuple #[.string (getV T i s), .bool (hasA (atl T i) s)]) ∧ Below w.heap.size w w' := by
  have ho := hide h.2.2.2
  have hT := hide h
  have hl := h.1
  clear h
  have hB0 := below_alloc (Below.refl w.heap.size w) (.cells #[.slice A n c] 24)
  have hbox0 : (w.alloc (.cells #[.slice A n c] 24)).cell? ⟨w.heap.size, 0, none⟩ = some (.slice A n c) := by go_simp
  have q1 : askI T [(i : Int)] = 0 := askI_ok hg (by simp; omega)
  have he : getE T i s = if hasA (atl T i) s = true then 0 else 6 := by unfold getE; rw [if_pos q1, Int.toNat_natCast]
  have hv : getV T i s = if getE T i s = 0 then vl (atl T i) (lowA (atl T i) s) else .empty := by unfold getV; rw [Int.toNat_natCast]
  obtain ⟨b, off, aA, cA, aC, cC, rfl, hbl, -, c1, -, -, hA, -⟩ := ho.out (by omega)
  have c1' := hide (c1 i hi)
  have hA' := hide (hA i hi).1
  change Hid (w.cell? ⟨b, off + i * 4 + 1, none⟩ = some (Value.slice (aA i) (atl T i).length (aC i))) at c1'
  change Hid (IsAttrs w (aA i) (atl T i).length (atl T i)) at hA'
  generalize aA i = AA at c1' hA'
  generalize aC i = ac at c1'
  have hg' := hide hg
  obtain ⟨hs, h16⟩ := good_attrs hg (by omega : i < T.length)
  clear c1 hA ho hg q1
  cases hh : hasA (atl T i) s
  · have hr : Hid (getV T i s = .empty) := by show _ = _; rw [hv, he, hh]; rfl
    have hav : Hid (atV (atl T i) s = -1) := by show _ = _; unfold atV; rw [hh]; rfl
    clear he hv hs hh
    go_enter Try.func62, Try.ntmps62
    go_wp2_with fail
    refine (rattr_ok _ _ _ T i s _ (hT.out.below hB0) hi hg'.out).mono ?_
    rw [hav.out]
    rintro e w1 ⟨rfl, hb1⟩
    go_wp2
    go_ret2
    exact ⟨ret_sb hr.out.symm rfl, Below.on hB0 hb1⟩
  · have hr : Hid (getV T i s = vl (atl T i) (lowA (atl T i) s)) := by show _ = _; rw [hv, he, hh]; rfl
    have hav : Hid (atV (atl T i) s = (lowA (atl T i) s : Int)) := by show _ = _; unfold atV; rw [hh]; rfl
    have hat : lowA (atl T i) s < (atl T i).length := by unfold hasA at hh; simp at hh; exact hh.1
    generalize lowA (atl T i) s = p at *
    obtain ⟨ba, oa, rfl, hba, ca0, ca1⟩ := hA'.out.2.2.2 (by omega)
    have ca1' := hide (ca1 p hat)
    clear he hv hs hh ca0 ca1
    go_enter Try.func62, Try.ntmps62
    go_wp2_with fail
    refine (rattr_ok _ _ _ T i s _ (hT.out.below hB0) hi hg'.out).mono ?_
    rw [hav.out]
    rintro e w1 ⟨rfl, hb1⟩
    have hB1 := Below.on hB0 hb1
    have hbox1 := cell_later hb1 hbox0
    have g1 := (old hB1 _ _ hbl).trans c1'.out
    have g2 := (old hB1 _ _ hba).trans ca1'.out
    go_wp2
    go_ret2
    exact ⟨ret_sb hr.out.symm rfl, hB1⟩
end Go.Proofs.Ytfiiikbbiimdiaa
