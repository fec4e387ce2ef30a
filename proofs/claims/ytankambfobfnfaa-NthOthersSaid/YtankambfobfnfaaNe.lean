/- Walks: counted places and matches, by the reference; comparing lists of truth values. No condition but those of the inner functions. -/
import Derived.Test.YtankambfobfnfaaNd
import Derived.Test.YtankambfobfnfaaOa
namespace Go.Proofs.Ytankambfobfnfaa
open Go.RowKit

theorem rntol_ok (A AB : Option Addr) (n c m cb : Nat) (T : List ANode) (w : World) (h : IsTree w A n T) :
    Calls Try.prog 35 #[.agg #[.slice A n c], .slice AB m cb] w fun e w' => e = .returned (.int .i64 (tolE T m)) ∧ Below w.heap.size w w' := by
  have hT := hide h
  have hl := h.1
  clear h
  have hB0 := below_alloc (Below.refl w.heap.size w) (.cells #[.slice A n c] 24)
  have hbox0 : (w.alloc (.cells #[.slice A n c] 24)).cell? ⟨w.heap.size, 0, none⟩ = some (.slice A n c) := by go_simp
  by_cases hg : goodB T = true
  · have hc0 : chk T = 0 := chk_ok hg
    by_cases hm : m = n
    · have hr : Hid (tolE T m = 0) := tolE_zero.2 ⟨hg, by omega⟩
      subst hm
      clear hg
      go_enter Try.func35, Try.ntmps35
      go_wp2_with fail
      refine (rcheck_ok _ _ _ T _ (hT.out.below hB0)).mono ?_
      rintro e w1 ⟨rfl, hb1⟩
      have hbox1 := cell_later hb1 hbox0
      have hB1 := Below.on hB0 hb1
      go_wp2
      go_ret
      exact ⟨ret_int hr.out.symm, hB1⟩
    · have hr : Hid (tolE T m = 2) := by show _ = _; unfold tolE; rw [if_pos hg, if_neg (by omega)]
      have hne : ((m : Int) != (n : Int)) = true := by simp; omega
      clear hg hm
      go_enter Try.func35, Try.ntmps35
      go_wp2_with fail
      refine (rcheck_ok _ _ _ T _ (hT.out.below hB0)).mono ?_
      rintro e w1 ⟨rfl, hb1⟩
      have hbox1 := cell_later hb1 hbox0
      have hB1 := Below.on hB0 hb1
      go_wp2
      go_ret
      exact ⟨ret_int hr.out.symm, hB1⟩
  · have hc0 : chk T = 8 := chk_bad hg
    have hr : Hid (tolE T m = 8) := if_neg hg
    clear hg
    go_enter Try.func35, Try.ntmps35
    go_wp2_with fail
    refine (rcheck_ok _ _ _ T _ (hT.out.below hB0)).mono ?_
    rintro e w1 ⟨rfl, hb1⟩
    have hbox1 := cell_later hb1 hbox0
    have hB1 := Below.on hB0 hb1
    go_wp2_with fail
    refine (rcheck_ok _ _ _ T _ (hT.out.below hB1)).mono ?_
    rintro e w2 ⟨rfl, hb2⟩
    have hbox2 := cell_later hb2 hbox1
    have hB2 := Below.on hB1 hb2
    go_wp2
    go_ret
    exact ⟨ret_int hr.out.symm, hB2⟩

theorem filter_succ (p : Int → Bool) (l : List Int) {k : Nat} (hk : k < l.length) : (l.take (k + 1)).filter p = (l.take k).filter p ++ (if p (ix l k) = true then [ix l k] else []) := by
  rw [take_snoc' l k hk, ← ix_get hk, List.filter_append]
  congr 1
  by_cases hb : p (ix l k) = true
  · rw [if_pos hb, List.filter_cons, if_pos hb]; rfl
  · rw [if_neg hb, List.filter_cons, if_neg hb]; rfl

set_option maxRecDepth 100000 in
set_option maxHeartbeats 1000000 in
theorem rcounted_ok (A AB : Option Addr) (n c cb : Nat) (T : List ANode) (B : List Bool) (i : Nat) (w : World) (h : IsTree w A n T) (hL : IsBools w AB n B) (hg : goodB T = true) (hi : i < n) :
    Calls Try.prog 75 #[.agg #[.slice A n c], .int .i64 i, .slice AB n cb] w (MadeInts0 w (cntd T i B)) := by
  have hT := hide h
  have hl := h.1
  clear h
  have hB0 := below_alloc (Below.refl w.heap.size w) (.cells #[.slice A n c] 24)
  have hbox0 : (w.alloc (.cells #[.slice A n c] 24)).cell? ⟨w.heap.size, 0, none⟩ = some (.slice A n c) := by go_simp
  obtain ⟨bb, offb, rfl, hbb, hcb⟩ := hL.2.2 (by omega)
  have hcb' := hide hcb
  have hg' := hide hg
  have hiT : i < T.length := by omega
  have hmem : Hid (∀ k, k < (sibs T i).length → ∃ r : Nat, ix (sibs T i) k = r ∧ r < n) := fun k hk => by
    obtain ⟨r, h1, h2, _⟩ := sibs_mem hg'.out hiT (ix_mem hk); exact ⟨r, h1, by omega⟩
  have hm64 := sibs_len hg hiT
  have hm0 : 0 < (sibs T i).length := by obtain ⟨j, h1, _⟩ := sibs_pos hg'.out hiT; omega
  have hend : Hid (((sibs T i).take (sibs T i).length).filter (inb B) = cntd T i B) := by show _ = _; rw [List.take_length]; rfl
  clear hL hcb hg
  go_enter Try.func75, Try.ntmps75
  go_wp2_with fail
  refine (rsiblings_ok _ _ _ T i _ (hT.out.below hB0) hi hg'.out).mono ?_
  rintro e w1 ⟨A1, c1, rfl, hI1, hb1⟩
  have hB1 := Below.on hB0 hb1
  generalize hl2 : sibs T i = l at *
  obtain ⟨m, hm⟩ : ∃ m, l.length = m := ⟨_, rfl⟩
  rw [hm] at hI1 hm64 hm0 hmem hend ⊢
  have hm' := hide hm
  obtain ⟨b3, off3, rfl, hbl3, hc3⟩ := hI1.2.2 hm0
  have hc3' := hide hc3
  have hbb1 : bb < w1.heap.size := by have := hB1.size; omega
  have hbw1 : w.heap.size ≤ w1.heap.size := hB1.size
  clear hl2 hm hc3 hI1 hbox0 hb1
  go_wp2
  go_loopw [8, 9] (fun v s wr => ∃ k : Nat, k ≤ m ∧ s = .int .i64 k ∧ OwnI wr w1.heap.size v ((l.take k).filter (inb B)) ∧ Below w1.heap.size w1 wr) (fun _ s _ => m - (intOf s).toNat)
  case atStart => exact ⟨0, Nat.zero_le _, rfl, OwnI.nil _ _, Below.refl _ _⟩
  case round =>
    obtain ⟨k, hk, rfl, hown, hb⟩ := hrel
    have hBw := Below.on hB1 hb
    have hsz : w1.heap.size ≤ wr.heap.size := hb.size
    have hfl : ((l.take k).filter (inb B)).length ≤ k := Nat.le_trans (List.length_filter_le _ _) (List.length_take_le _ _)
    by_cases hlt : k < m
    · obtain ⟨r, hr, hrn⟩ := hmem.out k hlt
      have gk := (old hb _ _ hbl3).trans (hc3'.out k hlt)
      have gr := (old hBw _ _ hbb).trans (hcb'.out r hrn)
      have hfs := hide (filter_succ (inb B) l (k := k) (by have := hm'.out; omega))
      have hinb : Hid (inb B (ix l k) = bx B r) := by show _ = _; rw [hr]; unfold inb; rw [Int.toNat_natCast]
      rw [hr] at gk
      have hr' := hide hr
      clear hr
      cases hbr : bx B r
      · have hf2 : Hid ((l.take (k + 1)).filter (inb B) = (l.take k).filter (inb B)) := by show _ = _; rw [hfs.out, hinb.out, hbr]; simp
        rw [hbr] at gr
        clear hbr
        go_wp2
        go_roundw
        case rel => exact ⟨k + 1, by omega, by go_num, by rw [hf2.out]; exact hown, hb⟩
        case measure => simp [intOf]; omega
      · have hf2 : Hid ((l.take (k + 1)).filter (inb B) = (l.take k).filter (inb B) ++ [(r : Int)]) := by show _ = _; rw [hfs.out, hinb.out, hbr, hr'.out]; simp
        rw [hbr] at gr
        clear hbr
        go_wp2_with (at_builtin; refine wpList_pushI rfl _ _ rfl hown r _ rfl rfl (by omega) hsz ?_)
        intro A5 c5 w5 hown5 hgr
        have hB5 := hgr.below (Nat.le_refl _) hb
        have hown5' := hide hown5
        clear hgr hown5 hown
        go_wp2
        go_roundw
        case rel => exact ⟨k + 1, by omega, by go_num, by rw [hf2.out]; exact hown5'.out, hB5⟩
        case measure => simp [intOf]; omega
    · obtain rfl : m = k := by omega
      rw [hend.out] at hown
      obtain ⟨A', c', rfl, -, -, hI'⟩ := hown.isInts (by rw [← hend.out]; omega)
      have hI2 := hide hI'
      clear hI' hown
      go_wp2
      go_ret
      exact ⟨A', c', rfl, hI2.out, hBw⟩

set_option maxRecDepth 100000 in
set_option maxHeartbeats 1000000 in
theorem rnat_ok (A AB : Option Addr) (n c cb : Nat) (T : List ANode) (B : List Bool) (i : Nat) (last : Bool) (w : World) (h : IsTree w A n T) (hL : IsBools w AB n B) (hg : goodB T = true) (hi : i < n) :
    Calls Try.prog 65 #[.agg #[.slice A n c], .int .i64 i, .bool last, .slice AB n cb] w fun e w' => e = .returned (.int .i64 (atF T i last B)) ∧ Below w.heap.size w w' := by
  have hT := hide h
  have hl := h.1
  clear h
  have hB0 := below_alloc (Below.refl w.heap.size w) (.cells #[.slice A n c] 24)
  have hbox0 : (w.alloc (.cells #[.slice A n c] 24)).cell? ⟨w.heap.size, 0, none⟩ = some (.slice A n c) := by go_simp
  have hL' := hide hL
  have hg' := hide hg
  have href := hide (atF_ref hg (by omega : i < T.length) last B)
  have hpl := posn_lt (cntd T i B) i
  have hcl : (cntd T i B).length ≤ 64 := Nat.le_trans (List.length_filter_le _ _) (sibs_len hg (by omega : i < T.length))
  clear hL hg
  go_enter Try.func65, Try.ntmps65
  go_wp2_with fail
  refine (rcounted_ok _ _ _ _ _ T B i _ (hT.out.below hB0) (hL'.out.below hB0) hg'.out hi).mono ?_
  rintro e w1 ⟨A1, c1, rfl, hI1, hb1⟩
  have hB1 := Below.on hB0 hb1
  have hI1' := hide hI1
  clear hI1
  go_wp2_with fail
  refine (rat_ok _ _ _ _ _ _ hI1'.out).mono ?_
  rintro e w2 ⟨rfl, rfl⟩
  generalize posn (cntd T i B) i = p at *
  generalize (cntd T i B).length = m at *
  by_cases hp : p < 0
  · have hr : Hid (atF T i last B = 0) := by show _ = _; rw [href.out, if_pos hp]
    go_wp2
    go_ret
    exact ⟨ret_int hr.out.symm, hB1⟩
  · cases last
    · have hr : Hid (atF T i false B = p + 1) := by show _ = _; rw [href.out, if_neg hp]; rfl
      go_wp2
      go_ret
      exact ⟨ret_int hr.out.symm, hB1⟩
    · have hr : Hid (atF T i true B = m - p) := by show _ = _; rw [href.out, if_neg hp]; rfl
      go_wp2
      go_ret
      exact ⟨ret_int hr.out.symm, hB1⟩
end Go.Proofs.Ytankambfobfnfaa
