/- Walks: matches, by the reference; comparing lists of truth values. No condition but those of the inner functions. -/
import Derived.Test.YtankambfobfnfaaNe
import Derived.Test.YtankambfobfnfaaSb
import Derived.Deep.QuietTactic
import Derived.BigQuiet
namespace Go.Proofs.Ytankambfobfnfaa
open Go.RowKit

set_option maxRecDepth 100000 in
set_option maxHeartbeats 1000000 in
theorem rnmatch_ok (A AB : Option Addr) (n c cb : Nat) (T : List ANode) (B : List Bool) (i : Nat) (a b : Int) (last : Bool) (w : World) (h : IsTree w A n T) (hL : IsBools w AB n B) (hg : goodB T = true) (hi : i < n) (hv : anbB a b = true) :
    Calls Try.prog 66 #[.agg #[.slice A n c], .int .i64 i, .agg #[.int .i64 a, .int .i64 b], .bool last, .slice AB n cb] w fun e w' => e = .returned (.bool (nmatF T i a b last B)) ∧ Below w.heap.size w w' := by
  have hT := hide h
  have hl := h.1
  clear h
  have hB0 := below_alloc (below_alloc (Below.refl w.heap.size w) (.cells #[.slice A n c] 24)) (.cells #[.int .i64 a, .int .i64 b] 57)
  have hbox0 : ((w.alloc (.cells #[.slice A n c] 24)).alloc (.cells #[.int .i64 a, .int .i64 b] 57)).cell? ⟨w.heap.size, 0, none⟩ = some (.slice A n c) := by go_simp
  have hx0 : ((w.alloc (.cells #[.slice A n c] 24)).alloc (.cells #[.int .i64 a, .int .i64 b] 57)).cell? ⟨w.heap.size + 1, 0, none⟩ = some (.int .i64 a) := by go_simp
  have hy0 : ((w.alloc (.cells #[.slice A n c] 24)).alloc (.cells #[.int .i64 a, .int .i64 b] 57)).cell? ⟨w.heap.size + 1, 1, none⟩ = some (.int .i64 b) := by go_simp
  have hL' := hide hL
  have hg' := hide hg
  have hv' := hide hv
  obtain ⟨p0, p1, p2⟩ := atF_bd hg (by omega : i < T.length) last B
  clear hL hg hv
  generalize hp : atF T i last B = p at p0 p1 p2
  have hp' := hide hp
  have hr : Hid (nmatF T i a b last B = (decide (1 ≤ p) && hasB a b p)) := by show _ = _; unfold nmatF; rw [hp]
  clear hp p2
  by_cases h1 : 1 ≤ p
  · have e2 : Hid (nmatF T i a b last B = hasB a b p) := by show _ = _; rw [hr.out]; simp [h1]
    go_enter Try.func66, Try.ntmps66
    go_wp2_with fail
    refine (rnat_ok _ _ _ _ _ T B i last _ (hT.out.below hB0) (hL'.out.below hB0) hg'.out hi).mono ?_
    rw [hp'.out]
    rintro e w1 ⟨rfl, hb1⟩
    have hB1 := Below.on hB0 hb1
    have hx1 := cell_later hb1 hx0
    have hy1 := cell_later hb1 hy0
    go_wp2_with fail
    refine (rhas_ok a b p _ hv'.out p0 (by omega)).mono ?_
    rintro e w2 ⟨rfl, hb2⟩
    go_wp2
    go_ret
    exact ⟨ret_bool e2.out.symm, Below.on hB1 hb2⟩
  · have e2 : Hid (nmatF T i a b last B = false) := by show _ = _; rw [hr.out]; simp [h1]
    go_enter Try.func66, Try.ntmps66
    go_wp2_with fail
    refine (rnat_ok _ _ _ _ _ T B i last _ (hT.out.below hB0) (hL'.out.below hB0) hg'.out hi).mono ?_
    rw [hp'.out]
    rintro e w1 ⟨rfl, hb1⟩
    have hB1 := Below.on hB0 hb1
    go_wp2
    go_ret
    exact ⟨ret_bool e2.out.symm, hB1⟩

set_option maxRecDepth 100000 in
theorem rnPlace_ok (A AB : Option Addr) (n c m cb : Nat) (T : List ANode) (B : List Bool) (i : Int) (last : Bool) (w : World) (h : IsTree w A n T) (hL : IsBools w AB m B) :
    Calls Try.prog 39 #[.agg #[.slice A n c], .int .i64 i, .bool last, .slice AB m cb] w fun e w' => e = .returned (.tuple #[.int .i64 (nplV T i last B), .int .i64 (nplE T i last B)]) ∧ Below w.heap.size w w' := by
  have hT := hide h
  have hl := h.1
  clear h
  have hB0 := below_alloc (Below.refl w.heap.size w) (.cells #[.slice A n c] 24)
  have hbox0 : (w.alloc (.cells #[.slice A n c] 24)).cell? ⟨w.heap.size, 0, none⟩ = some (.slice A n c) := by go_simp
  have hL' := hide hL
  obtain rfl := hL.1
  clear hL
  by_cases h0 : nmE T i B.length = 0
  · obtain ⟨h1, h2⟩ := nmE_zero.1 h0
    obtain ⟨hg, hir⟩ := askI_zero.1 h1
    have hBn := (tolE_zero.1 h2).2
    have hir := hir i (by simp)
    obtain ⟨k, rfl⟩ := Int.eq_ofNat_of_zero_le hir.1
    have hk : k < n := by omega
    have hg' := hide hg
    have hL2 := hide (isBools_of hL'.out (show B.length = n by omega))
    have hr1 : Hid (nplV T k last B = atF T k last B) := by show _ = _; unfold nplV; rw [if_pos h0, Int.toNat_natCast]
    have hr2 : Hid (nplE T k last B = if atF T k last B = 0 then 6 else 0) := by show _ = _; unfold nplE; rw [if_pos h0, Int.toNat_natCast]
    have hBn' : B.length = n := by omega
    rw [hBn'] at h2 ⊢
    clear h0 hir hg hBn hBn'
    by_cases h3 : atF T k last B = 0
    · have hr2' : Hid (nplE T k last B = 6) := by show _ = _; rw [hr2.out, if_pos h3]
      go_enter Try.func39, Try.ntmps39
      go_wp2_with fail
      refine (rasked_ok _ _ _ T _ _ (hT.out.below hB0)).mono ?_
      rintro e w1 ⟨rfl, hb1⟩
      have hbox1 := cell_later hb1 hbox0
      have hB1 := Below.on hB0 hb1
      go_wp2_with fail
      refine (rntol_ok _ _ _ _ _ _ T _ (hT.out.below hB1)).mono ?_
      rintro e w2 ⟨rfl, hb2⟩
      have hbox2 := cell_later hb2 hbox1
      have hB2 := Below.on hB1 hb2
      go_wp2_with fail
      refine (rnat_ok _ _ _ _ _ T B k last _ (hT.out.below hB2) (hL2.out.below hB2) hg'.out hk).mono ?_
      rintro e w3 ⟨rfl, hb3⟩
      go_wp2
      go_ret2
      exact ⟨ret_two (by rw [hr1.out, h3]) hr2'.out.symm, Below.on hB2 hb3⟩
    · have hr2' : Hid (nplE T k last B = 0) := by show _ = _; rw [hr2.out, if_neg h3]
      have h3' : (atF T k last B == 0) = false := by simpa using h3
      clear h3
      go_enter Try.func39, Try.ntmps39
      go_wp2_with fail
      refine (rasked_ok _ _ _ T _ _ (hT.out.below hB0)).mono ?_
      rintro e w1 ⟨rfl, hb1⟩
      have hbox1 := cell_later hb1 hbox0
      have hB1 := Below.on hB0 hb1
      go_wp2_with fail
      refine (rntol_ok _ _ _ _ _ _ T _ (hT.out.below hB1)).mono ?_
      rintro e w2 ⟨rfl, hb2⟩
      have hbox2 := cell_later hb2 hbox1
      have hB2 := Below.on hB1 hb2
      go_wp2_with fail
      refine (rnat_ok _ _ _ _ _ T B k last _ (hT.out.below hB2) (hL2.out.below hB2) hg'.out hk).mono ?_
      rintro e w3 ⟨rfl, hb3⟩
      have hbox3 := cell_later hb3 hbox2
      have hB3 := Below.on hB2 hb3
      go_wp2_with fail
      refine (rnat_ok _ _ _ _ _ T B k last _ (hT.out.below hB3) (hL2.out.below hB3) hg'.out hk).mono ?_
      rintro e w4 ⟨rfl, hb4⟩
      go_wp2
      go_ret2
      exact ⟨ret_two hr1.out.symm hr2'.out.symm, Below.on hB3 hb4⟩
  · have hr1 : Hid (nplV T i last B = 0) := if_neg h0
    by_cases h1 : askI T [i] = 0
    · have hr2 : Hid (nplE T i last B = tolE T B.length) := by show _ = _; unfold nplE; rw [if_neg h0]; unfold nmE; rw [if_pos h1]
      have hq : (tolE T B.length != 0) = true := by simp; intro h2; exact h0 (nmE_zero.2 ⟨h1, h2⟩)
      clear h0
      go_enter Try.func39, Try.ntmps39
      go_wp2_with fail
      refine (rasked_ok _ _ _ T _ _ (hT.out.below hB0)).mono ?_
      rintro e w1 ⟨rfl, hb1⟩
      have hbox1 := cell_later hb1 hbox0
      have hB1 := Below.on hB0 hb1
      go_wp2_with fail
      refine (rntol_ok _ _ _ _ _ _ T _ (hT.out.below hB1)).mono ?_
      rintro e w2 ⟨rfl, hb2⟩
      have hbox2 := cell_later hb2 hbox1
      have hB2 := Below.on hB1 hb2
      go_wp2_with fail
      refine (rntol_ok _ _ _ _ _ _ T _ (hT.out.below hB2)).mono ?_
      rintro e w3 ⟨rfl, hb3⟩
      have hbox3 := cell_later hb3 hbox2
      have hB3 := Below.on hB2 hb3
      go_wp2
      go_ret2
      exact ⟨ret_two hr1.out.symm hr2.out.symm, hB3⟩
    · have hr2 : Hid (nplE T i last B = askI T [i]) := by show _ = _; unfold nplE; rw [if_neg h0]; unfold nmE; rw [if_neg h1]
      have hq : (askI T [i] != 0) = true := by simp [h1]
      clear h0 h1
      go_enter Try.func39, Try.ntmps39
      go_wp2_with fail
      refine (rasked_ok _ _ _ T _ _ (hT.out.below hB0)).mono ?_
      rintro e w1 ⟨rfl, hb1⟩
      have hbox1 := cell_later hb1 hbox0
      have hB1 := Below.on hB0 hb1
      go_wp2_with fail
      refine (rasked_ok _ _ _ T _ _ (hT.out.below hB1)).mono ?_
      rintro e w2 ⟨rfl, hb2⟩
      have hbox2 := cell_later hb2 hbox1
      have hB2 := Below.on hB1 hb2
      go_wp2
      go_ret2
      exact ⟨ret_two hr1.out.symm hr2.out.symm, hB2⟩

set_option maxRecDepth 100000 in
set_option maxHeartbeats 1000000 in
theorem rnMatch_ok (A AB : Option Addr) (n c m cb : Nat) (T : List ANode) (B : List Bool) (i a b : Int) (last : Bool) (w : World) (h : IsTree w A n T) (hL : IsBools w AB m B) :
    Calls Try.prog 41 #[.agg #[.slice A n c], .int .i64 i, .agg #[.int .i64 a, .int .i64 b], .bool last, .slice AB m cb] w fun e w' => e = .returned (.tuple #[.bool (nmatV T i a b last B), .int .i64 (nmatE T i a b m)]) ∧ Below w.heap.size w w' := by
  have hT := hide h
  have hl := h.1
  clear h
  have hB0 := below_alloc (below_alloc (Below.refl w.heap.size w) (.cells #[.slice A n c] 24)) (.cells #[.int .i64 a, .int .i64 b] 57)
  have hbox0 : ((w.alloc (.cells #[.slice A n c] 24)).alloc (.cells #[.int .i64 a, .int .i64 b] 57)).cell? ⟨w.heap.size, 0, none⟩ = some (.slice A n c) := by go_simp
  have hx0 : ((w.alloc (.cells #[.slice A n c] 24)).alloc (.cells #[.int .i64 a, .int .i64 b] 57)).cell? ⟨w.heap.size + 1, 0, none⟩ = some (.int .i64 a) := by go_simp
  have hy0 : ((w.alloc (.cells #[.slice A n c] 24)).alloc (.cells #[.int .i64 a, .int .i64 b] 57)).cell? ⟨w.heap.size + 1, 1, none⟩ = some (.int .i64 b) := by go_simp
  have hL' := hide hL
  obtain rfl := hL.1
  clear hL
  by_cases h0 : nmE T i B.length = 0
  · obtain ⟨h1, h2⟩ := nmE_zero.1 h0
    obtain ⟨hg, hir⟩ := askI_zero.1 h1
    have hBn := (tolE_zero.1 h2).2
    have hir := hir i (by simp)
    obtain ⟨k, rfl⟩ := Int.eq_ofNat_of_zero_le hir.1
    have hk : k < n := by omega
    have hg' := hide hg
    have hL2 := hide (isBools_of hL'.out (show B.length = n by omega))
    have hr2 : Hid (nmatE T k a b n = anbE a b) := by show _ = _; unfold nmatE; rw [show n = B.length by omega, if_pos h0]
    have hr1 : Hid (nmatV T k a b last B = if anbE a b = 0 then nmatF T k a b last B else false) := by show _ = _; unfold nmatV; rw [show B.length = n by omega, hr2.out, Int.toNat_natCast]
    have hBn' : B.length = n := by omega
    rw [hBn'] at h2 ⊢
    clear h0 hir hg hBn hBn'
    by_cases hv : anbB a b = true
    · have he : anbE a b = 0 := if_pos hv
      have he' := hide he
      have hv' := hide hv
      clear hv
      go_enter Try.func41, Try.ntmps41
      go_wp2_with fail
      refine (rasked_ok _ _ _ T _ _ (hT.out.below hB0)).mono ?_
      rintro e w1 ⟨rfl, hb1⟩
      have hbox1 := cell_later hb1 hbox0
      have hB1 := Below.on hB0 hb1
      have hx1 := cell_later hb1 hx0
      have hy1 := cell_later hb1 hy0
      go_wp2_with fail
      refine (rntol_ok _ _ _ _ _ _ T _ (hT.out.below hB1)).mono ?_
      rintro e w2 ⟨rfl, hb2⟩
      have hbox2 := cell_later hb2 hbox1
      have hB2 := Below.on hB1 hb2
      have hx2 := cell_later hb2 hx1
      have hy2 := cell_later hb2 hy1
      go_wp2_with fail
      refine (ranbCheck_ok a b _).mono ?_
      rintro e w3 ⟨rfl, hb3⟩
      have hbox3 := cell_later hb3 hbox2
      have hx3 := cell_later hb3 hx2
      have hy3 := cell_later hb3 hy2
      have hB3 := Below.on hB2 hb3
      go_wp2_with fail
      refine (rnmatch_ok _ _ _ _ _ T B k a b last _ (hT.out.below hB3) (hL2.out.below hB3) hg'.out hk hv'.out).mono ?_
      rintro e w4 ⟨rfl, hb4⟩
      go_wp2
      go_ret2
      exact ⟨ret_bi (by rw [hr1.out, if_pos he'.out]) (by rw [hr2.out, he'.out]), Below.on hB3 hb4⟩
    · have he : anbE a b = 8 := if_neg hv
      have he' := hide he
      clear hv
      go_enter Try.func41, Try.ntmps41
      go_wp2_with fail
      refine (rasked_ok _ _ _ T _ _ (hT.out.below hB0)).mono ?_
      rintro e w1 ⟨rfl, hb1⟩
      have hbox1 := cell_later hb1 hbox0
      have hB1 := Below.on hB0 hb1
      have hx1 := cell_later hb1 hx0
      have hy1 := cell_later hb1 hy0
      go_wp2_with fail
      refine (rntol_ok _ _ _ _ _ _ T _ (hT.out.below hB1)).mono ?_
      rintro e w2 ⟨rfl, hb2⟩
      have hbox2 := cell_later hb2 hbox1
      have hB2 := Below.on hB1 hb2
      have hx2 := cell_later hb2 hx1
      have hy2 := cell_later hb2 hy1
      go_wp2_with fail
      refine (ranbCheck_ok a b _).mono ?_
      rintro e w3 ⟨rfl, hb3⟩
      have hx3 := cell_later hb3 hx2
      have hy3 := cell_later hb3 hy2
      have hB3 := Below.on hB2 hb3
      go_wp2_with fail
      refine (ranbCheck_ok a b _).mono ?_
      rintro e w4 ⟨rfl, hb4⟩
      go_wp2
      go_ret2
      exact ⟨ret_bi (by rw [hr1.out, he'.out]; rfl) (by rw [hr2.out, he'.out]), Below.on hB3 hb4⟩
  · have hr1 : Hid (nmatV T i a b last B = false) := by
      show _ = _
      unfold nmatV nmatE
      rw [if_neg h0, if_neg h0]
    by_cases h1 : askI T [i] = 0
    · have hr2 : Hid (nmatE T i a b B.length = tolE T B.length) := by show _ = _; unfold nmatE; rw [if_neg h0]; unfold nmE; rw [if_pos h1]
      have hq : (tolE T B.length != 0) = true := by simp; intro h2; exact h0 (nmE_zero.2 ⟨h1, h2⟩)
      clear h0
      go_enter Try.func41, Try.ntmps41
      go_wp2_with fail
      refine (rasked_ok _ _ _ T _ _ (hT.out.below hB0)).mono ?_
      rintro e w1 ⟨rfl, hb1⟩
      have hbox1 := cell_later hb1 hbox0
      have hB1 := Below.on hB0 hb1
      go_wp2_with fail
      refine (rntol_ok _ _ _ _ _ _ T _ (hT.out.below hB1)).mono ?_
      rintro e w2 ⟨rfl, hb2⟩
      have hbox2 := cell_later hb2 hbox1
      have hB2 := Below.on hB1 hb2
      go_wp2_with fail
      refine (rntol_ok _ _ _ _ _ _ T _ (hT.out.below hB2)).mono ?_
      rintro e w3 ⟨rfl, hb3⟩
      have hbox3 := cell_later hb3 hbox2
      have hB3 := Below.on hB2 hb3
      go_wp2
      go_ret2
      exact ⟨ret_bi hr1.out.symm hr2.out.symm, hB3⟩
    · have hr2 : Hid (nmatE T i a b B.length = askI T [i]) := by show _ = _; unfold nmatE; rw [if_neg h0]; unfold nmE; rw [if_neg h1]
      have hq : (askI T [i] != 0) = true := by simp [h1]
      clear h0 h1
      go_enter Try.func41, Try.ntmps41
      go_wp2_with fail
      refine (rasked_ok _ _ _ T _ _ (hT.out.below hB0)).mono ?_
      rintro e w1 ⟨rfl, hb1⟩
      have hbox1 := cell_later hb1 hbox0
      have hB1 := Below.on hB0 hb1
      go_wp2_with fail
      refine (rasked_ok _ _ _ T _ _ (hT.out.below hB1)).mono ?_
      rintro e w2 ⟨rfl, hb2⟩
      have hbox2 := cell_later hb2 hbox1
      have hB2 := Below.on hB1 hb2
      go_wp2
      go_ret2
      exact ⟨ret_bi hr1.out.symm hr2.out.symm, hB2⟩
set_option maxRecDepth 100000 in
set_option maxHeartbeats 1000000 in
theorem rnAll_ok (A AB : Option Addr) (n c m cb : Nat) (T : List ANode) (B : List Bool) (a b : Int) (last : Bool) (w : World) (h : IsTree w A n T) (hL : IsBools w AB m B) :
    Calls Try.prog 42 #[.agg #[.slice A n c], .agg #[.int .i64 a, .int .i64 b], .bool last, .slice AB m cb] w (MadeBoolsE w (nallV T a b last B) (nallE T a b m)) := by
  have hT := hide h
  have hl := h.1
  clear h
  have hB0 := below_alloc (below_alloc (Below.refl w.heap.size w) (.cells #[.slice A n c] 24)) (.cells #[.int .i64 a, .int .i64 b] 57)
  have hbox0 : ((w.alloc (.cells #[.slice A n c] 24)).alloc (.cells #[.int .i64 a, .int .i64 b] 57)).cell? ⟨w.heap.size, 0, none⟩ = some (.slice A n c) := by go_simp
  have hx0 : ((w.alloc (.cells #[.slice A n c] 24)).alloc (.cells #[.int .i64 a, .int .i64 b] 57)).cell? ⟨w.heap.size + 1, 0, none⟩ = some (.int .i64 a) := by go_simp
  have hy0 : ((w.alloc (.cells #[.slice A n c] 24)).alloc (.cells #[.int .i64 a, .int .i64 b] 57)).cell? ⟨w.heap.size + 1, 1, none⟩ = some (.int .i64 b) := by go_simp
  have hL' := hide hL
  obtain rfl := hL.1
  clear hL
  by_cases h0 : tolE T B.length = 0
  · obtain ⟨hg, hBn⟩ := tolE_zero.1 h0
    have hg' := hide hg
    have hL2 := hide (isBools_of hL'.out (show B.length = n by omega))
    have hn64 : n ≤ 64 := by have := ((goodB_iff T).1 hg).2.1; omega
    have hBn' : B.length = n := by omega
    rw [hBn'] at h0 ⊢
    by_cases hv : anbB a b = true
    · have he : anbE a b = 0 := if_pos hv
      have hr1 : Hid (nallE T a b n = 0) := by show _ = _; unfold nallE; rw [if_pos h0, he]
      have hr2 : Hid (nallV T a b last B = (List.range n).map fun i => nmatF T i a b last B) := by show _ = _; unfold nallV; rw [hBn', if_pos hr1.out, hl]
      have hv' := hide hv
      clear hv hg hBn hBn'
      go_enter Try.func42, Try.ntmps42
      go_wp2_with fail
      refine (rntol_ok _ _ _ _ _ _ T _ (hT.out.below hB0)).mono ?_
      rintro e w1 ⟨rfl, hb1⟩
      have hbox1 := cell_later hb1 hbox0
      have hB1 := Below.on hB0 hb1
      have hx1 := cell_later hb1 hx0
      have hy1 := cell_later hb1 hy0
      go_wp2_with fail
      refine (ranbCheck_ok a b _).mono ?_
      rintro e w2 ⟨rfl, hb2⟩
      have hbox2 := cell_later hb2 hbox1
      have hB2 := Below.on hB1 hb2
      have hx2 := cell_later hb2 hx1
      have hy2 := cell_later hb2 hy1
      go_wp2
      clear hb1 hb2 hbox0 hbox1 hx0 hx1 hy0 hy1 hB0 hB1
      have hlt2 : w.heap.size + 1 < w2.heap.size := cell_in hx2
      go_loopw [10, 11] (fun v s wr => ∃ k : Nat, k ≤ n ∧ s = .int .i64 k ∧ OwnB wr (w.heap.size + 2) v ((List.range k).map fun i => nmatF T i a b last B) ∧ Below w.heap.size w wr ∧ w.heap.size + 2 ≤ wr.heap.size ∧ wr.cell? ⟨w.heap.size, 0, none⟩ = some (.slice A n c) ∧ wr.cell? ⟨w.heap.size + 1, 0, none⟩ = some (.int .i64 a) ∧ wr.cell? ⟨w.heap.size + 1, 1, none⟩ = some (.int .i64 b)) (fun _ s _ => n - (intOf s).toNat)
      case atStart => exact ⟨0, Nat.zero_le _, rfl, OwnB.nil _ _, hB2, by omega, hbox2, hx2, hy2⟩
      case round =>
        clear hB2 hbox2 hx2 hy2 hlt2 h0 he
        obtain ⟨k, hk, rfl, hown, hB3, hsz, hbox3, hx3, hy3⟩ := hrel
        by_cases hlt : k < n
        · go_wp2_with fail
          refine (rnmatch_ok _ _ _ _ _ T B k a b last _ (hT.out.below hB3) (hL2.out.below hB3) hg'.out hlt hv'.out).mono ?_
          rintro e w4 ⟨rfl, hb4⟩
          have hown4 := hown.below hb4
          have hB4 := Below.on hB3 hb4
          have hbox4 := cell_later hb4 hbox3
          have hx4 := cell_later hb4 hx3
          have hy4 := cell_later hb4 hy3
          have hsz4 : w.heap.size + 2 ≤ w4.heap.size := Nat.le_trans hsz hb4.size
          clear hown
          go_wp2_with (at_builtin; refine wpList_pushB rfl _ _ rfl hown4 (nmatF T k a b last B) _ rfl rfl (by simp; omega) hsz4 ?_)
          intro A5 c5 w5 hown5 hgr
          have hB5 := hgr.below (by omega) hB4
          have hbox5 : w5.cell? ⟨w.heap.size, 0, none⟩ = some (.slice A n c) := (World.cell?_of_block (hgr.1 w.heap.size (by omega))).trans hbox4
          have hx5 : w5.cell? ⟨w.heap.size + 1, 0, none⟩ = some (.int .i64 a) := (World.cell?_of_block (hgr.1 (w.heap.size + 1) (by omega))).trans hx4
          have hy5 : w5.cell? ⟨w.heap.size + 1, 1, none⟩ = some (.int .i64 b) := (World.cell?_of_block (hgr.1 (w.heap.size + 1) (by omega))).trans hy4
          have hs5 := hgr.lt
          have hown5' := hide hown5
          clear hgr hown4 hown5
          go_wp2
          go_roundw
          case rel => exact ⟨k + 1, by omega, by go_num, by have := hown5'.out; rw [mapr_succ]; exact this, hB5, by omega, hbox5, hx5, hy5⟩
          case measure => simp [intOf]; omega
        · obtain rfl : n = k := by omega
          obtain ⟨A', c', rfl, -, -, hI'⟩ := hown.isBools (by simp; omega)
          rw [← hr2.out] at hI' ⊢
          have hI2 := hide hI'
          clear hI' hown
          go_wp2
          go_ret2
          rw [hr1.out]
          exact ⟨A', c', rfl, hI2.out, hB3⟩
    · have he : anbE a b = 8 := if_neg hv
      have hr1 : Hid (nallE T a b n = 8) := by show _ = _; unfold nallE; rw [if_pos h0, he]
      have hr2 : Hid (nallV T a b last B = []) := by show _ = _; unfold nallV; rw [hBn', if_neg (by rw [hr1.out]; decide)]
      clear hv hg hBn hBn'
      go_enter Try.func42, Try.ntmps42
      go_wp2_with fail
      refine (rntol_ok _ _ _ _ _ _ T _ (hT.out.below hB0)).mono ?_
      rintro e w1 ⟨rfl, hb1⟩
      have hbox1 := cell_later hb1 hbox0
      have hB1 := Below.on hB0 hb1
      have hx1 := cell_later hb1 hx0
      have hy1 := cell_later hb1 hy0
      go_wp2_with fail
      refine (ranbCheck_ok a b _).mono ?_
      rintro e w2 ⟨rfl, hb2⟩
      have hbox2 := cell_later hb2 hbox1
      have hB2 := Below.on hB1 hb2
      have hx2 := cell_later hb2 hx1
      have hy2 := cell_later hb2 hy1
      go_wp2_with fail
      refine (ranbCheck_ok a b _).mono ?_
      rintro e w3 ⟨rfl, hb3⟩
      have hbox3 := cell_later hb3 hbox2
      have hB3 := Below.on hB2 hb3
      have hx3 := cell_later hb3 hx2
      have hy3 := cell_later hb3 hy2
      go_wp2
      go_ret2
      rw [hr1.out, hr2.out]
      exact madeBoolsE_nil hB3
  · have hr1 : Hid (nallE T a b B.length = tolE T B.length) := if_neg h0
    have hr2 : Hid (nallV T a b last B = []) := by show _ = _; unfold nallV; rw [hr1.out, if_neg h0]
    have hq : (tolE T B.length != 0) = true := by simp [h0]
    clear h0
    go_enter Try.func42, Try.ntmps42
    go_wp2_with fail
    refine (rntol_ok _ _ _ _ _ _ T _ (hT.out.below hB0)).mono ?_
    rintro e w1 ⟨rfl, hb1⟩
    have hbox1 := cell_later hb1 hbox0
    have hB1 := Below.on hB0 hb1
    have hx1 := cell_later hb1 hx0
    have hy1 := cell_later hb1 hy0
    go_wp2_with fail
    refine (rntol_ok _ _ _ _ _ _ T _ (hT.out.below hB1)).mono ?_
    rintro e w2 ⟨rfl, hb2⟩
    have hbox2 := cell_later hb2 hbox1
    have hB2 := Below.on hB1 hb2
    have hx2 := cell_later hb2 hx1
    have hy2 := cell_later hb2 hy1
    go_wp2
    go_ret2
    rw [hr1.out, hr2.out]
    exact madeBoolsE_nil hB2
end Go.Proofs.Ytankambfobfnfaa
