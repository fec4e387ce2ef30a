/- Walks: counted places and matches, by the program. No condition but those of the inner functions. -/
import Derived.Test.YtankambfobfnfaaNb
import Derived.Deep.RegionHeld3
namespace Go.Proofs.Ytankambfobfnfaa
open Go.RowKit

/-- The error of a tree and of what is told. -/
def tolE (T : List ANode) (m : Nat) : Int := if goodB T = true then (if m = T.length then 0 else 2) else 8
theorem tolE_zero {T : List ANode} {m : Nat} : tolE T m = 0 ↔ goodB T = true ∧ m = T.length := by
  unfold tolE
  by_cases h : goodB T = true
  · rw [if_pos h]
    by_cases h2 : m = T.length
    · rw [if_pos h2]; exact ⟨fun _ => ⟨h, h2⟩, fun _ => rfl⟩
    · rw [if_neg h2]; exact ⟨fun h => by omega, fun h => absurd h.2 h2⟩
  · rw [if_neg h]; exact ⟨fun h => by omega, fun h' => absurd h'.1 h⟩
/-- The error of a tree, an element, and of what is told. -/
def nmE (T : List ANode) (i : Int) (m : Nat) : Int := if askI T [i] = 0 then tolE T m else askI T [i]
theorem nmE_zero {T : List ANode} {i : Int} {m : Nat} : nmE T i m = 0 ↔ askI T [i] = 0 ∧ tolE T m = 0 := by
  unfold nmE
  by_cases h : askI T [i] = 0
  · rw [if_pos h]; exact ⟨fun h2 => ⟨h, h2⟩, fun h2 => h2.2⟩
  · rw [if_neg h]; exact ⟨fun h2 => absurd h2 h, fun h2 => absurd h2.1 h⟩
def nplE (T : List ANode) (i : Int) (last : Bool) (B : List Bool) : Int := if nmE T i B.length = 0 then (if atF T i.toNat last B = 0 then 6 else 0) else nmE T i B.length
def nplV (T : List ANode) (i : Int) (last : Bool) (B : List Bool) : Int := if nmE T i B.length = 0 then atF T i.toNat last B else 0
/-- Whether an element matches, when all is right. -/
def nmatF (T : List ANode) (i : Nat) (a b : Int) (last : Bool) (B : List Bool) : Bool := decide (1 ≤ atF T i last B) && hasB a b (atF T i last B)
def nmatE (T : List ANode) (i a b : Int) (m : Nat) : Int := if nmE T i m = 0 then anbE a b else nmE T i m
def nmatV (T : List ANode) (i a b : Int) (last : Bool) (B : List Bool) : Bool := if nmatE T i a b B.length = 0 then nmatF T i.toNat a b last B else false
def nallE (T : List ANode) (a b : Int) (m : Nat) : Int := if tolE T m = 0 then anbE a b else tolE T m
def nallV (T : List ANode) (a b : Int) (last : Bool) (B : List Bool) : List Bool := if nallE T a b B.length = 0 then (List.range T.length).map fun i => nmatF T i a b last B else []

theorem ncheck_ok (A AB : Option Addr) (n c m cb : Nat) (T : List ANode) (w : World) (h : IsTree w A n T) :
    Calls Try.prog 60 #[.agg #[.slice A n c], .slice AB m cb] w fun e w' => e = .returned (.int .i64 (tolE T m)) ∧ Below w.heap.size w w' := by
  have hT := hide h
  have hl := h.1
  clear h
  have hB0 := below_alloc (Below.refl w.heap.size w) (.cells #[.slice A n c] 24)
  have hbox0 : (w.alloc (.cells #[.slice A n c] 24)).cell? ⟨w.heap.size, 0, none⟩ = some (.slice A n c) := by go_simp
  by_cases hg : goodB T = true
  · have hc0 : chk T = 0 := chk_ok hg
    by_cases hm : m = n
    · have hr : Hid (tolE T m = 0) := tolE_zero.2 ⟨hg, by omega⟩
      subst hm
      clear hg
      go_enter Try.func60, Try.ntmps60
      go_wp2_with fail
      refine (check_ok _ _ _ T _ (hT.out.below hB0)).mono ?_
      rintro e w1 ⟨rfl, hb1⟩
      have hbox1 := cell_later hb1 hbox0
      have hB1 := Below.on hB0 hb1
      go_wp2
      go_ret
      exact ⟨ret_int hr.out.symm, hB1⟩
    · have hr : Hid (tolE T m = 2) := by show _ = _; unfold tolE; rw [if_pos hg, if_neg (by omega)]
      have hne : ((m : Int) != (n : Int)) = true := by simp; omega
      clear hg hm
      go_enter Try.func60, Try.ntmps60
      go_wp2_with fail
      refine (check_ok _ _ _ T _ (hT.out.below hB0)).mono ?_
      rintro e w1 ⟨rfl, hb1⟩
      have hbox1 := cell_later hb1 hbox0
      have hB1 := Below.on hB0 hb1
      go_wp2
      go_ret
      exact ⟨ret_int hr.out.symm, hB1⟩
  · have hc0 : chk T = 8 := chk_bad hg
    have hr : Hid (tolE T m = 8) := if_neg hg
    clear hg
    go_enter Try.func60, Try.ntmps60
    go_wp2_with fail
    refine (check_ok _ _ _ T _ (hT.out.below hB0)).mono ?_
    rintro e w1 ⟨rfl, hb1⟩
    have hbox1 := cell_later hb1 hbox0
    have hB1 := Below.on hB0 hb1
    go_wp2
    go_ret
    exact ⟨ret_int hr.out.symm, hB1⟩

theorem isBools_of {w : World} {A : Option Addr} {n m : Nat} {B : List Bool} (h : IsBools w A n B) (e : n = m) : IsBools w A m B := e ▸ h

set_option maxRecDepth 100000 in
theorem nPlace_ok (A AB : Option Addr) (n c m cb : Nat) (T : List ANode) (B : List Bool) (i : Int) (last : Bool) (w : World) (h : IsTree w A n T) (hL : IsBools w AB m B) :
    Calls Try.prog 38 #[.agg #[.slice A n c], .int .i64 i, .bool last, .slice AB m cb] w fun e w' => e = .returned (.tuple #[.int .i64 (nplV T i last B), .int .i64 (nplE T i last B)]) ∧ Below w.heap.size w w' := by
  have hT := hide h
  have hl := h.1
  clear h
  have hB0 := below_alloc (Below.refl w.heap.size w) (.cells #[.slice A n c] 24)
  have hbox0 : (w.alloc (.cells #[.slice A n c] 24)).cell? ⟨w.heap.size, 0, none⟩ = some (.slice A n c) := by go_simp
  have hL' := hide hL
  obtain rfl := hL.1
  clear hL
  by_cases h0 : nmE T i B.length = 0
  · obtain ⟨h1, h2⟩ := nmE_zero.1 h0
    obtain ⟨hg, hir⟩ := askI_zero.1 h1
    have hBn := (tolE_zero.1 h2).2
    have hir := hir i (by simp)
    obtain ⟨k, rfl⟩ := Int.eq_ofNat_of_zero_le hir.1
    have hk : k < n := by omega
    have hg' := hide hg
    have hL2 := hide (isBools_of hL'.out (show B.length = n by omega))
    have hr1 : Hid (nplV T k last B = atF T k last B) := by show _ = _; unfold nplV; rw [if_pos h0, Int.toNat_natCast]
    have hr2 : Hid (nplE T k last B = if atF T k last B = 0 then 6 else 0) := by show _ = _; unfold nplE; rw [if_pos h0, Int.toNat_natCast]
    have hBn' : B.length = n := by omega
    rw [hBn'] at h2 ⊢
    clear h0 hir hg hBn hBn'
    by_cases h3 : atF T k last B = 0
    · have hr2' : Hid (nplE T k last B = 6) := by show _ = _; rw [hr2.out, if_pos h3]
      go_enter Try.func38, Try.ntmps38
      go_wp2_with fail
      refine (depth_ok _ _ _ T _ _ (hT.out.below hB0)).mono ?_
      rintro e w1 ⟨rfl, hb1⟩
      have hbox1 := cell_later hb1 hbox0
      have hB1 := Below.on hB0 hb1
      go_wp2_with fail
      refine (ncheck_ok _ _ _ _ _ _ T _ (hT.out.below hB1)).mono ?_
      rintro e w2 ⟨rfl, hb2⟩
      have hbox2 := cell_later hb2 hbox1
      have hB2 := Below.on hB1 hb2
      go_wp2_with fail
      refine (nplace_ok _ _ _ _ _ T B k last _ (hT.out.below hB2) (hL2.out.below hB2) hg'.out hk).mono ?_
      rintro e w3 ⟨rfl, hb3⟩
      go_wp2
      go_ret2
      exact ⟨ret_two (by rw [hr1.out, h3]) hr2'.out.symm, Below.on hB2 hb3⟩
    · have hr2' : Hid (nplE T k last B = 0) := by show _ = _; rw [hr2.out, if_neg h3]
      have h3' : (atF T k last B == 0) = false := by simpa using h3
      clear h3
      go_enter Try.func38, Try.ntmps38
      go_wp2_with fail
      refine (depth_ok _ _ _ T _ _ (hT.out.below hB0)).mono ?_
      rintro e w1 ⟨rfl, hb1⟩
      have hbox1 := cell_later hb1 hbox0
      have hB1 := Below.on hB0 hb1
      go_wp2_with fail
      refine (ncheck_ok _ _ _ _ _ _ T _ (hT.out.below hB1)).mono ?_
      rintro e w2 ⟨rfl, hb2⟩
      have hbox2 := cell_later hb2 hbox1
      have hB2 := Below.on hB1 hb2
      go_wp2_with fail
      refine (nplace_ok _ _ _ _ _ T B k last _ (hT.out.below hB2) (hL2.out.below hB2) hg'.out hk).mono ?_
      rintro e w3 ⟨rfl, hb3⟩
      go_wp2
      go_ret2
      exact ⟨ret_two hr1.out.symm hr2'.out.symm, Below.on hB2 hb3⟩
  · have hr1 : Hid (nplV T i last B = 0) := if_neg h0
    by_cases h1 : askI T [i] = 0
    · have hr2 : Hid (nplE T i last B = tolE T B.length) := by show _ = _; unfold nplE; rw [if_neg h0]; unfold nmE; rw [if_pos h1]
      have hq : (tolE T B.length != 0) = true := by simp; intro h2; exact h0 (nmE_zero.2 ⟨h1, h2⟩)
      clear h0
      go_enter Try.func38, Try.ntmps38
      go_wp2_with fail
      refine (depth_ok _ _ _ T _ _ (hT.out.below hB0)).mono ?_
      rintro e w1 ⟨rfl, hb1⟩
      have hbox1 := cell_later hb1 hbox0
      have hB1 := Below.on hB0 hb1
      go_wp2_with fail
      refine (ncheck_ok _ _ _ _ _ _ T _ (hT.out.below hB1)).mono ?_
      rintro e w2 ⟨rfl, hb2⟩
      have hbox2 := cell_later hb2 hbox1
      have hB2 := Below.on hB1 hb2
      go_wp2
      go_ret2
      exact ⟨ret_two hr1.out.symm hr2.out.symm, hB2⟩
    · have hr2 : Hid (nplE T i last B = askI T [i]) := by show _ = _; unfold nplE; rw [if_neg h0]; unfold nmE; rw [if_neg h1]
      have hq : (askI T [i] != 0) = true := by simp [h1]
      clear h0 h1
      go_enter Try.func38, Try.ntmps38
      go_wp2_with fail
      refine (depth_ok _ _ _ T _ _ (hT.out.below hB0)).mono ?_
      rintro e w1 ⟨rfl, hb1⟩
      have hbox1 := cell_later hb1 hbox0
      have hB1 := Below.on hB0 hb1
      go_wp2
      go_ret2
      exact ⟨ret_two hr1.out.symm hr2.out.symm, hB1⟩

set_option maxRecDepth 100000 in
set_option maxHeartbeats 1000000 in
theorem nmatch_ok (A AB : Option Addr) (n c cb : Nat) (T : List ANode) (B : List Bool) (i : Nat) (a b : Int) (last : Bool) (w : World) (h : IsTree w A n T) (hL : IsBools w AB n B) (hg : goodB T = true) (hi : i < n) (hv : anbB a b = true) :
    Calls Try.prog 62 #[.agg #[.slice A n c], .int .i64 i, .agg #[.int .i64 a, .int .i64 b], .bool last, .slice AB n cb] w fun e w' => e = .returned (.bool (nmatF T i a b last B)) ∧ Below w.heap.size w w' := by
  have hT := hide h
  have hl := h.1
  clear h
  have hB0 := below_alloc (below_alloc (Below.refl w.heap.size w) (.cells #[.slice A n c] 24)) (.cells #[.int .i64 a, .int .i64 b] 57)
  have f0 : ((w.alloc (.cells #[.slice A n c] 24)).alloc (.cells #[.int .i64 a, .int .i64 b] 57)).cell? ⟨w.heap.size, 0, none⟩ = some (.slice A n c) := by go_simp
  have f1 : ((w.alloc (.cells #[.slice A n c] 24)).alloc (.cells #[.int .i64 a, .int .i64 b] 57)).cell? ⟨w.heap.size + 1, 0, none⟩ = some (.int .i64 a) := by go_simp
  have f2 : ((w.alloc (.cells #[.slice A n c] 24)).alloc (.cells #[.int .i64 a, .int .i64 b] 57)).cell? ⟨w.heap.size + 1, 1, none⟩ = some (.int .i64 b) := by go_simp
  have hL' := hide hL
  have hg' := hide hg
  have hv' := hide hv
  obtain ⟨p0, p1, p2⟩ := atF_bd hg (by omega : i < T.length) last B
  have hW := hide hB0
  clear hL hg hv hB0
  generalize hp : atF T i last B = p at p0 p1 p2
  have hp' := hide hp
  have hr : Hid (nmatF T i a b last B = (decide (1 ≤ p) && hasB a b p)) := by show _ = _; unfold nmatF; rw [hp]
  have hin : Hid (inB a b p = (decide (1 ≤ p) && hasB a b p) ∧ inE a b p = if 1 ≤ p then 0 else 2) := by
    show _ ∧ _
    unfold inB inE
    rw [if_pos hv'.out, if_pos hv'.out]
    by_cases h1 : 1 ≤ p
    · rw [if_pos h1, if_pos h1]; simp [h1]
    · rw [if_neg h1, if_neg h1]; simp [h1]
  clear hp p2
  go_enter Try.func62, Try.ntmps62
  go_wp2
  generalize (w.alloc (.cells #[.slice A n c] 24)).alloc (.cells #[.int .i64 a, .int .i64 b] 57) = W at *
  go_region_held3 (fun X => X.cell? ⟨w.heap.size, 0, none⟩ = some (.slice A n c) ∧ X.cell? ⟨w.heap.size + 1, 0, none⟩ = some (.int .i64 a) ∧ X.cell? ⟨w.heap.size + 1, 1, none⟩ = some (.int .i64 b)) (first | exact ⟨f0, f1, f2⟩ | exact ⟨r0, r1, r2⟩ | exact ⟨s0, s1, s2⟩) (first | (go_at_call 64; refine (nplace_ok _ _ _ _ _ T B i last _ ?_ ?_ hg'.out hi).mono ?_; (exact hT.out.below (show Below w.heap.size w W.drew from hW.out.drew)); (exact hL'.out.below (show Below w.heap.size w W.drew from hW.out.drew)); rw [hp'.out]; rintro e u1 ⟨rfl, hu1⟩; have r0 := cell_later hu1 f0; have r1 := cell_later hu1 f1; have r2 := cell_later hu1 f2) | (go_at_call 46; refine (anbIn_ok a b p _ p0 (by omega)).mono ?_; rintro e u2 ⟨rfl, hu2⟩; have s0 := cell_later hu2 r0; have s1 := cell_later hu2 r1; have s2 := cell_later hu2 r2))
  all_goals
    by_cases h1 : 1 ≤ p
    · have e1 : inE a b p = 0 := by rw [hin.out.2, if_pos h1]
      go_wp2
      go_ret
      exact ⟨ret_bool (by rw [hr.out, hin.out.1]), Below.on (Below.on hW.out.drew hu1) hu2⟩
    · have e1 : inE a b p = 2 := by rw [hin.out.2, if_neg h1]
      have e2 : Hid (nmatF T i a b last B = false) := by show _ = _; rw [hr.out]; simp [h1]
      clear h1
      go_wp2
      go_ret
      exact ⟨ret_bool e2.out.symm, Below.on (Below.on hW.out.drew hu1) hu2⟩

set_option maxRecDepth 100000 in
set_option maxHeartbeats 1000000 in
theorem nMatch_ok (A AB : Option Addr) (n c m cb : Nat) (T : List ANode) (B : List Bool) (i a b : Int) (last : Bool) (w : World) (h : IsTree w A n T) (hL : IsBools w AB m B) :
    Calls Try.prog 40 #[.agg #[.slice A n c], .int .i64 i, .agg #[.int .i64 a, .int .i64 b], .bool last, .slice AB m cb] w fun e w' => e = .returned (.tuple #[.bool (nmatV T i a b last B), .int .i64 (nmatE T i a b m)]) ∧ Below w.heap.size w w' := by
  have hT := hide h
  have hl := h.1
  clear h
  have hB0 := below_alloc (below_alloc (Below.refl w.heap.size w) (.cells #[.slice A n c] 24)) (.cells #[.int .i64 a, .int .i64 b] 57)
  have hbox0 : ((w.alloc (.cells #[.slice A n c] 24)).alloc (.cells #[.int .i64 a, .int .i64 b] 57)).cell? ⟨w.heap.size, 0, none⟩ = some (.slice A n c) := by go_simp
  have hx0 : ((w.alloc (.cells #[.slice A n c] 24)).alloc (.cells #[.int .i64 a, .int .i64 b] 57)).cell? ⟨w.heap.size + 1, 0, none⟩ = some (.int .i64 a) := by go_simp
  have hy0 : ((w.alloc (.cells #[.slice A n c] 24)).alloc (.cells #[.int .i64 a, .int .i64 b] 57)).cell? ⟨w.heap.size + 1, 1, none⟩ = some (.int .i64 b) := by go_simp
  have hL' := hide hL
  obtain rfl := hL.1
  clear hL
  by_cases h0 : nmE T i B.length = 0
  · obtain ⟨h1, h2⟩ := nmE_zero.1 h0
    obtain ⟨hg, hir⟩ := askI_zero.1 h1
    have hBn := (tolE_zero.1 h2).2
    have hir := hir i (by simp)
    obtain ⟨k, rfl⟩ := Int.eq_ofNat_of_zero_le hir.1
    have hk : k < n := by omega
    have hg' := hide hg
    have hL2 := hide (isBools_of hL'.out (show B.length = n by omega))
    have hr2 : Hid (nmatE T k a b n = anbE a b) := by show _ = _; unfold nmatE; rw [show n = B.length by omega, if_pos h0]
    have hr1 : Hid (nmatV T k a b last B = if anbE a b = 0 then nmatF T k a b last B else false) := by show _ = _; unfold nmatV; rw [show B.length = n by omega, hr2.out, Int.toNat_natCast]
    have hBn' : B.length = n := by omega
    rw [hBn'] at h2 ⊢
    clear h0 hir hg hBn hBn'
    by_cases hv : anbB a b = true
    · have he : anbE a b = 0 := if_pos hv
      have he' := hide he
      have hv' := hide hv
      clear hv
      go_enter Try.func40, Try.ntmps40
      go_wp2_with fail
      refine (depth_ok _ _ _ T _ _ (hT.out.below hB0)).mono ?_
      rintro e w1 ⟨rfl, hb1⟩
      have hbox1 := cell_later hb1 hbox0
      have hB1 := Below.on hB0 hb1
      have hx1 := cell_later hb1 hx0
      have hy1 := cell_later hb1 hy0
      go_wp2_with fail
      refine (ncheck_ok _ _ _ _ _ _ T _ (hT.out.below hB1)).mono ?_
      rintro e w2 ⟨rfl, hb2⟩
      have hbox2 := cell_later hb2 hbox1
      have hB2 := Below.on hB1 hb2
      have hx2 := cell_later hb2 hx1
      have hy2 := cell_later hb2 hy1
      go_wp2_with fail
      refine (anbCheck_ok a b _).mono ?_
      rintro e w3 ⟨rfl, hb3⟩
      have hbox3 := cell_later hb3 hbox2
      have hx3 := cell_later hb3 hx2
      have hy3 := cell_later hb3 hy2
      have hB3 := Below.on hB2 hb3
      go_wp2_with fail
      refine (nmatch_ok _ _ _ _ _ T B k a b last _ (hT.out.below hB3) (hL2.out.below hB3) hg'.out hk hv'.out).mono ?_
      rintro e w4 ⟨rfl, hb4⟩
      go_wp2
      go_ret2
      exact ⟨ret_bi (by rw [hr1.out, if_pos he'.out]) (by rw [hr2.out, he'.out]), Below.on hB3 hb4⟩
    · have he : anbE a b = 8 := if_neg hv
      have he' := hide he
      clear hv
      go_enter Try.func40, Try.ntmps40
      go_wp2_with fail
      refine (depth_ok _ _ _ T _ _ (hT.out.below hB0)).mono ?_
      rintro e w1 ⟨rfl, hb1⟩
      have hbox1 := cell_later hb1 hbox0
      have hB1 := Below.on hB0 hb1
      have hx1 := cell_later hb1 hx0
      have hy1 := cell_later hb1 hy0
      go_wp2_with fail
      refine (ncheck_ok _ _ _ _ _ _ T _ (hT.out.below hB1)).mono ?_
      rintro e w2 ⟨rfl, hb2⟩
      have hbox2 := cell_later hb2 hbox1
      have hB2 := Below.on hB1 hb2
      have hx2 := cell_later hb2 hx1
      have hy2 := cell_later hb2 hy1
      go_wp2_with fail
      refine (anbCheck_ok a b _).mono ?_
      rintro e w3 ⟨rfl, hb3⟩
      go_wp2
      go_ret2
      exact ⟨ret_bi (by rw [hr1.out, he'.out]; rfl) (by rw [hr2.out, he'.out]), Below.on hB2 hb3⟩
  · have hr1 : Hid (nmatV T i a b last B = false) := by
      show _ = _
      unfold nmatV nmatE
      rw [if_neg h0, if_neg h0]
    by_cases h1 : askI T [i] = 0
    · have hr2 : Hid (nmatE T i a b B.length = tolE T B.length) := by show _ = _; unfold nmatE; rw [if_neg h0]; unfold nmE; rw [if_pos h1]
      have hq : (tolE T B.length != 0) = true := by simp; intro h2; exact h0 (nmE_zero.2 ⟨h1, h2⟩)
      clear h0
      go_enter Try.func40, Try.ntmps40
      go_wp2_with fail
      refine (depth_ok _ _ _ T _ _ (hT.out.below hB0)).mono ?_
      rintro e w1 ⟨rfl, hb1⟩
      have hbox1 := cell_later hb1 hbox0
      have hB1 := Below.on hB0 hb1
      go_wp2_with fail
      refine (ncheck_ok _ _ _ _ _ _ T _ (hT.out.below hB1)).mono ?_
      rintro e w2 ⟨rfl, hb2⟩
      have hbox2 := cell_later hb2 hbox1
      have hB2 := Below.on hB1 hb2
      go_wp2
      go_ret2
      exact ⟨ret_bi hr1.out.symm hr2.out.symm, hB2⟩
    · have hr2 : Hid (nmatE T i a b B.length = askI T [i]) := by show _ = _; unfold nmatE; rw [if_neg h0]; unfold nmE; rw [if_neg h1]
      have hq : (askI T [i] != 0) = true := by simp [h1]
      clear h0 h1
      go_enter Try.func40, Try.ntmps40
      go_wp2_with fail
      refine (depth_ok _ _ _ T _ _ (hT.out.below hB0)).mono ?_
      rintro e w1 ⟨rfl, hb1⟩
      have hbox1 := cell_later hb1 hbox0
      have hB1 := Below.on hB0 hb1
      go_wp2
      go_ret2
      exact ⟨ret_bi hr1.out.symm hr2.out.symm, hB1⟩
end Go.Proofs.Ytankambfobfnfaa
