/- Walks: the nearest link, by the reference. No condition but those of the inner functions. -/
import Derived.Test.YtfiiikbbiimdiaaAf
namespace Go.Proofs.Ytfiiikbbiimdiaa
open Go.RowKit

theorem find_at {p : Int → Bool} {l : List Int} {j : Nat} (hj : j < l.length) (h1 : p (ix l j) = true) (h2 : ∀ k, k < j → p (ix l k) = false) : l.find? p = some (ix l j) := by
  induction l generalizing j with
  | nil => simp at hj
  | cons x l ih =>
    cases j with
    | zero => simp only [ix, List.getD_cons_zero] at h1 ⊢; rw [List.find?_cons, h1]
    | succ j =>
      have h0 := h2 0 (by omega)
      simp only [ix, List.getD_cons_zero] at h0
      rw [List.find?_cons, h0]
      have := ih (j := j) (by simpa using hj) (by simpa [ix] using h1) (fun k hk => by have := h2 (k + 1) (by omega); simpa [ix] using this)
      simpa [ix] using this
theorem find_no {p : Int → Bool} {l : List Int} (h2 : ∀ k, k < l.length → p (ix l k) = false) : l.find? p = none := by
  rw [List.find?_eq_none]
  intro x hx
  obtain ⟨j, hj, rfl⟩ := mem_ix hx
  simp [h2 j hj]

set_option maxRecDepth 100000 in
set_option maxHeartbeats 1000000 in
theorem rnear_ok (A : Option Addr) (n c : Nat) (T : List ANode) (k : Nat) (w : World) (h : IsTree w A n T) (hk : k < n) (hg : goodB T = true) :
    Calls Try.prog 63 #[.agg #[.slice A n c], .int .i64 k] w fun e w' => e = .returned (.int .i64 (nearF T k)) ∧ Below w.heap.size w w' := by
  have hT := hide h
  have hl := h.1
  clear h
  have hB0 := below_alloc (Below.refl w.heap.size w) (.cells #[.slice A n c] 24)
  have hbox0 : (w.alloc (.cells #[.slice A n c] 24)).cell? ⟨w.heap.size, 0, none⟩ = some (.slice A n c) := by go_simp
  have hkT : k < T.length := by omega
  have hac := anc_cons hg hkT
  have hle : (anc T k).length ≤ 64 := by have := anc_le hg (x := (k : Int)) (by omega); have := ((goodB_iff T).1 hg).2.1; omega
  have hmem : Hid (∀ j, j < (anc T k).length → ∃ r : Nat, ix (anc T k) j = r ∧ r < n) := fun j hj => by
    obtain ⟨h1, h2⟩ := anc_mem hg (x := (k : Int)) (by omega) (ix_mem hj)
    obtain ⟨r, hr⟩ := Int.eq_ofNat_of_zero_le h1
    exact ⟨r, hr, by omega⟩
  have hfind : Hid (∀ j, j < (anc T k).length → ∀ r : Nat, ix (anc T k) j = r → lkB T r = true → (∀ q, q < j → lkB T (ix (anc T k) q).toNat = false) → nearF T k = r) := fun j hj r hr h1 h2 => by
    unfold nearF
    rw [find_at hj (by rw [hr, Int.toNat_natCast]; exact h1) h2, hr]; rfl
  have hnone : Hid ((∀ q, q < (anc T k).length → lkB T (ix (anc T k) q).toNat = false) → nearF T k = -1) := fun h2 => by
    unfold nearF
    rw [find_no h2]; rfl
  have hg' := hide hg
  have hup : (anc T (par T k)).length + 1 = (anc T k).length := by rw [hac]; rfl
  have hac' := hide hac
  clear hg hac
  go_enter Try.func63, Try.ntmps63
  go_wp2_with fail
  have hon1 := OwnI.lit (w.alloc (.cells #[.slice A n c] 24)) (w.heap.size + 1) (w.heap.size + 1) (k : Int) (by simp) (Nat.le_refl _)
  have hBx := below_alloc hB0 (.cells #[.int .i64 (k : Int)] 3)
  refine (rup_ok _ _ _ T k _ (hT.out.below hBx) hk hg'.out).mono ?_
  rintro e w2 ⟨A2, c2, rfl, -, hb2, -, -, -, hI2⟩
  have hB2 := Below.on hBx hb2
  have hbox2 := cell_later hb2 (cell_later (below_alloc (Below.refl _ _) (.cells #[.int .i64 (k : Int)] 3)) hbox0)
  have hon2 := hon1.below hb2
  have hlt2 : w.heap.size < w2.heap.size := cell_in hbox2
  generalize hys : anc T (par T k) = ys at *
  have hon2' := hide hon2
  have hI2' := hide hI2
  clear hon1 hon2 hI2 hb2 hBx hbox0
  go_wp2_with (at_builtin; refine wpList_appI rfl _ _ rfl hon2'.out hI2'.out rfl rfl (by simp; omega) (by omega) ?_)
  intro A3 c3 w3 hown3 hbb
  have hB3 := hbb w.heap.size w (by omega) hB2
  have hb3 := hbb (w.heap.size + 1) w2 (Nat.le_refl _) (Below.refl _ _)
  have hbox3 : w3.cell? ⟨w.heap.size, 0, none⟩ = some (.slice A n c) := (hb3.cell (p := ⟨w.heap.size, 0, none⟩) (by show w.heap.size < w.heap.size + 1; omega)).trans hbox2
  change OwnI w3 _ _ ((k : Int) :: ys) at hown3
  rw [← hac'.out] at hown3
  obtain ⟨A4, c4, hv4, -, -, hI4⟩ := hown3.isInts (by omega)
  injection hv4 with e1 e2 e3
  subst e1 e3
  obtain ⟨m, hm⟩ : ∃ m, (anc T (k : Int)).length = m := ⟨_, rfl⟩
  have hsl : 1 + ys.length = m := by omega
  rw [hsl]
  rw [hm] at hI4 hmem hfind hnone hle hup
  obtain ⟨b4, o4, rfl, hbl4, hc4⟩ := hI4.2.2 (by omega)
  have hc4' := hide hc4
  clear hown3 hI4 hc4 e2 hsl hm hon2' hI2' hbb hbox2 hB2 hb3 hup hys
  go_wp2
  go_loopw [6] (fun x wr => ∃ j : Nat, j ≤ m ∧ x = .int .i64 j ∧ Below w3.heap.size w3 wr ∧ Hid (∀ q, q < j → lkB T (ix (anc T k) q).toNat = false)) (fun x _ => m - (intOf x).toNat)
  case atStart => exact ⟨0, Nat.zero_le _, rfl, Below.refl _ _, fun q hq => absurd hq (by omega)⟩
  case round =>
    obtain ⟨j, hj, rfl, hb, hno⟩ := hrel
    have hBw := Below.on hB3 hb
    have hbx := cell_later hb hbox3
    by_cases hlt : j < m
    · obtain ⟨r, hr, hrn⟩ := hmem.out j hlt
      have gk := (old hb _ _ hbl4).trans (hc4'.out j hlt)
      rw [hr] at gk
      have hr' := hide hr
      have hx0 : (0 : Int) ≤ (j : Int) := by omega
      have hx1 : (j : Int) < (m : Int) := by omega
      clear hr
      cases hlk : lkB T r
      · have hlk' := hide hlk
        clear hlk
        go_wp2
        go_region_held3 (fun X => X.cell? ⟨w.heap.size, 0, none⟩ = some (.slice A n c) ∧ X.cell? ⟨b4, o4 + j, none⟩ = some (.int .i64 r)) (first | exact ⟨hbx, gk⟩ | exact ⟨r0, r1⟩) (first | (go_at_call 61; refine (rlk_ok _ _ _ T r _ ?_ hrn hg'.out).mono ?_; (exact hT.out.below (show Below w.heap.size w wr.drew from hBw.drew)); rw [hlk'.out]; rintro e w5 ⟨rfl, hb5⟩; have r0 := cell_later hb5 hbx; have r1 := cell_later hb5 gk))
        go_wp2
        go_roundw
        case rel => exact ⟨j + 1, by omega, by go_num, Below.on hb.drew hb5, fun q hq => by
          by_cases h : q = j
          · subst h; rw [hr'.out, Int.toNat_natCast]; exact hlk'.out
          · exact hno.out q (by omega)⟩
        case measure => simp [intOf]; omega
      · have hres := hide (hfind.out j hlt r hr'.out hlk hno.out)
        have hlk' := hide hlk
        clear hlk
        go_wp2
        go_region_held3 (fun X => X.cell? ⟨w.heap.size, 0, none⟩ = some (.slice A n c) ∧ X.cell? ⟨b4, o4 + j, none⟩ = some (.int .i64 r)) (first | exact ⟨hbx, gk⟩ | exact ⟨r0, r1⟩) (first | (go_at_call 61; refine (rlk_ok _ _ _ T r _ ?_ hrn hg'.out).mono ?_; (exact hT.out.below (show Below w.heap.size w wr.drew from hBw.drew)); rw [hlk'.out]; rintro e w5 ⟨rfl, hb5⟩; have r0 := cell_later hb5 hbx; have r1 := cell_later hb5 gk))
        go_wp2
        go_ret
        exact ⟨ret_int hres.out.symm, Below.on hBw.drew hb5⟩
    · have hres := hide (hnone.out fun q hq => hno.out q (by omega))
      go_wp2
      go_ret
      exact ⟨ret_int hres.out.symm, hBw⟩

set_option maxRecDepth 100000 in
theorem rlinkRel_ok (A : Option Addr) (n c : Nat) (T : List ANode) (i : Int) (w : World) (h : IsTree w A n T) :
    Calls Try.prog 30 #[.agg #[.slice A n c], .int .i64 i] w fun e w' => e = .returned (.tuple #[.int .i64 (nearE T i), .int .i64 (askI T [i])]) ∧ Below w.heap.size w w' := by
  have hT := hide h
  have hl := h.1
  clear h
  have hB0 := below_alloc (Below.refl w.heap.size w) (.cells #[.slice A n c] 24)
  have hbox0 : (w.alloc (.cells #[.slice A n c] 24)).cell? ⟨w.heap.size, 0, none⟩ = some (.slice A n c) := by go_simp
  by_cases h0 : askI T [i] = 0
  · obtain ⟨hg, hir⟩ := askI_zero.1 h0
    have hir := hir i (by simp)
    obtain ⟨k, rfl⟩ := Int.eq_ofNat_of_zero_le hir.1
    have hk : k < n := by omega
    have hr : Hid (nearE T k = nearF T k) := if_pos h0
    have hg' := hide hg
    have h0' := hide h0
    have hq0 : (askI T [(k : Int)] != 0) = false := by simp [h0]
    clear hir hg h0
    go_enter Try.func30, Try.ntmps30
    go_wp2_with fail
    refine (rasked_ok _ _ _ T _ _ (hT.out.below hB0)).mono ?_
    rintro e w1 ⟨rfl, hb1⟩
    have hbox1 := cell_later hb1 hbox0
    have hB1 := Below.on hB0 hb1
    go_wp2_with fail
    refine (rnear_ok _ _ _ T k _ (hT.out.below hB1) hk hg'.out).mono ?_
    rintro e w2 ⟨rfl, hb2⟩
    go_wp2
    go_ret2
    exact ⟨ret_two hr.out.symm h0'.out.symm, Below.on hB1 hb2⟩
  · have hr : Hid (nearE T i = 0) := if_neg h0
    have hq : (askI T [i] != 0) = true := by simp [h0]
    clear h0
    go_enter Try.func30, Try.ntmps30
    go_wp2_with fail
    refine (rasked_ok _ _ _ T _ _ (hT.out.below hB0)).mono ?_
    rintro e w1 ⟨rfl, hb1⟩
    have hbox1 := cell_later hb1 hbox0
    have hB1 := Below.on hB0 hb1
    go_wp2_with fail
    refine (rasked_ok _ _ _ T _ _ (hT.out.below hB1)).mono ?_
    rintro e w2 ⟨rfl, hb2⟩
    have hbox2 := cell_later hb2 hbox1
    have hB2 := Below.on hB1 hb2
    go_wp2
    go_ret2
    exact ⟨ret_two hr.out.symm rfl, hB2⟩
end Go.Proofs.Ytfiiikbbiimdiaa
