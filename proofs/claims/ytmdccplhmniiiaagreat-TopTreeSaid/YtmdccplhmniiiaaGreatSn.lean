/- Walks: the error of a simple selector, by the program. No condition. -/
import Derived.Test.YtmdccplhmniiiaaGreatSm
import Derived.Test.YtmdccplhmniiiaaGreatFe
import Derived.Deep.CutBlock
import Derived.Deep.CutRange
import Derived.Deep.RegionHeld3
namespace Go.Proofs.YtmdccplhmniiiaaGreat
open Go.RowKit

theorem emp_iff (s : ByteArray) : (⟨#[]⟩ : ByteArray) = s ↔ s.size = 0 := by
  constructor
  · rintro rfl; rfl
  · intro h
    rw [← toList_nil] at h
    exact (toList_inj (by rw [h]; exact ((toList_nil _).2 rfl).symm)).symm
theorem fal_iff (b : Bool) : false = b ↔ b.toNat = 0 := by cases b <;> decide
theorem fal_iff' (b : Bool) : b = false ↔ b.toNat = 0 := by cases b <;> decide
set_option maxRecDepth 100000 in
set_option maxHeartbeats 4000000 in
theorem scheck_ok (k : Int) (nm : ByteArray) (op : Int) (vl : ByteArray) (fo : Bool) (a b : Int) (f : Bool) (LA : Option Addr) (ln lc : Nat) (w : World) :
    Calls Tryz.prog 63 #[.agg #[.int .u8 k, .string nm, .int .u8 op, .string vl, .bool fo, .int .i64 a, .int .i64 b, .bool f, .slice LA ln lc]] w fun r w' => r = .returned (.int .i64 (chkS ⟨k, nm, op, vl, fo, a, b, f, LA, ln, lc⟩)) ∧ Below w.heap.size w w' := by
  obtain ⟨N, hN0⟩ : ∃ N, decide (1 ≤ nm.size ∧ nm.size ≤ 400) = N := ⟨_, rfl⟩
  have hN := hide hN0
  clear hN0
  go_enter Tryz.func63, Tryz.ntmps63
  go_upto_region 2 with fail
  go_cut [4] from 11 to 20 (fun v4 wx => v4 = .bool N ∧ wx = (w.alloc (.cells #[.int .u8 k, .string nm, .int .u8 op, .string vl, .bool fo, .int .i64 a, .int .i64 b, .bool f, .slice LA ln lc] 42)).alloc (.cells #[.int .u8 k, .string nm, .int .u8 0, .string ⟨#[]⟩, .bool false, .int .i64 0, .int .i64 0, .bool false, .slice none 0 0] 42))
  case first =>
    by_cases h1 : nm.size = 0
    · have g1 : decide (1 ≤ (nm.size : Int)) = false := by rw [decide_eq_false_iff_not]; omega
      go_wp2
      go_meet
      refine ⟨?_, rfl⟩
      rw [← hN.out]; congr 1; symm; rw [decide_eq_false_iff_not]; omega
    · have g1 : decide (1 ≤ (nm.size : Int)) = true := by rw [decide_eq_true_eq]; omega
      by_cases h2 : nm.size ≤ 400
      · have g3 : decide ((nm.size : Int) ≤ 400) = true := by rw [decide_eq_true_eq]; omega
        go_wp2
        go_meet
        refine ⟨?_, rfl⟩
        rw [← hN.out]; congr 1; symm; rw [decide_eq_true_eq]; omega
      · have g3 : decide ((nm.size : Int) ≤ 400) = false := by rw [decide_eq_false_iff_not]; omega
        go_wp2
        go_meet
        refine ⟨?_, rfl⟩
        rw [← hN.out]; congr 1; symm; rw [decide_eq_false_iff_not]; omega
  case rest =>
  obtain ⟨rfl, rfl⟩ := hcut
  go_upto_block 0 with fail
  go_cut [4] from 23 to 55 (fun v4 wx => ∃ (M : Bool) (P : ByteArray) (O : Int) (V : ByteArray) (F : Bool), v4 = .bool M ∧ (∃ z, wx = ((w.alloc (.cells #[.int .u8 k, .string nm, .int .u8 op, .string vl, .bool fo, .int .i64 a, .int .i64 b, .bool f, .slice LA ln lc] 42)).alloc (.cells #[.int .u8 k, .string P, .int .u8 O, .string V, .bool F, .int .i64 0, .int .i64 0, .bool false, .slice none 0 0] 42)).drewN z) ∧
    Hid (okP ⟨k, nm, op, vl, fo, a, b, f, LA, ln, lc⟩ ↔ M = true ∧ P = nm ∧ O = op ∧ V = vl ∧ F = fo ∧ a = 0 ∧ b = 0 ∧ f = false ∧ ln = 0))
  case first =>
    rcases (by omega : k = 1 ∨ k = 2 ∨ k = 3 ∨ k = 4 ∨ k = 5 ∨ k = 6 ∨ k = 7 ∨ k = 8 ∨ (¬ k = 1 ∧ ¬ k = 2 ∧ ¬ k = 3 ∧ ¬ k = 4 ∧ ¬ k = 5 ∧ ¬ k = 6 ∧ ¬ k = 7 ∧ ¬ k = 8)) with hk | hk | hk | hk | hk | hk | hk | hk | ⟨hk1, hk2, hk3, hk4, hk5, hk6, hk7, hk8⟩
    · subst hk
      go_wp2
      all_goals
        go_meet
        refine ⟨_, _, _, _, _, rfl, (by first | exact ⟨0, rfl⟩ | exact ⟨1, rfl⟩), ?_⟩
        show _ ↔ _
        try rw [← hN.out, decide_eq_true_eq]
        repeat rw [emp_iff]
        repeat rw [fal_iff]
        repeat rw [fal_iff']
        simp only [true_and]
        unfold okP
        dsimp only
        omega
    · subst hk
      go_wp2
      all_goals
        go_meet
        refine ⟨_, _, _, _, _, rfl, (by first | exact ⟨0, rfl⟩ | exact ⟨1, rfl⟩), ?_⟩
        show _ ↔ _
        try rw [← hN.out, decide_eq_true_eq]
        repeat rw [emp_iff]
        repeat rw [fal_iff]
        repeat rw [fal_iff']
        simp only [true_and]
        unfold okP
        dsimp only
        omega
    · subst hk
      by_cases h3 : op ≤ 6
      · have g5 : decide (6 < op) = false := by rw [decide_eq_false_iff_not]; omega
        by_cases h4 : vl.size ≤ 400
        · have g6 : decide (400 < (vl.size : Int)) = false := by rw [decide_eq_false_iff_not]; omega
          by_cases h5 : op = 0
          · subst h5
            go_wp2
            all_goals
              go_meet
              refine ⟨_, _, _, _, _, rfl, (by first | exact ⟨0, rfl⟩ | exact ⟨1, rfl⟩), ?_⟩
              show _ ↔ _
              try rw [← hN.out, decide_eq_true_eq]
              repeat rw [emp_iff]
              repeat rw [fal_iff]
              repeat rw [fal_iff']
              simp only [true_and]
              unfold okP
              dsimp only
              omega
          · have g7 : (op == 0) = false := by simp [h5]
            have g8 : (op != 0) = true := by simp [h5]
            go_wp2
            go_region
            all_goals
              go_wp2
              all_goals
                go_meet
                refine ⟨_, _, _, _, _, rfl, (by first | exact ⟨0, rfl⟩ | exact ⟨1, rfl⟩), ?_⟩
                show _ ↔ _
                try rw [← hN.out, decide_eq_true_eq]
                repeat rw [emp_iff]
                repeat rw [fal_iff]
                repeat rw [fal_iff']
                simp only [true_and]
                unfold okP
                dsimp only
                omega
        · have g6 : decide (400 < (vl.size : Int)) = true := by rw [decide_eq_true_eq]; omega
          go_wp2
          go_ret
          refine ⟨ret_int (Eq.symm ?_), below_alloc (below_alloc (Below.refl _ _) _) _⟩
          refine chkS_no ?_
          unfold okP
          dsimp only
          omega
      · have g5 : decide (6 < op) = true := by rw [decide_eq_true_eq]; omega
        go_wp2
        go_ret
        refine ⟨ret_int (Eq.symm ?_), below_alloc (below_alloc (Below.refl _ _) _) _⟩
        refine chkS_no ?_
        unfold okP
        dsimp only
        omega
    · subst hk
      go_wp2
      all_goals
        go_meet
        refine ⟨_, _, _, _, _, rfl, (by first | exact ⟨0, rfl⟩ | exact ⟨1, rfl⟩), ?_⟩
        show _ ↔ _
        try rw [← hN.out, decide_eq_true_eq]
        repeat rw [emp_iff]
        repeat rw [fal_iff]
        repeat rw [fal_iff']
        simp only [true_and]
        unfold okP
        dsimp only
        omega
    · subst hk
      go_wp2
      all_goals
        go_meet
        refine ⟨_, _, _, _, _, rfl, (by first | exact ⟨0, rfl⟩ | exact ⟨1, rfl⟩), ?_⟩
        show _ ↔ _
        try rw [← hN.out, decide_eq_true_eq]
        repeat rw [emp_iff]
        repeat rw [fal_iff]
        repeat rw [fal_iff']
        simp only [true_and]
        unfold okP
        dsimp only
        omega
    · subst hk
      go_wp2
      all_goals
        go_meet
        refine ⟨_, _, _, _, _, rfl, (by first | exact ⟨0, rfl⟩ | exact ⟨1, rfl⟩), ?_⟩
        show _ ↔ _
        try rw [← hN.out, decide_eq_true_eq]
        repeat rw [emp_iff]
        repeat rw [fal_iff]
        repeat rw [fal_iff']
        simp only [true_and]
        unfold okP
        dsimp only
        omega
    · subst hk
      go_wp2
      all_goals
        go_meet
        refine ⟨_, _, _, _, _, rfl, (by first | exact ⟨0, rfl⟩ | exact ⟨1, rfl⟩), ?_⟩
        show _ ↔ _
        try rw [← hN.out, decide_eq_true_eq]
        repeat rw [emp_iff]
        repeat rw [fal_iff]
        repeat rw [fal_iff']
        simp only [true_and]
        unfold okP
        dsimp only
        omega
    · subst hk
      go_wp2
      all_goals
        go_meet
        refine ⟨_, _, _, _, _, rfl, (by first | exact ⟨0, rfl⟩ | exact ⟨1, rfl⟩), ?_⟩
        show _ ↔ _
        try rw [← hN.out, decide_eq_true_eq]
        repeat rw [emp_iff]
        repeat rw [fal_iff]
        repeat rw [fal_iff']
        simp only [true_and]
        unfold okP
        dsimp only
        omega
    · have e1 : (k == 1) = false := by simp [hk1]
      have e2 : (k == 2) = false := by simp [hk2]
      have e3 : (k == 3) = false := by simp [hk3]
      have e4 : (k == 4) = false := by simp [hk4]
      have e5 : (k == 5) = false := by simp [hk5]
      have e6 : (k == 6) = false := by simp [hk6]
      have e7 : (k == 7) = false := by simp [hk7]
      have e8 : (k == 8) = false := by simp [hk8]
      go_wp2
      go_ret
      refine ⟨ret_int (Eq.symm ?_), below_alloc (below_alloc (Below.refl _ _) _) _⟩
      refine chkS_no ?_
      unfold okP
      dsimp only
      omega
  case rest =>
    obtain ⟨M, P, O, V, F, rfl, ⟨z, rfl⟩, hiff⟩ := hcut
    by_cases hP : P = nm
    · subst hP
      by_cases hO : O = op
      · subst hO
        by_cases hV : V = vl
        · subst hV
          by_cases hF : F = fo
          · subst hF
            cases M
            · go_wp2
              go_ret
              refine ⟨ret_int (Eq.symm ?_), below_drewN (below_alloc (below_alloc (Below.refl _ _) _) _) _⟩
              first
                | (refine chkS_yes ?_; exact hiff.out.2 (by simp))
                | (refine chkS_no ?_; intro h; have h' := hiff.out.1 h; clear hiff h; simp_all; done)
            · by_cases ha : a = 0
              · subst ha
                by_cases hb : b = 0
                · subst hb
                  cases f
                  · by_cases hln : ln = 0
                    · subst hln
                      go_wp2
                      go_ret
                      refine ⟨ret_int (Eq.symm ?_), below_drewN (below_alloc (below_alloc (Below.refl _ _) _) _) _⟩
                      first
                        | (refine chkS_yes ?_; exact hiff.out.2 (by simp))
                        | (refine chkS_no ?_; intro h; have h' := hiff.out.1 h; clear hiff h; simp_all; done)
                    · have g9 : decide (0 < (ln : Int)) = true := by rw [decide_eq_true_eq]; omega
                      go_wp2
                      go_ret
                      refine ⟨ret_int (Eq.symm ?_), below_drewN (below_alloc (below_alloc (Below.refl _ _) _) _) _⟩
                      first
                        | (refine chkS_yes ?_; exact hiff.out.2 (by simp))
                        | (refine chkS_no ?_; intro h; have h' := hiff.out.1 h; clear hiff h; simp_all; done)
                  · go_wp2
                    go_ret
                    refine ⟨ret_int (Eq.symm ?_), below_drewN (below_alloc (below_alloc (Below.refl _ _) _) _) _⟩
                    first
                      | (refine chkS_yes ?_; exact hiff.out.2 (by simp))
                      | (refine chkS_no ?_; intro h; have h' := hiff.out.1 h; clear hiff h; simp_all; done)
                · have g8 : (b == 0) = false := by simp [hb]
                  go_wp2
                  go_ret
                  refine ⟨ret_int (Eq.symm ?_), below_drewN (below_alloc (below_alloc (Below.refl _ _) _) _) _⟩
                  first
                    | (refine chkS_yes ?_; exact hiff.out.2 (by simp))
                    | (refine chkS_no ?_; intro h; have h' := hiff.out.1 h; clear hiff h; simp_all; done)
              · have g8 : (a == 0) = false := by simp [ha]
                go_wp2
                go_ret
                refine ⟨ret_int (Eq.symm ?_), below_drewN (below_alloc (below_alloc (Below.refl _ _) _) _) _⟩
                first
                  | (refine chkS_yes ?_; exact hiff.out.2 (by simp))
                  | (refine chkS_no ?_; intro h; have h' := hiff.out.1 h; clear hiff h; simp_all; done)
          · have g3 : (F == fo) = false := by simp [hF]
            cases M
            · go_wp2
              go_ret
              refine ⟨ret_int (Eq.symm ?_), below_drewN (below_alloc (below_alloc (Below.refl _ _) _) _) _⟩
              first
                | (refine chkS_yes ?_; exact hiff.out.2 (by simp))
                | (refine chkS_no ?_; intro h; have h' := hiff.out.1 h; clear hiff h; simp_all; done)
            · go_wp2
              go_ret
              refine ⟨ret_int (Eq.symm ?_), below_drewN (below_alloc (below_alloc (Below.refl _ _) _) _) _⟩
              first
                | (refine chkS_yes ?_; exact hiff.out.2 (by simp))
                | (refine chkS_no ?_; intro h; have h' := hiff.out.1 h; clear hiff h; simp_all; done)
        · have g3 : (V.toList == vl.toList) = false := str_ne hV
          cases M
          · go_wp2
            go_ret
            refine ⟨ret_int (Eq.symm ?_), below_drewN (below_alloc (below_alloc (Below.refl _ _) _) _) _⟩
            first
              | (refine chkS_yes ?_; exact hiff.out.2 (by simp))
              | (refine chkS_no ?_; intro h; have h' := hiff.out.1 h; clear hiff h; simp_all; done)
          · go_wp2
            go_ret
            refine ⟨ret_int (Eq.symm ?_), below_drewN (below_alloc (below_alloc (Below.refl _ _) _) _) _⟩
            first
              | (refine chkS_yes ?_; exact hiff.out.2 (by simp))
              | (refine chkS_no ?_; intro h; have h' := hiff.out.1 h; clear hiff h; simp_all; done)
      · have g3 : (O == op) = false := by simp [hO]
        cases M
        · go_wp2
          go_ret
          refine ⟨ret_int (Eq.symm ?_), below_drewN (below_alloc (below_alloc (Below.refl _ _) _) _) _⟩
          first
            | (refine chkS_yes ?_; exact hiff.out.2 (by simp))
            | (refine chkS_no ?_; intro h; have h' := hiff.out.1 h; clear hiff h; simp_all; done)
        · go_wp2
          go_ret
          refine ⟨ret_int (Eq.symm ?_), below_drewN (below_alloc (below_alloc (Below.refl _ _) _) _) _⟩
          first
            | (refine chkS_yes ?_; exact hiff.out.2 (by simp))
            | (refine chkS_no ?_; intro h; have h' := hiff.out.1 h; clear hiff h; simp_all; done)
    · have g3 : (P.toList == nm.toList) = false := str_ne hP
      cases M
      · go_wp2
        go_ret
        refine ⟨ret_int (Eq.symm ?_), below_drewN (below_alloc (below_alloc (Below.refl _ _) _) _) _⟩
        first
          | (refine chkS_yes ?_; exact hiff.out.2 (by simp))
          | (refine chkS_no ?_; intro h; have h' := hiff.out.1 h; clear hiff h; simp_all; done)
      · go_wp2
        go_ret
        refine ⟨ret_int (Eq.symm ?_), below_drewN (below_alloc (below_alloc (Below.refl _ _) _) _) _⟩
        first
          | (refine chkS_yes ?_; exact hiff.out.2 (by simp))
          | (refine chkS_no ?_; intro h; have h' := hiff.out.1 h; clear hiff h; simp_all; done)
end Go.Proofs.YtmdccplhmniiiaaGreat
