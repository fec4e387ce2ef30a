/- Words on memory: a simple selector; its error, by the program and by the reference. No condition. -/
import Derived.Test.YtbedomopojiehaaBase
import Derived.Test.YtbedomopojiehaaWf
import Derived.Lib.Strings
namespace Go.Proofs.Ytbedomopojiehaa
open Go.RowKit

/-- A simple selector; of its list only the length counts. -/
structure Sim where
  kind : Int
  name : ByteArray
  op : Int
  val : ByteArray
  fold : Bool
  a : Int
  b : Int
  of : Bool
  LA : Option Addr
  ln : Nat
  lc : Nat
def simC (s : Sim) : Array Value := #[.int .u8 s.kind, .string s.name, .int .u8 s.op, .string s.val, .bool s.fold, .int .i64 s.a, .int .i64 s.b, .bool s.of, .slice s.LA s.ln s.lc]
def okP (s : Sim) : Prop := s.a = 0 ∧ s.b = 0 ∧ s.of.toNat = 0 ∧ s.ln = 0 ∧
  ((s.kind = 3 ∧ 1 ≤ s.name.size ∧ s.name.size ≤ 400 ∧ s.op ≤ 6 ∧ s.val.size ≤ 400 ∧ (¬ s.op = 0 ∨ (s.val.size = 0 ∧ s.fold.toNat = 0))) ∨
   (¬ s.kind = 3 ∧ s.op = 0 ∧ s.val.size = 0 ∧ s.fold.toNat = 0 ∧ (((s.kind = 1 ∨ s.kind = 2) ∧ 1 ≤ s.name.size ∧ s.name.size ≤ 400) ∨ (4 ≤ s.kind ∧ s.kind ≤ 8 ∧ s.name.size = 0))))
instance (s : Sim) : Decidable (okP s) := by unfold okP; infer_instance
def okS (s : Sim) : Bool := decide (okP s)
def chkS (s : Sim) : Int := if okS s then 0 else 12
theorem chkS_yes {s : Sim} (h : okP s) : chkS s = 0 := if_pos (decide_eq_true h)
theorem chkS_no {s : Sim} (h : ¬ okP s) : chkS s = 12 := if_neg (by show ¬ decide _ = true; rw [decide_eq_true_eq]; exact h)
theorem toList_nil (s : ByteArray) : s.toList = [] ↔ s.size = 0 := by
  rw [ByteArray.toList_eq, Lib.size_eq, List.length_eq_zero_iff]
set_option maxRecDepth 100000 in
set_option maxHeartbeats 4000000 in
theorem rscheck_ok (k : Int) (nm : ByteArray) (op : Int) (vl : ByteArray) (fo : Bool) (a b : Int) (f : Bool) (LA : Option Addr) (ln lc : Nat) (w : World) :
    Calls Try.prog 20 #[.agg #[.int .u8 k, .string nm, .int .u8 op, .string vl, .bool fo, .int .i64 a, .int .i64 b, .bool f, .slice LA ln lc]] w fun r w' => r = .returned (.int .i64 (chkS ⟨k, nm, op, vl, fo, a, b, f, LA, ln, lc⟩)) ∧ Below w.heap.size w w' := by
  by_cases ha : a = 0
  · by_cases hb : b = 0
    · by_cases hf : f = false
      · have hf0 : f.toNat = 0 := by rw [hf]; rfl
        by_cases hln : ln = 0
        · by_cases hk : k = 3
          · by_cases h1 : nm.size = 0
            · have g1 : ((nm.size : Int) == 0) = true := by rw [beq_iff_eq]; omega
              have g2 : ¬ 1 ≤ nm.size := by omega
              have b0 : Bool.toNat false = 0 := rfl
              have b1 : Bool.toNat true = 1 := rfl
              go_enter Try.func20, Try.ntmps20
              go_wp2
              go_ret
              refine ⟨ret_int (Eq.symm ?_), below_alloc (Below.refl _ _) _⟩
              first | (refine chkS_yes ?_; unfold okP; (try dsimp only); omega) | (refine chkS_no ?_; unfold okP; (try dsimp only); omega)
            · have g1 : ((nm.size : Int) == 0) = false := by rw [beq_eq_false_iff_ne]; omega
              have g2 : 1 ≤ nm.size := by omega
              by_cases h2 : nm.size ≤ 400
              · have g3 : decide (400 < (nm.size : Int)) = false := by simp; omega
                by_cases h3 : op ≤ 6
                · have g5 : decide (6 < op) = false := by simp; omega
                  by_cases h4 : vl.size ≤ 400
                  · have g6 : decide (400 < (vl.size : Int)) = false := by simp; omega
                    by_cases h5 : op = 0
                    · by_cases h6 : vl.toList = []
                      · have h7 := (toList_nil vl).1 h6
                        cases fo
                        · have b0 : Bool.toNat false = 0 := rfl
                          have b1 : Bool.toNat true = 1 := rfl
                          go_enter Try.func20, Try.ntmps20
                          go_wp2
                          go_ret
                          refine ⟨ret_int (Eq.symm ?_), below_alloc (Below.refl _ _) _⟩
                          first | (refine chkS_yes ?_; unfold okP; (try dsimp only); omega) | (refine chkS_no ?_; unfold okP; (try dsimp only); omega)
                        · have b0 : Bool.toNat false = 0 := rfl
                          have b1 : Bool.toNat true = 1 := rfl
                          go_enter Try.func20, Try.ntmps20
                          go_wp2
                          go_ret
                          refine ⟨ret_int (Eq.symm ?_), below_alloc (Below.refl _ _) _⟩
                          first | (refine chkS_yes ?_; unfold okP; (try dsimp only); omega) | (refine chkS_no ?_; unfold okP; (try dsimp only); omega)
                      · have h7 := mt (toList_nil vl).2 h6
                        have b0 : Bool.toNat false = 0 := rfl
                        have b1 : Bool.toNat true = 1 := rfl
                        go_enter Try.func20, Try.ntmps20
                        go_wp2
                        go_ret
                        refine ⟨ret_int (Eq.symm ?_), below_alloc (Below.refl _ _) _⟩
                        first | (refine chkS_yes ?_; unfold okP; (try dsimp only); omega) | (refine chkS_no ?_; unfold okP; (try dsimp only); omega)
                    · have g7 : (op == 0) = false := by simp; omega
                      have b0 : Bool.toNat false = 0 := rfl
                      have b1 : Bool.toNat true = 1 := rfl
                      go_enter Try.func20, Try.ntmps20
                      go_wp2
                      go_ret
                      refine ⟨ret_int (Eq.symm ?_), below_alloc (Below.refl _ _) _⟩
                      first | (refine chkS_yes ?_; unfold okP; (try dsimp only); omega) | (refine chkS_no ?_; unfold okP; (try dsimp only); omega)
                  · have g6 : decide (400 < (vl.size : Int)) = true := by simp; omega
                    have b0 : Bool.toNat false = 0 := rfl
                    have b1 : Bool.toNat true = 1 := rfl
                    go_enter Try.func20, Try.ntmps20
                    go_wp2
                    go_ret
                    refine ⟨ret_int (Eq.symm ?_), below_alloc (Below.refl _ _) _⟩
                    first | (refine chkS_yes ?_; unfold okP; (try dsimp only); omega) | (refine chkS_no ?_; unfold okP; (try dsimp only); omega)
                · have g5 : decide (6 < op) = true := by simp; omega
                  have b0 : Bool.toNat false = 0 := rfl
                  have b1 : Bool.toNat true = 1 := rfl
                  go_enter Try.func20, Try.ntmps20
                  go_wp2
                  go_ret
                  refine ⟨ret_int (Eq.symm ?_), below_alloc (Below.refl _ _) _⟩
                  first | (refine chkS_yes ?_; unfold okP; (try dsimp only); omega) | (refine chkS_no ?_; unfold okP; (try dsimp only); omega)
              · have g3 : decide (400 < (nm.size : Int)) = true := by simp; omega
                have g4 : ¬ nm.size ≤ 400 := by omega
                have b0 : Bool.toNat false = 0 := rfl
                have b1 : Bool.toNat true = 1 := rfl
                go_enter Try.func20, Try.ntmps20
                go_wp2
                go_ret
                refine ⟨ret_int (Eq.symm ?_), below_alloc (Below.refl _ _) _⟩
                first | (refine chkS_yes ?_; unfold okP; (try dsimp only); omega) | (refine chkS_no ?_; unfold okP; (try dsimp only); omega)
          · by_cases h5 : op = 0
            · by_cases h6 : vl.toList = []
              · have h7 := (toList_nil vl).1 h6
                cases fo
                · by_cases hk1 : k = 1
                  · by_cases h1 : nm.size = 0
                    · have g1 : ((nm.size : Int) == 0) = true := by rw [beq_iff_eq]; omega
                      have g2 : ¬ 1 ≤ nm.size := by omega
                      have b0 : Bool.toNat false = 0 := rfl
                      have b1 : Bool.toNat true = 1 := rfl
                      go_enter Try.func20, Try.ntmps20
                      go_wp2
                      go_ret
                      refine ⟨ret_int (Eq.symm ?_), below_alloc (Below.refl _ _) _⟩
                      first | (refine chkS_yes ?_; unfold okP; (try dsimp only); omega) | (refine chkS_no ?_; unfold okP; (try dsimp only); omega)
                    · have g1 : ((nm.size : Int) == 0) = false := by rw [beq_eq_false_iff_ne]; omega
                      have g2 : 1 ≤ nm.size := by omega
                      by_cases h2 : nm.size ≤ 400
                      · have g3 : decide (400 < (nm.size : Int)) = false := by simp; omega
                        have b0 : Bool.toNat false = 0 := rfl
                        have b1 : Bool.toNat true = 1 := rfl
                        go_enter Try.func20, Try.ntmps20
                        go_wp2
                        go_ret
                        refine ⟨ret_int (Eq.symm ?_), below_alloc (Below.refl _ _) _⟩
                        first | (refine chkS_yes ?_; unfold okP; (try dsimp only); omega) | (refine chkS_no ?_; unfold okP; (try dsimp only); omega)
                      · have g3 : decide (400 < (nm.size : Int)) = true := by simp; omega
                        have g4 : ¬ nm.size ≤ 400 := by omega
                        have b0 : Bool.toNat false = 0 := rfl
                        have b1 : Bool.toNat true = 1 := rfl
                        go_enter Try.func20, Try.ntmps20
                        go_wp2
                        go_ret
                        refine ⟨ret_int (Eq.symm ?_), below_alloc (Below.refl _ _) _⟩
                        first | (refine chkS_yes ?_; unfold okP; (try dsimp only); omega) | (refine chkS_no ?_; unfold okP; (try dsimp only); omega)
                  · by_cases hk2 : k = 2
                    · by_cases h1 : nm.size = 0
                      · have g1 : ((nm.size : Int) == 0) = true := by rw [beq_iff_eq]; omega
                        have g2 : ¬ 1 ≤ nm.size := by omega
                        have b0 : Bool.toNat false = 0 := rfl
                        have b1 : Bool.toNat true = 1 := rfl
                        go_enter Try.func20, Try.ntmps20
                        go_wp2
                        go_ret
                        refine ⟨ret_int (Eq.symm ?_), below_alloc (Below.refl _ _) _⟩
                        first | (refine chkS_yes ?_; unfold okP; (try dsimp only); omega) | (refine chkS_no ?_; unfold okP; (try dsimp only); omega)
                      · have g1 : ((nm.size : Int) == 0) = false := by rw [beq_eq_false_iff_ne]; omega
                        have g2 : 1 ≤ nm.size := by omega
                        by_cases h2 : nm.size ≤ 400
                        · have g3 : decide (400 < (nm.size : Int)) = false := by simp; omega
                          have b0 : Bool.toNat false = 0 := rfl
                          have b1 : Bool.toNat true = 1 := rfl
                          go_enter Try.func20, Try.ntmps20
                          go_wp2
                          go_ret
                          refine ⟨ret_int (Eq.symm ?_), below_alloc (Below.refl _ _) _⟩
                          first | (refine chkS_yes ?_; unfold okP; (try dsimp only); omega) | (refine chkS_no ?_; unfold okP; (try dsimp only); omega)
                        · have g3 : decide (400 < (nm.size : Int)) = true := by simp; omega
                          have g4 : ¬ nm.size ≤ 400 := by omega
                          have b0 : Bool.toNat false = 0 := rfl
                          have b1 : Bool.toNat true = 1 := rfl
                          go_enter Try.func20, Try.ntmps20
                          go_wp2
                          go_ret
                          refine ⟨ret_int (Eq.symm ?_), below_alloc (Below.refl _ _) _⟩
                          first | (refine chkS_yes ?_; unfold okP; (try dsimp only); omega) | (refine chkS_no ?_; unfold okP; (try dsimp only); omega)
                    · have k1 : (k == 1) = false := by simp [hk1]
                      have k2 : (k == 2) = false := by simp [hk2]
                      by_cases hk4 : k < 4
                      · have k4 : ¬ 4 ≤ k := by omega
                        have b0 : Bool.toNat false = 0 := rfl
                        have b1 : Bool.toNat true = 1 := rfl
                        go_enter Try.func20, Try.ntmps20
                        go_wp2
                        go_ret
                        refine ⟨ret_int (Eq.symm ?_), below_alloc (Below.refl _ _) _⟩
                        first | (refine chkS_yes ?_; unfold okP; (try dsimp only); omega) | (refine chkS_no ?_; unfold okP; (try dsimp only); omega)
                      · have k4 : 4 ≤ k := by omega
                        by_cases hk8 : 8 < k
                        · have k8 : ¬ k ≤ 8 := by omega
                          have b0 : Bool.toNat false = 0 := rfl
                          have b1 : Bool.toNat true = 1 := rfl
                          go_enter Try.func20, Try.ntmps20
                          go_wp2
                          go_ret
                          refine ⟨ret_int (Eq.symm ?_), below_alloc (Below.refl _ _) _⟩
                          first | (refine chkS_yes ?_; unfold okP; (try dsimp only); omega) | (refine chkS_no ?_; unfold okP; (try dsimp only); omega)
                        · have k8 : k ≤ 8 := by omega
                          by_cases h8 : nm.toList = []
                          · have h9 := (toList_nil nm).1 h8
                            have b0 : Bool.toNat false = 0 := rfl
                            have b1 : Bool.toNat true = 1 := rfl
                            go_enter Try.func20, Try.ntmps20
                            go_wp2
                            go_ret
                            refine ⟨ret_int (Eq.symm ?_), below_alloc (Below.refl _ _) _⟩
                            first | (refine chkS_yes ?_; unfold okP; (try dsimp only); omega) | (refine chkS_no ?_; unfold okP; (try dsimp only); omega)
                          · have h9 := mt (toList_nil nm).2 h8
                            have h10 : nm.toList.isEmpty = false := by rw [List.isEmpty_eq_false_iff]; exact h8
                            have b0 : Bool.toNat false = 0 := rfl
                            have b1 : Bool.toNat true = 1 := rfl
                            go_enter Try.func20, Try.ntmps20
                            go_wp2
                            go_ret
                            refine ⟨ret_int (Eq.symm ?_), below_alloc (Below.refl _ _) _⟩
                            first | (refine chkS_yes ?_; unfold okP; (try dsimp only); omega) | (refine chkS_no ?_; unfold okP; (try dsimp only); omega)
                · have b0 : Bool.toNat false = 0 := rfl
                  have b1 : Bool.toNat true = 1 := rfl
                  go_enter Try.func20, Try.ntmps20
                  go_wp2
                  go_ret
                  refine ⟨ret_int (Eq.symm ?_), below_alloc (Below.refl _ _) _⟩
                  first | (refine chkS_yes ?_; unfold okP; (try dsimp only); omega) | (refine chkS_no ?_; unfold okP; (try dsimp only); omega)
              · have h7 := mt (toList_nil vl).2 h6
                have b0 : Bool.toNat false = 0 := rfl
                have b1 : Bool.toNat true = 1 := rfl
                go_enter Try.func20, Try.ntmps20
                go_wp2
                go_ret
                refine ⟨ret_int (Eq.symm ?_), below_alloc (Below.refl _ _) _⟩
                first | (refine chkS_yes ?_; unfold okP; (try dsimp only); omega) | (refine chkS_no ?_; unfold okP; (try dsimp only); omega)
            · have g7 : (op == 0) = false := by simp [h5]
              have g8 : (op != 0) = true := by simp [h5]
              have b0 : Bool.toNat false = 0 := rfl
              have b1 : Bool.toNat true = 1 := rfl
              go_enter Try.func20, Try.ntmps20
              go_wp2
              go_ret
              refine ⟨ret_int (Eq.symm ?_), below_alloc (Below.refl _ _) _⟩
              first | (refine chkS_yes ?_; unfold okP; (try dsimp only); omega) | (refine chkS_no ?_; unfold okP; (try dsimp only); omega)
        · have g9 : ((ln : Int) != 0) = true := by simp; omega
          have b0 : Bool.toNat false = 0 := rfl
          have b1 : Bool.toNat true = 1 := rfl
          go_enter Try.func20, Try.ntmps20
          go_wp2
          go_ret
          refine ⟨ret_int (Eq.symm ?_), below_alloc (Below.refl _ _) _⟩
          first | (refine chkS_yes ?_; unfold okP; (try dsimp only); omega) | (refine chkS_no ?_; unfold okP; (try dsimp only); omega)
      · obtain rfl : f = true := by cases f <;> simp_all
        have b0 : Bool.toNat false = 0 := rfl
        have b1 : Bool.toNat true = 1 := rfl
        go_enter Try.func20, Try.ntmps20
        go_wp2
        go_ret
        refine ⟨ret_int (Eq.symm ?_), below_alloc (Below.refl _ _) _⟩
        first | (refine chkS_yes ?_; unfold okP; (try dsimp only); omega) | (refine chkS_no ?_; unfold okP; (try dsimp only); omega)
    · have g8 : (b != 0) = true := by simp [hb]
      have b0 : Bool.toNat false = 0 := rfl
      have b1 : Bool.toNat true = 1 := rfl
      go_enter Try.func20, Try.ntmps20
      go_wp2
      go_ret
      refine ⟨ret_int (Eq.symm ?_), below_alloc (Below.refl _ _) _⟩
      first | (refine chkS_yes ?_; unfold okP; (try dsimp only); omega) | (refine chkS_no ?_; unfold okP; (try dsimp only); omega)
  · have g8 : (a != 0) = true := by simp [ha]
    have b0 : Bool.toNat false = 0 := rfl
    have b1 : Bool.toNat true = 1 := rfl
    go_enter Try.func20, Try.ntmps20
    go_wp2
    go_ret
    refine ⟨ret_int (Eq.symm ?_), below_alloc (Below.refl _ _) _⟩
    first | (refine chkS_yes ?_; unfold okP; (try dsimp only); omega) | (refine chkS_no ?_; unfold okP; (try dsimp only); omega)
end Go.Proofs.Ytbedomopojiehaa
