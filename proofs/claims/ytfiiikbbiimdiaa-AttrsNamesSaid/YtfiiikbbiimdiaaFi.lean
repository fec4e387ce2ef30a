/- Walks: a long text, by chapter 14's laws. Condition: at most 1000 bytes. -/
import Derived.Test.YtfiiikbbiimdiaaFa
import Derived.Test.YtfiiikbbiimdiaaWa
import Derived.Test.YtfiiikbbiimdiaaWi
namespace Go.Proofs.Ytfiiikbbiimdiaa
open Go.RowKit

def longS (n : Nat) : ByteArray := ⟨(List.replicate n (120 : UInt8)).toArray⟩
theorem info_u8 : (Try.prog.info? 5).map (fun i => (i.zero, i.size, i.bytes)) = some (some (.int .u8 0), 1, 1) := by kernel_rfl
theorem mk_bytes (n : Nat) (hn : n ≤ 140737488351232) (W : World) :
    (Instr.makeSlice 81 (.int .i64 (n : Int)) (.int .i64 (n : Int))).run Try.prog W = .ok (.slice (some ⟨W.heap.size, 0, none⟩) n n) (W.alloc (.cells (madeCells #[.int .u8 0] n) 5)) := by
  obtain ⟨i, hi, hz0, hz1, hz2⟩ := info_parts info_u8
  have hr := run_make (P := Try.prog) W 81 5 i (.int .u8 0) Try.underlying81 hi hz0 .i64 .i64 (n : Int) (n : Int) (by omega) (by omega) (by rw [hz2]; omega) (by omega)
  rw [hz1, show (Value.int .u8 0).cells = #[.int .u8 0] from rfl] at hr
  simpa using hr
/-- The first k of n bytes are an x. -/
def Xs (wr : World) (g n k : Nat) : Prop :=
  ∃ cs : Array Value, wr.heap[g]? = some (.cells cs 5 (0, 0)) ∧ cs.size = n ∧ ∀ j, j < k → cs[j]? = some (.int .u8 120)
theorem Xs.set {wr : World} {g n k : Nat} (h : Xs wr g n k) (hk : k < n) : Xs (wr.setCell ⟨g, k, none⟩ (.int .u8 120)) g n (k + 1) := by
  obtain ⟨cs, h1, h2, h3⟩ := h
  refine ⟨_, blk_set h1 k _, by simp [h2], fun j hj => ?_⟩
  by_cases hjk : j = k
  · subst hjk; simp [h2, hk]
  · rw [Array.getElem?_setIfInBounds_ne (by omega)]; exact h3 j (by omega)

set_option maxRecDepth 100000 in
theorem long_ok (n : Nat) (hn : n ≤ 1000) (w : World) : Calls Try.prog 51 #[.int .i64 n] w fun e w' => e = .returned (.string (longS n)) ∧ Below w.heap.size w w' := by
  have hmk := mk_bytes n (by omega)
  go_enter Try.func51, Try.ntmps51
  go_wp2
  go_loopw [4] (fun i wr => ∃ k : Nat, k ≤ n ∧ i = .int .i64 k ∧ Below w.heap.size w wr ∧ Xs wr w.heap.size n k) (fun i _ => n - (intOf i).toNat)
  case atStart => exact ⟨0, Nat.zero_le _, rfl, below_alloc (Below.refl _ _) _, _, blk_new _ _ _, by simp [madeCells], fun j hj => absurd hj (by omega)⟩
  case round =>
    obtain ⟨k, hk, rfl, hb, hX⟩ := hrel
    by_cases hlt : k < n
    · obtain ⟨cs, h1, h2, h3⟩ := id hX
      have hc : wr.cell? ⟨w.heap.size, k, none⟩ = some (cs[k]'(by omega)) := by rw [blk_cell h1]; simp
      have hf : wr.frozen? ⟨w.heap.size, k, none⟩ = false := blk_frozen h1 k
      have hX' := hide (hX.set hlt)
      generalize cs[k]'(by omega) = old at hc
      clear h1 h2 h3 hX
      go_wp2
      go_roundw
      case rel => exact ⟨k + 1, by omega, by go_num, hb.setCell (by simp) _, hX'.out⟩
      case measure => simp [intOf]; omega
    · obtain rfl : n = k := by omega
      obtain ⟨cs, h1, h2, h3⟩ := hX
      have hcv := run_convert_bytes_back (P := Try.prog) wr 81 9 5 ⟨w.heap.size, 0, none⟩ n (List.replicate n (120 : UInt8)) Try.underlying81 Try.underlying5 Try.underlying9 (fun j hj => by
        have hj' : j < n := by simpa using hj
        rw [show (⟨w.heap.size, 0, none⟩ : Addr).add j = ⟨w.heap.size, j, none⟩ by unfold Addr.add; split <;> simp_all, blk_cell h1, h3 j hj']
        simp)
      rw [List.length_replicate] at hcv
      go_wp2
      go_ret
      exact ⟨rfl, hb⟩
end Go.Proofs.Ytfiiikbbiimdiaa
