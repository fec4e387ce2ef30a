/- Which elements match, when all is right; what the law's special progressions say of a place. No condition but those of the laws. -/
import Derived.Test.YtankambfobfnfaaEx20
namespace Go.Proofs.Ytankambfobfnfaa
open Go.RowKit

def MadeMatch (w : World) (n : Nat) (f : Nat → Bool) (e : Ending) (w' : World) : Prop :=
  ∃ (A : Option Addr) (c : Nat), e = .returned (.tuple #[.slice A n c, .int .i64 0]) ∧ IsBools w' A n ((List.range n).map f) ∧ Below w.heap.size w w'
theorem bx_map {f : Nat → Bool} {n j : Nat} (h : j < n) : bx ((List.range n).map f) j = f j := by simp [bx, h]

theorem nallM (T : List ANode) (B : List Bool) (a b : Int) (last : Bool) (m : Nat) (h0 : tolE T m = 0) (hv : anbB a b = true) (A AB : Option Addr) (n c cb : Nat) (w : World) (h : IsTree w A n T) (hL : IsBools w AB m B) :
    Calls Try.prog 36 #[.agg #[.slice A n c], .agg #[.int .i64 a, .int .i64 b], .bool last, .slice AB m cb] w (MadeMatch w n (fun i => nmatF T i a b last B)) := by
  have hl := h.1
  obtain ⟨hg, hm⟩ := tolE_zero.1 h0
  have he : nallE T a b m = 0 := by unfold nallE anbE; rw [if_pos h0, if_pos hv]
  have hB := hL.1
  have hx : nallV T a b last B = (List.range n).map fun i => nmatF T i a b last B := by unfold nallV; rw [hB, if_pos he, hl]
  refine (nall_at T B a b _ 0 last m he hx A AB n c cb w h hL).mono ?_
  rintro e w' ⟨A', c', rfl, hI, hb⟩
  rw [show ((List.range n).map fun i => nmatF T i a b last B).length = n by simp] at hI ⊢
  exact ⟨A', c', rfl, hI, hb⟩

theorem nmatF_is {T : List ANode} {i : Nat} {a b : Int} {last : Bool} {B : List Bool} {p : Int} (hp : atF T i last B = p) : nmatF T i a b last B = (decide (1 ≤ p) && hasB a b p) := by unfold nmatF; rw [hp]
section
variable {p : Int} {v : Bool}
theorem has_pos {a b : Int} (ha : 0 < a) : hasB a b p = true ↔ 0 ≤ p - b ∧ (p - b) % a = 0 := by
  unfold hasB; rw [if_pos ha]; simp
theorem has_neg {a b : Int} (ha : a < 0) : hasB a b p = true ↔ p - b ≤ 0 ∧ (p - b) % a = 0 := by
  unfold hasB; rw [if_neg (by omega), if_pos ha]; simp
theorem has_zero {b : Int} : hasB 0 b p = true ↔ p - b = 0 := by
  unfold hasB; rw [if_neg (by omega), if_neg (by omega)]; simp
end
theorem halves {T : List ANode} (hg : goodB T = true) {i : Nat} (hi : i < T.length) (last : Bool) (B : List Bool) (k : Int) :
    (bx B i = false ∧ nmatF T i 2 0 last B = false ∧ nmatF T i 2 1 last B = false ∧ nmatF T i (-1) k last B = false ∧ nmatF T i 1 (k + 1) last B = false ∧ nmatF T i 1 0 last B = false ∧ nmatF T i 0 0 last B = false) ∨
    (bx B i = true ∧ ((nmatF T i 2 0 last B = true ∧ nmatF T i 2 1 last B = false) ∨ (nmatF T i 2 0 last B = false ∧ nmatF T i 2 1 last B = true)) ∧ ((nmatF T i (-1) k last B = true ∧ nmatF T i 1 (k + 1) last B = false) ∨ (nmatF T i (-1) k last B = false ∧ nmatF T i 1 (k + 1) last B = true)) ∧ nmatF T i 1 0 last B = true ∧ nmatF T i 0 0 last B = false) := by
  obtain ⟨p0, p1, p2⟩ := atF_bd hg hi last B
  have hin : inb B i = bx B i := by unfold inb; rw [Int.toNat_natCast]
  rw [hin] at p2
  generalize hp : atF T i last B = p at p0 p1 p2
  simp only [nmatF_is hp]
  by_cases h1 : 1 ≤ p
  · right
    have hd : decide (1 ≤ p) = true := by simpa using h1
    simp only [hd, Bool.true_and]
    have z : ∀ {x y : Int}, (hasB x y p = false) ↔ ¬ (hasB x y p = true) := by intro x y; simp
    have hm1 : (p - k) % (-1) = 0 := by rw [Int.emod_neg]; omega
    refine ⟨p2.1 h1, ?_, ?_, ?_, ?_⟩
    · rw [z, z, has_pos (by omega), has_pos (by omega)]; omega
    · rw [z, z, has_neg (by omega), has_pos (by omega)]; omega
    · rw [has_pos (by omega)]; omega
    · rw [z, has_zero]; omega
  · left
    have hd : decide (1 ≤ p) = false := by simpa using h1
    simp only [hd, Bool.false_and, and_self, and_true]
    cases hb : bx B i
    · rfl
    · exact absurd (p2.2 hb) h1
end Go.Proofs.Ytankambfobfnfaa
