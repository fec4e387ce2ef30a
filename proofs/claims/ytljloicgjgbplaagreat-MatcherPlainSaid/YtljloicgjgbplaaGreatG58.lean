/- Plain: the sizes of a right list; what matches the list without links and visited ones. No condition. -/
import Derived.Test.YtljloicgjgbplaaGreatG57
import Derived.Test.YtljloicgjgbplaaGreatG43
namespace Go.Proofs.YtljloicgjgbplaaGreat
open Go.RowKit

theorem sum_ge {α : Type} (f : α → Nat) {l : List α} {x : α} (h : x ∈ l) : f x ≤ (l.map f).sum := by
  induction l with
  | nil => cases h
  | cons y ys ih =>
    rw [List.map_cons, List.sum_cons]
    rcases List.mem_cons.1 h with rfl | h
    · omega
    · have := ih h; omega
theorem numL_mem {X : Type} (N : List X → Nat) {l : List (CpxX X)} {x : CpxX X} (h : x ∈ l) : numL N [x] ≤ numL N l := by
  unfold numL
  have h1 := sum_ge (fun c : CpxX X => numParts N c.parts) h
  have h2 : 0 < l.length := List.length_pos_of_mem h
  simp only [List.length_cons, List.length_nil, List.map_cons, List.map_nil, List.sum_cons, List.sum_nil]
  omega
theorem numV_mem : ∀ (n : Nat) {l : List (SelL n)} {x : SelL n}, x ∈ l → numV n [x] ≤ numV n l
  | 0, _, x, _ => x.elim
  | n + 1, _, _, h => numL_mem (X := SelL n) (numV n) h
theorem len_numW : ∀ (N : Nat) (l : List (SelL N)), l.length ≤ numV N l
  | 0, l => by cases l with | nil => exact Nat.zero_le _ | cons x _ => exact x.elim
  | N + 1, l => by show l.length ≤ numL (numV N) l; unfold numL; exact Nat.le_add_right _ _
theorem okPX_of {X : Type} {Wf : Nat → Bool → Bool → X → Bool} {N : List X → Nat} {Q : X → Prop} (hN : ∀ l, l.length ≤ N l) (hM : ∀ l (x : X), x ∈ l → N [x] ≤ N l) (hQ : ∀ d h r x, Wf d h r x = true → N [x] ≤ 1000000 → Q x)
    {d : Nat} {h r : Bool} {x : CpxX X} (hB : wholeB Wf d h r x = true) (hn : numL N [x] ≤ 1000000) : okPX Q x := by
  obtain ⟨-, -, w3, w4, w5, w6⟩ := wholeB_iff.1 hB
  unfold numL at hn
  simp only [List.length_cons, List.length_nil, List.map_cons, List.map_nil, List.sum_cons, List.sum_nil] at hn
  refine ⟨by omega, fun c hc => ?_⟩
  obtain ⟨-, c2, -, c4⟩ := compB_iff.1 (w6 c hc)
  have hnc : numSims N c.sims ≤ 1000000 := by
    have := sum_ge (fun p : CompX X => numSims N p.sims) hc
    unfold numParts at hn
    omega
  refine ⟨by omega, fun s hs => ?_⟩
  have hns : N s.list ≤ 1000000 := by
    have := sum_ge (fun s : SimX X => N s.list) hs
    unfold numSims at hnc
    omega
  have hll := hN s.list
  refine ⟨by omega, fun y hy => ?_⟩
  have hyn := hM _ _ hy
  have hsB := c4 s hs
  by_cases hk : 9 ≤ s.kind ∧ s.kind ≤ 14
  · exact hQ _ _ _ y (List.all_eq_true.1 (simR_list hsB hk) y hy) (by omega)
  · have h0 : s.list.length = 0 := by
      unfold simB at hsB
      split at hsB
      · simp only [Bool.and_eq_true, decide_eq_true_eq] at hsB; exact hsB.2
      · split at hsB
        · simp only [Bool.and_eq_true, decide_eq_true_eq] at hsB; exact hsB.2
        · split at hsB
          · rw [if_pos (by omega)] at hsB
            simp only [Bool.and_eq_true, decide_eq_true_eq] at hsB; exact hsB.2.2
          · cases hsB
    rw [List.length_eq_zero_iff.1 h0] at hy
    cases hy
theorem okPV_of : ∀ (n d : Nat) (h r : Bool) (x : SelL n), wholeV n d h r x = true → numV n [x] ≤ 1000000 → okPV n x
  | 0, _, _, _, x, _, _ => x.elim
  | n + 1, _, _, _, _, hB, hn => okPX_of (X := SelL n) (Wf := wholeV n) (N := numV n) (Q := okPV n) (len_numW n) (fun _ _ h => numV_mem n h) (okPV_of n) hB hn
theorem okPV_all {N : Nat} {l : List (SelL N)} (h : chkV N l = 0) : ∀ y ∈ l, okPV N y := fun y hy => by
  obtain ⟨h1, h2⟩ := chkV_zero.1 h
  have := numV_mem N hy
  exact okPV_of N 0 false false y (List.all_eq_true.1 (fineV_all h1) y hy) (by omega)
theorem aks_mode {T : List ANode} {m m' : Int} {N : Nat} {l : List (SelL N)} (h : aksE T m N l = 0) (hm : modeB T m' = true) : aksE T m' N l = 0 := by
  obtain ⟨h1, -, h3⟩ := aksE_zero.1 h
  exact aksE_zero.2 ⟨h1, hm, h3⟩
theorem mode_none (T : List ANode) : modeB T (-1) = true := by unfold modeB; simp
end Go.Proofs.YtljloicgjgbplaaGreat
