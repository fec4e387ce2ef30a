/- Words on memory: parts of lists of bytes, of lists of lists; parameters with their capacity; one list in front of the rest. Condition: not great. -/
import Derived.Test.YtaliekkdamghbaaCo
import Derived.Test.YtaliekkdamghbaaLt
import Derived.Test.YtaliekkdamghbaaDd
import Derived.Test.YtaliekkdamghbaaPcp
import Derived.Maps.AppendAt
namespace Go.Proofs.Ytaliekkdamghbaa
open Go.ChangeShapes Go.WideShapes Go.ChangeAt Go.RowKit Go.Deep

theorem IsU8.take {w : World} {A : Option Addr} {n k : Nat} {xs : List Int} (h : IsU8 w A n xs) (hk : k ≤ n) : IsU8 w A k (xs.take k) := by
  obtain ⟨h1, h2, h3, h4⟩ := h
  refine ⟨by rw [List.length_take]; omega, by omega, fun x hx => h3 x (List.mem_of_mem_take hx), fun h0 => ?_⟩
  obtain ⟨b, off, ha, hb, hc⟩ := h4 (by omega)
  exact ⟨b, off, ha, hb, fun j hj => by rw [ix_take _ hj]; exact hc j (by omega)⟩
theorem IsBB.take {w : World} {A : Option Addr} {n k : Nat} {H : List (List Bool)} (h : IsBB w A n H) (hk : k ≤ n) : IsBB w A k (H.take k) := by
  obtain ⟨h1, h2, h4⟩ := h
  refine ⟨by rw [List.length_take]; omega, by omega, fun h0 => ?_⟩
  obtain ⟨b, off, hA, hC, ha, hb, hc, hr⟩ := h4 (by omega)
  exact ⟨b, off, hA, hC, ha, hb, fun j hj => by rw [rowB_take _ hj]; exact hc j (by omega), fun j hj => by rw [rowB_take _ hj]; exact hr j (by omega)⟩
theorem IsU8.drop {w : World} {b off n k : Nat} {xs : List Int} (h : IsU8 w (some ⟨b, off, none⟩) n xs) (hk : k ≤ n) : IsU8 w (some ⟨b, off + k, none⟩) (n - k) (xs.drop k) := by
  obtain ⟨h1, h2, h3, h4⟩ := h
  refine ⟨by rw [List.length_drop]; omega, by omega, fun x hx => h3 x (List.mem_of_mem_drop hx), fun h0 => ?_⟩
  obtain ⟨b', off', ha, hb, hc⟩ := h4 (by omega)
  injection ha with ha
  injection ha with e1 e2
  subst e1 e2
  exact ⟨b, off + k, rfl, hb, fun j hj => by rw [ix_drop, Nat.add_assoc]; exact hc (k + j) (by omega)⟩
theorem IsBB.drop {w : World} {b off n k : Nat} {H : List (List Bool)} (h : IsBB w (some ⟨b, off, none⟩) n H) (hk : k ≤ n) : IsBB w (some ⟨b, off + k, none⟩) (n - k) (H.drop k) := by
  obtain ⟨h1, h2, h4⟩ := h
  refine ⟨by rw [List.length_drop]; omega, by omega, fun h0 => ?_⟩
  obtain ⟨b', off', hA, hC, ha, hb, hc, hr⟩ := h4 (by omega)
  injection ha with ha
  injection ha with e1 e2
  subst e1 e2
  exact ⟨b, off + k, fun j => hA (k + j), fun j => hC (k + j), rfl, hb, fun j hj => by rw [rowB_drop, Nat.add_assoc]; exact hc (k + j) (by omega), fun j hj => by rw [rowB_drop]; exact hr (k + j) (by omega)⟩
theorem isU8_none (w : World) (A : Option Addr) {n : Nat} (hn : n = 0) : IsU8 w A n [] := by
  subst hn; exact ⟨rfl, by omega, fun _ h => by simp at h, fun h => absurd h (by omega)⟩
section
variable {H : Type} {enc : TypeId × Value → H} {w : World} {base : Nat} {spare : Nat → Bool} {held : Bool}
set_option maxRecDepth 100000 in
theorem u8s_param2 {r : Reach} {b0 : Nat} {v : Value} {d : DataW H} {p : List MemPlace} (hv : Value.okWide Try.prog w r b0 25 v) (h : DataW.Trod enc Try.prog w base spare held 25 v d p) :
    ∃ (A : Option Addr) (len cap : Nat) (xs : List Int), v = .slice A len cap ∧ (len ≤ cap ∧ cap ≤ 9223372036854775807) ∧ IsU8 w A len xs := by
  obtain ⟨A, len, cap, rfl⟩ := okWide_slice Try.underlying25 hv
  obtain ⟨fuel, hf⟩ := h
  obtain ⟨A', len', cap', xs, e, h1, h2, hx⟩ := u8s_open (v := .slice A len cap) hf
  unfold maxLen at h2
  exact ⟨A', len', cap', xs, e, ⟨h1, by omega⟩, hx⟩
set_option maxRecDepth 100000 in
theorem bbs_param2 {r : Reach} {b0 : Nat} {v : Value} {d : DataW H} {p : List MemPlace} (hv : Value.okWide Try.prog w r b0 26 v) (h : DataW.Trod enc Try.prog w base spare held 26 v d p) :
    ∃ (A : Option Addr) (len cap : Nat) (xs : List (List Bool)), v = .slice A len cap ∧ (len ≤ cap ∧ cap ≤ 9223372036854775807) ∧ IsBB w A len xs := by
  obtain ⟨A, len, cap, rfl⟩ := okWide_slice Try.underlying26 hv
  obtain ⟨fuel, hf⟩ := h
  obtain ⟨A', len', cap', xs, e, h1, h2, hx⟩ := bbs_open (v := .slice A len cap) hf
  unfold maxLen at h2
  exact ⟨A', len', cap', xs, e, ⟨h1, by omega⟩, hx⟩
end
section
variable {P : Program} {ops : Array Oper} {o : Oper} {a : Act} {w : World} {Q : Exit → Act → World → Prop}
theorem wp_append_run {K : Act → World → Prop} (d s : Operand) (t t' : TypeId) (ho : o.op = .call { callee := .builtin .append, args := #[d, s], argTypes := #[t, t'] }) (v u : Value) (hd : a.eval d = v) (hs : a.eval s = u) {v' : Value} {w' : World}
    (hr : (Builtin.append_ #[t, t'] o.type #[v, u]).run P w = .ok v' w') (h : K (a.put o.dst v') w') : o.wp P a w K Q := by
  unfold Oper.wp execOp
  simp only [ho, resolve, invoke, builtin, Sem.run_bind, Sem.run_pure, Result.andThen_ok, List.map_toArray, List.map_cons, List.map_nil, hd, hs, hr]
  exact h
/-- append, as one step of a region that draws, where its run is known. -/
theorem step_append_run {K : Act → World → Prop} {E : Prop} (hg : o.guard = none) (d x : Operand) (t t' : TypeId) (ho : o.op = .call { callee := .builtin .append, args := #[d, x], argTypes := #[t, t'] }) (v u : Value) (hd : a.eval d = v) (hx : a.eval x = u) {v' : Value} {w' : World}
    (hr : (Builtin.append_ #[t, t'] o.type #[v, u]).run P w = .ok v' w') (hK : K (a.put o.dst v') w') : if Region.wanted o (yielded ops a.tmps) = true then Oper.wp P o a w K Q else E := by
  rw [if_pos (by simp [Region.wanted, hg])]
  exact wp_append_run d x t t' ho v u hd hx hr hK
end
set_option maxRecDepth 100000 in
/-- append([][]bool{first}, rest..): the run of it, and what it makes. -/
theorem front_run (W : World) (ty : TypeId) (AF : Option Addr) (nF cF : Nat) (F : List Bool) (hF : IsBools W AF nF F) (hc1 : nF ≤ cF) (hc2 : cF ≤ 9223372036854775807) (ad : Addr) (r c : Nat) (R : List (List Bool)) (hr : r ≤ 1000)
    (hR : R.length = r) (hA : Nat → Option Addr) (hC : Nat → Nat) (hcell : ∀ j, j < r → W.cell? (ad.add j) = some (.slice (hA j) (rowB R j).length (hC j))) (hrow : ∀ j, j < r → IsBools W (hA j) (rowB R j).length (rowB R j) ∧ (rowB R j).length ≤ hC j ∧ hC j ≤ 9223372036854775807) :
    ∃ (A' : Option Addr) (c' : Nat) (w' : World), (Builtin.append_ #[26, 26] ty #[.slice (some ⟨W.heap.size, 0, none⟩) 1 1, .slice (some ad) r c]).run Try.prog (W.alloc (.cells #[.slice AF nF cF] 31)) = .ok (.slice A' (1 + r) c') w' ∧ IsBB w' A' (1 + r) (F :: R) ∧ Below W.heap.size W w' := by
  obtain ⟨i0, hI, hz0, hz1, hz2⟩ := info_parts info_bb
  have hnF := hF.1
  have hb1 := below_alloc (Below.refl W.heap.size W) (.cells #[.slice AF nF cF] 31)
  have hl : (slicesR R hA hC r).length = r * 1 := by rw [slicesR_len]; omega
  obtain ⟨v', w', hrun, hown, hgrow, -, -⟩ := run_append_own_at (P := Try.prog) (w := W.alloc (.cells #[.slice AF nF cF] 31)) W.heap.size 26 ty 31 i0 (.slice none 0 0) 1 24 Try.underlying26 hI hz0 hz1 hz2 rfl (by decide) (.slice (some ⟨W.heap.size, 0, none⟩) 1 1) 1 [.slice AF nF cF]
    (World.ownsRow_lit W #[.slice AF nF cF] 1 (Nat.le_refl _) (by unfold maxLen; omega) rfl) ad r c (slicesR R hA hC r) hl
    (fun j u hj => by
      have hjr : j < r := by
        rcases Nat.lt_or_ge j r with h | h
        · exact h
        · rw [List.getElem?_eq_none (by rw [slicesR_len]; omega)] at hj; cases hj
      rw [slicesR_get _ _ _ hjr] at hj
      injection hj with hj
      subst hj
      exact cell_later hb1 (hcell j hjr))
    (fun u hu => by
      unfold slicesR at hu
      obtain ⟨j, -, rfl⟩ := List.mem_map.1 hu
      rfl) (by unfold maxLen; omega) (by omega) (by simp)
  obtain ⟨A', c', rfl, h1, h2⟩ := sl_of_own hown
  have hb : Below W.heap.size W w' := hb1.grown hgrow (by simp) (fun q hq => by simp [Value.ownBlock] at hq; omega)
  refine ⟨A', c', w', hrun, ⟨by rw [List.length_cons]; omega, by omega, fun _ => ?_⟩, hb⟩
  obtain ⟨g, cap, cs, hv, -, -, -, hgb⟩ := own_blk hown (by omega)
  injection hv with e1 e2 e3
  subst e1
  refine ⟨g, 0, fun j => if j = 0 then AF else hA (j - 1), fun j => if j = 0 then cF else hC (j - 1), rfl, blk_lt hgb, fun j hj => ?_, fun j hj => ?_⟩
  · rw [Nat.zero_add, World.ownsRow.cellAt hown j (by omega)]
    cases j with
    | zero => show some (Value.slice AF nF cF) = some (Value.slice AF F.length cF); rw [hnF]
    | succ j =>
      show (slicesR R hA hC r)[j]? = some (.slice (hA j) (rowB R j).length (hC j))
      rw [slicesR_get _ _ _ (by omega)]
  · cases j with
    | zero => show IsBools w' AF F.length F ∧ F.length ≤ cF ∧ _; rw [hnF]; exact ⟨hF.below hb, hc1, hc2⟩
    | succ j =>
      show IsBools w' (hA j) (rowB R j).length (rowB R j) ∧ (rowB R j).length ≤ hC j ∧ hC j ≤ 9223372036854775807
      exact ⟨(hrow j (by omega)).1.below hb, (hrow j (by omega)).2⟩
end Go.Proofs.Ytaliekkdamghbaa
