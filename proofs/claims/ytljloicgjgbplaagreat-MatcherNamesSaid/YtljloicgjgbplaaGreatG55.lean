/- Lists of simple selectors and of compounds that the call has made. No condition but that they are not great. -/
import Derived.Test.YtljloicgjgbplaaGreatG47
namespace Go.Proofs.YtljloicgjgbplaaGreat
open Go.RowKit

def simsV (S : List Sim) : List Value := S.flatMap fun s => (simC s).toList
theorem simC_len (s : Sim) : (simC s).toList.length = 9 := rfl
theorem simsV_len (S : List Sim) : (simsV S).length = S.length * 9 := by
  unfold simsV
  induction S with
  | nil => rfl
  | cons s S ih => rw [List.flatMap_cons, List.length_append, ih, simC_len, List.length_cons]; omega
theorem simsV_app (S R : List Sim) : simsV S ++ simsV R = simsV (S ++ R) := by unfold simsV; rw [List.flatMap_append]
theorem simsV_get (S : List Sim) : ∀ {j r : Nat}, j < S.length → r < 9 → (simsV S)[j * 9 + r]? = (simC (sm S j)).toList[r]? := by
  unfold simsV
  induction S with
  | nil => intro j r hj; simp at hj
  | cons s S ih =>
    intro j r hj hr
    rw [List.flatMap_cons]
    cases j with
    | zero => rw [Nat.zero_mul, Nat.zero_add, List.getElem?_append_left (by rw [simC_len]; exact hr)]; rfl
    | succ j =>
      rw [List.getElem?_append_right (by rw [simC_len]; omega), simC_len, show (j + 1) * 9 + r - 9 = j * 9 + r by omega]
      exact ih (by simpa using hj) hr
theorem simsV_one (S : List Sim) : ∀ u ∈ simsV S, u.oneCell' = true := by
  intro u hu
  unfold simsV at hu
  obtain ⟨s, -, h⟩ := List.mem_flatMap.1 hu
  unfold simC at h
  simp only [List.mem_cons, List.not_mem_nil, or_false] at h
  rcases h with rfl | rfl | rfl | rfl | rfl | rfl | rfl | rfl | rfl <;> rfl
def OwnSm (w : World) (base : Nat) (v : Value) (S : List Sim) : Prop := w.ownsRow base 41 9 v S.length (simsV S)
theorem OwnSm.nil (w : World) (base : Nat) : OwnSm w base (.slice none 0 0) [] := World.ownsRow_nil _ _ _ _
theorem OwnSm.below {w w' : World} {base : Nat} {v : Value} {S : List Sim} (h : OwnSm w base v S) (hb : Below w.heap.size w w') : OwnSm w' base v S := own_below h hb
theorem OwnSm.isSims {w : World} {base : Nat} {v : Value} {S : List Sim} (h : OwnSm w base v S) (hn : S.length ≤ 1000000) : ∃ A c, v = .slice A S.length c ∧ S.length ≤ c ∧ c ≤ maxLen ∧ IsSims w A S.length S := by
  have h0 := h
  rcases h.2 with ⟨hv, e⟩ | ⟨g, cap, cur, hv, hb, hg, hnc, hm, hcs, ht⟩
  · exact ⟨none, 0, by rw [hv, e], by omega, by unfold maxLen; omega, rfl, by omega, fun h => absurd h (by omega)⟩
  · refine ⟨some ⟨g, 0, none⟩, cap, hv, hnc, hm, rfl, by omega, fun _ => ⟨g, 0, rfl, blk_lt hg, fun j hj => ?_⟩⟩
    subst hv
    have c : ∀ r, r < 9 → w.cell? ⟨g, j * 9 + r, none⟩ = (simC (sm S j)).toList[r]? := fun r hr => by
      rw [World.ownsRow.cellAt h0 (j * 9 + r) (by omega)]
      exact simsV_get S hj hr
    rw [Nat.zero_add]
    exact ⟨c 0 (by omega), c 1 (by omega), c 2 (by omega), c 3 (by omega), c 4 (by omega), c 5 (by omega), c 6 (by omega), c 7 (by omega), c 8 (by omega)⟩
theorem info_simO : (Tryz.prog.info? 41).map (fun i => (i.zero, i.size, i.bytes)) = some (some (.agg #[.int .u8 0, .string .empty, .int .u8 0, .string .empty, .bool false, .int .i64 0, .int .i64 0, .bool false, .slice none 0 0]), 9, 104) := by kernel_rfl
/-- The cells of a compound. -/
structure Duo where
  tag : ByteArray
  SA : Option Addr
  sn : Nat
  sc : Nat
instance : Inhabited Duo := ⟨⟨.empty, none, 0, 0⟩⟩
def duoC (t : Duo) : Array Value := #[.string t.tag, .slice t.SA t.sn t.sc]
def du (l : List Duo) (j : Nat) : Duo := l.getD j default
def duos (S : List Duo) : List Value := S.flatMap fun s => (duoC s).toList
theorem duoC_len (s : Duo) : (duoC s).toList.length = 2 := rfl
theorem duos_len (S : List Duo) : (duos S).length = S.length * 2 := by
  unfold duos
  induction S with
  | nil => rfl
  | cons s S ih => rw [List.flatMap_cons, List.length_append, ih, duoC_len, List.length_cons]; omega
theorem duos_app (S R : List Duo) : duos S ++ duos R = duos (S ++ R) := by unfold duos; rw [List.flatMap_append]
theorem duos_get (S : List Duo) : ∀ {j r : Nat}, j < S.length → r < 2 → (duos S)[j * 2 + r]? = (duoC (du S j)).toList[r]? := by
  unfold duos
  induction S with
  | nil => intro j r hj; simp at hj
  | cons s S ih =>
    intro j r hj hr
    rw [List.flatMap_cons]
    cases j with
    | zero => rw [Nat.zero_mul, Nat.zero_add, List.getElem?_append_left (by rw [duoC_len]; exact hr)]; rfl
    | succ j =>
      rw [List.getElem?_append_right (by rw [duoC_len]; omega), duoC_len, show (j + 1) * 2 + r - 2 = j * 2 + r by omega]
      exact ih (by simpa using hj) hr
theorem duos_one (S : List Duo) : ∀ u ∈ duos S, u.oneCell' = true := by
  intro u hu
  unfold duos at hu
  obtain ⟨s, -, h⟩ := List.mem_flatMap.1 hu
  unfold duoC at h
  simp only [List.mem_cons, List.not_mem_nil, or_false] at h
  rcases h with rfl | rfl <;> rfl
def OwnC (w : World) (base : Nat) (v : Value) (S : List Duo) : Prop := w.ownsRow base 70 2 v S.length (duos S)
theorem OwnC.nil (w : World) (base : Nat) : OwnC w base (.slice none 0 0) [] := World.ownsRow_nil _ _ _ _
theorem OwnC.below {w w' : World} {base : Nat} {v : Value} {S : List Duo} (h : OwnC w base v S) (hb : Below w.heap.size w w') : OwnC w' base v S := own_below h hb
/-- The cells say what the compounds are. -/
structure DuoRel {X : Type} (V : Lies X) (w : World) (t : Duo) (c : CompX X) : Prop where
  tag : t.tag = c.tag
  ln : t.sn = c.sims.length
  row : IsSimL V w t.SA t.sn c.sims
  cap : t.sn ≤ t.sc ∧ t.sc ≤ 9223372036854775807
  ts : t.tag.size ≤ 9223372036854775807
theorem DuoRel.below {X : Type} {V : Lies X} (hV : Stays V) {w w' : World} {t : Duo} {c : CompX X} (h : DuoRel V w t c) (hb : Below w.heap.size w w') : DuoRel V w' t c := { h with row := h.row.below hV hb }
def FitC {X : Type} (V : Lies X) (w : World) (S : List Duo) (l : List (CompX X)) : Prop := S.length = l.length ∧ ∀ j, j < S.length → DuoRel V w (du S j) (px l j)
theorem FitC.nil {X : Type} (V : Lies X) (w : World) : FitC V w [] [] := ⟨rfl, fun j hj => absurd hj (by simp)⟩
theorem FitC.below {X : Type} {V : Lies X} (hV : Stays V) {w w' : World} {S : List Duo} {l : List (CompX X)} (h : FitC V w S l) (hb : Below w.heap.size w w') : FitC V w' S l := ⟨h.1, fun j hj => (h.2 j hj).below hV hb⟩
theorem getD_push {I : Type} [Inhabited I] (S : List I) (t : I) : (∀ j, j < S.length → (S ++ [t]).getD j default = S.getD j default) ∧ (S ++ [t]).getD S.length default = t := by
  refine ⟨fun j hj => ?_, ?_⟩
  · rw [List.getD_eq_getElem?_getD, List.getElem?_append_left hj, List.getD_eq_getElem?_getD]
  · rw [List.getD_eq_getElem?_getD, List.getElem?_append_right (Nat.le_refl _)]; simp
theorem FitC.push {X : Type} {V : Lies X} {w : World} {S : List Duo} {l : List (CompX X)} (h : FitC V w S l) {t : Duo} {c : CompX X} (hc : DuoRel V w t c) : FitC V w (S ++ [t]) (l ++ [c]) := by
  refine ⟨by simp [h.1], fun j hj => ?_⟩
  rw [List.length_append, List.length_singleton] at hj
  unfold du px
  by_cases hlt : j < S.length
  · rw [(getD_push S t).1 j hlt, (getD_push l c).1 j (by rw [← h.1]; exact hlt)]
    exact h.2 j hlt
  · obtain rfl : j = S.length := by omega
    rw [(getD_push S t).2, h.1, (getD_push l c).2]
    exact hc
theorem OwnC.isParts {X : Type} {V : Lies X} {w : World} {base : Nat} {v : Value} {S : List Duo} {l : List (CompX X)} (h : OwnC w base v S) (hf : FitC V w S l) (hn : S.length ≤ 1000000) : ∃ A c, v = .slice A S.length c ∧ S.length ≤ c ∧ c ≤ 9223372036854775807 ∧ IsParts V w A S.length l := by
  have h0 := h
  rcases h.2 with ⟨hv, e⟩ | ⟨g, cap, cur, hv, hb, hg, hnc, hm, hcs, ht⟩
  · refine ⟨none, 0, by rw [hv, e], by omega, by omega, hf.1.symm, by omega, fun h => absurd h (by omega)⟩
  · refine ⟨some ⟨g, 0, none⟩, cap, hv, hnc, by unfold maxLen at hm; omega, hf.1.symm, by omega, fun _ => ⟨g, 0, fun j => (du S j).SA, fun j => (du S j).sc, rfl, blk_lt hg, fun j hj => ?_, fun j hj => ?_, fun j hj => ?_⟩⟩
    all_goals subst hv
    all_goals have c : ∀ r, r < 2 → w.cell? ⟨g, j * 2 + r, none⟩ = (duoC (du S j)).toList[r]? := fun r hr => (World.ownsRow.cellAt h0 (j * 2 + r) (by omega)).trans (duos_get S hj hr)
    all_goals have hr := hf.2 j hj
    · rw [Nat.zero_add, ← hr.tag]
      exact c 0 (by omega)
    · rw [Nat.zero_add, ← hr.ln]
      exact c 1 (by omega)
    · rw [← hr.ln, ← hr.tag]
      exact ⟨hr.row, hr.cap.1, hr.cap.2, hr.ts⟩
theorem info_compO : (Tryz.prog.info? 70).map (fun i => (i.zero, i.size, i.bytes)) = some (some (.agg #[.string .empty, .slice none 0 0]), 2, 40) := by kernel_rfl
theorem duo_at {w : World} {g : Nat} {t : Duo} (hg : w.heap[g]? = some (.cells (duoC t) 70 (0, 0))) : ∀ j u, (duos [t])[j]? = some u → w.cell? ((⟨g, 0, none⟩ : Addr).add j) = some u := fun j u hj => by
  have hj3 : j < 2 := by
    rcases Nat.lt_or_ge j 2 with h | h
    · exact h
    · rw [List.getElem?_eq_none (by rw [duos_len]; simpa using h)] at hj; cases hj
  rw [add_plain, Nat.zero_add, blk_cell hg]
  have h2 := duos_get [t] (j := 0) (r := j) (by simp) hj3
  rw [Nat.zero_mul, Nat.zero_add] at h2
  rw [h2] at hj
  rw [← Array.getElem?_toList]
  exact hj
theorem sim_at {w : World} {g : Nat} {t : Sim} (hg : w.heap[g]? = some (.cells (simC t) 41 (0, 0))) : ∀ j u, (simsV [t])[j]? = some u → w.cell? ((⟨g, 0, none⟩ : Addr).add j) = some u := fun j u hj => by
  have hj3 : j < 9 := by
    rcases Nat.lt_or_ge j 9 with h | h
    · exact h
    · rw [List.getElem?_eq_none (by rw [simsV_len]; simpa using h)] at hj; cases hj
  rw [add_plain, Nat.zero_add, blk_cell hg]
  have h2 := simsV_get [t] (j := 0) (r := j) (by simp) hj3
  rw [Nat.zero_mul, Nat.zero_add] at h2
  rw [h2] at hj
  rw [← Array.getElem?_toList]
  exact hj
section
variable {W : World} {ops : Array Oper} {rest : List Oper} {o : Oper} {a : Act} {Q : Exit → Act → World → Prop}
/-- append of one compound in a block of its own to a list of the call's own. -/
theorem wpList_appC (hgd : o.guard = none) (s x : Operand) (ho : o.op = .call { callee := .builtin .append, args := #[s, x], argTypes := #[59, 59] })
    {base : Nat} {v : Value} {S : List Duo} (hown : OwnC W base v S) (t : Duo) (g : Nat) (hs : a.eval s = v) (hx : a.eval x = .slice (some ⟨g, 0, none⟩) 1 1)
    (hg : W.heap[g]? = some (.cells (duoC t) 70 (0, 0))) (hn : S.length ≤ 1000000) (hbase : base ≤ W.heap.size)
    (h : ∀ A' c' w', OwnC w' base (.slice A' (S.length + 1) c') (S ++ [t]) → Grow0 W w' base v (.slice A' (S.length + 1) c') → wpList Tryz.prog ops Q rest (a.put o.dst (.slice A' (S.length + 1) c')) w') :
    wpList Tryz.prog ops Q (o :: rest) a W := by
  obtain ⟨i0, hI, hz0, hz1, hz2⟩ := info_parts info_compO
  refine wpList_append_mine hgd s x 59 ho 70 i0 _ 2 40 Tryz.underlying59 hI hz0 hz1 hz2 rfl (by decide) hown hs ⟨g, 0, none⟩ 1 1 (duos [t]) hx rfl (duo_at hg) (duos_one _) (by decide) (by unfold maxLen; omega) (by omega) hbase ?_
  intro v' w' hown' hgr hw
  obtain ⟨A', c', rfl, _, _⟩ := sl_of_own hown'
  refine h A' c' w' ?_ (grow0_of hown hbase hgr hw)
  unfold OwnC
  rw [List.length_append, ← duos_app]
  exact hown'
theorem wpList_appS (hgd : o.guard = none) (s x : Operand) (ho : o.op = .call { callee := .builtin .append, args := #[s, x], argTypes := #[68, 68] })
    {base : Nat} {v : Value} {S : List Sim} (hown : OwnSm W base v S) (t : Sim) (g : Nat) (hs : a.eval s = v) (hx : a.eval x = .slice (some ⟨g, 0, none⟩) 1 1)
    (hg : W.heap[g]? = some (.cells (simC t) 41 (0, 0))) (hn : S.length ≤ 1000000) (hbase : base ≤ W.heap.size)
    (h : ∀ A' c' w', OwnSm w' base (.slice A' (S.length + 1) c') (S ++ [t]) → Grow0 W w' base v (.slice A' (S.length + 1) c') → wpList Tryz.prog ops Q rest (a.put o.dst (.slice A' (S.length + 1) c')) w') :
    wpList Tryz.prog ops Q (o :: rest) a W := by
  obtain ⟨i0, hI, hz0, hz1, hz2⟩ := info_parts info_simO
  refine wpList_append_mine hgd s x 68 ho 41 i0 _ 9 104 Tryz.underlying68 hI hz0 hz1 hz2 rfl (by decide) hown hs ⟨g, 0, none⟩ 1 1 (simsV [t]) hx rfl (sim_at hg) (simsV_one _) (by decide) (by unfold maxLen; omega) (by omega) hbase ?_
  intro v' w' hown' hgr hw
  obtain ⟨A', c', rfl, _, _⟩ := sl_of_own hown'
  refine h A' c' w' ?_ (grow0_of hown hbase hgr hw)
  unfold OwnSm
  rw [List.length_append, ← simsV_app]
  exact hown'
end
/-- Simple selectors of the call's own, as a list over X. -/
def FitS {X : Type} (V : Lies X) (w : World) (S : List Sim) (l : List (SimX X)) : Prop := S.length = l.length ∧ ∀ j, j < S.length → SimRel V w (sm S j) (sy l j)
theorem FitS.nil {X : Type} (V : Lies X) (w : World) : FitS V w [] [] := ⟨rfl, fun j hj => absurd hj (by simp)⟩
theorem FitS.below {X : Type} {V : Lies X} (hV : Stays V) {w w' : World} {S : List Sim} {l : List (SimX X)} (h : FitS V w S l) (hb : Below w.heap.size w w') : FitS V w' S l := ⟨h.1, fun j hj => (h.2 j hj).below hV hb⟩
theorem FitS.push {X : Type} {V : Lies X} {w : World} {S : List Sim} {l : List (SimX X)} (h : FitS V w S l) {t : Sim} {c : SimX X} (hc : SimRel V w t c) : FitS V w (S ++ [t]) (l ++ [c]) := by
  refine ⟨by simp [h.1], fun j hj => ?_⟩
  rw [List.length_append, List.length_singleton] at hj
  unfold sm sy
  by_cases hlt : j < S.length
  · rw [(getD_push S t).1 j hlt, (getD_push l c).1 j (by rw [← h.1]; exact hlt)]
    exact h.2 j hlt
  · obtain rfl : j = S.length := by omega
    rw [(getD_push S t).2, h.1, (getD_push l c).2]
    exact hc
theorem OwnSm.isSimL {X : Type} {V : Lies X} {w : World} {base : Nat} {v : Value} {S : List Sim} {l : List (SimX X)} (h : OwnSm w base v S) (hf : FitS V w S l) (hn : S.length ≤ 1000000) : ∃ A c, v = .slice A S.length c ∧ S.length ≤ c ∧ c ≤ 9223372036854775807 ∧ IsSimL V w A S.length l := by
  obtain ⟨A, c, h1, h2, h3, h4⟩ := h.isSims hn
  exact ⟨A, c, h1, h2, by unfold maxLen at h3; omega, hf.1.symm, S, h4, hf.2⟩
end Go.Proofs.YtljloicgjgbplaaGreat
