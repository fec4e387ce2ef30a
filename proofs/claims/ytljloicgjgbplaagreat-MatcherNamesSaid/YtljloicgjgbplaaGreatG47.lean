/- Rows of complex selectors that are laid together from a list; what they match, and whether they are right. No condition but that they are not great. -/
import Derived.Test.YtljloicgjgbplaaGreatG43
import Derived.Test.YtljloicgjgbplaaGreatG46
namespace Go.Proofs.YtljloicgjgbplaaGreat
open Go.RowKit

/-- The cells of a list. -/
theorem IsRow.trips {X : Type} {V : Lies X} {w : World} {A : Option Addr} {n : Nat} {l : List X} (h : IsRow V w A n l) : ∃ S : List Trip, S.length = n ∧ Fit V w S l ∧ (0 < n → ∃ b off, A = some ⟨b, off, none⟩ ∧ b < w.heap.size ∧ ∀ j u, (trips S)[j]? = some u → w.cell? ⟨b, off + j, none⟩ = some u) := by
  obtain ⟨hl, hn, ho⟩ := h
  rcases Nat.eq_zero_or_pos n with h0 | h0
  · exact ⟨[], h0.symm, ⟨by rw [hl, h0]; rfl, fun j x hx => by rw [List.getElem?_eq_none (by omega)] at hx; cases hx⟩, fun h => absurd h (by omega)⟩
  · obtain ⟨b, off, hA, hb, hc⟩ := ho h0
    have hex : ∀ j, j < n → ∃ t : Trip, (∀ r, r < 3 → w.cell? ⟨b, off + j * 3 + r, none⟩ = (tripC t).toList[r]?) ∧ ∀ x, l[j]? = some x → V w t.ld t.PA t.pn t.pc t.KA t.kn t.kc x := fun j hj => by
      obtain ⟨ld, PA, pn, pc, KA, kn, kc, c0, c1, c2, hv⟩ := hc j _ (List.getElem?_eq_getElem (by omega))
      refine ⟨⟨ld, PA, pn, pc, KA, kn, kc⟩, fun r hr => ?_, fun x hx => ?_⟩
      · obtain rfl | rfl | rfl : r = 0 ∨ r = 1 ∨ r = 2 := by omega
        · exact c0
        · exact c1
        · exact c2
      · rw [List.getElem?_eq_getElem (by omega)] at hx
        injection hx with hx
        subst hx
        exact hv
    obtain ⟨f, hf⟩ := Go.Deep.choose_lt hex
    have ht : ∀ j, j < n → tp ((List.range n).map f) j = f j := fun j hj => by simp [tp, hj]
    refine ⟨(List.range n).map f, by simp, ⟨by simp [hl], fun j x hx => ?_⟩, fun _ => ⟨b, off, hA, hb, fun j u hj => ?_⟩⟩
    · have hjn : j < n := by
        rcases Nat.lt_or_ge j n with h1 | h1
        · exact h1
        · rw [List.getElem?_eq_none (by omega)] at hx; cases hx
      rw [ht j hjn]
      exact (hf j hjn).2 x hx
    · have hj3 : j < n * 3 := by
        rcases Nat.lt_or_ge j (n * 3) with h1 | h1
        · exact h1
        · rw [List.getElem?_eq_none (by rw [trips_len]; simpa using h1)] at hj; cases hj
      have e : j = j / 3 * 3 + j % 3 := by omega
      rw [e] at hj ⊢
      rw [trips_get _ (by simp; omega) (by omega), ht _ (by omega)] at hj
      rw [← Nat.add_assoc, (hf (j / 3) (by omega)).1 (j % 3) (by omega)]
      exact hj
theorem trips_drop (S : List Trip) (k j : Nat) : (trips (S.drop k))[j]? = if k ≤ S.length then (trips S)[k * 3 + j]? else none := by
  by_cases hk : k ≤ S.length
  · rw [if_pos hk]
    have h1 : trips S = trips (S.take k) ++ trips (S.drop k) := by rw [trips_app, List.take_append_drop]
    rw [h1, List.getElem?_append_right (by rw [trips_len, List.length_take]; omega), trips_len, List.length_take]
    congr 1
    omega
  · rw [if_neg hk, List.drop_eq_nil_of_le (by omega)]
    rfl
theorem trips_take (S : List Trip) (k j : Nat) (u : Value) (h : (trips (S.take k))[j]? = some u) : (trips S)[j]? = some u := by
  have h1 : trips S = trips (S.take k) ++ trips (S.drop k) := by rw [trips_app, List.take_append_drop]
  have hj : j < (trips (S.take k)).length := by
    rcases Nat.lt_or_ge j (trips (S.take k)).length with h2 | h2
    · exact h2
    · rw [List.getElem?_eq_none h2] at h; cases h
  rw [h1, List.getElem?_append_left hj]
  exact h
theorem Fit.drop {X : Type} {V : Lies X} {w : World} {S : List Trip} {l : List X} (h : Fit V w S l) (k : Nat) : Fit V w (S.drop k) (l.drop k) := by
  refine ⟨by rw [List.length_drop, List.length_drop, h.1], fun j x hx => ?_⟩
  rw [List.getElem?_drop] at hx
  have : tp (S.drop k) j = tp S (k + j) := by unfold tp; rw [List.getD_eq_getElem?_getD, List.getElem?_drop, List.getD_eq_getElem?_getD]
  rw [this]
  exact h.2 _ x hx
theorem Fit.take {X : Type} {V : Lies X} {w : World} {S : List Trip} {l : List X} (h : Fit V w S l) (k : Nat) : Fit V w (S.take k) (l.take k) := by
  refine ⟨by rw [List.length_take, List.length_take, h.1], fun j x hx => ?_⟩
  by_cases hj : j < k
  · rw [List.getElem?_take, if_pos hj] at hx
    have : tp (S.take k) j = tp S j := by unfold tp; rw [List.getD_eq_getElem?_getD, List.getElem?_take, if_pos hj, List.getD_eq_getElem?_getD]
    rw [this]
    exact h.2 _ x hx
  · rw [List.getElem?_take, if_neg hj] at hx; cases hx
theorem Fit.append {X : Type} {V : Lies X} {w : World} {S R : List Trip} {l r : List X} (h : Fit V w S l) (h' : Fit V w R r) : Fit V w (S ++ R) (l ++ r) := by
  refine ⟨by simp [h.1, h'.1], fun j x hx => ?_⟩
  by_cases hj : j < l.length
  · rw [List.getElem?_append_left hj] at hx
    have : tp (S ++ R) j = tp S j := by unfold tp; rw [List.getD_eq_getElem?_getD, List.getElem?_append_left (by rw [h.1]; exact hj), List.getD_eq_getElem?_getD]
    rw [this]
    exact h.2 _ x hx
  · rw [List.getElem?_append_right (by omega)] at hx
    have : tp (S ++ R) j = tp R (j - l.length) := by unfold tp; rw [List.getD_eq_getElem?_getD, List.getElem?_append_right (by rw [h.1]; omega), h.1, List.getD_eq_getElem?_getD]
    rw [this]
    exact h'.2 _ x hx
theorem run_append_none {P : Program} {w : World} (t ty e : TypeId) (i : TypeInfo) (ht : P.underlying t = some (.slice e)) (hi : P.info? e = some i) (g n cap : Nat) (hn : n ≤ cap) (A : Option Addr) (c : Nat) : (Builtin.append_ #[t, t] ty #[.slice (some ⟨g, 0, none⟩) n cap, .slice A 0 c]).run P w = .ok (.slice (some ⟨g, 0, none⟩) n cap) w := by
  cases A <;> simp [Builtin.append_, run_underlying ht, sizeOf, typeInfo, hi, Builtin.lenOf, Builtin.firstCells, hn, storeCells, loadCells, loadCellsFrom]
/-- What an append to a list of the call's own brings. -/
def Laid (base : Nat) (U : World) (n : Nat) (S : List Trip) (v' : Value) (w' : World) : Prop := ∃ g c, v' = .slice (some ⟨g, 0, none⟩) n c ∧ S.length = n ∧ OwnX w' base v' S ∧ n ≤ c ∧ c ≤ 9223372036854775807 ∧ Below base U w'
theorem laid_nil (W : World) (g : Nat) (hg : g = W.heap.size) : Laid W.heap.size W 0 [] (.slice (some ⟨g, 0, none⟩) 0 0) (W.alloc (.cells #[] 62)) := by
  subst hg
  have h := World.ownsRow_lit W (e := 62) (base := W.heap.size) (size := 3) #[] 0 (Nat.le_refl _) (by decide) (by simp)
  exact ⟨_, 0, rfl, rfl, h, Nat.le_refl _, by omega, below_alloc (Below.refl _ _) _⟩
theorem Laid.drew {base : Nat} {U : World} {n : Nat} {S : List Trip} {v' : Value} {w' : World} (h : Laid base U n S v' w') : Laid base U n S v' w'.drew := by
  obtain ⟨g, c, h1, h2, h3, h4, h5, h6⟩ := h
  exact ⟨g, c, h1, h2, h3.below (Below.refl _ _).drew, h4, h5, h6.drew⟩
theorem Laid.alloc {base : Nat} {U : World} {n : Nat} {S : List Trip} {v' : Value} {w' : World} (h : Laid base U n S v' w') (hb : base ≤ w'.heap.size) (o : Obj) : Laid base U n S v' (w'.alloc o) := by
  obtain ⟨g, c, h1, h2, h3, h4, h5, h6⟩ := h
  exact ⟨g, c, h1, h2, h3.below (below_alloc (Below.refl _ _) o), h4, h5, h6.alloc hb o⟩
theorem laid_nil' {base : Nat} {U W : World} (hb : Below base U W) (hs : base ≤ W.heap.size) (g : Nat) (hg : g = W.heap.size) : Laid base U 0 [] (.slice (some ⟨g, 0, none⟩) 0 0) (W.alloc (.cells #[] 62)) := by
  subst hg
  have h := World.ownsRow_lit W (e := 62) (base := base) (size := 3) #[] 0 hs (by decide) (by simp)
  exact ⟨_, 0, rfl, rfl, h, Nat.le_refl _, by omega, hb.alloc hs _⟩
set_option maxRecDepth 100000 in
theorem runX2 (W : World) (ty : TypeId) {base : Nat} {U : World} {n : Nat} {v : Value} {S R : List Trip} (hown : Laid base U n S v W) (A : Option Addr) (m d q : Nat) (hm : R.length = m) (hat : 0 < m → ∃ ad, A = some ad ∧ ∀ j u, (trips R)[j]? = some u → W.cell? (ad.add j) = some u) (hn : n + m ≤ 1000000) (hbase : base ≤ W.heap.size) (hq : n + m = q) :
    ∃ v' w', (Builtin.append_ #[25, 25] ty #[v, .slice A m d]).run Tryz.prog W = .ok v' w' ∧ Laid base U q (S ++ R) v' w' ∧ W.heap.size ≤ w'.heap.size ∧ ∀ k, k < W.heap.size → v.ownBlock ≠ some k → w'.heap[k]? = W.heap[k]? := by
  obtain ⟨i0, hI, hz0, hz1, hz2⟩ := info_parts info_cpxO
  obtain ⟨g, c, rfl, hSn, ho, hc1, hc2, hb⟩ := hown
  subst hq hSn
  rcases Nat.eq_zero_or_pos m with h0 | h0
  · subst h0
    obtain rfl : R = [] := List.eq_nil_of_length_eq_zero hm
    exact ⟨_, _, run_append_none 25 ty 62 i0 Tryz.underlying25 hI g _ c hc1 A d, ⟨g, c, by simp, by simp, by simpa using ho, by simpa using hc1, hc2, hb⟩, Nat.le_refl _, fun _ _ _ => rfl⟩
  · obtain ⟨ad, rfl, hat2⟩ := hat h0
    obtain ⟨v', w', hr, h2, h3, -⟩ := run_append_own (P := Tryz.prog) W base 25 ty 62 i0 _ 3 56 Tryz.underlying25 hI hz0 hz1 hz2 rfl (by decide) _ _ _ ho ad m d (trips R) (by rw [trips_len, hm]) hat2 (trips_one _) (by unfold maxLen; omega) (by omega) hbase
    have hw := append_where Tryz.underlying25 hI hz0 hz1 ho ad m d (trips R) (by rw [trips_len, hm]) hat2 (trips_one _) h0 (by omega) (by rw [hz2]; omega) hr
    have hgr := grow0_of ho hbase h3 hw
    have hown' : OwnX w' base v' (S ++ R) := by
      unfold OwnX
      rw [List.length_append, ← trips_app, hm]
      exact h2
    obtain ⟨g', c', cs', hv', h5, h6, -, -⟩ := own_blk h2 (by omega)
    exact ⟨v', w', hr, ⟨g', c', hv', by rw [List.length_append, hm], hown', h5, by unfold maxLen at h6; omega, hgr.1 _ _ (Nat.le_refl _) hb⟩, hgr.2.1, hgr.2.2.1⟩
theorem runX (W : World) (ty : TypeId) {base : Nat} {U : World} {n : Nat} {v : Value} {S R : List Trip} (hown : Laid base U n S v W) (A : Option Addr) (m d q : Nat) (hm : R.length = m) (hat : 0 < m → ∃ ad, A = some ad ∧ ∀ j u, (trips R)[j]? = some u → W.cell? (ad.add j) = some u) (hn : n + m ≤ 1000000) (hbase : base ≤ W.heap.size) (hq : n + m = q) :
    ∃ v' w', (Builtin.append_ #[25, 25] ty #[v, .slice A m d]).run Tryz.prog W = .ok v' w' ∧ Laid base U q (S ++ R) v' w' := by
  obtain ⟨v', w', h1, h2, -⟩ := runX2 W ty hown A m d q hm hat hn hbase hq
  exact ⟨v', w', h1, h2⟩
theorem Laid.row {X : Type} {V : Lies X} {base : Nat} {U : World} {n : Nat} {S : List Trip} {v' : Value} {w' : World} {l : List X} (h : Laid base U n S v' w') (hf : Fit V w' S l) (hn : n ≤ 1000000) : ∃ A c, v' = .slice A n c ∧ n ≤ c ∧ c ≤ 9223372036854775807 ∧ IsRow V w' A n l := by
  obtain ⟨g, c, h1, rfl, h3, h4, h5, h6⟩ := h
  exact h3.isRow hf hn
section
variable {P : Program} {ops : Array Oper} {o : Oper} {a : Act} {w : World} {Q : Exit → Act → World → Prop}
theorem step_append_R {K : Act → World → Prop} {E : Prop} (hg : o.guard = none) (d x : Operand) (t t' : TypeId) (ho : o.op = .call { callee := .builtin .append, args := #[d, x], argTypes := #[t, t'] }) (v u : Value) (hd : a.eval d = v) (hx : a.eval x = u) {R : Value → World → Prop}
    (hr : ∃ v' w', (Builtin.append_ #[t, t'] o.type #[v, u]).run P w = .ok v' w' ∧ R v' w') (hK : ∀ v' w', R v' w' → K (a.put o.dst v') w') : if Region.wanted o (yielded ops a.tmps) = true then Oper.wp P o a w K Q else E := by
  obtain ⟨v', w', h1, h2⟩ := hr
  exact step_append_run hg d x t t' ho v u hd hx h1 (hK v' w' h2)
end
/-! ## Orders -/
theorem any_perm {X : Type} {p : X → Bool} {l l' : List X} (h : ∀ x, x ∈ l ↔ x ∈ l') : l.any p = l'.any p := by
  rw [Bool.eq_iff_iff, List.any_eq_true, List.any_eq_true]
  exact ⟨fun ⟨x, h1, h2⟩ => ⟨x, (h x).1 h1, h2⟩, fun ⟨x, h1, h2⟩ => ⟨x, (h x).2 h1, h2⟩⟩
theorem inV_perm {T : List ANode} {m : Int} {N : Nat} {l l' : List (SelL N)} (h : ∀ x, x ∈ l ↔ x ∈ l') (i : Nat) : inV T m N l i = inV T m N l' i := any_perm h
theorem all_perm {X : Type} {p : X → Bool} {l l' : List X} (h : ∀ x, x ∈ l ↔ x ∈ l') : l.all p = l'.all p := by
  rw [Bool.eq_iff_iff, List.all_eq_true, List.all_eq_true]
  exact ⟨fun h1 x hx => h1 x ((h x).2 hx), fun h1 x hx => h1 x ((h x).1 hx)⟩
theorem numL_app {X : Type} (N : List X → Nat) (l l' : List (CpxX X)) : numL N (l ++ l') = numL N l + numL N l' := by
  unfold numL
  rw [List.length_append, List.map_append, List.sum_append]
  omega
theorem numV_app : ∀ (N : Nat) (l l' : List (SelL N)), numV N (l ++ l') = numV N l + numV N l'
  | 0, _, _ => rfl
  | N + 1, l, l' => numL_app (X := SelL N) (numV N) l l'
theorem mem_turn {X : Type} (l : List X) (k : Nat) (x : X) : x ∈ l.drop k ++ l.take k ↔ x ∈ l := by
  rw [List.mem_append, Or.comm, ← List.mem_append, List.take_append_drop]
theorem chk_turn {N : Nat} {l : List (SelL N)} (h : chkV N l = 0) (k : Nat) : chkV N (l.drop k ++ l.take k) = 0 := by
  obtain ⟨h1, h2⟩ := chkV_zero.1 h
  refine chkV_zero.2 ⟨?_, ?_⟩
  · unfold fineV at h1 ⊢
    rw [all_perm (mem_turn l k), List.length_append, List.length_drop, List.length_take]
    rw [Bool.and_eq_true, decide_eq_true_eq] at h1 ⊢
    exact ⟨by omega, h1.2⟩
  · rw [numV_app, Nat.add_comm, ← numV_app, List.take_append_drop]
    exact h2
theorem mem_twice {X : Type} {l : List X} {x : X} (hx : x ∈ l) (y : X) : y ∈ l ++ [x] ↔ y ∈ l := by
  rw [List.mem_append, List.mem_singleton]
  exact ⟨fun h => h.elim id (fun e => e ▸ hx), .inl⟩
theorem chk_one {N : Nat} {l : List (SelL N)} (h : chkV N l = 0) {x : SelL N} (hx : x ∈ l) : chkV N [x] = 0 := by
  obtain ⟨h1, h2⟩ := chkV_zero.1 h
  unfold fineV at h1
  rw [Bool.and_eq_true] at h1
  refine chkV_zero.2 ⟨?_, ?_⟩
  · unfold fineV
    simp [List.all_eq_true.1 h1.2 x hx]
  · obtain ⟨a, b, rfl⟩ := List.append_of_mem hx
    rw [numV_app] at h2
    have : numV N (x :: b) = numV N [x] + numV N b := numV_app N [x] b
    omega
theorem in_one {T : List ANode} {m : Int} {N : Nat} {x : SelL N} (i : Nat) : inV T m N [x] i = isI T (csV N) (rwV T m N) x i := by
  unfold inV anyI
  simp
theorem hit_some {T : List ANode} {m : Int} {N : Nat} {l : List (SelL N)} {i k : Nat} {x : SelL N} (h : l[k]? = some x) : hitV T m N l i k = inV T m N [x] i := by
  unfold hitV
  rw [h, in_one]
  rfl
theorem whi_pos (T : List ANode) (m : Int) (N : Nat) (l : List (SelL N)) (i : Nat) : decide (0 < (whiL T m N l i l.length).length) = inV T m N l i := by
  unfold whiL inV anyI
  rw [Bool.eq_iff_iff, decide_eq_true_eq, List.any_eq_true, List.length_map, List.length_pos_iff_exists_mem]
  constructor
  · rintro ⟨k, hk⟩
    obtain ⟨h1, h2⟩ := List.mem_filter.1 hk
    have hk := List.mem_range.1 h1
    unfold hitV at h2
    rw [List.getElem?_eq_getElem hk] at h2
    exact ⟨_, List.getElem_mem hk, h2⟩
  · rintro ⟨x, hx, h⟩
    obtain ⟨k, hk, rfl⟩ := List.getElem_of_mem hx
    refine ⟨k, List.mem_filter.2 ⟨List.mem_range.2 hk, ?_⟩⟩
    unfold hitV
    rw [List.getElem?_eq_getElem hk]
    exact h
/-- The first ones stay the first ones. -/
theorem whi_at (T : List ANode) (m : Int) (N : Nat) (l : List (SelL N)) (i : Nat) {k : Nat} (h : hitV T m N l i k = true) : ∀ {q : Nat}, k < q → (whiL T m N l i k).length < (whiL T m N l i q).length ∧ ix (whiL T m N l i q) (whiL T m N l i k).length = k
  | 0, hq => absurd hq (by omega)
  | q + 1, hq => by
    rw [whiL_succ]
    by_cases hkq : k = q
    · subst hkq
      rw [if_pos h]
      refine ⟨by simp, ?_⟩
      unfold ix
      rw [List.getD_eq_getElem?_getD, List.getElem?_append_right (Nat.le_refl _)]
      simp
    · obtain ⟨h1, h2⟩ := whi_at T m N l i h (q := q) (by omega)
      refine ⟨by rw [List.length_append]; omega, ?_⟩
      unfold ix at h2 ⊢
      rw [List.getD_eq_getElem?_getD, List.getElem?_append_left h1, ← List.getD_eq_getElem?_getD]
      exact h2
end Go.Proofs.YtljloicgjgbplaaGreat
