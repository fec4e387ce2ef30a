/- Lists of complex and simple selectors that the call has made. No condition but that they are not great. -/
import Derived.Test.YtljloicgjgbplaaGreatG41
import Derived.Test.YtljloicgjgbplaaGreatG05
import Derived.Test.YtljloicgjgbplaaGreatG13
namespace Go.Proofs.YtljloicgjgbplaaGreat
open Go.RowKit

/-- What an append to a list of the call's own leaves as it was. -/
def Grow0 (W w' : World) (base : Nat) (v v' : Value) : Prop :=
  (∀ B U, B ≤ base → Below B U W → Below B U w') ∧ W.heap.size ≤ w'.heap.size ∧ (∀ g, g < W.heap.size → v.ownBlock ≠ some g → w'.heap[g]? = W.heap[g]?) ∧ ∀ k, v'.ownBlock = some k → v.ownBlock = some k ∨ W.heap.size ≤ k
theorem grow0_of {W w' : World} {base n size : Nat} {e : TypeId} {v v' : Value} {xs : List Value} (hown : W.ownsRow base e size v n xs) (hbase : base ≤ W.heap.size) (hg : W.grownBy w' v.ownBlock) (hv : v'.ownBlock = v.ownBlock ∨ v'.ownBlock = some W.heap.size) : Grow0 W w' base v v' := by
  have hlt := fun k hk => (World.ownsRow.lt hown k hk).1
  refine ⟨fun B U hB hb => ?_, hg.size, fun g hgl hne => hg.block g hgl (fun e => hne e.symm), fun k hk => ?_⟩
  · exact hb.grown hg (by omega) (fun k hk => by have := hlt k hk; omega)
  · rcases hv with h | h
    · exact .inl (h ▸ hk)
    · rw [h] at hk; injection hk with hk; exact .inr (by omega)
theorem Grow0.own {W w' : World} {base base2 size n : Nat} {e : TypeId} {v v' s : Value} {xs : List Value} (h : Grow0 W w' base v v') (hs : W.ownsRow base2 e size s n xs) (ha : Apart s v) : w'.ownsRow base2 e size s n xs ∧ Apart s v' := by
  refine ⟨⟨hs.1, hs.2.imp id ?_⟩, fun k hk hk' => ?_⟩
  · rintro ⟨g, cap, cur, rfl, hbg, hg, r⟩
    exact ⟨g, cap, cur, rfl, hbg, (h.2.2.1 g (blk_lt hg) (fun e => ha g rfl e)).trans hg, r⟩
  · have hl := (World.ownsRow.lt hs k hk).2
    rcases h.2.2.2 k hk' with h1 | h1
    · exact ha k hk h1
    · omega
/-- The cells of a complex selector. -/
structure Trip where
  ld : Int
  PA : Option Addr
  pn : Nat
  pc : Nat
  KA : Option Addr
  kn : Nat
  kc : Nat
instance : Inhabited Trip := ⟨⟨0, none, 0, 0, none, 0, 0⟩⟩
def tripC (t : Trip) : Array Value := #[.int .u8 t.ld, .slice t.PA t.pn t.pc, .slice t.KA t.kn t.kc]
def tp (l : List Trip) (j : Nat) : Trip := l.getD j default
def trips (S : List Trip) : List Value := S.flatMap fun s => (tripC s).toList
theorem tripC_len (s : Trip) : (tripC s).toList.length = 3 := rfl
theorem trips_len (S : List Trip) : (trips S).length = S.length * 3 := by
  unfold trips
  induction S with
  | nil => rfl
  | cons s S ih => rw [List.flatMap_cons, List.length_append, ih, tripC_len, List.length_cons]; omega
theorem trips_app (S R : List Trip) : trips S ++ trips R = trips (S ++ R) := by unfold trips; rw [List.flatMap_append]
theorem trips_get (S : List Trip) : ∀ {j r : Nat}, j < S.length → r < 3 → (trips S)[j * 3 + r]? = (tripC (tp S j)).toList[r]? := by
  unfold trips
  induction S with
  | nil => intro j r hj; simp at hj
  | cons s S ih =>
    intro j r hj hr
    rw [List.flatMap_cons]
    cases j with
    | zero => rw [Nat.zero_mul, Nat.zero_add, List.getElem?_append_left (by rw [tripC_len]; exact hr)]; rfl
    | succ j =>
      rw [List.getElem?_append_right (by rw [tripC_len]; omega), tripC_len, show (j + 1) * 3 + r - 3 = j * 3 + r by omega]
      exact ih (by simpa using hj) hr
theorem trips_one (S : List Trip) : ∀ u ∈ trips S, u.oneCell' = true := by
  intro u hu
  unfold trips at hu
  obtain ⟨s, -, h⟩ := List.mem_flatMap.1 hu
  unfold tripC at h
  simp only [List.mem_cons, List.not_mem_nil, or_false] at h
  rcases h with rfl | rfl | rfl <;> rfl
def OwnX (w : World) (base : Nat) (v : Value) (S : List Trip) : Prop := w.ownsRow base 62 3 v S.length (trips S)
theorem OwnX.nil (w : World) (base : Nat) : OwnX w base (.slice none 0 0) [] := World.ownsRow_nil _ _ _ _
theorem OwnX.below {w w' : World} {base : Nat} {v : Value} {S : List Trip} (h : OwnX w base v S) (hb : Below w.heap.size w w') : OwnX w' base v S := own_below h hb
/-- The cells say what the selectors are. -/
def Fit {X : Type} (V : Lies X) (w : World) (S : List Trip) (l : List X) : Prop := S.length = l.length ∧ ∀ j x, l[j]? = some x → V w (tp S j).ld (tp S j).PA (tp S j).pn (tp S j).pc (tp S j).KA (tp S j).kn (tp S j).kc x
theorem Fit.below {X : Type} {V : Lies X} (hV : Stays V) {w w' : World} {S : List Trip} {l : List X} (h : Fit V w S l) (hb : Below w.heap.size w w') : Fit V w' S l := ⟨h.1, fun j x hx => hV _ _ _ _ _ _ _ _ _ _ hb (h.2 j x hx)⟩
theorem Fit.nil {X : Type} (V : Lies X) (w : World) : Fit V w [] [] := ⟨rfl, fun j x hx => by simp at hx⟩
theorem tp_app {S : List Trip} {t : Trip} : (∀ j, j < S.length → tp (S ++ [t]) j = tp S j) ∧ tp (S ++ [t]) S.length = t := by
  unfold tp
  refine ⟨fun j hj => ?_, ?_⟩
  · rw [List.getD_eq_getElem?_getD, List.getElem?_append_left hj, List.getD_eq_getElem?_getD]
  · rw [List.getD_eq_getElem?_getD, List.getElem?_append_right (Nat.le_refl _)]; simp
theorem Fit.push {X : Type} {V : Lies X} {w : World} {S : List Trip} {l : List X} (h : Fit V w S l) {t : Trip} {y : X} (hy : V w t.ld t.PA t.pn t.pc t.KA t.kn t.kc y) : Fit V w (S ++ [t]) (l ++ [y]) := by
  refine ⟨by simp [h.1], fun j x hx => ?_⟩
  by_cases hj : j < l.length
  · rw [List.getElem?_append_left hj] at hx
    rw [tp_app.1 j (by rw [h.1]; exact hj)]
    exact h.2 j x hx
  · have hj2 : j = l.length := by
      rcases Nat.lt_or_ge l.length j with h1 | h1
      · rw [List.getElem?_eq_none (by simp; omega)] at hx; cases hx
      · omega
    subst hj2
    rw [List.getElem?_append_right (Nat.le_refl _)] at hx
    simp at hx
    subst hx
    rw [← h.1, tp_app.2]
    exact hy
theorem OwnX.isRow {X : Type} {V : Lies X} {w : World} {base : Nat} {v : Value} {S : List Trip} {l : List X} (h : OwnX w base v S) (hf : Fit V w S l) (hn : S.length ≤ 1000000) : ∃ A c, v = .slice A S.length c ∧ S.length ≤ c ∧ c ≤ 9223372036854775807 ∧ IsRow V w A S.length l := by
  have h0 := h
  rcases h.2 with ⟨hv, e⟩ | ⟨g, cap, cur, hv, hb, hg, hnc, hm, hcs, ht⟩
  · refine ⟨none, 0, by rw [hv, e], by omega, by omega, hf.1.symm, by omega, fun h => absurd h (by omega)⟩
  · refine ⟨some ⟨g, 0, none⟩, cap, hv, hnc, by unfold maxLen at hm; omega, hf.1.symm, by omega, fun _ => ⟨g, 0, rfl, blk_lt hg, fun j x hx => ?_⟩⟩
    subst hv
    have hj : j < S.length := by
      rw [hf.1]
      rcases Nat.lt_or_ge j l.length with h1 | h1
      · exact h1
      · rw [List.getElem?_eq_none h1] at hx; cases hx
    have c : ∀ r, r < 3 → w.cell? ⟨g, j * 3 + r, none⟩ = (tripC (tp S j)).toList[r]? := fun r hr => by
      rw [World.ownsRow.cellAt h0 (j * 3 + r) (by omega)]
      exact trips_get S hj hr
    rw [Nat.zero_add]
    exact ⟨_, _, _, _, _, _, _, c 0 (by omega), c 1 (by omega), c 2 (by omega), hf.2 j x hx⟩
theorem info_cpxO : (Tryz.prog.info? 62).map (fun i => (i.zero, i.size, i.bytes)) = some (some (.agg #[.int .u8 0, .slice none 0 0, .slice none 0 0]), 3, 56) := by kernel_rfl
section
variable {W : World} {ops : Array Oper} {rest : List Oper} {o : Oper} {a : Act} {Q : Exit → Act → World → Prop}
/-- append of a row of complex selectors to one of the call's own. -/
theorem wpList_appX (hgd : o.guard = none) (s x : Operand) (ho : o.op = .call { callee := .builtin .append, args := #[s, x], argTypes := #[25, 25] })
    {base : Nat} {v : Value} {S : List Trip} (hown : OwnX W base v S) (R : List Trip) (ad : Addr) (m c : Nat) (hs : a.eval s = v) (hx : a.eval x = .slice (some ad) m c) (hm : R.length = m) (h0 : 0 < m)
    (hat : ∀ j u, (trips R)[j]? = some u → W.cell? (ad.add j) = some u) (hn : S.length + m ≤ 1000000) (hbase : base ≤ W.heap.size)
    (h : ∀ A' c' w', OwnX w' base (.slice A' (S.length + m) c') (S ++ R) → Grow0 W w' base v (.slice A' (S.length + m) c') → wpList Tryz.prog ops Q rest (a.put o.dst (.slice A' (S.length + m) c')) w') :
    wpList Tryz.prog ops Q (o :: rest) a W := by
  obtain ⟨i0, hI, hz0, hz1, hz2⟩ := info_parts info_cpxO
  refine wpList_append_mine hgd s x 25 ho 62 i0 _ 3 56 Tryz.underlying25 hI hz0 hz1 hz2 rfl (by decide) hown hs ad m c (trips R) hx (by rw [trips_len, hm]) hat (trips_one _) h0 (by unfold maxLen; omega) (by omega) hbase ?_
  intro v' w' hown' hgr hw
  obtain ⟨A', c', rfl, _, _⟩ := sl_of_own hown'
  refine h A' c' w' ?_ (grow0_of hown hbase hgr hw)
  unfold OwnX
  rw [List.length_append, ← trips_app, hm]
  exact hown'
end
theorem trip_at {w : World} {g : Nat} {t : Trip} (hg : w.heap[g]? = some (.cells (tripC t) 62 (0, 0))) : ∀ j u, (trips [t])[j]? = some u → w.cell? ((⟨g, 0, none⟩ : Addr).add j) = some u := fun j u hj => by
  have hj3 : j < 3 := by
    rcases Nat.lt_or_ge j 3 with h | h
    · exact h
    · rw [List.getElem?_eq_none (by rw [trips_len]; simpa using h)] at hj; cases hj
  have e : (⟨g, 0, none⟩ : Addr).add j = ⟨g, j, none⟩ := by unfold Addr.add; split <;> simp_all
  rw [e, blk_cell hg]
  have h2 := trips_get [t] (j := 0) (r := j) (by simp) hj3
  rw [Nat.zero_mul, Nat.zero_add] at h2
  rw [h2] at hj
  rw [← Array.getElem?_toList]
  exact hj
/-- A list of complex selectors that comes back, made by the call or before it. -/
def MadeL {X : Type} (V : Lies X) (w : World) (n : Nat) (l : List X) (e : Ending) (w' : World) : Prop := ∃ A c, e = .returned (.slice A n c) ∧ IsRow V w' A n l ∧ n ≤ c ∧ c ≤ 9223372036854775807 ∧ Below w.heap.size w w'
/-- One simple selector in a block of its own, as a list. -/
theorem simL_at {X : Type} {V : Lies X} {w : World} {g : Nat} {s : Sim} {x : SimX X} (hg : w.heap[g]? = some (.cells (simC s) 41 (0, 0))) (hr : SimRel V w s x) : IsSimL V w (some ⟨g, 0, none⟩) 1 [x] := by
  refine ⟨rfl, [s], ⟨rfl, by omega, fun _ => ⟨g, 0, rfl, blk_lt hg, fun j hj => ?_⟩⟩, fun j hj => ?_⟩
  all_goals obtain rfl : j = 0 := by omega
  · have c := fun r => blk_cell hg r
    exact ⟨c 0, c 1, c 2, c 3, c 4, c 5, c 6, c 7, c 8⟩
  · exact hr
theorem simL_nil {X : Type} (V : Lies X) (w : World) : IsSimL V w none 0 [] := ⟨rfl, [], ⟨rfl, by omega, fun h => absurd h (by omega)⟩, fun j hj => absurd hj (by omega)⟩
/-- One compound in a block of its own, as a list. -/
theorem parts_at {X : Type} {V : Lies X} {w : World} {g : Nat} {tag : ByteArray} {SA : Option Addr} {sn sc : Nat} {l : List (SimX X)} (hg : w.heap[g]? = some (.cells #[.string tag, .slice SA sn sc] 70 (0, 0))) (h : IsSimL V w SA sn l) (hc1 : sn ≤ sc) (hc2 : sc ≤ 9223372036854775807) (ht : tag.size ≤ 9223372036854775807) : IsParts V w (some ⟨g, 0, none⟩) 1 [⟨tag, l⟩] := by
  refine ⟨rfl, by omega, fun _ => ⟨g, 0, fun _ => SA, fun _ => sc, rfl, blk_lt hg, fun j hj => ?_, fun j hj => ?_, fun j hj => ?_⟩⟩
  all_goals obtain rfl : j = 0 := by omega
  · exact blk_cell hg 0
  · show w.cell? _ = some (.slice SA l.length sc)
    rw [h.1]; exact blk_cell hg 1
  · show IsSimL V w SA l.length l ∧ _
    rw [h.1]; exact ⟨h, by show l.length ≤ sc; rw [h.1]; exact hc1, hc2, ht⟩
/-- One complex selector in a block of its own, as a list. -/
theorem cpx_at {X : Type} {V : Lies X} {w : World} {g : Nat} {ld : Int} {PA : Option Addr} {pn pc : Nat} {c : CompX X} (hl8 : 0 ≤ ld ∧ ld ≤ 255) (hg : w.heap[g]? = some (.cells #[.int .u8 ld, .slice PA pn pc, .slice none 0 0] 62 (0, 0))) (hp : IsParts V w PA pn [c]) (hc1 : pn ≤ pc) (hc2 : pc ≤ 9223372036854775807) : IsRow (IsCpx V) w (some ⟨g, 0, none⟩) 1 [⟨ld, [c], []⟩] := by
  refine ⟨rfl, by omega, fun _ => ⟨g, 0, rfl, blk_lt hg, fun j x hx => ?_⟩⟩
  match j, hx with
  | 0, hx =>
    simp at hx
    subst hx
    exact ⟨ld, PA, pn, pc, none, 0, 0, blk_cell hg 0, blk_cell hg 1, blk_cell hg 2, rfl, hl8, hp.1.symm, rfl, hp, isU8_nil w, ⟨hc1, hc2⟩, ⟨Nat.le_refl _, by omega⟩⟩
  | j + 1, hx => simp at hx
end Go.Proofs.YtljloicgjgbplaaGreat
/- Walks: the lists and the tree that chapter 23's laws make. No condition. -/
namespace Go.Proofs.YtljloicgjgbplaaGreat
open Go.RowKit

theorem isAttrs_lit (W : World) (g : Nat) (t : TypeId) (xs : List (ByteArray × ByteArray)) (hn : xs.length ≤ 1000) (hs : ∀ x ∈ xs, x.1.size ≤ 9223372036854775807 ∧ x.2.size ≤ 9223372036854775807) (hg : g = W.heap.size) : IsAttrs (W.alloc (.cells (atts xs).toArray t)) (some ⟨g, 0, none⟩) xs.length xs := by
  subst hg
  refine ⟨rfl, by omega, hs, fun _ => ⟨W.heap.size, 0, rfl, by simp, fun j hj => ?_, fun j hj => ?_⟩⟩
  · rw [Nat.zero_add, World.cell?_alloc_at _ _ _ _ rfl]
    simpa using (atts_get xs j hj).1
  · rw [Nat.zero_add, World.cell?_alloc_at _ _ _ _ rfl]
    simpa using (atts_get xs j hj).2
/-- A list of one complex selector of one compound. -/
def oneL {X : Type} (tag : ByteArray) (l : List (SimX X)) : List (CpxX X) := [⟨0, [⟨tag, l⟩], []⟩]
set_option maxRecDepth 100000 in
theorem one_ok {X : Type} {V : Lies X} (hV : Stays V) (tag : ByteArray) (SA : Option Addr) (sn sc : Nat) (l : List (SimX X)) (w : World) (h : IsSimL V w SA sn l) (hc1 : sn ≤ sc) (hc2 : sc ≤ 9223372036854775807) (ht : tag.size ≤ 9223372036854775807) :
    Calls Tryz.prog 16 #[.string tag, .slice SA sn sc] w (MadeL (IsCpx V) w 1 (oneL tag l)) := by
  have hb1 := below_alloc (Below.refl w.heap.size w) (.cells #[.string tag, .slice SA sn sc] 70)
  have hb2 := below_alloc hb1 (.cells #[.int .u8 0, .slice (some ⟨w.heap.size, 0, none⟩) 1 1, .slice none 0 0] 62)
  have hp := hide (parts_at (V := V) (blk_alloc (blk_new w #[.string tag, .slice SA sn sc] 70) (.cells #[.int .u8 0, .slice (some ⟨w.heap.size, 0, none⟩) 1 1, .slice none 0 0] 62)) (h.below hV hb2) hc1 hc2 ht)
  clear h
  go_enter Tryz.func16, Tryz.ntmps16
  go_wp2
  go_ret
  exact ⟨_, _, rfl, cpx_at (by omega) (blk_at _ _ _ _ (by simp)) hp.out (Nat.le_refl _) (by omega), Nat.le_refl _, by omega, hb2⟩
def exT23 : List ANode := [⟨⟨#[117, 108]⟩, [], -1, [1, 2]⟩, ⟨⟨#[108, 105]⟩, [], 0, [3]⟩, ⟨⟨#[108, 105]⟩, [], 0, []⟩, ⟨⟨#[97]⟩, [(⟨#[104, 114, 101, 102]⟩, .empty)], 1, []⟩]
def MadeT23 (w : World) (e : Ending) (w' : World) : Prop := ∃ (A : Option Addr) (c : Nat), e = .returned (.agg #[.slice A 4 c]) ∧ IsTree w' A 4 exT23 ∧ Below w.heap.size w w'
set_option maxRecDepth 100000 in
theorem example23_ok (w : World) : Calls Tryz.prog 27 #[] w (MadeT23 w) := by
  go_enter Tryz.func27, Tryz.ntmps27
  go_wp2
  refine bodyPost_ret (v := .agg #[.slice (some ⟨w.heap.size + 1 + 1 + 1 + 1, 0, none⟩) 4 4]) (by simp [results, Tryz.results27, go_sem]) rfl ⟨_, _, rfl, ?_, below_alloc (below_alloc (below_alloc (below_alloc (below_alloc (Below.refl _ _) _) _) _) _) _⟩
  have hI1 := (isInts_lit (w.alloc (.cells #[.slice (some ⟨w.heap.size + 1 + 1 + 1 + 1, 0, none⟩) 4 4] 24)) (w.heap.size + 1) 3 [1, 2] (by decide) (by simp))
  refine isTree_lt exT23 rfl (by omega) (by decide) (fun j => if j = 3 then some ⟨w.heap.size + 1 + 1 + 1, 0, none⟩ else none) (fun j => if j = 0 then some ⟨w.heap.size + 1, 0, none⟩ else if j = 1 then some ⟨w.heap.size + 1 + 1, 0, none⟩ else none) (fun j => if j = 3 then 1 else 0) (fun j => if j = 0 then 2 else if j = 1 then 1 else 0) (fun _ => by simp) (fun j hj => ?_) (fun j hj => ?_) (fun j hj => ?_)
  all_goals obtain rfl | rfl | rfl | rfl : j = 0 ∨ j = 1 ∨ j = 2 ∨ j = 3 := by omega
  · exact ⟨blk_cell (blk_at _ _ _ _ (by simp)) _, blk_cell (blk_at _ _ _ _ (by simp)) _, blk_cell (blk_at _ _ _ _ (by simp)) _, blk_cell (blk_at _ _ _ _ (by simp)) _⟩
  · exact ⟨blk_cell (blk_at _ _ _ _ (by simp)) _, blk_cell (blk_at _ _ _ _ (by simp)) _, blk_cell (blk_at _ _ _ _ (by simp)) _, blk_cell (blk_at _ _ _ _ (by simp)) _⟩
  · exact ⟨blk_cell (blk_at _ _ _ _ (by simp)) _, blk_cell (blk_at _ _ _ _ (by simp)) _, blk_cell (blk_at _ _ _ _ (by simp)) _, blk_cell (blk_at _ _ _ _ (by simp)) _⟩
  · exact ⟨blk_cell (blk_at _ _ _ _ (by simp)) _, blk_cell (blk_at _ _ _ _ (by simp)) _, blk_cell (blk_at _ _ _ _ (by simp)) _, blk_cell (blk_at _ _ _ _ (by simp)) _⟩
  · exact ⟨isAttrs_nil _, Nat.le_refl _, by show (0 : Nat) ≤ _; omega⟩
  · exact ⟨isAttrs_nil _, Nat.le_refl _, by show (0 : Nat) ≤ _; omega⟩
  · exact ⟨isAttrs_nil _, Nat.le_refl _, by show (0 : Nat) ≤ _; omega⟩
  · exact ⟨(isAttrs_lit _ _ _ [(⟨#[104, 114, 101, 102]⟩, .empty)] (by decide) (by decide) (by simp)).below (below_alloc (Below.refl _ _) _), Nat.le_refl _, by show (1 : Nat) ≤ _; omega⟩
  · exact ⟨hI1.below (below_alloc (below_alloc (below_alloc (Below.refl _ _) _) _) _), Nat.le_refl _, by show (2 : Nat) ≤ _; omega⟩
  · exact ⟨(isInts_lit _ _ _ [3] (by decide) (by simp)).below (below_alloc (below_alloc (Below.refl _ _) _) _), Nat.le_refl _, by show (1 : Nat) ≤ _; omega⟩
  · exact ⟨isInts_nil _, Nat.le_refl _, by show (0 : Nat) ≤ _; omega⟩
  · exact ⟨isInts_nil _, Nat.le_refl _, by show (0 : Nat) ≤ _; omega⟩
theorem OwnX.setb {w : World} {base : Nat} {v : Value} {S : List Trip} {p : Addr} (h : OwnX w base v S) (hp : p.block < base) (u : Value) : OwnX (w.setCell p u) base v S := ownsRow_setCell_below h hp u
def leadX {X : Type} (ld : Int) (x : CpxX X) : CpxX X := ⟨ld, x.parts, x.combs⟩
def MadeW {X : Type} (V : Lies X) (w : World) (k : Int) (n : Nat) (l : List X) (e : Ending) (w' : World) : Prop :=
  ∃ (A : Option Addr) (c : Nat), e = .returned (.agg #[.int .u8 k, .string ⟨#[]⟩, .int .u8 0, .string ⟨#[]⟩, .bool false, .int .i64 0, .int .i64 0, .bool false, .slice A n c]) ∧ IsRow V w' A n l ∧ n ≤ c ∧ c ≤ 9223372036854775807 ∧ Below w.heap.size w w'
set_option maxRecDepth 100000 in
set_option maxHeartbeats 1000000 in
theorem with_ok {X : Type} {V : Lies X} (hV : Stays V) (k ld : Int) (h8 : 0 ≤ ld ∧ ld ≤ 255) (LA : Option Addr) (ln lc : Nat) (l : List (CpxX X)) (w : World) (hrow0 : IsRow (IsCpx V) w LA ln l) (hln : ln ≤ 1000) :
    Calls Tryz.prog 28 #[.int .u8 k, .int .u8 ld, .slice LA ln lc] w (MadeW (IsCpx V) w k ln (l.map (leadX ld))) := by
  have hll := hrow0.1
  have hrow := hide hrow0
  have hV' := hide hV
  clear hrow0 hV
  have hW1 := below_alloc (Below.refl w.heap.size w) (.cells #[.int .u8 0, .string ⟨#[]⟩, .int .u8 0, .string ⟨#[]⟩, .bool false, .int .i64 0, .int .i64 0, .bool false, .slice none 0 0] 41)
  have hX := blk_new w #[.int .u8 0, .string ⟨#[]⟩, .int .u8 0, .string ⟨#[]⟩, .bool false, .int .i64 0, .int .i64 0, .bool false, .slice none 0 0] 41
  have hlt0 := blk_lt hX
  go_enter Tryz.func28, Tryz.ntmps28
  go_wp2
  generalize w.alloc (.cells #[.int .u8 0, .string ⟨#[]⟩, .int .u8 0, .string ⟨#[]⟩, .bool false, .int .i64 0, .int .i64 0, .bool false, .slice none 0 0] 41) = W0 at *
  go_loopw [7, 8] (fun v s wr => ∃ (q : Nat) (S : List Trip), q ≤ ln ∧ s = .int .i64 q ∧ S.length = q ∧ OwnX wr W0.heap.size v S ∧ Fit (IsCpx V) w S ((l.take q).map (leadX ld)) ∧ Below W0.heap.size W0 wr) (fun _ s _ => ln - (intOf s).toNat)
  case atStart => exact ⟨0, [], Nat.zero_le _, rfl, rfl, OwnX.nil _ _, Fit.nil _ _, Below.refl _ _⟩
  case round =>
    obtain ⟨q, S, hq, rfl, hSl, hown, hfit, hb0⟩ := hrel
    have hb := Below.on hW1 hb0
    by_cases hlt : q < ln
    · obtain ⟨b, off, l0, PA, pn, pc, KA, kn, kc, rfl, hbl, c0, c1, c2, hv⟩ := hrow.out.at hlt hll
      have g0 := cell_later hb c0
      have g1 := cell_later hb c1
      have g2 := cell_later hb c2
      have htk : l.take (q + 1) = l.take q ++ [l[q]'(by omega)] := List.take_succ_eq_append_getElem (by omega)
      generalize l[q] = x at *
      have hw1 := below_alloc (below_alloc (Below.refl wr.heap.size wr) (.cells #[.int .u8 ld, .slice PA pn pc, .slice KA kn kc] 62)) (.cells #[.int .u8 ld, .slice PA pn pc, .slice KA kn kc] 62)
      have hown1 := hown.below hw1
      have hB1 := Below.on hb0 hw1
      have hsz1 := hB1.size
      have hvl : IsCpx V w ld PA pn pc KA kn kc (leadX ld x) := ⟨rfl, h8, hv.lenP, hv.lenK, hv.rowP, hv.rowK, hv.capP, hv.capK⟩
      have hfit2 : Hid (Fit (IsCpx V) w (S ++ [⟨ld, PA, pn, pc, KA, kn, kc⟩]) ((l.take (q + 1)).map (leadX ld))) := by
        show Fit _ _ _ _
        rw [htk, List.map_append]
        exact hfit.push (t := ⟨ld, PA, pn, pc, KA, kn, kc⟩) hvl
      have hta := hide (trip_at (t := ⟨ld, PA, pn, pc, KA, kn, kc⟩) (blk_at (wr.alloc (.cells #[.int .u8 ld, .slice PA pn pc, .slice KA kn kc] 62)) (tripC ⟨ld, PA, pn, pc, KA, kn, kc⟩) 62 (wr.heap.size + 1) (by simp)))
      have hB1' := hide hB1
      clear hown hfit hv c0 c1 c2 hvl hw1 hB1
      go_wp2_with (at_builtin; refine wpList_appX rfl _ _ rfl hown1 [⟨ld, PA, pn, pc, KA, kn, kc⟩] ⟨wr.heap.size + 1, 0, none⟩ 1 1 rfl (by simp [Act.eval]) rfl (by omega) hta.out (by omega) hsz1 ?_)
      intro A5 c5 w5 hown5 hgr
      have hB5 := hide (hgr.1 _ _ (Nat.le_refl _) hB1'.out)
      have hown5' := hide hown5
      clear hgr hown5 hown1 hsz1 htk
      go_wp2
      go_roundw
      case rel => exact ⟨q + 1, S ++ [⟨ld, PA, pn, pc, KA, kn, kc⟩], by omega, by go_num, by simp [hSl], hown5'.out, hfit2.out, hB5.out⟩
      case measure => simp [intOf]; omega
    · obtain rfl : ln = q := by omega
      have hfin : (l.take ln).map (leadX ld) = l.map (leadX ld) := by rw [← hll, List.take_length]
      rw [hfin] at hfit
      have hf := hfit.below (IsCpx.below hV'.out) hb
      obtain ⟨A9, c9, rfl, h91, h92, hr9⟩ := hown.isRow hf (by omega)
      have hX1 := (hb0.block _ hlt0).trans hX
      rw [hSl] at hr9 h91 ⊢
      have hX1' := hide hX1
      have x0 := blk_cell hX1 0
      have x1 := blk_cell hX1 1
      have x2 := blk_cell hX1 2
      have x3 := blk_cell hX1 3
      have x4 := blk_cell hX1 4
      have x5 := blk_cell hX1 5
      have x6 := blk_cell hX1 6
      have x7 := blk_cell hX1 7
      have x8 := blk_cell hX1 8
      have f0 := fun j => blk_frozen hX1 j
      simp only [List.getElem?_toArray, List.getElem?_cons_succ, List.getElem?_cons_zero] at x0 x1 x2 x3 x4 x5 x6 x7 x8
      have hown' := hide hown
      have hfit' := hide hfit
      clear hr9 hX hX1 hf hfit hfin hown
      go_wp2
      have k0 := blk_set hX1'.out 0 (.int .u8 k)
      have k1 := blk_set k0 1 (.string ⟨#[]⟩)
      have k2 := blk_set k1 2 (.int .u8 0)
      have k3 := blk_set k2 3 (.string ⟨#[]⟩)
      have k4 := blk_set k3 4 (.bool false)
      have k5 := blk_set k4 5 (.int .i64 0)
      have k6 := blk_set k5 6 (.int .i64 0)
      have k7 := blk_set k6 7 (.bool false)
      have k8 := blk_set k7 8 (.slice A9 ln c9)
      have hbz := (((((((((Below.refl w.heap.size wr).setCell (p := ⟨w.heap.size, 0, none⟩) (Nat.le_refl _) (.int .u8 k)).setCell (p := ⟨w.heap.size, 1, none⟩) (Nat.le_refl _) (.string ⟨#[]⟩)).setCell (p := ⟨w.heap.size, 2, none⟩) (Nat.le_refl _) (.int .u8 0)).setCell (p := ⟨w.heap.size, 3, none⟩) (Nat.le_refl _) (.string ⟨#[]⟩)).setCell (p := ⟨w.heap.size, 4, none⟩) (Nat.le_refl _) (.bool false)).setCell (p := ⟨w.heap.size, 5, none⟩) (Nat.le_refl _) (.int .i64 0)).setCell (p := ⟨w.heap.size, 6, none⟩) (Nat.le_refl _) (.int .i64 0)).setCell (p := ⟨w.heap.size, 7, none⟩) (Nat.le_refl _) (.bool false)).setCell (p := ⟨w.heap.size, 8, none⟩) (Nat.le_refl _) (.slice A9 ln c9)
      have hownF := hide (OwnX.setb (p := ⟨w.heap.size, 8, none⟩) (OwnX.setb (p := ⟨w.heap.size, 7, none⟩) (OwnX.setb (p := ⟨w.heap.size, 6, none⟩) (OwnX.setb (p := ⟨w.heap.size, 5, none⟩) (OwnX.setb (p := ⟨w.heap.size, 4, none⟩) (OwnX.setb (p := ⟨w.heap.size, 3, none⟩) (OwnX.setb (p := ⟨w.heap.size, 2, none⟩) (OwnX.setb (p := ⟨w.heap.size, 1, none⟩) (OwnX.setb (p := ⟨w.heap.size, 0, none⟩) hown'.out hlt0 (.int .u8 k)) hlt0 (.string ⟨#[]⟩)) hlt0 (.int .u8 0)) hlt0 (.string ⟨#[]⟩)) hlt0 (.bool false)) hlt0 (.int .i64 0)) hlt0 (.int .i64 0)) hlt0 (.bool false)) hlt0 (.slice A9 ln c9))
      simp only [List.setIfInBounds_toArray, List.set_cons_zero, List.set_cons_succ] at k8
      clear k0 k1 k2 k3 k4 k5 k6 k7 x0 x1 x2 x3 x4 x5 x6 x7 x8 f0 hX1'
      generalize (((((((((wr.setCell ⟨w.heap.size, 0, none⟩ (.int .u8 k)).setCell ⟨w.heap.size, 1, none⟩ (.string ⟨#[]⟩)).setCell ⟨w.heap.size, 2, none⟩ (.int .u8 0)).setCell ⟨w.heap.size, 3, none⟩ (.string ⟨#[]⟩)).setCell ⟨w.heap.size, 4, none⟩ (.bool false)).setCell ⟨w.heap.size, 5, none⟩ (.int .i64 0)).setCell ⟨w.heap.size, 6, none⟩ (.int .i64 0)).setCell ⟨w.heap.size, 7, none⟩ (.bool false)).setCell ⟨w.heap.size, 8, none⟩ (.slice A9 ln c9)) = WF at *
      have z0 := blk_cell k8 0
      have z1 := blk_cell k8 1
      have z2 := blk_cell k8 2
      have z3 := blk_cell k8 3
      have z4 := blk_cell k8 4
      have z5 := blk_cell k8 5
      have z6 := blk_cell k8 6
      have z7 := blk_cell k8 7
      have z8 := blk_cell k8 8
      simp only [List.getElem?_toArray, List.getElem?_cons_succ, List.getElem?_cons_zero] at z0 z1 z2 z3 z4 z5 z6 z7 z8
      refine bodyPost_ret (v := .agg #[.int .u8 k, .string ⟨#[]⟩, .int .u8 0, .string ⟨#[]⟩, .bool false, .int .i64 0, .int .i64 0, .bool false, .slice A9 ln c9]) (by simp [results, Tryz.results28, go_sem, z0, z1, z2, z3, z4, z5, z6, z7, z8]) rfl ⟨A9, c9, rfl, ?_, h91, h92, hb.trans hbz⟩
      obtain ⟨A8, c8, hv8, -, -, hr8⟩ := hownF.out.isRow (hfit'.out.below (IsCpx.below hV'.out) (hb.trans hbz)) (by omega)
      injection hv8 with e1 e2 e3
      rw [e1, ← hSl]
      exact hr8
end Go.Proofs.YtljloicgjgbplaaGreat
