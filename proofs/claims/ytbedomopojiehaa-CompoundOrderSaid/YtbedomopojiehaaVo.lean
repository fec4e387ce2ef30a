/- Lists of simple selectors that the call has made; a compound whose simple selectors are taken by a list of indices, in plain Lean. No condition but that they are not great. -/
import Derived.Test.YtbedomopojiehaaVk
import Derived.Test.YtbedomopojiehaaMg
namespace Go.Proofs.Ytbedomopojiehaa
open Go.RowKit

/-! ## Plain -/
theorem getD_lt {I : List Nat} {k : Nat} (hk : k < I.length) : I.getD k 0 = I[k] := by
  rw [List.getD_eq_getElem?_getD, List.getElem?_eq_getElem hk]; rfl
theorem all_range {I : List Nat} {f g : Nat → Bool} (h : ∀ k, k < I.length → f k = g (I.getD k 0)) : (List.range I.length).all f = I.all g := by
  rw [Bool.eq_iff_iff, List.all_eq_true, List.all_eq_true]
  constructor
  · intro h1 x hx
    obtain ⟨k, hk, rfl⟩ := List.getElem_of_mem hx
    have := h1 k (List.mem_range.2 hk)
    rw [h k hk, getD_lt hk] at this
    exact this
  · intro h1 k hk
    have hk := List.mem_range.1 hk
    rw [h k hk, getD_lt hk]
    exact h1 _ (List.getElem_mem hk)
theorem sm_map (S : List Sim) {I : List Nat} {k : Nat} (hk : k < I.length) : sm (I.map (sm S)) k = sm S (I.getD k 0) := by
  rw [getD_lt hk]
  unfold sm
  rw [List.getD_eq_getElem?_getD, List.getElem?_map, List.getElem?_eq_getElem hk]
  rfl
theorem bx_mapI (B : List Bool) {I : List Nat} {k : Nat} (hk : k < I.length) : bx (I.map (bx B)) k = bx B (I.getD k 0) := by
  rw [getD_lt hk]
  show (I.map (bx B)).getD k false = _
  rw [List.getD_eq_getElem?_getD, List.getElem?_map, List.getElem?_eq_getElem hk]
  rfl
theorem matC_map (T : List ANode) (j : Nat) (tag : ByteArray) (S : List Sim) (m : Int) (B : List Bool) (I : List Nat) :
    matC T j tag (I.map (sm S)) m (bx (I.map (bx B))) I.length = (tagF T j tag && I.all (oneC T j S m (bx B))) := by
  unfold matC
  congr 1
  refine all_range fun k hk => ?_
  unfold oneC
  rw [sm_map S hk, bx_mapI B hk]
def turnI (n at' : Nat) : List Nat := (List.range n).map fun k => (k + at') % n
theorem okC_map {tag : ByteArray} {S : List Sim} {I : List Nat} (h : okC tag S) (hI : ∀ k ∈ I, k < S.length) (h64 : I.length ≤ 64) (hne : ¬ (tag.size = 0 ∧ I.length = 0)) : okC tag (I.map (sm S)) := by
  obtain ⟨h1, h2, h3, h4⟩ := h
  refine ⟨h1, by rw [List.length_map]; exact h64, by rw [List.length_map]; exact hne, fun j hj => ?_⟩
  rw [List.length_map] at hj
  rw [sm_map S hj]
  exact h4 _ (hI _ (by rw [getD_lt hj]; exact List.getElem_mem hj))
theorem cm_map {T : List ANode} {j : Nat} {tag : ByteArray} {S : List Sim} {m : Int} {B : List Bool} {I : List Nat} {n : Nat} (hn : I.length = n) (ha : askI T [(j : Int)] = 0) (hg : goodB T = true) (hm : modeB T m = true) (ho : okC tag (I.map (sm S))) :
    cmE T j tag (I.map (sm S)) m n = 0 ∧ cmV T j tag (I.map (sm S)) m (I.map (bx B)) n = (tagF T j tag && I.all (oneC T j S m (bx B))) := by
  have e : cmE T j tag (I.map (sm S)) m n = 0 := by
    unfold cmE
    rw [if_pos ha, if_pos (ccE_zero.2 ⟨hg, hm, ho⟩), if_pos (by rw [List.length_map, hn])]
  refine ⟨e, ?_⟩
  unfold cmV
  rw [if_pos e, Int.toNat_natCast, List.length_map, matC_map]
theorem cm_bad {T : List ANode} {j : Nat} {tag : ByteArray} {L : List Sim} {m : Int} {M : List Bool} {n : Nat} (ha : askI T [(j : Int)] = 0) (hg : goodB T = true) (hm : modeB T m = true) (ho : ¬ okC tag L) :
    cmE T j tag L m n = 12 ∧ cmV T j tag L m M n = false := by
  have hc : ccE T tag L m = 12 := by
    unfold ccE
    rw [if_pos hg, if_pos hm, ckC_no ho]
  have e : cmE T j tag L m n = 12 := by
    unfold cmE
    rw [if_pos ha, hc, if_neg (by decide)]
  refine ⟨e, ?_⟩
  unfold cmV
  rw [if_neg (by rw [e]; decide)]
theorem all_turn {n at' : Nat} (h : at' < n) (g : Nat → Bool) : (turnI n at').all g = (List.range n).all g := by
  rw [Bool.eq_iff_iff, List.all_eq_true, List.all_eq_true]
  unfold turnI
  constructor
  · intro h1 x hx
    have hx := List.mem_range.1 hx
    by_cases hle : at' ≤ x
    · refine h1 x (List.mem_map.2 ⟨x - at', List.mem_range.2 (by omega), ?_⟩)
      rw [show x - at' + at' = x by omega, Nat.mod_eq_of_lt hx]
    · refine h1 x (List.mem_map.2 ⟨x + n - at', List.mem_range.2 (by omega), ?_⟩)
      rw [show x + n - at' + at' = x + n by omega, Nat.add_mod_right, Nat.mod_eq_of_lt hx]
  · intro h1 x hx
    obtain ⟨k, hk, rfl⟩ := List.mem_map.1 hx
    exact h1 _ (List.mem_range.2 (Nat.mod_lt _ (by omega)))
theorem all_twice {n at' : Nat} (h : at' < n) (g : Nat → Bool) : (List.range n ++ [at']).all g = (List.range n).all g := by
  rw [Bool.eq_iff_iff, List.all_eq_true, List.all_eq_true]
  constructor
  · exact fun h1 x hx => h1 x (List.mem_append_left _ hx)
  · intro h1 x hx
    rcases List.mem_append.1 hx with hx | hx
    · exact h1 x hx
    · rw [List.mem_singleton.1 hx]; exact h1 _ (List.mem_range.2 h)
theorem all_less {n at' : Nat} {g : Nat → Bool} (h : (List.range n).all g = true) : ((List.range n).filter (fun x => decide (x ≠ at'))).all g = true := by
  rw [List.all_eq_true] at h ⊢
  exact fun x hx => h x (List.mem_filter.1 hx).1

/-! ## Lists of the call's own -/
def simsV (S : List Sim) : List Value := S.flatMap fun s => (simC s).toList
theorem simC_len (s : Sim) : (simC s).toList.length = 9 := rfl
theorem simsV_len (S : List Sim) : (simsV S).length = S.length * 9 := by
  unfold simsV
  induction S with
  | nil => rfl
  | cons s S ih => rw [List.flatMap_cons, List.length_append, ih, simC_len, List.length_cons]; omega
theorem simsV_app (S R : List Sim) : simsV S ++ simsV R = simsV (S ++ R) := by unfold simsV; rw [List.flatMap_append]
theorem simsV_get (S : List Sim) : ∀ {j r : Nat}, j < S.length → r < 9 → (simsV S)[j * 9 + r]? = (simC (sm S j)).toList[r]? := by
  unfold simsV
  induction S with
  | nil => intro j r hj; simp at hj
  | cons s S ih =>
    intro j r hj hr
    rw [List.flatMap_cons]
    cases j with
    | zero => rw [Nat.zero_mul, Nat.zero_add, List.getElem?_append_left (by rw [simC_len]; exact hr)]; rfl
    | succ j =>
      rw [List.getElem?_append_right (by rw [simC_len]; omega), simC_len, show (j + 1) * 9 + r - 9 = j * 9 + r by omega]
      exact ih (by simpa using hj) hr
theorem simsV_one (S : List Sim) : ∀ u ∈ simsV S, u.oneCell' = true := by
  intro u hu
  unfold simsV at hu
  obtain ⟨s, -, h⟩ := List.mem_flatMap.1 hu
  unfold simC at h
  simp only [List.mem_cons, List.not_mem_nil, or_false] at h
  rcases h with rfl | rfl | rfl | rfl | rfl | rfl | rfl | rfl | rfl <;> rfl
def OwnSm (w : World) (base : Nat) (v : Value) (S : List Sim) : Prop := w.ownsRow base 26 9 v S.length (simsV S)
theorem OwnSm.nil (w : World) (base : Nat) : OwnSm w base (.slice none 0 0) [] := World.ownsRow_nil _ _ _ _
theorem OwnSm.below {w w' : World} {base : Nat} {v : Value} {S : List Sim} (h : OwnSm w base v S) (hb : Below w.heap.size w w') : OwnSm w' base v S := own_below h hb
theorem OwnSm.isSims {w : World} {base : Nat} {v : Value} {S : List Sim} (h : OwnSm w base v S) (hn : S.length ≤ 1000000) : ∃ A c, v = .slice A S.length c ∧ S.length ≤ c ∧ c ≤ maxLen ∧ IsSims w A S.length S := by
  have h0 := h
  rcases h.2 with ⟨hv, e⟩ | ⟨g, cap, cur, hv, hb, hg, hnc, hm, hcs, ht⟩
  · exact ⟨none, 0, by rw [hv, e], by omega, by unfold maxLen; omega, rfl, by omega, fun h => absurd h (by omega)⟩
  · refine ⟨some ⟨g, 0, none⟩, cap, hv, hnc, hm, rfl, by omega, fun _ => ⟨g, 0, rfl, blk_lt hg, fun j hj => ?_⟩⟩
    subst hv
    have c : ∀ r, r < 9 → w.cell? ⟨g, j * 9 + r, none⟩ = (simC (sm S j)).toList[r]? := fun r hr => by
      rw [World.ownsRow.cellAt h0 (j * 9 + r) (by omega)]
      exact simsV_get S hj hr
    rw [Nat.zero_add]
    exact ⟨c 0 (by omega), c 1 (by omega), c 2 (by omega), c 3 (by omega), c 4 (by omega), c 5 (by omega), c 6 (by omega), c 7 (by omega), c 8 (by omega)⟩
theorem info_simO : (Try.prog.info? 26).map (fun i => (i.zero, i.size, i.bytes)) = some (some (.agg #[.int .u8 0, .string .empty, .int .u8 0, .string .empty, .bool false, .int .i64 0, .int .i64 0, .bool false, .slice none 0 0]), 9, 104) := by kernel_rfl
/-- What an append to a list of the call's own leaves as it was. -/
def Grow0 (W w' : World) (base : Nat) (v v' : Value) : Prop :=
  (∀ B U, B ≤ base → Below B U W → Below B U w') ∧ W.heap.size ≤ w'.heap.size ∧ (∀ g, g < W.heap.size → v.ownBlock ≠ some g → w'.heap[g]? = W.heap[g]?) ∧ ∀ k, v'.ownBlock = some k → v.ownBlock = some k ∨ W.heap.size ≤ k
theorem grow0_of {W w' : World} {base n size : Nat} {e : TypeId} {v v' : Value} {xs : List Value} (hown : W.ownsRow base e size v n xs) (hbase : base ≤ W.heap.size) (hg : W.grownBy w' v.ownBlock) (hv : v'.ownBlock = v.ownBlock ∨ v'.ownBlock = some W.heap.size) : Grow0 W w' base v v' := by
  have hlt := fun k hk => (World.ownsRow.lt hown k hk).1
  refine ⟨fun B U hB hb => ?_, hg.size, fun g hgl hne => hg.block g hgl (fun e => hne e.symm), fun k hk => ?_⟩
  · exact hb.grown hg (by omega) (fun k hk => by have := hlt k hk; omega)
  · rcases hv with h | h
    · exact .inl (h ▸ hk)
    · rw [h] at hk; injection hk with hk; exact .inr (by omega)
theorem Grow0.own {W w' : World} {base base2 size n : Nat} {e : TypeId} {v v' s : Value} {xs : List Value} (h : Grow0 W w' base v v') (hs : W.ownsRow base2 e size s n xs) (ha : Apart s v) : w'.ownsRow base2 e size s n xs ∧ Apart s v' := by
  refine ⟨⟨hs.1, hs.2.imp id ?_⟩, fun k hk hk' => ?_⟩
  · rintro ⟨g, cap, cur, rfl, hbg, hg, r⟩
    exact ⟨g, cap, cur, rfl, hbg, (h.2.2.1 g (blk_lt hg) (fun e => ha g rfl e)).trans hg, r⟩
  · have hl := (World.ownsRow.lt hs k hk).2
    rcases h.2.2.2 k hk' with h1 | h1
    · exact ha k hk h1
    · omega
section
variable {w W : World} {o : Oper} {a : Act} {Q : Exit → Act → World → Prop} {K : Act → World → Prop}
/-- append to a list of the call's own, as one operation. -/
theorem wp_append_mine {P : Program} (s x : Operand) (t : TypeId) (ho : o.op = .call { callee := .builtin .append, args := #[s, x], argTypes := #[t, t] })
    (e : TypeId) (i : TypeInfo) (z : Value) (size bytes : Nat) (ht : P.underlying t = some (.slice e)) (hi : P.info? e = some i) (hz : i.zero = some z) (hsize : i.size = size) (hby : i.bytes = bytes) (hzs : z.cells.size = size) (hsz : 0 < size)
    {base : Nat} {v : Value} {n : Nat} {xs : List Value} (hown : w.ownsRow base e size v n xs) (hs : a.eval s = v) (ad : Addr) (m c : Nat) (news : List Value) (hx : a.eval x = .slice (some ad) m c) (hl : news.length = m * size) (hnews : ∀ j u, news[j]? = some u → w.cell? (ad.add j) = some u) (h1 : ∀ u ∈ news, u.oneCell' = true) (hm : 0 < m)
    (h63 : n + m ≤ maxLen) (hbytes : (n + m) * bytes ≤ 140737488355328) (hbase : base ≤ w.heap.size)
    (h : ∀ v' w', w'.ownsRow base e size v' (n + m) (xs ++ news) → w.grownBy w' v.ownBlock → (v'.ownBlock = v.ownBlock ∨ v'.ownBlock = some w.heap.size) → K (a.put o.dst v') w') : Oper.wp P o a w K Q := by
  obtain ⟨v', w', hr, h2, h3, -⟩ := run_append_own (P := P) w base t o.type e i z size bytes ht hi hz hsize hby hzs hsz v n xs hown ad m c news hl hnews h1 h63 hbytes hbase
  have hw := append_where ht hi hz hsize hown ad m c news hl hnews h1 hm (by unfold maxLen at h63; omega) (by rw [hby]; exact hbytes) hr
  unfold Oper.wp execOp
  simp only [ho, resolve, invoke, builtin, Sem.run_bind, Sem.run_pure, Result.andThen_ok, List.map_toArray, List.map_cons, List.map_nil, hs, hx, hr]
  exact h v' w' h2 h3 hw
/-- append of one simple selector that lies in a block of its own. -/
theorem wp_pushSm (s x : Operand) (ho : o.op = .call { callee := .builtin .append, args := #[s, x], argTypes := #[58, 58] })
    {base : Nat} {v : Value} {S : List Sim} (hown : OwnSm W base v S) (y : Sim) (g : Nat) (hg : W.heap[g]? = some (.cells (simC y) 26 (0, 0))) (hs : a.eval s = v) (hx : a.eval x = .slice (some ⟨g, 0, none⟩) 1 1)
    (hn : S.length ≤ 1000000) (hbase : base ≤ W.heap.size)
    (h : ∀ A' c' w', OwnSm w' base (.slice A' (S.length + 1) c') (S ++ [y]) → Grow0 W w' base v (.slice A' (S.length + 1) c') → K (a.put o.dst (.slice A' (S.length + 1) c')) w') :
    Oper.wp Try.prog o a W K Q := by
  obtain ⟨i0, hI, hz0, hz1, hz2⟩ := info_parts info_simO
  refine wp_append_mine s x 58 ho 26 i0 _ 9 104 Try.underlying58 hI hz0 hz1 hz2 rfl (by decide) hown hs ⟨g, 0, none⟩ 1 1 (simsV [y]) hx rfl (fun j u hj => ?_) (simsV_one _) (by decide) (by unfold maxLen; omega) (by omega) hbase ?_
  · have hj9 : j < 9 := by
      rcases Nat.lt_or_ge j 9 with h | h
      · exact h
      · rw [List.getElem?_eq_none (by rw [simsV_len]; simpa using h)] at hj; cases hj
    have e : (⟨g, 0, none⟩ : Addr).add j = ⟨g, j, none⟩ := by unfold Addr.add; split <;> simp_all
    rw [e, blk_cell hg]
    have h2 := simsV_get [y] (j := 0) (r := j) (by simp) hj9
    rw [Nat.zero_mul, Nat.zero_add] at h2
    rw [h2] at hj
    rw [← Array.getElem?_toList]
    exact hj
  · intro v' w' hown' hgr hw
    obtain ⟨A', c', rfl, _, _⟩ := sl_of_own hown'
    refine h A' c' w' ?_ (grow0_of hown hbase hgr hw)
    unfold OwnSm
    rw [List.length_append, ← simsV_app]
    exact hown'
/-- append of one truth value that lies in a block of its own. -/
theorem wp_pushB0 (s x : Operand) (ho : o.op = .call { callee := .builtin .append, args := #[s, x], argTypes := #[47, 47] })
    {base : Nat} {v : Value} {B : List Bool} (hown : OwnB W base v B) (y : Bool) (g : Nat) (hg : W.heap[g]? = some (.cells #[.bool y] 4 (0, 0))) (hs : a.eval s = v) (hx : a.eval x = .slice (some ⟨g, 0, none⟩) 1 1)
    (hn : B.length ≤ 1000000) (hbase : base ≤ W.heap.size)
    (h : ∀ A' c' w', OwnB w' base (.slice A' (B.length + 1) c') (B ++ [y]) → Grow0 W w' base v (.slice A' (B.length + 1) c') → K (a.put o.dst (.slice A' (B.length + 1) c')) w') :
    Oper.wp Try.prog o a W K Q := by
  obtain ⟨i0, hI, hz0, hz1, hz2⟩ := info_parts info_bool'
  refine wp_append_mine s x 47 ho 4 i0 (.bool false) 1 1 Try.underlying47 hI hz0 hz1 hz2 rfl (by decide) hown hs ⟨g, 0, none⟩ 1 1 (bools [y]) hx rfl (fun j u hj => ?_) (bools_one _) (by decide) (by unfold maxLen; omega) (by omega) hbase ?_
  · match j, hj with
    | 0, hj =>
      have e : (⟨g, 0, none⟩ : Addr).add 0 = ⟨g, 0, none⟩ := by unfold Addr.add; split <;> simp_all
      rw [e, blk_cell hg]
      exact hj
  · intro v' w' hown' hgr hw
    obtain ⟨A', c', rfl, _, _⟩ := sl_of_own hown'
    refine h A' c' w' ?_ (grow0_of hown hbase hgr hw)
    unfold OwnB
    rw [List.length_append, ← bools_app]
    exact hown'
end
end Go.Proofs.Ytbedomopojiehaa
