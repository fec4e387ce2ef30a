/- Walks: the reference's elements above one, top, being below, depth. No condition. -/
import Derived.Test.YtmdccplhmniiiaaGreatWf
import Derived.Laws.AppendOwnNone
namespace Go.Proofs.YtmdccplhmniiiaaGreat
open Go.RowKit

theorem info_int : (Tryz.prog.info? 3).map (fun i => (i.zero, i.size, i.bytes)) = some (some (.int .i64 0), 1, 8) := by kernel_rfl

def ints (xs : List Int) : List Value := xs.map (Value.int .i64)
theorem ints_get {xs : List Int} {j : Nat} (h : j < xs.length) : (ints xs)[j]? = some (.int .i64 (ix xs j)) := by
  rw [ix_get h]; simp [ints, h]
theorem ints_one (xs : List Int) : ∀ u ∈ ints xs, u.oneCell' = true := by
  intro u hu
  obtain ⟨x, _, rfl⟩ := List.mem_map.1 hu
  rfl
theorem ints_app (xs ys : List Int) : ints xs ++ ints ys = ints (xs ++ ys) := by simp [ints]
theorem isInts_of_own {w : World} {base n : Nat} {v : Value} {xs : List Int} (h : w.ownsRow base 3 1 v n (ints xs)) (hn : n ≤ 9223372036854775807) :
    ∃ A c, v = .slice A n c ∧ n ≤ c ∧ c ≤ maxLen ∧ IsInts w A n xs := by
  have hl : xs.length = n := by have := h.1; simpa [ints] using this
  have h0 := h
  rcases h.2 with ⟨rfl, rfl⟩ | ⟨g, cap, cur, rfl, hb, hg, hnc, hm, hs, ht⟩
  · exact ⟨none, 0, rfl, Nat.le_refl _, by unfold maxLen; omega, hl, hn, fun hh => absurd hh (by omega)⟩
  · refine ⟨_, _, rfl, hnc, hm, hl, hn, fun hh => ⟨g, 0, rfl, ?_, fun j hj => ?_⟩⟩
    · exact (h.lt g rfl).2
    · rw [Nat.zero_add, h0.cellAt j (by omega), ints_get (by omega)]
theorem own_below {w w' : World} {base size n : Nat} {e : TypeId} {v : Value} {xs : List Value} (h : w.ownsRow base e size v n xs) (hb : Below w.heap.size w w') : w'.ownsRow base e size v n xs := by
  refine ⟨h.1, ?_⟩
  rcases h.2 with hn | ⟨g, cap, cur, rfl, hbb, hg, rest⟩
  · exact .inl hn
  · refine .inr ⟨g, cap, cur, rfl, hbb, ?_, rest⟩
    rw [hb.block g (h.lt g rfl).2]; exact hg
theorem below_own {w w1 w2 : World} {base size n : Nat} {e : TypeId} {v : Value} {xs : List Value} (hb : Below w.heap.size w w1) (h : w1.ownsRow base e size v n xs) (hB : w.heap.size ≤ base) (hg : w1.grownBy w2 v.ownBlock) : Below w.heap.size w w2 :=
  hb.grown hg hb.size fun k hk => Nat.le_trans hB (h.lt k hk).1

theorem own_base {w : World} {base base' size n : Nat} {e : TypeId} {v : Value} {xs : List Value} (h : w.ownsRow base' e size v n xs) (hb : base ≤ base') : w.ownsRow base e size v n xs := by
  refine ⟨h.1, ?_⟩
  rcases h.2 with hn | ⟨g, cap, cur, rfl, hbb, rest⟩
  · exact .inl hn
  · exact .inr ⟨g, cap, cur, rfl, Nat.le_trans hb hbb, rest⟩
/-- A cell that lies below a row that is appended to, and the row's new place. -/
theorem cell_grown {w w1 : World} {base size n : Nat} {e : TypeId} {v u : Value} {xs : List Value} {p : Addr} (h : w.ownsRow base e size v n xs) (hg : w.grownBy w1 v.ownBlock) (hp : p.block < base) (hc : w.cell? p = some u) : w1.cell? p = some u :=
  (World.cell?_of_block (hg.block p.block (cell_in hc) (fun e => by have := (h.lt _ e.symm).1; omega))).trans hc

theorem rasked_ok (A : Option Addr) (n c : Nat) (T : List ANode) (i : Int) (w : World) (h : IsTree w A n T) :
    Calls Tryz.prog 61 #[.agg #[.slice A n c], .int .i64 i] w fun e w' => e = .returned (.int .i64 (askI T [i])) ∧ Below w.heap.size w w' := by
  have hT := hide h
  obtain ⟨hl, hn, -, -⟩ := h
  by_cases hg : goodB T = true
  · have hc0 : chk T = 0 := chk_ok hg
    by_cases hx : 0 ≤ i ∧ i < n
    · have hr : Hid (askI T [i] = 0) := askI_ok hg fun x hx' => by simp at hx'; subst hx'; rw [hl]; exact hx
      obtain ⟨hx1, hx2⟩ := hx
      go_enter Tryz.func61, Tryz.ntmps61
      go_wp2_with (go_at_call 8; refine (rcheck_ok _ _ _ T _ (hT.out.below (below_alloc (Below.refl _ _) _))).mono ?_; rintro e w1 ⟨rfl, hb1⟩; have hbox := cell_later hb1 (a := ⟨w.heap.size, 0, none⟩) (v := .slice A n c) (by go_simp))
      go_ret
      exact ⟨ret_int hr.out.symm, Below.on (below_alloc (Below.refl _ _) _) hb1⟩
    · have hr : Hid (askI T [i] = 2) := askI_no hg i (by simp) (by rw [hl]; exact hx)
      have hx' : i < 0 ∨ (0 ≤ i ∧ (n : Int) ≤ i) := by omega
      clear hx
      rcases hx' with h | ⟨h, h'⟩
      all_goals
        go_enter Tryz.func61, Tryz.ntmps61
        go_wp2_with (go_at_call 8; refine (rcheck_ok _ _ _ T _ (hT.out.below (below_alloc (Below.refl _ _) _))).mono ?_; rintro e w1 ⟨rfl, hb1⟩; have hbox := cell_later hb1 (a := ⟨w.heap.size, 0, none⟩) (v := .slice A n c) (by go_simp))
        go_ret
        exact ⟨ret_int hr.out.symm, Below.on (below_alloc (Below.refl _ _) _) hb1⟩
  · have hc0 : chk T = 8 := chk_bad hg
    have hr := hide (askI_bad (l := [i]) hg)
    clear hg
    go_enter Tryz.func61, Tryz.ntmps61
    go_wp2_with fail
    refine (rcheck_ok _ _ _ T _ (hT.out.below (below_alloc (Below.refl _ _) _))).mono ?_
    rintro e w1 ⟨rfl, hb1⟩
    have hbox := cell_later hb1 (a := ⟨w.heap.size, 0, none⟩) (v := .slice A n c) (by go_simp)
    have hb := Below.on (below_alloc (Below.refl _ _) _) hb1
    go_wp2_with fail
    refine (rcheck_ok _ _ _ T _ (hT.out.below hb)).mono ?_
    rintro e w2 ⟨rfl, hb2⟩
    go_wp2
    go_ret
    exact ⟨ret_int hr.out.symm, Below.on hb hb2⟩

/-- A slice of numbers that the call has made. -/
def MadeInts (w : World) (xs : List Int) (e : Ending) (w' : World) : Prop :=
  ∃ (A : Option Addr) (c : Nat), e = .returned (.slice A xs.length c) ∧ w'.ownsRow w.heap.size 3 1 (.slice A xs.length c) xs.length (ints xs) ∧ Below w.heap.size w w' ∧ (xs = [] → A = none ∧ c = 0) ∧ xs.length ≤ c ∧ c ≤ maxLen ∧ IsInts w' A xs.length xs

set_option maxHeartbeats 1000000 in
theorem rup_ok (A : Option Addr) (n c : Nat) (T : List ANode) (i : Nat) (w : World) (h : IsTree w A n T) (hi : i < n) (hg : goodB T = true) :
    Calls Tryz.prog 70 #[.agg #[.slice A n c], .int .i64 i] w (MadeInts w (anc T (par T i))) := by
  obtain ⟨i0, hI, hz0, hz1, hz2⟩ := info_parts info_int
  obtain ⟨hl, hn, -, ho⟩ := h
  obtain ⟨b, off, aA, cA, aC, cC, rfl, hbl, -, -, c2, -, -, -⟩ := ho (by omega)
  have c2' := hide c2
  have gk0 := c2 i hi
  have hg' := hide hg
  have hle : (anc T (par T i)).length ≤ n := by have := anc_le hg (good_par hg (by omega : i < T.length)).2; omega
  have hpk := good_par hg (by omega : i < T.length)
  have hpk' := hide hpk
  have hn64 : n ≤ 64 := by have := ((goodB_iff T).1 hg).2.1; omega
  clear c2 ho hg hpk
  go_enter Tryz.func70, Tryz.ntmps70
  go_wp2
  go_loopw [5, 6] (fun v q wr => ∃ (pre : List Int) (x : Int), wr.ownsRow (w.heap.size + 1) 3 1 v pre.length (ints pre) ∧ q = .int .i64 x ∧ -1 ≤ x ∧ x < n ∧ pre ++ anc T x = anc T (par T i) ∧ Below w.heap.size w wr ∧ wr.cell? ⟨w.heap.size, 0, none⟩ = some (.slice (some ⟨b, off, none⟩) n c) ∧ (pre = [] → v = .slice none 0 0)) (fun _ q _ => (anc T (intOf q)).length)
  case atStart => exact ⟨[], _, World.ownsRow_nil _ _ _ _, rfl, hpk'.out.1, by have := hpk'.out.2; omega, rfl, below_alloc (Below.refl _ _) _, by go_simp, fun _ => rfl⟩
  case round =>
    obtain ⟨pre, x, hown, rfl, hx1, hx2, hm, hb, hbox, hnil⟩ := hrel
    have hm' := hide hm
    have hml : pre.length ≤ n := by have := congrArg List.length hm; simp at this; omega
    have hnil' := hide hnil
    clear hm hnil
    by_cases hx : 0 ≤ x
    · obtain ⟨q, rfl⟩ := Int.eq_ofNat_of_zero_le hx
      have hq : q < n := by omega
      have gq := (old hb _ _ hbl).trans (c2'.out q hq)
      have ht := hide (anc_cons hg'.out (by omega : q < T.length))
      have hp := hide (good_par hg'.out (by omega : q < T.length))
      have hbw : w.heap.size < wr.heap.size := cell_in hbox
      have hbr : b < wr.heap.size := Nat.lt_of_lt_of_le hbl hb.size
      go_wp2_with (at_builtin; refine wpList_append_own _ rfl _ _ 22 rfl (w.heap.size + 1) 3 i0 (.int .i64 0) 1 8 Tryz.underlying22 hI hz0 hz1 hz2 rfl (by decide) _ _ _ rfl (hown.alloc _) ⟨wr.heap.size, 0, none⟩ 1 1 (ints [(q : Int)]) rfl rfl ?c1 ?c2 ?c3 ?c4 ?c5 ?_)
      case c1 =>
        intro j u hj
        match j, hj with
        | 0, hj => simp [ints] at hj; subst hj; simp [Addr.add]
      case c2 => exact ints_one _
      case c3 => unfold maxLen; omega
      case c4 => omega
      case c5 => simp; omega
      · intro v' w1 hown' hgrow hnn
        have hb1 := below_own (below_alloc hb _) (hown.alloc _) (by omega) hgrow
        have hbx1 : w1.cell? ⟨w.heap.size, 0, none⟩ = some (.slice (some ⟨b, off, none⟩) n c) := cell_grown (hown.alloc _) hgrow (by simp) (by go_simp)
        have hgq := (old hb1 _ _ hbl).trans (c2'.out q hq)
        clear hgrow hnn hown hnil'
        go_wp2
        go_roundw
        case rel => exact ⟨pre ++ [(q : Int)], _, by simpa [ints_app] using hown', rfl, hp.out.1, by have := hp.out.2; omega, by rw [← hm'.out, ht.out]; simp, hb1, hbx1, fun h => by simp at h⟩
        case measure => simp only [intOf]; rw [ht.out]; simp
    · have ht := hide (anc_neg (T := T) (x := x) (by omega))
      go_wp2
      go_ret
      have hpe : pre = anc T (par T i) := by rw [← hm'.out, ht.out]; simp
      subst hpe
      obtain ⟨A', c', hv, hc1, hc2, hI'⟩ := isInts_of_own hown (by omega)
      subst hv
      exact ⟨A', c', rfl, own_base hown (by omega), hb, fun h => by have := hnil'.out h; simpa [h] using this, hc1, hc2, hI'⟩

theorem ix_last (i : Int) (xs : List Int) : ix (i :: xs) xs.length = (xs.getLast?).getD i := by
  induction xs generalizing i with
  | nil => rfl
  | cons x xs ih => 
    have := ih x
    simp only [ix, List.length_cons, List.getD_cons_succ] at this ⊢
    rw [this, List.getLast?_cons]
    rfl

theorem runder_ok (A : Option Addr) (n c : Nat) (T : List ANode) (i : Nat) (k : Int) (w : World) (h : IsTree w A n T) (hi : i < n) (hg : goodB T = true) :
    Calls Tryz.prog 51 #[.agg #[.slice A n c], .int .i64 i, .int .i64 k] w fun e w' => e = .returned (.bool (decide (k ∈ anc T (par T i)))) ∧ Below w.heap.size w w' := by
  have hT := hide h
  have hl := h.1
  have hcn := hide (count_anc hg (good_par hg (by omega : i < T.length)).2 k)
  have hg' := hide hg
  clear h hg
  go_enter Tryz.func51, Tryz.ntmps51
  go_wp2_with fail
  refine (rup_ok _ _ _ T i _ (hT.out.below (below_alloc (Below.refl _ _) _)) hi hg'.out).mono ?_
  rintro e w1 ⟨A', c', rfl, hown, hb1, hnil, hc1, hc2, hI⟩
  clear hnil
  go_wp2_with fail
  refine (times_ok _ _ _ _ _ _ hI).mono ?_
  rintro e w2 ⟨rfl, rfl⟩
  go_wp2
  go_ret
  exact ⟨ret_bool (by rw [hcn.out]; by_cases hm : k ∈ anc T (par T i) <;> simp [hm]), Below.on (below_alloc (Below.refl _ _) _) hb1⟩

theorem askI_two_bad (T : List ANode) (i k : Int) (h : askI T [i] ≠ 0) : askI T [i, k] = askI T [i] := by
  by_cases hg : goodB T = true
  · have hi : ¬ (0 ≤ i ∧ i < T.length) := fun hh => h (askI_ok hg (by simpa using hh))
    rw [askI_no hg i (by simp) hi, askI_no hg i (by simp) hi]
  · rw [askI_bad hg, askI_bad hg]
theorem askI_two_ok (T : List ANode) (i k : Int) (h : askI T [i] = 0) : askI T [i, k] = askI T [k] := by
  obtain ⟨hg, hi⟩ := askI_zero.1 h
  by_cases hk : 0 ≤ k ∧ k < T.length
  · rw [askI_ok (l := [i, k]) hg (by simp at hi; simp; exact ⟨hi, hk⟩), askI_ok (l := [k]) hg (by simpa using hk)]
  · rw [askI_no (l := [i, k]) hg k (by simp) hk, askI_no (l := [k]) hg k (by simp) hk]

theorem topF_ix {T : List ANode} (hg : goodB T = true) {i : Nat} (hi : i < T.length) : ix ((i : Int) :: anc T (par T i)) (anc T (par T i)).length = topF T i := by
  rw [ix_last]; unfold topF; rw [anc_cons hg hi, List.getLast?_cons]; rfl

end Go.Proofs.YtmdccplhmniiiaaGreat
/- Walks: is a tree greater than the statements consider. No condition. -/
namespace Go.Proofs.YtmdccplhmniiiaaGreat
open Go.RowKit

def smallN (T : List ANode) (i : Nat) : Prop :=
  (kids T i).length ≤ 70 ∧ (nd T i).attrs.length ≤ 20 ∧ (nd T i).tag.size ≤ 500 ∧ ∀ j, j < (nd T i).attrs.length → (nm (nd T i).attrs j).size ≤ 500 ∧ (vl (nd T i).attrs j).size ≤ 500
instance (T : List ANode) (i : Nat) : Decidable (smallN T i) := by unfold smallN; infer_instance
def smallTB (T : List ANode) : Bool := decide (T.length ≤ 70) && decide (∀ i, i < T.length → smallN T i)
theorem smallTB_iff (T : List ANode) : smallTB T = true ↔ T.length ≤ 70 ∧ ∀ i, i < T.length → smallN T i := by simp only [smallTB, Bool.and_eq_true, decide_eq_true_eq]
theorem small_no {T : List ANode} {i : Nat} (hi : i < T.length) (h : ¬ smallN T i) : smallTB T = false := by
  rw [Bool.eq_false_iff]; intro hc; exact h (((smallTB_iff T).1 hc).2 i hi)

end Go.Proofs.YtmdccplhmniiiaaGreat
