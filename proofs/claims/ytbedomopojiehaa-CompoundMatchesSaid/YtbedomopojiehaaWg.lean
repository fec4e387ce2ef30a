/- Walks: the reference's elements above one, top, being below, depth. No condition. -/
import Derived.Test.YtbedomopojiehaaWf
import Derived.Laws.AppendOwnNone
namespace Go.Proofs.Ytbedomopojiehaa
open Go.RowKit

theorem info_int : (Try.prog.info? 3).map (fun i => (i.zero, i.size, i.bytes)) = some (some (.int .i64 0), 1, 8) := by kernel_rfl

def ints (xs : List Int) : List Value := xs.map (Value.int .i64)
theorem ints_get {xs : List Int} {j : Nat} (h : j < xs.length) : (ints xs)[j]? = some (.int .i64 (ix xs j)) := by
  rw [ix_get h]; simp [ints, h]
theorem ints_one (xs : List Int) : ∀ u ∈ ints xs, u.oneCell' = true := by
  intro u hu
  obtain ⟨x, _, rfl⟩ := List.mem_map.1 hu
  rfl
theorem ints_app (xs ys : List Int) : ints xs ++ ints ys = ints (xs ++ ys) := by simp [ints]
theorem isInts_of_own {w : World} {base n : Nat} {v : Value} {xs : List Int} (h : w.ownsRow base 3 1 v n (ints xs)) (hn : n ≤ 9223372036854775807) :
    ∃ A c, v = .slice A n c ∧ n ≤ c ∧ c ≤ maxLen ∧ IsInts w A n xs := by
  have hl : xs.length = n := by have := h.1; simpa [ints] using this
  have h0 := h
  rcases h.2 with ⟨rfl, rfl⟩ | ⟨g, cap, cur, rfl, hb, hg, hnc, hm, hs, ht⟩
  · exact ⟨none, 0, rfl, Nat.le_refl _, by unfold maxLen; omega, hl, hn, fun hh => absurd hh (by omega)⟩
  · refine ⟨_, _, rfl, hnc, hm, hl, hn, fun hh => ⟨g, 0, rfl, ?_, fun j hj => ?_⟩⟩
    · exact (h.lt g rfl).2
    · rw [Nat.zero_add, h0.cellAt j (by omega), ints_get (by omega)]
theorem own_below {w w' : World} {base size n : Nat} {e : TypeId} {v : Value} {xs : List Value} (h : w.ownsRow base e size v n xs) (hb : Below w.heap.size w w') : w'.ownsRow base e size v n xs := by
  refine ⟨h.1, ?_⟩
  rcases h.2 with hn | ⟨g, cap, cur, rfl, hbb, hg, rest⟩
  · exact .inl hn
  · refine .inr ⟨g, cap, cur, rfl, hbb, ?_, rest⟩
    rw [hb.block g (h.lt g rfl).2]; exact hg
theorem below_own {w w1 w2 : World} {base size n : Nat} {e : TypeId} {v : Value} {xs : List Value} (hb : Below w.heap.size w w1) (h : w1.ownsRow base e size v n xs) (hB : w.heap.size ≤ base) (hg : w1.grownBy w2 v.ownBlock) : Below w.heap.size w w2 :=
  hb.grown hg hb.size fun k hk => Nat.le_trans hB (h.lt k hk).1

theorem own_base {w : World} {base base' size n : Nat} {e : TypeId} {v : Value} {xs : List Value} (h : w.ownsRow base' e size v n xs) (hb : base ≤ base') : w.ownsRow base e size v n xs := by
  refine ⟨h.1, ?_⟩
  rcases h.2 with hn | ⟨g, cap, cur, rfl, hbb, rest⟩
  · exact .inl hn
  · exact .inr ⟨g, cap, cur, rfl, Nat.le_trans hb hbb, rest⟩
/-- A cell that lies below a row that is appended to, and the row's new place. -/
theorem cell_grown {w w1 : World} {base size n : Nat} {e : TypeId} {v u : Value} {xs : List Value} {p : Addr} (h : w.ownsRow base e size v n xs) (hg : w.grownBy w1 v.ownBlock) (hp : p.block < base) (hc : w.cell? p = some u) : w1.cell? p = some u :=
  (World.cell?_of_block (hg.block p.block (cell_in hc) (fun e => by have := (h.lt _ e.symm).1; omega))).trans hc

theorem rasked_ok (A : Option Addr) (n c : Nat) (T : List ANode) (i : Int) (w : World) (h : IsTree w A n T) :
    Calls Try.prog 35 #[.agg #[.slice A n c], .int .i64 i] w fun e w' => e = .returned (.int .i64 (askI T [i])) ∧ Below w.heap.size w w' := by
  have hT := hide h
  obtain ⟨hl, hn, -, -⟩ := h
  by_cases hg : goodB T = true
  · have hc0 : chk T = 0 := chk_ok hg
    by_cases hx : 0 ≤ i ∧ i < n
    · have hr : Hid (askI T [i] = 0) := askI_ok hg fun x hx' => by simp at hx'; subst hx'; rw [hl]; exact hx
      obtain ⟨hx1, hx2⟩ := hx
      go_enter Try.func35, Try.ntmps35
      go_wp2_with (go_at_call 30; refine (rcheck_ok _ _ _ T _ (hT.out.below (below_alloc (Below.refl _ _) _))).mono ?_; rintro e w1 ⟨rfl, hb1⟩; have hbox := cell_later hb1 (a := ⟨w.heap.size, 0, none⟩) (v := .slice A n c) (by go_simp))
      go_ret
      exact ⟨ret_int hr.out.symm, Below.on (below_alloc (Below.refl _ _) _) hb1⟩
    · have hr : Hid (askI T [i] = 2) := askI_no hg i (by simp) (by rw [hl]; exact hx)
      have hx' : i < 0 ∨ (0 ≤ i ∧ (n : Int) ≤ i) := by omega
      clear hx
      rcases hx' with h | ⟨h, h'⟩
      all_goals
        go_enter Try.func35, Try.ntmps35
        go_wp2_with (go_at_call 30; refine (rcheck_ok _ _ _ T _ (hT.out.below (below_alloc (Below.refl _ _) _))).mono ?_; rintro e w1 ⟨rfl, hb1⟩; have hbox := cell_later hb1 (a := ⟨w.heap.size, 0, none⟩) (v := .slice A n c) (by go_simp))
        go_ret
        exact ⟨ret_int hr.out.symm, Below.on (below_alloc (Below.refl _ _) _) hb1⟩
  · have hc0 : chk T = 8 := chk_bad hg
    have hr := hide (askI_bad (l := [i]) hg)
    clear hg
    go_enter Try.func35, Try.ntmps35
    go_wp2_with fail
    refine (rcheck_ok _ _ _ T _ (hT.out.below (below_alloc (Below.refl _ _) _))).mono ?_
    rintro e w1 ⟨rfl, hb1⟩
    have hbox := cell_later hb1 (a := ⟨w.heap.size, 0, none⟩) (v := .slice A n c) (by go_simp)
    have hb := Below.on (below_alloc (Below.refl _ _) _) hb1
    go_wp2_with fail
    refine (rcheck_ok _ _ _ T _ (hT.out.below hb)).mono ?_
    rintro e w2 ⟨rfl, hb2⟩
    go_wp2
    go_ret
    exact ⟨ret_int hr.out.symm, Below.on hb hb2⟩

/-- A slice of numbers that the call has made. -/
def MadeInts (w : World) (xs : List Int) (e : Ending) (w' : World) : Prop :=
  ∃ (A : Option Addr) (c : Nat), e = .returned (.slice A xs.length c) ∧ w'.ownsRow w.heap.size 3 1 (.slice A xs.length c) xs.length (ints xs) ∧ Below w.heap.size w w' ∧ (xs = [] → A = none ∧ c = 0) ∧ xs.length ≤ c ∧ c ≤ maxLen ∧ IsInts w' A xs.length xs

theorem ix_last (i : Int) (xs : List Int) : ix (i :: xs) xs.length = (xs.getLast?).getD i := by
  induction xs generalizing i with
  | nil => rfl
  | cons x xs ih => 
    have := ih x
    simp only [ix, List.length_cons, List.getD_cons_succ] at this ⊢
    rw [this, List.getLast?_cons]
    rfl

theorem askI_two_bad (T : List ANode) (i k : Int) (h : askI T [i] ≠ 0) : askI T [i, k] = askI T [i] := by
  by_cases hg : goodB T = true
  · have hi : ¬ (0 ≤ i ∧ i < T.length) := fun hh => h (askI_ok hg (by simpa using hh))
    rw [askI_no hg i (by simp) hi, askI_no hg i (by simp) hi]
  · rw [askI_bad hg, askI_bad hg]
theorem askI_two_ok (T : List ANode) (i k : Int) (h : askI T [i] = 0) : askI T [i, k] = askI T [k] := by
  obtain ⟨hg, hi⟩ := askI_zero.1 h
  by_cases hk : 0 ≤ k ∧ k < T.length
  · rw [askI_ok (l := [i, k]) hg (by simp at hi; simp; exact ⟨hi, hk⟩), askI_ok (l := [k]) hg (by simpa using hk)]
  · rw [askI_no (l := [i, k]) hg k (by simp) hk, askI_no (l := [k]) hg k (by simp) hk]

theorem topF_ix {T : List ANode} (hg : goodB T = true) {i : Nat} (hi : i < T.length) : ix ((i : Int) :: anc T (par T i)) (anc T (par T i)).length = topF T i := by
  rw [ix_last]; unfold topF; rw [anc_cons hg hi, List.getLast?_cons]; rfl

end Go.Proofs.Ytbedomopojiehaa
