/- Plain laws: a tree in which an element is put elsewhere. No condition but those named. -/
import Derived.Test.YtmdccplhmniiiaaGreatPtk
namespace Go.Proofs.YtmdccplhmniiiaaGreat
open Go.RowKit

/-- The index of a number in a list, or the list's end. -/
def insAt (l : List Int) (nx : Int) : Nat := if posn l nx < 0 then l.length else (posn l nx).toNat
def insB (l : List Int) (x nx : Int) : List Int := l.take (insAt l nx) ++ [x] ++ l.drop (insAt l nx)
def putT (T : List ANode) (p k : Nat) (nx : Int) : List ANode := setP (setK (takenT T k) p (insB (kids (takenT T k) p) k nx)) k p
theorem insAt_le (l : List Int) (nx : Int) : insAt l nx ≤ l.length := by
  unfold insAt
  have := posn_lt l nx
  split <;> omega
theorem insB_len (l : List Int) (x nx : Int) : (insB l x nx).length = l.length + 1 := by
  have := insAt_le l nx
  unfold insB; simp; omega
theorem insB_mem {l : List Int} {x nx y : Int} : y ∈ insB l x nx ↔ y ∈ l ∨ y = x := by
  unfold insB
  rw [List.mem_append, List.mem_append, List.mem_singleton]
  constructor
  · rintro ((h | h) | h)
    · exact .inl (List.mem_of_mem_take h)
    · exact .inr h
    · exact .inl (List.mem_of_mem_drop h)
  · rintro (h | h)
    · rw [← List.take_append_drop (insAt l nx) l, List.mem_append] at h
      rcases h with h | h
      · exact .inl (.inl h)
      · exact .inr h
    · exact .inl (.inr h)
theorem insB_nodup {l : List Int} {x : Int} (nx : Int) (h : l.Nodup) (hx : x ∉ l) : (insB l x nx).Nodup := by
  have hp : (insB l x nx).Perm (x :: l) := by
    unfold insB
    have := List.take_append_drop (insAt l nx) l
    refine (List.perm_append_comm.append_right _).trans ?_
    simp
  exact hp.nodup_iff.2 (List.nodup_cons.2 ⟨hx, h⟩)
theorem less1_insB {l : List Int} {x : Int} (nx : Int) (hx : x ∉ l) : less1 (insB l x nx) x = l := by
  unfold insB
  have e : ∀ m, less1 (l.take m) x = l.take m := fun m => less1_none fun h => hx (List.mem_of_mem_take h)
  have e' : ∀ m, less1 (l.drop m) x = l.drop m := fun m => less1_none fun h => hx (List.mem_of_mem_drop h)
  have := e (insAt l nx)
  have h' := e' (insAt l nx)
  unfold less1 at this h' ⊢
  rw [List.filter_append, List.filter_append, this, h']
  simp
theorem less1_nodup {l : List Int} (h : l.Nodup) (x : Int) : (less1 l x).Nodup := h.filter _
theorem less1_self (l : List Int) (x : Int) : x ∉ less1 l x := fun h => (less1_mem.1 h).2 rfl

section
variable {T : List ANode} {p k : Nat}
theorem putT_len (T : List ANode) (p k : Nat) (nx : Int) : (putT T p k nx).length = T.length := by
  unfold putT setP setK; rw [List.length_set, List.length_set, takenT_len]
theorem nd_put (hp : p < T.length) (hk : k < T.length) (nx : Int) (j : Nat) : nd (putT T p k nx) j = ⟨(nd T j).tag, (nd T j).attrs, if j = k then p else par T j, if j = p then insB (less1 (kids T p) k) k nx else less1 (kids T j) k⟩ := by
  unfold putT setP
  have hl : (setK (takenT T k) p (insB (kids (takenT T k) p) k nx)).length = T.length := by unfold setK; rw [List.length_set, takenT_len]
  rw [nd_set (by rw [hl]; exact hk)]
  unfold setK
  rw [nd_set (by rw [takenT_len]; exact hp), nd_set (by rw [takenT_len]; exact hp), kids_taken hk]
  by_cases hjk : j = k
  · subst hjk
    rw [if_pos rfl, if_pos rfl]
    by_cases hjp : j = p
    · subst hjp
      rw [if_pos rfl, if_pos rfl, nd_taken hk, if_pos rfl]
    · rw [if_neg hjp, if_neg hjp, nd_taken hk, if_pos rfl]
  · rw [if_neg hjk, if_neg hjk]
    by_cases hjp : j = p
    · subst hjp
      rw [if_pos rfl, if_pos rfl, nd_taken hk, if_neg hjk]; rfl
    · rw [if_neg hjp, if_neg hjp, nd_taken hk, if_neg hjk]; rfl
theorem par_put (hp : p < T.length) (hk : k < T.length) (nx : Int) (j : Nat) : par (putT T p k nx) j = if j = k then (p : Int) else par T j := by unfold par; rw [nd_put hp hk]; rfl
theorem kids_put (hp : p < T.length) (hk : k < T.length) (nx : Int) (j : Nat) : kids (putT T p k nx) j = if j = p then insB (less1 (kids T p) k) k nx else less1 (kids T j) k := by unfold kids; rw [nd_put hp hk]; rfl
end

/-! ## No cycle -/
theorem up_len (T : List ANode) : ∀ (m : Nat) (x : Int), up T m x < 0 → up T (ups T m x).length x < 0
  | 0, x, h => by simpa [ups] using h
  | m + 1, x, h => by
    rw [ups]
    split
    · rename_i hx; rw [up_neg _ _ _ hx]; exact hx
    · rename_i hx
      rw [List.length_cons, up, if_neg hx]
      rw [up, if_neg hx] at h
      exact up_len T m _ h
theorem ups_mem_up (T : List ANode) {M : Nat} (hM : ∀ i : Nat, i < T.length → up T M i < 0) (hr : ∀ i, i < T.length → par T i < T.length) : ∀ (m : Nat) (x : Int), x < T.length → ∀ y ∈ ups T m x, 0 ≤ y ∧ y < T.length ∧ (y = x ∨ (ups T M y).length < (ups T M x).length)
  | 0, x, _, y, h => by simp [ups] at h
  | m + 1, x, hx, y, h => by
    rw [ups] at h
    split at h
    · simp at h
    · rename_i h0
      obtain ⟨i, rfl⟩ := Int.eq_ofNat_of_zero_le (by omega : 0 ≤ x)
      rw [Int.toNat_natCast] at h
      rcases List.mem_cons.1 h with h | h
      · exact ⟨by omega, by omega, .inl h⟩
      · have := ups_mem_up T hM hr m (par T i) (hr i (by omega)) y h
        refine ⟨this.1, this.2.1, .inr ?_⟩
        have hs : (ups T M (par T i)).length < (ups T M (i : Int)).length := by
          have h1 := hM i (by omega)
          cases M with
          | zero => simp [up] at h1; omega
          | succ M =>
            rw [up, if_neg h0, Int.toNat_natCast] at h1
            rw [ups_more T M 1 _ h1, ups, if_neg h0, List.length_cons, Int.toNat_natCast]
            omega
        rcases this.2.2 with e | e
        · rw [e]; exact hs
        · omega
theorem ups_nodup (T : List ANode) {M : Nat} (hM : ∀ i : Nat, i < T.length → up T M i < 0) (hr : ∀ i, i < T.length → par T i < T.length) : ∀ (m : Nat) (x : Int), x < T.length → (ups T m x).Nodup
  | 0, x, _ => by simp [ups]
  | m + 1, x, hx => by
    rw [ups]
    split
    · simp
    · rename_i h0
      obtain ⟨i, rfl⟩ := Int.eq_ofNat_of_zero_le (by omega : 0 ≤ x)
      rw [Int.toNat_natCast]
      refine List.nodup_cons.2 ⟨fun h => ?_, ups_nodup T hM hr m _ (hr i (by omega))⟩
      have h1 := hM i (by omega)
      have hs : (ups T M (par T i)).length < (ups T M (i : Int)).length := by
        cases M with
        | zero => simp [up] at h1; omega
        | succ M =>
          rw [up, if_neg h0, Int.toNat_natCast] at h1
          rw [ups_more T M 1 _ h1, ups, if_neg h0, List.length_cons, Int.toNat_natCast]
          omega
      have := (ups_mem_up T hM hr m (par T i) (hr i (by omega)) i h).2.2
      rcases this with e | e
      · rw [← e] at hs; omega
      · omega
/-- Where each way up ends, it ends within as many steps as there are elements. -/
theorem up_short {T : List ANode} {M : Nat} (hM : ∀ i : Nat, i < T.length → up T M i < 0) (hr : ∀ i, i < T.length → par T i < T.length) {i : Nat} (hi : i < T.length) : up T T.length i < 0 := by
  have h1 := up_len T M i (hM i hi)
  refine up_stay T ?_ _ h1
  exact nodup_range_le _ _ (ups_nodup T hM hr M i (by omega)) fun y hy => ⟨(ups_mem_up T hM hr M i (by omega) y hy).1, (ups_mem_up T hM hr M i (by omega) y hy).2.1⟩

section
variable {T : List ANode} {p k : Nat}
/-- What is not below k goes up as before. -/
theorem up_put_off (hg : goodB T = true) (hp : p < T.length) (hk : k < T.length) (nx : Int) (m : Nat) {x : Int} (hx : x < T.length) (hn : (k : Int) ∉ anc T x) : up (putT T p k nx) m x = up T m x := by
  induction m generalizing x with
  | zero => rfl
  | succ m ih =>
    rw [up, up]
    split
    · rfl
    · rename_i h0
      obtain ⟨i, rfl⟩ := Int.eq_ofNat_of_zero_le (by omega : 0 ≤ x)
      have hi : i < T.length := by omega
      rw [anc_cons hg hi, List.mem_cons] at hn
      rw [Int.toNat_natCast, par_put hp hk, if_neg (by omega)]
      exact ih (good_par hg hi).2 (fun h => hn (.inr h))
theorem up_put_on (hg : goodB T = true) (hp : p < T.length) (hk : k < T.length) (nx : Int) (hn : (k : Int) ∉ anc T p) {i : Nat} (hi : i < T.length) (hon : (k : Int) ∈ anc T i) : up (putT T p k nx) ((anc T i).length + 1 + T.length) i < 0 := by
  generalize hm : (anc T (i : Int)).length = m
  induction m using Nat.strongRecOn generalizing i with
  | _ m ih =>
    by_cases hik : i = k
    · subst hik
      refine up_stay _ (show 1 + T.length ≤ _ by omega) _ ?_
      rw [Nat.add_comm 1, up, if_neg (by omega), Int.toNat_natCast, par_put hp hk, if_pos rfl, up_put_off hg hp hk nx _ (by omega) hn]
      exact good_out hg (by omega)
    · have hl := anc_len_lt hg hi
      have hpr := good_par hg hi
      rw [anc_cons hg hi, List.mem_cons] at hon
      have hon' := hon.resolve_left (by omega)
      rcases Int.lt_or_le (par T i) 0 with h0 | h0
      · rw [anc_neg h0] at hon'; simp at hon'
      · obtain ⟨q, hq⟩ := Int.eq_ofNat_of_zero_le h0
        rw [hq] at hon' hl hpr
        have := ih _ (by omega) (i := q) (by omega) hon' rfl
        refine up_stay _ (show (anc T (q : Int)).length + 1 + T.length + 1 ≤ _ by omega) _ ?_
        rw [up, if_neg (by omega), Int.toNat_natCast, par_put hp hk, if_neg hik, hq]
        exact this
theorem good_put (hg : goodB T = true) (hp : p < T.length) (hk : k < T.length) (h1 : 1 ≤ k) (nx : Int) (hn : (k : Int) ∉ anc T p) : goodB (putT T p k nx) = true := by
  have hq := (goodB_iff T).1 hg
  have hpk : p ≠ k := fun e => hn (by rw [e]; exact anc_self_mem hg hk)
  have hM : ∀ i : Nat, i < (putT T p k nx).length → up (putT T p k nx) (T.length + 1 + T.length) i < 0 := fun i hi => by
    rw [putT_len] at hi
    by_cases hon : (k : Int) ∈ anc T i
    · have := anc_le hg (x := (i : Int)) (by omega)
      exact up_stay _ (by omega) _ (up_put_on hg hp hk nx hn hi hon)
    · rw [up_put_off hg hp hk nx _ (by omega) hon]
      exact up_stay _ (show T.length ≤ _ by omega) _ (good_out hg (by omega))
  have hr : ∀ i, i < (putT T p k nx).length → par (putT T p k nx) i < (putT T p k nx).length := fun i hi => by
    rw [putT_len] at hi ⊢
    rw [par_put hp hk]
    have := (good_par hg hi).2
    split <;> omega
  rw [goodB_iff, putT_len]
  refine ⟨hq.1, hq.2.1, fun i hi => ⟨?_, ?_, ?_⟩, fun i hi => ?_⟩
  · rw [nd_put hp hk]; exact (hq.2.2.1 i hi).1
  · rw [nd_put hp hk]; exact (hq.2.2.1 i hi).2.1
  · obtain ⟨g1, g2, g3, g4, g5⟩ := (linkedB_iff T i).1 (hq.2.2.1 i hi).2.2
    rw [linkedB_iff, par_put hp hk, putT_len]
    refine ⟨by split <;> omega, by split <;> omega, fun h => ?_, fun h => ?_, fun j hj => ?_⟩
    · rw [if_neg (by omega)]; exact g3 h
    · by_cases hik : i = k
      · rw [if_pos hik, Int.toNat_natCast, kids_put hp hk, if_pos rfl, insB_mem, hik]
        exact .inr rfl
      · rw [if_neg hik] at h ⊢
        rw [kids_put hp hk]
        have hm := g4 h
        split
        · rename_i e
          rw [insB_mem, less1_mem, ← e]
          exact .inl ⟨hm, by omega⟩
        · rw [less1_mem]; exact ⟨hm, by omega⟩
    · have hm := ix_mem hj
      have hnd : (kids (putT T p k nx) i).Nodup := by
        rw [kids_put hp hk]
        split
        · exact insB_nodup nx (less1_nodup (kids_nodup hg hp) _) (less1_self _ _)
        · exact less1_nodup (kids_nodup hg hi) _
      have hcase : (∃ y : Nat, ix (kids (putT T p k nx) i) j = (y : Int) ∧ y < T.length ∧ y ≠ k ∧ par T y = i) ∨ (i = p ∧ ix (kids (putT T p k nx) i) j = (k : Int)) := by
        generalize ix (kids (putT T p k nx) i) j = z at hm
        rw [kids_put hp hk] at hm
        split at hm
        · rename_i e
          rcases insB_mem.1 hm with hm | hm
          · obtain ⟨hm1, hm2⟩ := less1_mem.1 hm
            obtain ⟨y, hy, hyl, hyp⟩ := good_kid hg hp hm1
            exact .inl ⟨y, hy, hyl, by omega, by omega⟩
          · exact .inr ⟨e, hm⟩
        · obtain ⟨hm1, hm2⟩ := less1_mem.1 hm
          obtain ⟨y, hy, hyl, hyp⟩ := good_kid hg hi hm1
          exact .inl ⟨y, hy, hyl, by omega, by omega⟩
      refine ⟨?_, ?_, ?_, mem_take_ix hnd hj⟩
      · rcases hcase with ⟨y, hy, hyl, hyk, hyp⟩ | ⟨e, hy⟩ <;> omega
      · rw [putT_len]; rcases hcase with ⟨y, hy, hyl, hyk, hyp⟩ | ⟨e, hy⟩ <;> omega
      · rw [par_put hp hk]
        rcases hcase with ⟨y, hy, hyl, hyk, hyp⟩ | ⟨e, hy⟩
        · rw [hy, Int.toNat_natCast, if_neg hyk, hyp]
        · rw [hy, Int.toNat_natCast, if_pos rfl, e]
  · have := up_short hM hr (i := i) (by rw [putT_len]; exact hi)
    unfold outB
    rw [putT_len] at this ⊢
    exact decide_eq_true this
/-- Below k is what was below it. -/
theorem anc_keep {X : List ANode} (hg : goodB T = true) (hg' : goodB X = true) (hl : X.length = T.length) (hk : k < T.length) (hpar : ∀ j, j < T.length → j ≠ k → par X j = par T j) {x : Int} (hx : x < T.length) : (k : Int) ∈ anc X x ↔ (k : Int) ∈ anc T x := by
  generalize hm : (anc T x).length = m
  induction m using Nat.strongRecOn generalizing x with
  | _ m ih =>
    rcases Int.lt_or_le x 0 with h0 | h0
    · rw [anc_neg h0, anc_neg h0]
    · obtain ⟨i, rfl⟩ := Int.eq_ofNat_of_zero_le h0
      have hi : i < T.length := by omega
      by_cases hik : i = k
      · subst hik
        exact ⟨fun _ => anc_self_mem hg hk, fun _ => anc_self_mem hg' (by omega)⟩
      · have := anc_len_lt hg hi
        rw [anc_cons hg hi, anc_cons hg' (by omega : i < X.length), List.mem_cons, List.mem_cons, hpar i hi hik, ih _ (by omega) (good_par hg hi).2 rfl]
end
end Go.Proofs.YtmdccplhmniiiaaGreat
