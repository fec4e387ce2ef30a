/- Document order, in plain Lean: lists of elements in lists of elements, what comes first. Condition of the laws: the tree is good. -/
import Derived.Test.YtfiiikbbiimdiaaWa
import Derived.Test.YtfiiikbbiimdiaaLaws
namespace Go.Proofs.Ytfiiikbbiimdiaa

/-- An element and all that are below it, in document order (a bounded depth). -/
def pre (T : List ANode) : Nat → Int → List Int
  | 0, _ => []
  | f + 1, k => k :: (kids T k.toNat).flatMap (pre T f)
def preT (T : List ANode) (k : Int) : List Int := pre T T.length k

theorem flatMap_same {α β : Type} {l : List α} {f g : α → List β} (h : ∀ a ∈ l, f a = g a) : l.flatMap f = l.flatMap g := by
  induction l with
  | nil => rfl
  | cons a l ih => rw [List.flatMap_cons, List.flatMap_cons, h a (by simp), ih fun b hb => h b (by simp [hb])]
theorem flatMap_nodup {α β : Type} {l : List α} {f : α → List β} (h : ∀ a ∈ l, (f a).Nodup) (hp : l.Pairwise fun a b => ∀ x, x ∈ f a → x ∉ f b) : (l.flatMap f).Nodup := by
  induction l with
  | nil => simp
  | cons a l ih =>
    rw [List.flatMap_cons, List.nodup_append]
    obtain ⟨h1, h2⟩ := List.pairwise_cons.1 hp
    refine ⟨h a (by simp), ih (fun b hb => h b (by simp [hb])) h2, fun x hx y hy => ?_⟩
    obtain ⟨b, hb, hyb⟩ := List.mem_flatMap.1 hy
    rintro rfl
    exact h1 b hb x hx hyb

section
variable {T : List ANode} (hg : goodB T = true)
include hg
theorem good_kid {i : Nat} (hi : i < T.length) {c : Int} (hc : c ∈ kids T i) : ∃ k : Nat, c = (k : Int) ∧ k < T.length ∧ par T k = i := by
  have h := ((linkedB_iff T i).1 (((goodB_iff T).1 hg).2.2.1 i hi).2.2).2.2.2.2
  obtain ⟨j, hj, rfl⟩ := List.mem_iff_getElem.1 hc
  have := h j hj
  unfold kidOk at this
  rw [ix_get hj] at this
  obtain ⟨h1, h2, h3, -⟩ := this
  exact ⟨(kids T i)[j].toNat, by omega, by omega, h3⟩
theorem kids_nodup {i : Nat} (hi : i < T.length) : (kids T i).Nodup := by
  have h := ((linkedB_iff T i).1 (((goodB_iff T).1 hg).2.2.1 i hi).2.2).2.2.2.2
  refine List.pairwise_iff_getElem.2 fun a b ha hb hab he => ?_
  have := (h b hb).2.2.2
  rw [ix_get hb] at this
  apply this
  rw [← he, List.mem_take_iff_getElem]
  exact ⟨a, by omega, rfl⟩
theorem par_kid {x : Nat} (hx : x < T.length) (hp : 0 ≤ par T x) : (x : Int) ∈ kids T (par T x).toNat :=
  ((linkedB_iff T x).1 (((goodB_iff T).1 hg).2.2.1 x hx).2.2).2.2.2.1 hp
theorem kid_anc {i : Nat} {k : Nat} (hk : k < T.length) (hp : par T k = i) : anc T k = (k : Int) :: anc T i := by rw [anc_cons hg hk, hp]
theorem anc_self_mem {i : Nat} (hi : i < T.length) : (i : Int) ∈ anc T i := by rw [anc_cons hg hi]; simp
theorem anc_trans {x y : Nat} (hx : x < T.length) (h : (y : Int) ∈ anc T x) {z : Int} (hz : z ∈ anc T y) : z ∈ anc T x := by
  generalize hm : (anc T (x : Int)).length = m
  induction m using Nat.strongRecOn generalizing x with
  | _ m ih =>
    have h0 := h
    rw [anc_cons hg hx] at h
    rcases List.mem_cons.1 h with h | h
    · have : y = x := by omega
      subst this; exact hz
    · rcases Int.lt_or_le (par T x) 0 with hp | hp
      · rw [anc_neg hp] at h; simp at h
      · obtain ⟨p, hp'⟩ := Int.eq_ofNat_of_zero_le hp
        have hl := anc_len_lt hg hx
        have hpl := (good_par hg hx).2
        rw [hp'] at h hl hpl
        rw [anc_cons hg hx, hp']
        exact List.mem_cons_of_mem _ (ih _ (by omega) (by omega : p < T.length) h rfl)
theorem anc_same {x y z : Nat} (hx : x < T.length) (hy : (y : Int) ∈ anc T x) (hz : (z : Int) ∈ anc T x) (he : (anc T y).length = (anc T z).length) : y = z := by
  generalize hm : (anc T (x : Int)).length = m
  induction m using Nat.strongRecOn generalizing x with
  | _ m ih =>
    rcases Int.lt_or_le (par T x) 0 with hp | hp
    · rw [anc_cons hg hx, anc_neg hp] at hy hz
      simp at hy hz; omega
    · obtain ⟨p, hp'⟩ := Int.eq_ofNat_of_zero_le hp
      have hl := anc_len_lt hg hx
      have hpl := (good_par hg hx).2
      rw [hp'] at hl hpl
      have hpn : p < T.length := by omega
      rw [anc_cons hg hx, hp'] at hy hz
      rcases List.mem_cons.1 hy with hy | hy <;> rcases List.mem_cons.1 hz with hz | hz
      · omega
      · have := anc_sub hg hpn hz
        have : y = x := by omega
        subst this; omega
      · have := anc_sub hg hpn hy
        have : z = x := by omega
        subst this; omega
      · exact ih _ (by omega) hpn hy hz rfl
theorem anc_pos {i : Nat} (hi : i < T.length) : 1 ≤ (anc T i).length := by rw [anc_cons hg hi]; simp

theorem pre_stable (f g : Nat) {k : Nat} (hk : k < T.length) (hf : T.length + 1 ≤ f + (anc T k).length) (hg' : T.length + 1 ≤ g + (anc T k).length) : pre T f k = pre T g k := by
  induction f generalizing g k with
  | zero => have := anc_le hg (x := (k : Int)) (by omega); omega
  | succ f ih =>
    cases g with
    | zero => have := anc_le hg (x := (k : Int)) (by omega); omega
    | succ g =>
      simp only [pre, Int.toNat_natCast]
      congr 1
      refine flatMap_same fun c hc => ?_
      obtain ⟨j, rfl, hj, hp⟩ := good_kid hg hk hc
      have := kid_anc hg hj hp
      exact ih g hj (by rw [this]; simp; omega) (by rw [this]; simp; omega)
theorem pre_preT (f : Nat) {k : Nat} (hk : k < T.length) (hf : T.length + 1 ≤ f + (anc T k).length) : pre T f k = preT T k :=
  pre_stable hg _ _ hk hf (by have := anc_pos hg hk; omega)
theorem preT_cons {k : Nat} (hk : k < T.length) : preT T k = (k : Int) :: (kids T k).flatMap (preT T) := by
  rw [← pre_preT hg (T.length + 1) hk (by omega)]
  simp only [pre, Int.toNat_natCast]
  rfl
theorem pre_mem (f : Nat) {k : Nat} (hk : k < T.length) {x : Int} (h : x ∈ pre T f k) : ∃ y : Nat, x = (y : Int) ∧ y < T.length ∧ (k : Int) ∈ anc T y := by
  induction f generalizing k with
  | zero => simp [pre] at h
  | succ f ih =>
    simp only [pre, Int.toNat_natCast] at h
    rcases List.mem_cons.1 h with rfl | h
    · exact ⟨k, rfl, hk, anc_self_mem hg hk⟩
    · obtain ⟨c, hc, hx⟩ := List.mem_flatMap.1 h
      obtain ⟨j, rfl, hj, hp⟩ := good_kid hg hk hc
      obtain ⟨y, rfl, hy, ha⟩ := ih hj hx
      refine ⟨y, rfl, hy, anc_trans hg hy ha ?_⟩
      rw [kid_anc hg hj hp]
      exact List.mem_cons_of_mem _ (anc_self_mem hg hk)
theorem pre_nodup (f : Nat) {k : Nat} (hk : k < T.length) : (pre T f k).Nodup := by
  induction f generalizing k with
  | zero => simp [pre]
  | succ f ih =>
    simp only [pre, Int.toNat_natCast]
    refine List.nodup_cons.2 ⟨fun h => ?_, ?_⟩
    · obtain ⟨c, hc, hx⟩ := List.mem_flatMap.1 h
      obtain ⟨j, rfl, hj, hp⟩ := good_kid hg hk hc
      obtain ⟨y, hye, hy, ha⟩ := pre_mem hg f hj hx
      have : y = k := by omega
      subst this
      have h1 := anc_sub hg hy ha
      rw [kid_anc hg hj hp, List.length_cons] at h1
      omega
    · refine flatMap_nodup (fun c hc => ?_) ?_
      · obtain ⟨j, rfl, hj, hp⟩ := good_kid hg hk hc
        exact ih hj
      · refine List.Pairwise.imp_of_mem ?_ (kids_nodup hg hk)
        rintro a b ha hb hne x hxa hxb
        obtain ⟨i, rfl, hi, hpi⟩ := good_kid hg hk ha
        obtain ⟨j, rfl, hj, hpj⟩ := good_kid hg hk hb
        obtain ⟨y, rfl, hy, h1⟩ := pre_mem hg f hi hxa
        obtain ⟨z, hz, hz', h2⟩ := pre_mem hg f hj hxb
        have : z = y := by omega
        subst this
        have := anc_same hg hy h1 h2 (by rw [kid_anc hg hi hpi, kid_anc hg hj hpj]; simp)
        exact hne (by omega)
theorem preT_step {k x y : Nat} (hk : k < T.length) (h : (x : Int) ∈ preT T k) (hy : (y : Int) ∈ kids T x) : (y : Int) ∈ preT T k := by
  generalize hm : T.length - (anc T (k : Int)).length = m
  induction m using Nat.strongRecOn generalizing k with
  | _ m ih =>
    rw [preT_cons hg hk] at h ⊢
    rcases List.mem_cons.1 h with h | h
    · have : x = k := by omega
      subst this
      refine List.mem_cons_of_mem _ (List.mem_flatMap.2 ⟨y, hy, ?_⟩)
      obtain ⟨j, hj', hj, hp⟩ := good_kid hg hk hy
      rw [hj', preT_cons hg hj]; simp
    · obtain ⟨c, hc, hxc⟩ := List.mem_flatMap.1 h
      obtain ⟨j, rfl, hj, hp⟩ := good_kid hg hk hc
      refine List.mem_cons_of_mem _ (List.mem_flatMap.2 ⟨_, hc, ih (T.length - (anc T (j : Int)).length) ?_ hj hxc rfl⟩)
      have h1 := kid_anc hg hj hp
      have h2 := anc_le hg (x := (j : Int)) (by omega)
      rw [h1] at h2 ⊢
      simp at h2 ⊢; omega
theorem mem_preT {k x : Nat} (hk : k < T.length) (hx : x < T.length) : (x : Int) ∈ preT T k ↔ (k : Int) ∈ anc T x := by
  constructor
  · intro h
    obtain ⟨y, hy, -, h2⟩ := pre_mem hg _ hk h
    have : y = x := by omega
    subst this; exact h2
  · intro h
    generalize hm : (anc T (x : Int)).length = m
    induction m using Nat.strongRecOn generalizing x with
    | _ m ih =>
      have h0 := h
      rw [anc_cons hg hx] at h
      rcases List.mem_cons.1 h with h | h
      · have : k = x := by omega
        subst this
        rw [preT_cons hg hk]; simp
      · rcases Int.lt_or_le (par T x) 0 with hp | hp
        · rw [anc_neg hp] at h; simp at h
        · have hpk := par_kid hg hx hp
          obtain ⟨p, hp'⟩ := Int.eq_ofNat_of_zero_le hp
          have hl := anc_len_lt hg hx
          have hpl := (good_par hg hx).2
          rw [hp'] at h hl hpl hpk
          exact preT_step hg hk (ih _ (by omega) (by omega) h rfl) (by simpa using hpk)
theorem preT_nodup {k : Nat} (hk : k < T.length) : (preT T k).Nodup := pre_nodup hg _ hk
theorem preT_len {k : Nat} (hk : k < T.length) : (preT T k).length ≤ T.length :=
  nodup_range_le _ _ (preT_nodup hg hk) fun _ hy => by obtain ⟨y, rfl, h, -⟩ := pre_mem hg _ hk hy; omega
end
end Go.Proofs.Ytfiiikbbiimdiaa
namespace Go.Proofs.Ytfiiikbbiimdiaa
open Go.RowKit

/-- The comparison of two elements, and its error. -/
def sgn (a b : Int) : Int := if a < b then -1 else if b < a then 1 else 0
def cmpF (T : List ANode) (i k : Int) : Int := sgn (posn (preT T (topF T i)) i) (posn (preT T (topF T i)) k)
def cmpE (T : List ANode) (i k : Int) : Int := if askI T [i] = 0 then (if askI T [k] = 0 then (if topF T i = topF T k then 0 else 6) else askI T [k]) else askI T [i]
def cmpV (T : List ANode) (i k : Int) : Int := if cmpE T i k = 0 then cmpF T i k else 0
def listE (T : List ANode) (i : Int) : List Int := if askI T [i] = 0 then preT T i else []
def aboveE (T : List ANode) (i : Int) : List Int := if askI T [i] = 0 then anc T (par T i.toNat) else []

theorem sub_posn {l : List Int} {x y : Int} (hn : l.Nodup) (h : [x, y].Sublist l) : posn l x < posn l y := by
  have hx : x ∈ l := h.subset (by simp)
  have hy : y ∈ l := h.subset (by simp)
  have key : l.idxOf x < l.idxOf y := by
    induction l with
    | nil => simp at hx
    | cons a l ih =>
      obtain ⟨hna, hnl⟩ := List.nodup_cons.1 hn
      cases h with
      | cons _ h =>
        have h1 : x ∈ l := h.subset (by simp)
        have h2 : y ∈ l := h.subset (by simp)
        have n1 : (a == x) = false := by simp; rintro rfl; exact hna h1
        have n2 : (a == y) = false := by simp; rintro rfl; exact hna h2
        rw [List.idxOf_cons, List.idxOf_cons, n1, n2]
        have := ih hnl h h1 h2
        simpa using this
      | cons_cons _ h =>
        have h2 : y ∈ l := h.subset (by simp)
        have n2 : (x == y) = false := by simp; rintro rfl; exact hna h2
        rw [List.idxOf_cons, List.idxOf_cons, n2]
        simp
  have h1 := List.idxOf_lt_length_iff.2 hx
  have h2 := List.idxOf_lt_length_iff.2 hy
  unfold posn
  rw [if_pos h1, if_pos h2]
  omega
theorem posn_inj {l : List Int} {x y : Int} (hx : x ∈ l) (h : posn l x = posn l y) : x = y := by
  have h1 := List.idxOf_lt_length_iff.2 hx
  unfold posn at h
  rw [if_pos h1] at h
  split at h
  · rename_i h2
    have e : l.idxOf x = l.idxOf y := by omega
    have g1 := List.getElem_idxOf h1
    have g2 := List.getElem_idxOf h2
    rw [← g1, ← g2]
    simp only [e]
  · omega
theorem sub_flat {l : List Int} {f : Int → List Int} {x y : Int} (h : [x, y].Sublist l) (hf : ∀ z ∈ l, z ∈ f z) : [x, y].Sublist (l.flatMap f) := by
  induction l with
  | nil => simp at h
  | cons a l ih =>
    rw [List.flatMap_cons]
    cases h with
    | cons _ h => exact (ih h fun z hz => hf z (by simp [hz])).trans (List.sublist_append_right _ _)
    | cons_cons _ h =>
      have hy : y ∈ l := h.subset (by simp)
      have h1 : [x].Sublist (f x) := List.singleton_sublist.2 (hf x (by simp))
      have h2 : [y].Sublist (l.flatMap f) := List.singleton_sublist.2 (List.mem_flatMap.2 ⟨y, hy, hf y (by simp [hy])⟩)
      exact h1.append h2
theorem infix_flat {l : List Int} {f : Int → List Int} {x : Int} (h : x ∈ l) : f x <:+: l.flatMap f := by
  induction l with
  | nil => simp at h
  | cons a l ih =>
    rw [List.flatMap_cons]
    rcases List.mem_cons.1 h with rfl | h
    · exact (List.prefix_append _ _).isInfix
    · exact (ih h).trans (List.suffix_append _ _).isInfix
theorem sub_get {l : List Int} {k : Nat} (h : k + 1 < l.length) : [ix l k, ix l (k + 1)].Sublist l := by
  rw [ix_get (by omega), ix_get h]
  have h1 : [l[k], l[k + 1]] = (l.drop k).take 2 := by
    rw [List.drop_eq_getElem_cons (by omega), List.drop_eq_getElem_cons h]
    rfl
  rw [h1]
  exact (List.take_sublist _ _).trans (List.drop_sublist _ _)

section
variable {T : List ANode} (hg : goodB T = true)
include hg
theorem kid_preT {p : Nat} (hp : p < T.length) {c : Int} (hc : c ∈ kids T p) : preT T c <:+: preT T p := by
  rw [preT_cons hg hp]
  exact (infix_flat hc).trans (List.suffix_cons _ _).isInfix
theorem preT_self {k : Nat} (hk : k < T.length) : (k : Int) ∈ preT T k := by rw [preT_cons hg hk]; simp
theorem preT_infix {k x : Nat} (hx : x < T.length) (h : (k : Int) ∈ anc T x) : preT T x <:+: preT T k := by
  generalize hm : (anc T (x : Int)).length = m
  induction m using Nat.strongRecOn generalizing x with
  | _ m ih =>
    rw [anc_cons hg hx] at h
    rcases List.mem_cons.1 h with h | h
    · have : k = x := by omega
      subst this; exact List.infix_rfl
    · rcases Int.lt_or_le (par T x) 0 with hp | hp
      · rw [anc_neg hp] at h; simp at h
      · have hpk := par_kid hg hx hp
        obtain ⟨p, hp'⟩ := Int.eq_ofNat_of_zero_le hp
        have hl := anc_len_lt hg hx
        have hpl := (good_par hg hx).2
        rw [hp'] at h hl hpl hpk
        exact (kid_preT hg (by omega) (by simpa using hpk)).trans (ih _ (by omega) (by omega) h rfl)
theorem top_nat {i : Nat} (hi : i < T.length) : ∃ t : Nat, topF T i = (t : Int) ∧ t < T.length ∧ (t : Int) ∈ anc T i := by
  obtain ⟨h1, h2, h3⟩ := topF_range hg hi
  obtain ⟨t, ht⟩ := Int.eq_ofNat_of_zero_le h1
  rw [ht] at h2 h3
  refine ⟨t, ht, by omega, ?_⟩
  rw [← ht]
  unfold topF
  rw [anc_cons hg hi]
  rw [List.getLast?_eq_some_getLast (by simp)]
  exact List.getLast_mem _
/-- The order of two elements below one element, or it, is told by any list that has them in that order. -/
theorem cmp_sub {t x y : Nat} (ht : t < T.length) (h : [(x : Int), (y : Int)].Sublist (preT T t)) : posn (preT T t) x < posn (preT T t) y :=
  sub_posn (preT_nodup hg ht) h
theorem cmpF_sub {i x y : Nat} (hi : i < T.length) (hx : x < T.length) (hxi : (i : Int) ∈ anc T x) (h : [(x : Int), (y : Int)].Sublist (preT T i)) : cmpF T x y = -1 := by
  obtain ⟨t, ht, htl, hta⟩ := top_nat hg hx
  unfold cmpF
  rw [ht]
  have hti : (t : Int) ∈ anc T i := by
    obtain ⟨s, hs, hsl, hsa⟩ := top_nat hg hi
    have h2 : topF T x = topF T i := by
      have hp := (topF_range hg hi).2.2
      have h3 := (top_only hg hx (k := s) (by rw [hs] at hp; simp at hp; omega)).1 (anc_trans hg hx hxi hsa)
      rw [← h3, hs]
    have : s = t := by rw [ht, hs] at h2; omega
    subst this; exact hsa
  have h4 := cmp_sub hg htl ((h.trans (preT_infix hg hi hti).sublist))
  unfold sgn
  rw [if_pos h4]
/-- All below one element have its top. -/
theorem top_same {i x : Nat} (hi : i < T.length) (hx : x < T.length) (hxi : (i : Int) ∈ anc T x) : topF T x = topF T i := by
  obtain ⟨s, hs, hsl, hsa⟩ := top_nat hg hi
  have hp := (topF_range hg hi).2.2
  rw [hs] at hp
  have h3 := (top_only hg hx (k := s) (by simp at hp; omega)).1 (anc_trans hg hx hxi hsa)
  rw [← h3, hs]
theorem mem_top {i : Nat} (hi : i < T.length) : (i : Int) ∈ preT T (topF T i) := by
  obtain ⟨t, ht, htl, hta⟩ := top_nat hg hi
  rw [ht]
  exact (mem_preT hg htl hi).2 hta
omit hg in
theorem sgn_bd (a b : Int) : -1 ≤ sgn a b ∧ sgn a b ≤ 1 := by
  unfold sgn
  split
  · omega
  · split <;> omega
omit hg in
theorem sgn_neg (a b : Int) : sgn a b = -sgn b a := by
  unfold sgn
  by_cases h : a < b
  · rw [if_pos h, if_neg (by omega), if_pos h]
  · by_cases h2 : b < a
    · rw [if_neg h, if_pos h2, if_pos h2]; rfl
    · rw [if_neg h, if_neg h2, if_neg h2, if_neg h]; rfl
omit hg in
theorem sgn_zero (a b : Int) : sgn a b = 0 ↔ a = b := by
  unfold sgn
  by_cases h : a < b
  · rw [if_pos h]; omega
  · by_cases h2 : b < a
    · rw [if_neg h, if_pos h2]; omega
    · rw [if_neg h, if_neg h2]; omega
theorem cmpF_zero {i k : Nat} (hi : i < T.length) : cmpF T i k = 0 ↔ i = k := by
  unfold cmpF
  rw [sgn_zero]
  constructor
  · intro h; have := posn_inj (mem_top hg hi) h; omega
  · rintro rfl; rfl
omit hg in
theorem cmpF_turn {i k : Int} (h : topF T i = topF T k) : cmpF T i k = -cmpF T k i := by
  unfold cmpF
  rw [h]; exact sgn_neg _ _
omit hg in
theorem cmpF_trans {i k m : Int} (h : topF T i = topF T k) : (cmpF T i k = cmpF T k m → cmpF T i k ≠ 0 → cmpF T i m = cmpF T i k) := by
  unfold cmpF
  rw [← h]
  generalize posn (preT T (topF T i)) i = a
  generalize posn (preT T (topF T i)) k = b
  generalize posn (preT T (topF T i)) m = c
  unfold sgn
  intro h1 h2
  by_cases p : a < b
  · rw [if_pos p] at h1 ⊢
    by_cases q : b < c
    · rw [if_pos (by omega)]
    · rw [if_neg q] at h1; split at h1 <;> omega
  · rw [if_neg p] at h1 h2 ⊢
    by_cases p2 : b < a
    · rw [if_pos p2] at h1 ⊢
      by_cases q : b < c
      · rw [if_pos q] at h1; omega
      · rw [if_neg q] at h1
        by_cases q2 : c < b
        · rw [if_neg (by omega), if_pos (by omega)]
        · rw [if_neg q2] at h1; omega
    · rw [if_neg p2] at h2; omega
theorem cmpF_above {i k : Nat} (hi : i < T.length) (hk : k < T.length) (h : belE T k i = true) : topF T k = topF T i ∧ cmpF T i k = -1 := by
  rw [bel_iff hg hk hi] at h
  have hm : (i : Int) ∈ anc T k := by rw [anc_cons hg hk]; exact List.mem_cons_of_mem _ (by simpa using h)
  refine ⟨top_same hg hi hk hm, cmpF_sub hg hi hi (anc_self_mem hg hi) ?_⟩
  have hki : (k : Int) ∈ preT T i := (mem_preT hg hi hk).2 hm
  rw [preT_cons hg hi] at hki ⊢
  refine List.Sublist.cons_cons _ (List.singleton_sublist.2 ?_)
  rcases List.mem_cons.1 hki with e | e
  · exfalso
    have : k = i := by omega
    subst this
    exact anc_self hg hk (by simpa using h)
  · exact e
end
end Go.Proofs.Ytfiiikbbiimdiaa
