/- Walks: setting an attribute, by the program. No condition but those of the inner functions. -/
import Derived.Test.YtkimjpcmcfnmkaaAtw
import Derived.Test.YtkimjpcmcfnmkaaAe
namespace Go.Proofs.Ytkimjpcmcfnmkaa
open Go.RowKit

theorem good_vals' {T : List ANode} (hg : goodB T = true) {i : Nat} (hi : i < T.length) : ∀ j, j < (atl T i).length → namedB (nm (atl T i) j) = true ∧ (vl (atl T i) j).size ≤ 400 := by
  have h := (((goodB_iff T).1 hg).2.2.1 i hi).2.1
  unfold attrsB at h
  simp only [Bool.and_eq_true, decide_eq_true_eq] at h
  exact fun j hj => ⟨(h.2 j hj).1, (h.2 j hj).2.1⟩
theorem good_fits {T : List ANode} (hg : goodB T = true) : Fits T := by
  intro x hx
  obtain ⟨i, hi, rfl⟩ := List.getElem_of_mem hx
  have hnd : nd T i = T[i] := by unfold nd; rw [List.getD_eq_getElem?_getD, List.getElem?_eq_getElem hi]; rfl
  rw [← hnd]
  have hgi := ((goodB_iff T).1 hg).2.2.1 i hi
  have h64 := ((goodB_iff T).1 hg).2.1
  have ht := (namedB_iff _).1 hgi.1
  have ha := good_attrs hg hi
  have hv := good_vals' hg hi
  have hk : (kids T i).length ≤ T.length := nodup_range_le _ _ (kids_nodup hg hi) fun y hy => by obtain ⟨k, rfl, hk, -⟩ := good_kid hg hi hy; omega
  refine ⟨by omega, by have := ha.2; unfold atl at this; omega, by unfold kids at hk; omega, fun y hy => ?_⟩
  obtain ⟨j, hj, rfl⟩ := List.getElem_of_mem hy
  have h1 := hv j hj
  have e : ((nd T i).attrs.getD j default) = (nd T i).attrs[j] := by rw [List.getD_eq_getElem?_getD, List.getElem?_eq_getElem hj]; rfl
  unfold nm vl atl at h1
  rw [e] at h1
  exact ⟨by have := ((namedB_iff _).1 h1.1).2.1; omega, by omega⟩

def putL (l : List (ByteArray × ByteArray)) (s v : ByteArray) : List (ByteArray × ByteArray) :=
  if hasA l s = true then l.set (lowA l s) (s, v) else l.take (lowA l s) ++ [(s, v)] ++ l.drop (lowA l s)
def setE (T : List ANode) (i : Int) (s v : ByteArray) : Int :=
  if askI T [i] = 0 then (if namedB s = true then (if 400 < v.size then 28 else if hasA (atl T i.toNat) s = false ∧ (atl T i.toNat).length = 16 then 18 else 0) else 2) else askI T [i]
def setT (T : List ANode) (i : Int) (s v : ByteArray) : List ANode := if setE T i s v = 0 then setA T i.toNat (putL (atl T i.toNat) s v) else []

theorem atts_setv {l : List (ByteArray × ByteArray)} {p : Nat} (hp : p < l.length) (x : ByteArray) : (atts l).set (p * 2 + 1) (.string x) = atts (l.set p (nm l p, x)) := by
  refine List.ext_getElem? fun m => ?_
  have hl : (l.set p (nm l p, x)).length = l.length := List.length_set ..
  by_cases hm : m < l.length * 2
  · rw [List.getElem?_set, atts_len]
    have hnm : ∀ q, nm (l.set p (nm l p, x)) q = nm l q := fun q => by
      unfold nm
      rw [List.getD_eq_getElem?_getD, List.getD_eq_getElem?_getD, List.getElem?_set]
      by_cases h : p = q
      · subst h; simp [hp, List.getD_eq_getElem?_getD]
      · rw [if_neg h]; simp [List.getD_eq_getElem?_getD]
    have hvl : ∀ q, vl (l.set p (nm l p, x)) q = if p = q then x else vl l q := fun q => by
      unfold vl
      rw [List.getD_eq_getElem?_getD, List.getD_eq_getElem?_getD, List.getElem?_set]
      by_cases h : p = q
      · subst h; simp [hp]
      · rw [if_neg h, if_neg h]
    obtain ⟨q, rfl | rfl⟩ : ∃ q, m = q * 2 ∨ m = q * 2 + 1 := ⟨m / 2, by omega⟩
    · rw [if_neg (by omega), (atts_get l q (by omega)).1, (atts_get _ q (by omega)).1, hnm]
    · rw [(atts_get (l.set p (nm l p, x)) q (by omega)).2, hvl]
      by_cases h : p = q
      · subst h; rw [if_pos rfl, if_pos hm, if_pos rfl]
      · rw [if_neg (by omega), if_neg h, (atts_get l q (by omega)).2]
  · rw [List.getElem?_eq_none (by rw [List.length_set, atts_len]; omega), List.getElem?_eq_none (by rw [atts_len]; omega)]
theorem val_store {W : World} {base k i g cap ac cc p : Nat} {v : Value} {T : List ANode} {A C : Option Addr} (N : NodeAt W base v k T i g cap A ac C cc) (hp : p < (nd T i).attrs.length) : ∃ gA, A = some ⟨gA, 0, none⟩ ∧ base ≤ gA ∧ gA < W.heap.size ∧ W.cell? ⟨gA, p * 2 + 1, none⟩ = some (.string (vl (nd T i).attrs p)) ∧ W.frozen? ⟨gA, p * 2 + 1, none⟩ = false ∧ (∃ cs, W.heap[gA]? = some (.cells cs 56 (0, 0))) ∧
    ∀ x, OwnTree (W.setCell ⟨gA, p * 2 + 1, none⟩ (.string x)) base v k (setA T i ((nd T i).attrs.set p (nm (nd T i).attrs p, x))) := by
  obtain ⟨gA, cap', cs, hv, hnc, hcm, hb, hg⟩ := own_block N.rowA (by omega)
  injection hv with e1 e2 e3
  subst e1 e3
  refine ⟨gA, rfl, hb, blk_lt hg, ?_, blk_frozen hg _, ⟨cs, hg⟩, fun x => ?_⟩
  · rw [N.rowA.cellAt (p * 2 + 1) (by omega), (atts_get _ p hp).2]
  · refine N.inA _ _ (List.length_set ..) (fun q hq hne => Below.heap_setCell _ _ _ _ (fun e => hne (by simp [e]))) ?_
    have := own_setCell N.rowA (o := p * 2 + 1) (by omega) (.string x)
    rw [atts_setv hp] at this
    rw [List.length_set]
    exact this

theorem atts_take (l : List (ByteArray × ByteArray)) (p : Nat) : (atts l).take (p * 2) = atts (l.take p) := by
  induction l generalizing p with
  | nil => simp [atts]
  | cons x l ih =>
    cases p with
    | zero => simp [atts]
    | succ p =>
      rw [show (p + 1) * 2 = p * 2 + 2 by omega]
      simp only [atts, List.flatMap_cons, List.take_succ_cons, List.cons_append, List.nil_append] at ih ⊢
      rw [ih p]
theorem atts_drop (l : List (ByteArray × ByteArray)) (p : Nat) : (atts l).drop (p * 2) = atts (l.drop p) := by
  induction l generalizing p with
  | nil => simp [atts]
  | cons x l ih =>
    cases p with
    | zero => simp [atts]
    | succ p =>
      rw [show (p + 1) * 2 = p * 2 + 2 by omega]
      simp only [atts, List.flatMap_cons, List.drop_succ_cons, List.cons_append, List.nil_append] at ih ⊢
      rw [ih p]
theorem atts_ins (l : List (ByteArray × ByteArray)) (p : Nat) (a b : ByteArray) : (atts l).take (p * 2) ++ [.string a, .string b] ++ (atts l).drop (p * 2) = atts (l.take p ++ [(a, b)] ++ l.drop p) := by
  rw [atts_take, atts_drop, ← atts_app, ← atts_app]; simp [atts]
theorem own_apart {w : World} {base size n q : Nat} {e t : TypeId} {A : Option Addr} {c : Nat} {xs : List Value} {cs : Array Value} {fr : Nat × Nat} (h : w.ownsRow base e size (.slice A n c) n xs) (hb : w.heap[q]? = some (.cells cs t fr)) (hne : e ≠ t) : A.map (·.block) ≠ some q := by
  intro hq
  rcases h.2 with ⟨h0, _⟩ | ⟨g, cap, cur, h0, _, hg, _⟩
  · injection h0 with h1; rw [h1] at hq; cases hq
  · injection h0 with h1
    rw [h1] at hq
    injection hq with hq
    have hq : g = q := hq
    rw [← hq, hg] at hb
    injection hb with hb
    injection hb with _ h2
    exact hne h2
theorem ins_len (l : List (ByteArray × ByteArray)) {p : Nat} (hp : p ≤ l.length) (x : ByteArray × ByteArray) : (l.take p ++ [x] ++ l.drop p).length = l.length + 1 := by
  simp only [List.length_append, List.length_take, List.length_drop, List.length_cons, List.length_nil]; omega
theorem ins_nm (l : List (ByteArray × ByteArray)) {p : Nat} (hp : p ≤ l.length) (a b : ByteArray) : nm (l.take p ++ [(a, b)] ++ l.drop p) p = a := by
  unfold nm
  rw [List.getD_eq_getElem?_getD, List.append_assoc, List.getElem?_append_right (by simp; omega)]
  simp [Nat.min_eq_left hp]
theorem ins_set (l : List (ByteArray × ByteArray)) {p : Nat} (hp : p ≤ l.length) (a b c : ByteArray) : (l.take p ++ [(a, b)] ++ l.drop p).set p (a, c) = l.take p ++ [(a, c)] ++ l.drop p := by
  rw [List.append_assoc, List.set_append_right _ _ (by simp; omega)]
  simp [Nat.min_eq_left hp]

theorem blk_ne {w : World} {q r : Nat} {cs ds : Array Value} {t u : TypeId} {fr fs : Nat × Nat} (h : w.heap[q]? = some (.cells cs t fr)) (h' : w.heap[r]? = some (.cells ds u fs)) (hne : t ≠ u) : ¬ q = r := by
  rintro rfl
  rw [h] at h'
  injection h' with h'
  injection h' with _ h2
  exact hne h2
theorem nd_mem {T : List ANode} {i : Nat} (hi : i < T.length) : nd T i ∈ T := by
  unfold nd; rw [List.getD_eq_getElem?_getD, List.getElem?_eq_getElem hi]; exact List.getElem_mem _
theorem fits_setA {T : List ANode} {k : Nat} {l : List (ByteArray × ByteArray)} (hf : Fits T) (hk : k < T.length) (hl : l.length ≤ 70) (hm : ∀ y ∈ l, y.1.size ≤ 9223372036854775807 ∧ y.2.size ≤ 9223372036854775807) : Fits (setA T k l) := by
  intro x hx
  rcases List.mem_or_eq_of_mem_set hx with h | rfl
  · exact hf x h
  · have := hf _ (nd_mem hk)
    exact ⟨this.1, hl, this.2.2.1, hm⟩
theorem made2_nil {w w' : World} {v : Value} {code : Int} (hv : v = .tuple #[.agg #[.slice none 0 0], .int .i64 code]) (hb : Below w.heap.size w w') : MadeOwn2 w [] code (.returned v) w' :=
  ⟨none, 0, by rw [hv]; rfl, ownTree_nil _ _ _, ⟨rfl, by decide, fun x hx => by simp at hx, fun h => absurd h (by decide)⟩, hb⟩

end Go.Proofs.Ytkimjpcmcfnmkaa
