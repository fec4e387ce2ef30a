/- Walks: setting an attribute, by the program. No condition but those of the inner functions. -/
import Derived.Test.YtfiiikbbiimdiaaAtw
import Derived.Test.YtfiiikbbiimdiaaAb
namespace Go.Proofs.Ytfiiikbbiimdiaa
open Go.RowKit

theorem good_vals' {T : List ANode} (hg : goodB T = true) {i : Nat} (hi : i < T.length) : ∀ j, j < (atl T i).length → namedB (nm (atl T i) j) = true ∧ (vl (atl T i) j).size ≤ 400 := by
  have h := (((goodB_iff T).1 hg).2.2.1 i hi).2.1
  unfold attrsB at h
  simp only [Bool.and_eq_true, decide_eq_true_eq] at h
  exact fun j hj => ⟨(h.2 j hj).1, (h.2 j hj).2.1⟩
theorem good_fits {T : List ANode} (hg : goodB T = true) : Fits T := by
  intro x hx
  obtain ⟨i, hi, rfl⟩ := List.getElem_of_mem hx
  have hnd : nd T i = T[i] := by unfold nd; rw [List.getD_eq_getElem?_getD, List.getElem?_eq_getElem hi]; rfl
  rw [← hnd]
  have hgi := ((goodB_iff T).1 hg).2.2.1 i hi
  have h64 := ((goodB_iff T).1 hg).2.1
  have ht := (namedB_iff _).1 hgi.1
  have ha := good_attrs hg hi
  have hv := good_vals' hg hi
  have hk : (kids T i).length ≤ T.length := nodup_range_le _ _ (kids_nodup hg hi) fun y hy => by obtain ⟨k, rfl, hk, -⟩ := good_kid hg hi hy; omega
  refine ⟨by omega, by have := ha.2; unfold atl at this; omega, by unfold kids at hk; omega, fun y hy => ?_⟩
  obtain ⟨j, hj, rfl⟩ := List.getElem_of_mem hy
  have h1 := hv j hj
  have e : ((nd T i).attrs.getD j default) = (nd T i).attrs[j] := by rw [List.getD_eq_getElem?_getD, List.getElem?_eq_getElem hj]; rfl
  unfold nm vl atl at h1
  rw [e] at h1
  exact ⟨by have := ((namedB_iff _).1 h1.1).2.1; omega, by omega⟩

def putL (l : List (ByteArray × ByteArray)) (s v : ByteArray) : List (ByteArray × ByteArray) :=
  if hasA l s = true then l.set (lowA l s) (s, v) else l.take (lowA l s) ++ [(s, v)] ++ l.drop (lowA l s)
def setE (T : List ANode) (i : Int) (s v : ByteArray) : Int :=
  if askI T [i] = 0 then (if namedB s = true then (if 400 < v.size then 28 else if hasA (atl T i.toNat) s = false ∧ (atl T i.toNat).length = 16 then 18 else 0) else 2) else askI T [i]
def setT (T : List ANode) (i : Int) (s v : ByteArray) : List ANode := if setE T i s v = 0 then setA T i.toNat (putL (atl T i.toNat) s v) else []

theorem atts_setv {l : List (ByteArray × ByteArray)} {p : Nat} (hp : p < l.length) (x : ByteArray) : (atts l).set (p * 2 + 1) (.string x) = atts (l.set p (nm l p, x)) := by
  refine List.ext_getElem? fun m => ?_
  have hl : (l.set p (nm l p, x)).length = l.length := List.length_set ..
  by_cases hm : m < l.length * 2
  · rw [List.getElem?_set, atts_len]
    have hnm : ∀ q, nm (l.set p (nm l p, x)) q = nm l q := fun q => by
      unfold nm
      rw [List.getD_eq_getElem?_getD, List.getD_eq_getElem?_getD, List.getElem?_set]
      by_cases h : p = q
      · subst h; simp [hp, List.getD_eq_getElem?_getD]
      · rw [if_neg h]; simp [List.getD_eq_getElem?_getD]
    have hvl : ∀ q, vl (l.set p (nm l p, x)) q = if p = q then x else vl l q := fun q => by
      unfold vl
      rw [List.getD_eq_getElem?_getD, List.getD_eq_getElem?_getD, List.getElem?_set]
      by_cases h : p = q
      · subst h; simp [hp]
      · rw [if_neg h, if_neg h]
    obtain ⟨q, rfl | rfl⟩ : ∃ q, m = q * 2 ∨ m = q * 2 + 1 := ⟨m / 2, by omega⟩
    · rw [if_neg (by omega), (atts_get l q (by omega)).1, (atts_get _ q (by omega)).1, hnm]
    · rw [(atts_get (l.set p (nm l p, x)) q (by omega)).2, hvl]
      by_cases h : p = q
      · subst h; rw [if_pos rfl, if_pos hm, if_pos rfl]
      · rw [if_neg (by omega), if_neg h, (atts_get l q (by omega)).2]
  · rw [List.getElem?_eq_none (by rw [List.length_set, atts_len]; omega), List.getElem?_eq_none (by rw [atts_len]; omega)]
theorem val_store {W : World} {base k i g cap ac cc p : Nat} {v : Value} {T : List ANode} {A C : Option Addr} (N : NodeAt W base v k T i g cap A ac C cc) (hp : p < (nd T i).attrs.length) : ∃ gA, A = some ⟨gA, 0, none⟩ ∧ base ≤ gA ∧ gA < W.heap.size ∧ W.cell? ⟨gA, p * 2 + 1, none⟩ = some (.string (vl (nd T i).attrs p)) ∧ W.frozen? ⟨gA, p * 2 + 1, none⟩ = false ∧ (∃ cs, W.heap[gA]? = some (.cells cs 83 (0, 0))) ∧
    ∀ x, OwnTree (W.setCell ⟨gA, p * 2 + 1, none⟩ (.string x)) base v k (setA T i ((nd T i).attrs.set p (nm (nd T i).attrs p, x))) := by
  obtain ⟨gA, cap', cs, hv, hnc, hcm, hb, hg⟩ := own_block N.rowA (by omega)
  injection hv with e1 e2 e3
  subst e1 e3
  refine ⟨gA, rfl, hb, blk_lt hg, ?_, blk_frozen hg _, ⟨cs, hg⟩, fun x => ?_⟩
  · rw [N.rowA.cellAt (p * 2 + 1) (by omega), (atts_get _ p hp).2]
  · refine N.inA _ _ (List.length_set ..) (fun q hq hne => Below.heap_setCell _ _ _ _ (fun e => hne (by simp [e]))) ?_
    have := own_setCell N.rowA (o := p * 2 + 1) (by omega) (.string x)
    rw [atts_setv hp] at this
    rw [List.length_set]
    exact this

theorem atts_take (l : List (ByteArray × ByteArray)) (p : Nat) : (atts l).take (p * 2) = atts (l.take p) := by
  induction l generalizing p with
  | nil => simp [atts]
  | cons x l ih =>
    cases p with
    | zero => simp [atts]
    | succ p =>
      rw [show (p + 1) * 2 = p * 2 + 2 by omega]
      simp only [atts, List.flatMap_cons, List.take_succ_cons, List.cons_append, List.nil_append] at ih ⊢
      rw [ih p]
theorem atts_drop (l : List (ByteArray × ByteArray)) (p : Nat) : (atts l).drop (p * 2) = atts (l.drop p) := by
  induction l generalizing p with
  | nil => simp [atts]
  | cons x l ih =>
    cases p with
    | zero => simp [atts]
    | succ p =>
      rw [show (p + 1) * 2 = p * 2 + 2 by omega]
      simp only [atts, List.flatMap_cons, List.drop_succ_cons, List.cons_append, List.nil_append] at ih ⊢
      rw [ih p]
theorem atts_ins (l : List (ByteArray × ByteArray)) (p : Nat) (a b : ByteArray) : (atts l).take (p * 2) ++ [.string a, .string b] ++ (atts l).drop (p * 2) = atts (l.take p ++ [(a, b)] ++ l.drop p) := by
  rw [atts_take, atts_drop, ← atts_app, ← atts_app]; simp [atts]
theorem own_apart {w : World} {base size n q : Nat} {e t : TypeId} {A : Option Addr} {c : Nat} {xs : List Value} {cs : Array Value} {fr : Nat × Nat} (h : w.ownsRow base e size (.slice A n c) n xs) (hb : w.heap[q]? = some (.cells cs t fr)) (hne : e ≠ t) : A.map (·.block) ≠ some q := by
  intro hq
  rcases h.2 with ⟨h0, _⟩ | ⟨g, cap, cur, h0, _, hg, _⟩
  · injection h0 with h1; rw [h1] at hq; cases hq
  · injection h0 with h1
    rw [h1] at hq
    injection hq with hq
    have hq : g = q := hq
    rw [← hq, hg] at hb
    injection hb with hb
    injection hb with _ h2
    exact hne h2
theorem ins_len (l : List (ByteArray × ByteArray)) {p : Nat} (hp : p ≤ l.length) (x : ByteArray × ByteArray) : (l.take p ++ [x] ++ l.drop p).length = l.length + 1 := by
  simp only [List.length_append, List.length_take, List.length_drop, List.length_cons, List.length_nil]; omega
theorem ins_nm (l : List (ByteArray × ByteArray)) {p : Nat} (hp : p ≤ l.length) (a b : ByteArray) : nm (l.take p ++ [(a, b)] ++ l.drop p) p = a := by
  unfold nm
  rw [List.getD_eq_getElem?_getD, List.append_assoc, List.getElem?_append_right (by simp; omega)]
  simp [Nat.min_eq_left hp]
theorem ins_set (l : List (ByteArray × ByteArray)) {p : Nat} (hp : p ≤ l.length) (a b c : ByteArray) : (l.take p ++ [(a, b)] ++ l.drop p).set p (a, c) = l.take p ++ [(a, c)] ++ l.drop p := by
  rw [List.append_assoc, List.set_append_right _ _ (by simp; omega)]
  simp [Nat.min_eq_left hp]

theorem blk_ne {w : World} {q r : Nat} {cs ds : Array Value} {t u : TypeId} {fr fs : Nat × Nat} (h : w.heap[q]? = some (.cells cs t fr)) (h' : w.heap[r]? = some (.cells ds u fs)) (hne : t ≠ u) : ¬ q = r := by
  rintro rfl
  rw [h] at h'
  injection h' with h'
  injection h' with _ h2
  exact hne h2
theorem nd_mem {T : List ANode} {i : Nat} (hi : i < T.length) : nd T i ∈ T := by
  unfold nd; rw [List.getD_eq_getElem?_getD, List.getElem?_eq_getElem hi]; exact List.getElem_mem _
theorem fits_setA {T : List ANode} {k : Nat} {l : List (ByteArray × ByteArray)} (hf : Fits T) (hk : k < T.length) (hl : l.length ≤ 70) (hm : ∀ y ∈ l, y.1.size ≤ 9223372036854775807 ∧ y.2.size ≤ 9223372036854775807) : Fits (setA T k l) := by
  intro x hx
  rcases List.mem_or_eq_of_mem_set hx with h | rfl
  · exact hf x h
  · have := hf _ (nd_mem hk)
    exact ⟨this.1, hl, this.2.2.1, hm⟩
theorem made2_nil {w w' : World} {v : Value} {code : Int} (hv : v = .tuple #[.agg #[.slice none 0 0], .int .i64 code]) (hb : Below w.heap.size w w') : MadeOwn2 w [] code (.returned v) w' :=
  ⟨none, 0, by rw [hv]; rfl, ownTree_nil _ _ _, ⟨rfl, by decide, fun x hx => by simp at hx, fun h => absurd h (by decide)⟩, hb⟩

set_option maxRecDepth 100000 in
set_option maxHeartbeats 4000000 in
theorem aset_new (A : Option Addr) (n c : Nat) (T : List ANode) (k : Nat) (s v : ByteArray) (w : World) (h : IsTree w A n T) (hk : k < n) (hg : goodB T = true) (hnm : namedB s = true) (h4 : ¬ 400 < v.size) (hh : hasA (atl T k) s = false) (hf : ¬ (atl T k).length = 16) (hs : s.size ≤ 9223372036854775807) (hv : v.size ≤ 9223372036854775807) :
    Calls Try.prog 42 #[.agg #[.slice A n c], .int .i64 k, .string s, .string v] w (MadeOwn2 w (setT T k s v) (setE T k s v)) := by
  have hT := hide h
  have hl := h.1
  have ho := hide h.2.2.2
  clear h
  have hB0 : Below w.heap.size w ((w.alloc (.cells #[.slice A n c] 24)).alloc (.cells #[.slice none 0 0] 24)) := below_alloc (below_alloc (Below.refl _ _) _) _
  have hbox0 : ((w.alloc (.cells #[.slice A n c] 24)).alloc (.cells #[.slice none 0 0] 24)).cell? ⟨w.heap.size, 0, none⟩ = some (.slice A n c) := by go_simp
  have hr0 : ((w.alloc (.cells #[.slice A n c] 24)).alloc (.cells #[.slice none 0 0] 24)).heap[w.heap.size + 1]? = some (.cells #[.slice none 0 0] 24 (0, 0)) := blk_at _ _ _ _ (by simp)
  have h0 : askI T [(k : Int)] = 0 := askI_ok hg (by simp; omega)
  have hq0 : (askI T [(k : Int)] != 0) = false := by simp [h0]
  have hE : setE T k s v = if namedB s = true then (if 400 < v.size then 28 else if hasA (atl T k) s = false ∧ (atl T k).length = 16 then 18 else 0) else 2 := by unfold setE; rw [if_pos h0, Int.toNat_natCast]
  have hnE : newE s = 0 := by simp [newE, hnm]
  have hnT : newT s = [rootT s] := by simp [newT, hnm]
  rw [hnm, if_pos rfl, if_neg h4] at hE
  obtain ⟨hsd, h16⟩ := good_attrs hg (by omega : k < T.length)
  obtain ⟨b, off, aA, cA, aC, cC, rfl, hbl, -, c1, -, -, hA, -⟩ := ho.out (by omega)
  have c1' := hide (c1 k hk)
  have hA' := hide (hA k hk).1
  change Hid (w.cell? ⟨b, off + k * 4 + 1, none⟩ = some (Value.slice (aA k) (atl T k).length (aC k))) at c1'
  change Hid (IsAttrs w (aA k) (atl T k).length (atl T k)) at hA'
  have hlo := (low_split hsd s).1
  have hat : hasA (atl T k) s = true → lowA (atl T k) s < (atl T k).length := fun h => by unfold hasA at h; simp at h; exact h.1
  have hnat : hasA (atl T k) s = true → nm (atl T k) (lowA (atl T k) s) = s := fun h => by unfold hasA at h; simp at h; exact h.2
  have hTd : setE T k s v = 0 → setT T k s v = setA T k (if hasA (atl T k) s = true then (atl T k).set (lowA (atl T k) s) (s, v) else (atl T k).take (lowA (atl T k) s) ++ [(s, v)] ++ (atl T k).drop (lowA (atl T k) s)) := fun h => by unfold setT putL; rw [if_pos h, Int.toNat_natCast]
  have hatl : (nd T k).attrs = atl T k := rfl
  have hatl' := hide hatl
  generalize aA k = AA at c1' hA'
  generalize aC k = ac at c1'
  generalize hla : atl T k = l at *
  generalize hlow : lowA l s = at' at *
  have hlow' := hide hlow
  have hs' := hide hsd
  have hnE' := hide hnE
  have hnT' := hide hnT
  have hg' := hide hg
  have hfit := hide (good_fits hg)
  have hn64 : n ≤ 64 := by have := ((goodB_iff T).1 hg).2.1; omega
  have hh' := hide hh
  have he : setE T k s v = 0 := by rw [hE, hh]; simp [hf]
  have ht : setT T k s v = setA T k (l.take at' ++ [(s, v)] ++ l.drop at') := by rw [hTd he, hh]; rfl
  obtain ⟨TT, hTT0⟩ : ∃ TT, TT = setA T k (l.take at' ++ [(s, v)] ++ l.drop at') := ⟨_, rfl⟩
  rw [he, ht, ← hTT0]
  have hTT1 := hide hTT0
  have hf' : ((l.length : Int) == 16) = false := by simp; omega
  clear he ht hE h0 hnE hnT c1 hA ho hsd hlow hh hat hnat hTd hla hatl hf hg hTT0
  go_enter Try.func42, Try.ntmps42
  go_wp2_with fail
  refine (acheck_ok _ _ _ T _ _ (hT.out.below hB0)).mono ?_
  rintro e w1 ⟨rfl, hb1⟩
  have hbox1 := cell_later hb1 hbox0
  have hB1 := Below.on hB0 hb1
  have hr1 := (hb1.block (w.heap.size + 1) (blk_lt hr0)).trans hr0
  have q1 : w1.cell? ⟨w.heap.size + 1, 0, none⟩ = some (.slice none 0 0) := by rw [blk_cell hr1]; rfl
  have q2 : w1.frozen? ⟨w.heap.size + 1, 0, none⟩ = false := blk_frozen hr1 0
  go_wp2_with fail
  have hnew := new_ok s w1 hs
  rw [hnE'.out, hnT'.out] at hnew
  refine hnew.mono ?_
  rintro e w2 ⟨A2, c2, rfl, -, -, hb2⟩
  clear hnew
  have hB2 := Below.on hB1 hb2
  have hr2 := (hb2.block (w.heap.size + 1) (blk_lt hr1)).trans hr1
  have q1 : w2.cell? ⟨w.heap.size + 1, 0, none⟩ = some (.slice none 0 0) := by rw [blk_cell hr2]; rfl
  have q2 : w2.frozen? ⟨w.heap.size + 1, 0, none⟩ = false := blk_frozen hr2 0
  have hra := blk_alloc hr2 (.cells #[.slice A2 1 c2] 24)
  have q1a : (w2.alloc (.cells #[.slice A2 1 c2] 24)).cell? ⟨w.heap.size + 1, 0, none⟩ = some (.slice none 0 0) := by rw [blk_cell hra]; rfl
  have q2a : (w2.alloc (.cells #[.slice A2 1 c2] 24)).frozen? ⟨w.heap.size + 1, 0, none⟩ = false := blk_frozen hra 0
  have hB2a := below_alloc hB2 (.cells #[.slice A2 1 c2] 24)
  have hbox2 := cell_later (below_alloc hb2 (.cells #[.slice A2 1 c2] 24)) hbox1
  have g1 := (old hB2a _ _ hbl).trans c1'.out
  go_wp2_with fail
  have hf := find_ok AA l.length ac l s (w2.alloc (.cells #[.slice A2 1 c2] 24)) (hA'.out.below hB2a) hs'.out (by omega)
  rw [hlow'.out, hh'.out] at hf
  refine hf.mono ?_
  rintro e w3 ⟨rfl, hb3⟩
  clear hf
  have hB3 := Below.on hB2a hb3
  have hbox3 := cell_later hb3 hbox2
  have g3 := cell_later hb3 g1
  have hr3 := (hb3.block (w.heap.size + 1) (blk_lt hra)).trans hra
  have q1 : w3.cell? ⟨w.heap.size + 1, 0, none⟩ = some (.slice none 0 0) := by rw [blk_cell hr3]; rfl
  have q2 : w3.frozen? ⟨w.heap.size + 1, 0, none⟩ = false := blk_frozen hr3 0
  go_wp2_with fail
  refine (atwin_ok _ _ _ T _ (hT.out.below hB3) (by omega) hfit.out).mono ?_
  rintro e w4 ⟨A4, c4, rfl, hO4, -, hb4⟩
  have hB4 := Below.on hB3 hb4
  have hr4 := (hb4.block (w.heap.size + 1) (blk_lt hr3)).trans hr3
  have q1 : w4.cell? ⟨w.heap.size + 1, 0, none⟩ = some (.slice none 0 0) := by rw [blk_cell hr4]; rfl
  have q2 : w4.frozen? ⟨w.heap.size + 1, 0, none⟩ = false := blk_frozen hr4 0
  have hO4a := hO4.below (below_alloc (Below.refl _ _) (.cells #[.slice A4 n c4] 24))
  obtain ⟨g, cap, A', ac', C', cc', N⟩ := hO4a.node hk hl
  have hval := N.val
  injection hval with e1 e2 e3
  subst e1 e3
  have hr4a := blk_alloc hr4 (.cells #[.slice (some ⟨g, 0, none⟩) n c4] 24)
  have hk4a := blk_new w4 #[.slice (some ⟨g, 0, none⟩) n c4] 24
  have q1 : (w4.alloc (.cells #[.slice (some ⟨g, 0, none⟩) n c4] 24)).cell? ⟨w.heap.size + 1, 0, none⟩ = some (.slice none 0 0) := by rw [blk_cell hr4a]; rfl
  have q2 : (w4.alloc (.cells #[.slice (some ⟨g, 0, none⟩) n c4] 24)).frozen? ⟨w.heap.size + 1, 0, none⟩ = false := blk_frozen hr4a 0
  have hcl := N.c1
  rw [hatl'.out] at hcl
  have hrowA := N.rowA
  rw [hatl'.out] at hrowA
  have hz4 : w3.heap.size ≤ (w4.alloc (.cells #[.slice (some ⟨g, 0, none⟩) n c4] 24)).heap.size := by have := hb4.size; simp; omega
  have hins := insA_ok A' l.length ac' at' w3.heap.size (atts l) [.string s, .string ⟨#[]⟩] _ hrowA hlo (by omega) rfl (by intro u hu; simp at hu; rcases hu with rfl | rfl <;> rfl) (atts_one _) hz4
  rw [show (w4.alloc (.cells #[.slice (some ⟨g, 0, none⟩) n c4] 24)).heap.size = w4.heap.size + 1 by simp] at hins
  have hN := hide N
  have hins' := hide hins
  have hrowA' := hide hrowA
  have fzc := N.fz (k * 4 + 1)
  clear N hins hrowA hO4a
  go_wp2_with fail
  refine hins'.out.mono ?_
  rintro e w5 ⟨A5, c5, rfl, hown5, hG5⟩
  have hap5 := own_apart hrowA'.out hk4a (by decide)
  have hap5g := hN.out.isA
  have hlt5 : w4.heap.size + 1 < w5.heap.size := by have := hG5.lt; simp at this; omega
  have hr5 := hG5.keep (by have := blk_lt hr3; omega) hr4a
  have hk5 := (hG5.2.2.2.1 w4.heap.size (by simp) (by rw [ownBlock_slice]; exact hap5)).trans hk4a
  have hg5 := hG5.2.2.2.1 g hN.out.lt (by rw [ownBlock_slice]; exact hap5g)
  have c15 : w5.cell? ⟨g, k * 4 + 1, none⟩ = some (.slice A' l.length ac') := (World.cell?_of_block hg5).trans hcl
  have f15 : w5.frozen? ⟨g, k * 4 + 1, none⟩ = false := (World.frozen?_of_block hg5).trans fzc
  have hlen1 := ins_len l hlo (s, (⟨#[]⟩ : ByteArray))
  have hO5 := hN.out.onA w5 A5 c5 (l.take at' ++ [(s, ⟨#[]⟩)] ++ l.drop at') (fun q hq hne => hG5.2.2.2.1 q hq (by rw [ownBlock_slice]; exact hne)) (by rw [hlen1, ← atts_ins]; exact hown5) (fun q hq => by
    rcases hG5.2.2.2.2 q ((ownBlock_slice _ _ _).trans hq) with h | h
    · rw [ownBlock_slice] at h; exact .inl h
    · exact .inr (by omega))
  rw [hlen1] at hO5
  obtain ⟨g5, cap5, cs5, hv5, hnc5, hcm5, hb5, hg55⟩ := own_block hown5 (by omega)
  injection hv5 with e4 e5 e6
  subst e4 e6
  have hgT : w5.heap[g]? = (w4.alloc (.cells #[.slice (some ⟨g, 0, none⟩) n c4] 24)).heap[g]? := hg5
  obtain ⟨csN, hgN⟩ := hN.out.typ
  have hgN5 := hgT.trans hgN
  have ng1 : ¬ (g5 = g) := blk_ne hg55 hgN5 (by decide)
  have ng2 : ¬ (w4.heap.size = g) := blk_ne hk4a hgN (by decide)
  have ng3 : ¬ (w4.heap.size = g5) := blk_ne hk5 hg55 (by decide)
  have hlow := hN.out.low
  have hw3 := blk_lt hr3
  have ng4 : ¬ (w.heap.size + 1 = g) := by omega
  have ng5 : ¬ (w.heap.size + 1 = g5) := by omega
  have ng6 : ¬ (w.heap.size + 1 = w4.heap.size) := by have := blk_lt hr4; omega
  have hgl5 : g < w5.heap.size := blk_lt hgN5
  obtain ⟨g6, cap6, A6, ac6, C6, cc6, N6⟩ := hO5.node hk (by rw [setA_len]; exact hl)
  have hvN := N6.val
  injection hvN with h1 hx1 hx2
  injection h1 with h1
  injection h1 with h1 hx3 hx4
  subst h1
  have hnd6 : (nd (setA T k (l.take at' ++ [(s, ⟨#[]⟩)] ++ l.drop at')) k).attrs = l.take at' ++ [(s, ⟨#[]⟩)] ++ l.drop at' := by unfold setA; rw [nd_set (by omega), if_pos rfl]
  have hss : (w5.setCell ⟨g, k * 4 + 1, none⟩ (.slice (some ⟨g5, 0, none⟩) (l.length + 1) c5)).cell? ⟨g, k * 4 + 1, none⟩ = some (.slice (some ⟨g5, 0, none⟩) (l.length + 1) c5) := by clear hcl; go_simp
  have hcc := hss.symm.trans N6.c1
  injection hcc with hcc
  injection hcc with hA6 hx5 hx6
  subst hA6
  obtain ⟨gA, hgA, hbA, hlA, hcA, hfA, -, hst⟩ := val_store N6 (p := at') (by rw [hnd6, hlen1]; omega)
  injection hgA with hgA
  injection hgA with hgA hx7 hx8
  subst hgA
  have hO7 := hst v
  rw [hnd6, ins_nm l hlo, ins_set l hlo] at hO7
  have hTT : setA (setA T k (l.take at' ++ [(s, ⟨#[]⟩)] ++ l.drop at')) k (l.take at' ++ [(s, v)] ++ l.drop at') = setA T k (l.take at' ++ [(s, v)] ++ l.drop at') := by unfold setA; rw [nd_set (by omega), if_pos rfl, List.set_set]
  rw [hTT] at hO7
  have hr7 := blk_far (p := ⟨g5, at' * 2 + 1, none⟩) (blk_far (p := ⟨g, k * 4 + 1, none⟩) hr5 ng4 (.slice (some ⟨g5, 0, none⟩) (l.length + 1) c5)) ng5 (.string v)
  have hk7 := blk_far (p := ⟨g5, at' * 2 + 1, none⟩) (blk_far (p := ⟨g, k * 4 + 1, none⟩) hk5 ng2 (.slice (some ⟨g5, 0, none⟩) (l.length + 1) c5)) ng3 (.string v)
  have hB5 : Below w.heap.size w w5 := hG5.below (by omega) (below_alloc hB4 _)
  have hB7 := (hB5.setCell (p := ⟨g, k * 4 + 1, none⟩) (by show w.heap.size ≤ g; omega) (.slice (some ⟨g5, 0, none⟩) (l.length + 1) c5)).setCell (p := ⟨g5, at' * 2 + 1, none⟩) (by show w.heap.size ≤ g5; omega) (.string v)
  have hO8 := (hO7.set_typed (i := 0) hr7 (.slice (some ⟨g, 0, none⟩) n c4)).base (base := w.heap.size) (by omega)
  have hfit8 : Fits (setA T k (l.take at' ++ [(s, v)] ++ l.drop at')) := fits_setA hfit.out (by omega) (by rw [ins_len l hlo]; omega) (fun y hy => by
    have hfk := (hfit.out _ (nd_mem (T := T) (i := k) (by omega))).2.2.2
    rw [hatl'.out] at hfk
    simp only [List.mem_append, List.mem_singleton] at hy
    rcases hy with (hy | rfl) | hy
    · exact hfk y (List.mem_of_mem_take hy)
    · exact ⟨hs, hv⟩
    · exact hfk y (List.mem_of_mem_drop hy))
  obtain ⟨A9, c9, hv9, -, -, hT9⟩ := isTree_of_own hO8 (by rw [setA_len]; exact hl) (by omega) hfit8
  injection hv9 with h1 hx9 hx10
  subst h1
  have hB8 := hB7.setCell (p := ⟨w.heap.size + 1, 0, none⟩) (by show w.heap.size ≤ w.heap.size + 1; omega) (.slice (some ⟨g, 0, none⟩) n c4)
  have hE : MadeOwn2 w (setA T k (l.take at' ++ [(s, v)] ++ l.drop at')) 0 (.returned (.tuple #[.agg #[.slice (some ⟨g, 0, none⟩) n c4], .int .i64 0])) _ := ⟨_, _, by rw [setA_len, hl], by rw [setA_len, hl]; exact hO8, by rw [setA_len, hl]; exact hT9, hB8⟩
  have hres : World.cell? _ ⟨w.heap.size + 1, 0, none⟩ = some (.slice (some ⟨g, 0, none⟩) n c4) := (blk_cell (blk_set hr7 0 (.slice (some ⟨g, 0, none⟩) n c4)) 0).trans rfl
  have c55 : w5.cell? ⟨g5, at' * 2 + 1, none⟩ = some (.string (vl (l.take at' ++ [(s, ⟨#[]⟩)] ++ l.drop at') at')) := by
    rw [hnd6] at hcA
    exact (World.cell?_of_block (Below.heap_setCell _ _ _ _ ng1)).symm.trans hcA
  generalize vl (l.take at' ++ [(s, ⟨#[]⟩)] ++ l.drop at') at' = vx at c55
  have f55 : w5.frozen? ⟨g5, at' * 2 + 1, none⟩ = false := blk_frozen hg55 _
  have k5c : w5.cell? ⟨w4.heap.size, 0, none⟩ = some (.slice (some ⟨g, 0, none⟩) n c4) := by rw [blk_cell hk5]; rfl
  have q1 : w5.cell? ⟨w.heap.size + 1, 0, none⟩ = some (.slice none 0 0) := by rw [blk_cell hr5]; rfl
  have q2 : w5.frozen? ⟨w.heap.size + 1, 0, none⟩ = false := blk_frozen hr5 0
  have hix : (at' : Int) < (l.length : Int) + 1 := by omega
  have hiy : (at' : Int) < ((l.length + 1 : Nat) : Int) := by omega
  rw [← hTT1.out] at hE
  have hE' := hide hE
  have hres' := hide hres
  clear hx1 hx2 hx3 hx4 hx5 hx6 hx7 hx8 hx9 hx10
  clear hE hres hB8 hB7 hB5 hO8 hO7 hTT hst hfA hcA hlA hbA hss hnd6 N6 hgN5 hgN hgT hnc5 hcm5 hb5 hO5 hG5 hown5 e5 hlen1 hg5 hap5 hap5g hz4 hcl fzc hT9 hfit8 hr7 hk7 hw3 hlow
  go_wp2
  exact bodyPost_ret (v := .tuple #[.agg #[.slice (some ⟨g, 0, none⟩) n c4], .int .i64 0]) (by simp [results, Try.results42, go_sem, hres'.out]) rfl hE'.out

set_option maxRecDepth 100000 in
set_option maxHeartbeats 4000000 in
theorem aset_old (A : Option Addr) (n c : Nat) (T : List ANode) (k : Nat) (s v : ByteArray) (w : World) (h : IsTree w A n T) (hk : k < n) (hg : goodB T = true) (hnm : namedB s = true) (h4 : ¬ 400 < v.size) (hh : hasA (atl T k) s = true) (hs : s.size ≤ 9223372036854775807) (hv : v.size ≤ 9223372036854775807) :
    Calls Try.prog 42 #[.agg #[.slice A n c], .int .i64 k, .string s, .string v] w (MadeOwn2 w (setT T k s v) (setE T k s v)) := by
  have hT := hide h
  have hl := h.1
  have ho := hide h.2.2.2
  clear h
  have hB0 : Below w.heap.size w ((w.alloc (.cells #[.slice A n c] 24)).alloc (.cells #[.slice none 0 0] 24)) := below_alloc (below_alloc (Below.refl _ _) _) _
  have hbox0 : ((w.alloc (.cells #[.slice A n c] 24)).alloc (.cells #[.slice none 0 0] 24)).cell? ⟨w.heap.size, 0, none⟩ = some (.slice A n c) := by go_simp
  have hr0 : ((w.alloc (.cells #[.slice A n c] 24)).alloc (.cells #[.slice none 0 0] 24)).heap[w.heap.size + 1]? = some (.cells #[.slice none 0 0] 24 (0, 0)) := blk_at _ _ _ _ (by simp)
  have h0 : askI T [(k : Int)] = 0 := askI_ok hg (by simp; omega)
  have hq0 : (askI T [(k : Int)] != 0) = false := by simp [h0]
  have hE : setE T k s v = if namedB s = true then (if 400 < v.size then 28 else if hasA (atl T k) s = false ∧ (atl T k).length = 16 then 18 else 0) else 2 := by unfold setE; rw [if_pos h0, Int.toNat_natCast]
  have hnE : newE s = 0 := by simp [newE, hnm]
  have hnT : newT s = [rootT s] := by simp [newT, hnm]
  rw [hnm, if_pos rfl, if_neg h4] at hE
  obtain ⟨hsd, h16⟩ := good_attrs hg (by omega : k < T.length)
  obtain ⟨b, off, aA, cA, aC, cC, rfl, hbl, -, c1, -, -, hA, -⟩ := ho.out (by omega)
  have c1' := hide (c1 k hk)
  have hA' := hide (hA k hk).1
  change Hid (w.cell? ⟨b, off + k * 4 + 1, none⟩ = some (Value.slice (aA k) (atl T k).length (aC k))) at c1'
  change Hid (IsAttrs w (aA k) (atl T k).length (atl T k)) at hA'
  have hlo := (low_split hsd s).1
  have hat : hasA (atl T k) s = true → lowA (atl T k) s < (atl T k).length := fun h => by unfold hasA at h; simp at h; exact h.1
  have hnat : hasA (atl T k) s = true → nm (atl T k) (lowA (atl T k) s) = s := fun h => by unfold hasA at h; simp at h; exact h.2
  have hTd : setE T k s v = 0 → setT T k s v = setA T k (if hasA (atl T k) s = true then (atl T k).set (lowA (atl T k) s) (s, v) else (atl T k).take (lowA (atl T k) s) ++ [(s, v)] ++ (atl T k).drop (lowA (atl T k) s)) := fun h => by unfold setT putL; rw [if_pos h, Int.toNat_natCast]
  have hatl : (nd T k).attrs = atl T k := rfl
  have hatl' := hide hatl
  generalize aA k = AA at c1' hA'
  generalize aC k = ac at c1'
  generalize hla : atl T k = l at *
  generalize hlow : lowA l s = at' at *
  have hlow' := hide hlow
  have hs' := hide hsd
  have hnE' := hide hnE
  have hnT' := hide hnT
  have hg' := hide hg
  have hfit := hide (good_fits hg)
  have hn64 : n ≤ 64 := by have := ((goodB_iff T).1 hg).2.1; omega
  have hh' := hide hh
  have hat1 := hat hh
  have hnat1 := hnat hh
  have he : setE T k s v = 0 := by rw [hE, hh]; simp
  have ht : setT T k s v = setA T k (l.set at' (s, v)) := by rw [hTd he, hh]; rfl
  obtain ⟨TT, hTT0⟩ : ∃ TT, TT = setA T k (l.set at' (s, v)) := ⟨_, rfl⟩
  rw [he, ht, ← hTT0]
  have hTT1 := hide hTT0
  have hnat' := hide hnat1
  clear he ht hE h0 hnE hnT c1 hA ho hsd hlow hh hat hnat hTd hla hatl hg hTT0 hnat1
  go_enter Try.func42, Try.ntmps42
  go_wp2_with fail
  refine (acheck_ok _ _ _ T _ _ (hT.out.below hB0)).mono ?_
  rintro e w1 ⟨rfl, hb1⟩
  have hbox1 := cell_later hb1 hbox0
  have hB1 := Below.on hB0 hb1
  have hr1 := (hb1.block (w.heap.size + 1) (blk_lt hr0)).trans hr0
  have q1 : w1.cell? ⟨w.heap.size + 1, 0, none⟩ = some (.slice none 0 0) := by rw [blk_cell hr1]; rfl
  have q2 : w1.frozen? ⟨w.heap.size + 1, 0, none⟩ = false := blk_frozen hr1 0
  go_wp2_with fail
  have hnew := new_ok s w1 hs
  rw [hnE'.out, hnT'.out] at hnew
  refine hnew.mono ?_
  rintro e w2 ⟨A2, c2, rfl, -, -, hb2⟩
  clear hnew
  have hB2 := Below.on hB1 hb2
  have hr2 := (hb2.block (w.heap.size + 1) (blk_lt hr1)).trans hr1
  have q1 : w2.cell? ⟨w.heap.size + 1, 0, none⟩ = some (.slice none 0 0) := by rw [blk_cell hr2]; rfl
  have q2 : w2.frozen? ⟨w.heap.size + 1, 0, none⟩ = false := blk_frozen hr2 0
  have hra := blk_alloc hr2 (.cells #[.slice A2 1 c2] 24)
  have q1a : (w2.alloc (.cells #[.slice A2 1 c2] 24)).cell? ⟨w.heap.size + 1, 0, none⟩ = some (.slice none 0 0) := by rw [blk_cell hra]; rfl
  have q2a : (w2.alloc (.cells #[.slice A2 1 c2] 24)).frozen? ⟨w.heap.size + 1, 0, none⟩ = false := blk_frozen hra 0
  have hB2a := below_alloc hB2 (.cells #[.slice A2 1 c2] 24)
  have hbox2 := cell_later (below_alloc hb2 (.cells #[.slice A2 1 c2] 24)) hbox1
  have g1 := (old hB2a _ _ hbl).trans c1'.out
  go_wp2_with fail
  have hf := find_ok AA l.length ac l s (w2.alloc (.cells #[.slice A2 1 c2] 24)) (hA'.out.below hB2a) hs'.out (by omega)
  rw [hlow'.out, hh'.out] at hf
  refine hf.mono ?_
  rintro e w3 ⟨rfl, hb3⟩
  clear hf
  have hB3 := Below.on hB2a hb3
  have hbox3 := cell_later hb3 hbox2
  have g3 := cell_later hb3 g1
  have hr3 := (hb3.block (w.heap.size + 1) (blk_lt hra)).trans hra
  have q1 : w3.cell? ⟨w.heap.size + 1, 0, none⟩ = some (.slice none 0 0) := by rw [blk_cell hr3]; rfl
  have q2 : w3.frozen? ⟨w.heap.size + 1, 0, none⟩ = false := blk_frozen hr3 0
  go_wp2_with fail
  refine (atwin_ok _ _ _ T _ (hT.out.below hB3) (by omega) hfit.out).mono ?_
  rintro e w4 ⟨A4, c4, rfl, hO4, -, hb4⟩
  have hB4 := Below.on hB3 hb4
  have hr4 := (hb4.block (w.heap.size + 1) (blk_lt hr3)).trans hr3
  have q1 : w4.cell? ⟨w.heap.size + 1, 0, none⟩ = some (.slice none 0 0) := by rw [blk_cell hr4]; rfl
  have q2 : w4.frozen? ⟨w.heap.size + 1, 0, none⟩ = false := blk_frozen hr4 0
  have hO4a := hO4.below (below_alloc (Below.refl _ _) (.cells #[.slice A4 n c4] 24))
  obtain ⟨g, cap, A', ac', C', cc', N⟩ := hO4a.node hk hl
  have hval := N.val
  injection hval with e1 e2 e3
  subst e1 e3
  have hr4a := blk_alloc hr4 (.cells #[.slice (some ⟨g, 0, none⟩) n c4] 24)
  have hk4a := blk_new w4 #[.slice (some ⟨g, 0, none⟩) n c4] 24
  have q1 : (w4.alloc (.cells #[.slice (some ⟨g, 0, none⟩) n c4] 24)).cell? ⟨w.heap.size + 1, 0, none⟩ = some (.slice none 0 0) := by rw [blk_cell hr4a]; rfl
  have q2 : (w4.alloc (.cells #[.slice (some ⟨g, 0, none⟩) n c4] 24)).frozen? ⟨w.heap.size + 1, 0, none⟩ = false := blk_frozen hr4a 0
  have hcl := N.c1
  rw [hatl'.out] at hcl
  obtain ⟨csN, hgN⟩ := N.typ
  obtain ⟨g5, rfl, hb5, hl5, hc5, hf5, ⟨cs5, hg55⟩, hst⟩ := val_store N (p := at') (by rw [hatl'.out]; exact hat1)
  have hO7 := hst v
  rw [hatl'.out, hnat'.out] at hO7
  rw [hatl'.out] at hc5
  generalize vl l at' = vx at hc5
  have ng2 : ¬ (w4.heap.size = g) := blk_ne hk4a hgN (by decide)
  have ng3 : ¬ (w4.heap.size = g5) := blk_ne hk4a hg55 (by decide)
  have hw3 := blk_lt hr3
  have hlow := N.low
  have ng4 : ¬ (w.heap.size + 1 = g) := by omega
  have ng5 : ¬ (w.heap.size + 1 = g5) := by omega
  have ng6 : ¬ (w.heap.size + 1 = w4.heap.size) := by have := blk_lt hr4; omega
  have hr7 := blk_far (p := ⟨g5, at' * 2 + 1, none⟩) hr4a ng5 (.string v)
  have hB7 := (below_alloc hB4 (.cells #[.slice (some ⟨g, 0, none⟩) n c4] 24)).setCell (p := ⟨g5, at' * 2 + 1, none⟩) (by show w.heap.size ≤ g5; omega) (.string v)
  have hO8 := (hO7.set_typed (i := 0) hr7 (.slice (some ⟨g, 0, none⟩) n c4)).base (base := w.heap.size) (by omega)
  have hfit8 : Fits (setA T k (l.set at' (s, v))) := fits_setA hfit.out (by omega) (by rw [List.length_set]; omega) (fun y hy => by
    have hfk := (hfit.out _ (nd_mem (T := T) (i := k) (by omega))).2.2.2
    rw [hatl'.out] at hfk
    rcases List.mem_or_eq_of_mem_set hy with h | rfl
    · exact hfk y h
    · exact ⟨hs, hv⟩)
  obtain ⟨A9, c9, hv9, -, -, hT9⟩ := isTree_of_own hO8 (by rw [setA_len]; exact hl) (by omega) hfit8
  injection hv9 with h1 hx9 hx10
  subst h1
  have hB8 := hB7.setCell (p := ⟨w.heap.size + 1, 0, none⟩) (by show w.heap.size ≤ w.heap.size + 1; omega) (.slice (some ⟨g, 0, none⟩) n c4)
  have hE : MadeOwn2 w (setA T k (l.set at' (s, v))) 0 (.returned (.tuple #[.agg #[.slice (some ⟨g, 0, none⟩) n c4], .int .i64 0])) _ := ⟨_, _, by rw [setA_len, hl], by rw [setA_len, hl]; exact hO8, by rw [setA_len, hl]; exact hT9, hB8⟩
  have hres : World.cell? _ ⟨w.heap.size + 1, 0, none⟩ = some (.slice (some ⟨g, 0, none⟩) n c4) := (blk_cell (blk_set hr7 0 (.slice (some ⟨g, 0, none⟩) n c4)) 0).trans rfl
  have k5c : (w4.alloc (.cells #[.slice (some ⟨g, 0, none⟩) n c4] 24)).cell? ⟨w4.heap.size, 0, none⟩ = some (.slice (some ⟨g, 0, none⟩) n c4) := by rw [blk_cell hk4a]; rfl
  have hix : (at' : Int) < (l.length : Int) := by omega
  rw [← hTT1.out] at hE
  have hE' := hide hE
  have hres' := hide hres
  clear hx9 hx10 hE hres hB8 hB7 hO8 hO7 hst hb5 N hgN hO4a hT9 hfit8 hr7 hw3 hlow
  go_wp2
  exact bodyPost_ret (v := .tuple #[.agg #[.slice (some ⟨g, 0, none⟩) n c4], .int .i64 0]) (by simp [results, Try.results42, go_sem, hres'.out]) rfl hE'.out

set_option maxRecDepth 100000 in
set_option maxHeartbeats 4000000 in
theorem aset_ok (A : Option Addr) (n c : Nat) (T : List ANode) (i : Int) (s v : ByteArray) (w : World) (h : IsTree w A n T) (hs : s.size ≤ 9223372036854775807) (hv : v.size ≤ 9223372036854775807) :
    Calls Try.prog 42 #[.agg #[.slice A n c], .int .i64 i, .string s, .string v] w (MadeOwn2 w (setT T i s v) (setE T i s v)) := by
  have hT := hide h
  have hl := h.1
  have ho := hide h.2.2.2
  clear h
  have hB0 : Below w.heap.size w ((w.alloc (.cells #[.slice A n c] 24)).alloc (.cells #[.slice none 0 0] 24)) := below_alloc (below_alloc (Below.refl _ _) _) _
  have hbox0 : ((w.alloc (.cells #[.slice A n c] 24)).alloc (.cells #[.slice none 0 0] 24)).cell? ⟨w.heap.size, 0, none⟩ = some (.slice A n c) := by go_simp
  have hr0 : ((w.alloc (.cells #[.slice A n c] 24)).alloc (.cells #[.slice none 0 0] 24)).heap[w.heap.size + 1]? = some (.cells #[.slice none 0 0] 24 (0, 0)) := blk_at _ _ _ _ (by simp)
  by_cases h0 : askI T [i] = 0
  · obtain ⟨hg, hir⟩ := askI_zero.1 h0
    have hir := hir i (by simp)
    obtain ⟨k, rfl⟩ := Int.eq_ofNat_of_zero_le hir.1
    have hk : k < n := by omega
    have hq0 : (askI T [(k : Int)] != 0) = false := by simp [h0]
    have hE : setE T k s v = if namedB s = true then (if 400 < v.size then 28 else if hasA (atl T k) s = false ∧ (atl T k).length = 16 then 18 else 0) else 2 := by unfold setE; rw [if_pos h0, Int.toNat_natCast]
    cases hnm : namedB s
    · have he : setE T k s v = 2 := by rw [hE, hnm]; rfl
      have ht : setT T k s v = [] := by unfold setT; rw [he]; rfl
      rw [he, ht]
      have hnE : newE s = 2 := by simp [newE, hnm]
      have hnT : newT s = [] := by simp [newT, hnm]
      have hnE' := hide hnE
      have hnT' := hide hnT
      clear he ht hE hir hg h0 hnE hnT
      go_enter Try.func42, Try.ntmps42
      go_wp2_with fail
      refine (acheck_ok _ _ _ T _ _ (hT.out.below hB0)).mono ?_
      rintro e w1 ⟨rfl, hb1⟩
      have hbox1 := cell_later hb1 hbox0
      have hB1 := Below.on hB0 hb1
      have hr1 := (hb1.block (w.heap.size + 1) (blk_lt hr0)).trans hr0
      have q1 : w1.cell? ⟨w.heap.size + 1, 0, none⟩ = some (.slice none 0 0) := by rw [blk_cell hr1]; rfl
      have q2 : w1.frozen? ⟨w.heap.size + 1, 0, none⟩ = false := blk_frozen hr1 0
      go_wp2_with fail
      have hnew := new_ok s w1 hs
      rw [hnE'.out, hnT'.out] at hnew
      refine hnew.mono ?_
      rintro e w2 ⟨A2, c2, rfl, -, -, hb2⟩
      clear hnew
      have hB2 := Below.on hB1 hb2
      have hr2 := (hb2.block (w.heap.size + 1) (blk_lt hr1)).trans hr1
      have q1 : w2.cell? ⟨w.heap.size + 1, 0, none⟩ = some (.slice none 0 0) := by rw [blk_cell hr2]; rfl
      have q2 : w2.frozen? ⟨w.heap.size + 1, 0, none⟩ = false := blk_frozen hr2 0
      have hra := blk_alloc hr2 (.cells #[.slice A2 0 c2] 24)
      have q1a : (w2.alloc (.cells #[.slice A2 0 c2] 24)).cell? ⟨w.heap.size + 1, 0, none⟩ = some (.slice none 0 0) := by rw [blk_cell hra]; rfl
      have q2a : (w2.alloc (.cells #[.slice A2 0 c2] 24)).frozen? ⟨w.heap.size + 1, 0, none⟩ = false := blk_frozen hra 0
      go_wp2
      have hres := (blk_cell (blk_set hra 0 (.slice none 0 0)) 0).trans (rfl : (#[Value.slice none 0 0].setIfInBounds 0 (.slice none 0 0))[0]? = some (.slice none 0 0))
      refine bodyPost_ret (v := .tuple #[.agg #[.slice none 0 0], .int .i64 2]) (by simp [results, Try.results42, go_sem, hres]) rfl (made2_nil rfl ((below_alloc hB2 _).setCell (p := ⟨w.heap.size + 1, 0, none⟩) (by show w.heap.size ≤ w.heap.size + 1; omega) _))
    · have hnE : newE s = 0 := by simp [newE, hnm]
      have hnT : newT s = [rootT s] := by simp [newT, hnm]
      rw [hnm, if_pos rfl] at hE
      by_cases h4 : 400 < v.size
      · have he : setE T k s v = 28 := by rw [hE, if_pos h4]
        have ht : setT T k s v = [] := by unfold setT; rw [he]; rfl
        rw [he, ht]
        have hnE' := hide hnE
        have hnT' := hide hnT
        clear he ht hE hir hg h0 hnE hnT
        go_enter Try.func42, Try.ntmps42
        go_wp2_with fail
        refine (acheck_ok _ _ _ T _ _ (hT.out.below hB0)).mono ?_
        rintro e w1 ⟨rfl, hb1⟩
        have hbox1 := cell_later hb1 hbox0
        have hB1 := Below.on hB0 hb1
        have hr1 := (hb1.block (w.heap.size + 1) (blk_lt hr0)).trans hr0
        have q1 : w1.cell? ⟨w.heap.size + 1, 0, none⟩ = some (.slice none 0 0) := by rw [blk_cell hr1]; rfl
        have q2 : w1.frozen? ⟨w.heap.size + 1, 0, none⟩ = false := blk_frozen hr1 0
        go_wp2_with fail
        have hnew := new_ok s w1 hs
        rw [hnE'.out, hnT'.out] at hnew
        refine hnew.mono ?_
        rintro e w2 ⟨A2, c2, rfl, -, -, hb2⟩
        clear hnew
        have hB2 := Below.on hB1 hb2
        have hr2 := (hb2.block (w.heap.size + 1) (blk_lt hr1)).trans hr1
        have q1 : w2.cell? ⟨w.heap.size + 1, 0, none⟩ = some (.slice none 0 0) := by rw [blk_cell hr2]; rfl
        have q2 : w2.frozen? ⟨w.heap.size + 1, 0, none⟩ = false := blk_frozen hr2 0
        have hra := blk_alloc hr2 (.cells #[.slice A2 1 c2] 24)
        have q1a : (w2.alloc (.cells #[.slice A2 1 c2] 24)).cell? ⟨w.heap.size + 1, 0, none⟩ = some (.slice none 0 0) := by rw [blk_cell hra]; rfl
        have q2a : (w2.alloc (.cells #[.slice A2 1 c2] 24)).frozen? ⟨w.heap.size + 1, 0, none⟩ = false := blk_frozen hra 0
        go_wp2
        have hres := (blk_cell (blk_set hra 0 (.slice none 0 0)) 0).trans (rfl : (#[Value.slice none 0 0].setIfInBounds 0 (.slice none 0 0))[0]? = some (.slice none 0 0))
        refine bodyPost_ret (v := .tuple #[.agg #[.slice none 0 0], .int .i64 28]) (by simp [results, Try.results42, go_sem, hres]) rfl (made2_nil rfl ((below_alloc hB2 _).setCell (p := ⟨w.heap.size + 1, 0, none⟩) (by show w.heap.size ≤ w.heap.size + 1; omega) _))
      · rw [if_neg h4] at hE
        obtain ⟨hsd, h16⟩ := good_attrs hg (by omega : k < T.length)
        obtain ⟨b, off, aA, cA, aC, cC, rfl, hbl, -, c1, -, -, hA, -⟩ := ho.out (by omega)
        have c1' := hide (c1 k hk)
        have hA' := hide (hA k hk).1
        change Hid (w.cell? ⟨b, off + k * 4 + 1, none⟩ = some (Value.slice (aA k) (atl T k).length (aC k))) at c1'
        change Hid (IsAttrs w (aA k) (atl T k).length (atl T k)) at hA'
        have hlo := (low_split hsd s).1
        have hat : hasA (atl T k) s = true → lowA (atl T k) s < (atl T k).length := fun h => by unfold hasA at h; simp at h; exact h.1
        have hnat : hasA (atl T k) s = true → nm (atl T k) (lowA (atl T k) s) = s := fun h => by unfold hasA at h; simp at h; exact h.2
        have hTd : setE T k s v = 0 → setT T k s v = setA T k (if hasA (atl T k) s = true then (atl T k).set (lowA (atl T k) s) (s, v) else (atl T k).take (lowA (atl T k) s) ++ [(s, v)] ++ (atl T k).drop (lowA (atl T k) s)) := fun h => by unfold setT putL; rw [if_pos h, Int.toNat_natCast]
        have hatl : (nd T k).attrs = atl T k := rfl
        have hatl' := hide hatl
        generalize aA k = AA at c1' hA'
        generalize aC k = ac at c1'
        generalize hla : atl T k = l at *
        generalize hlow : lowA l s = at' at *
        have hlow' := hide hlow
        have hs' := hide hsd
        have hnE' := hide hnE
        have hnT' := hide hnT
        have hg' := hide hg
        have hfit := hide (good_fits hg)
        have hn64 : n ≤ 64 := by have := ((goodB_iff T).1 hg).2.1; omega
        cases hh : hasA l s
        · have hh' := hide hh
          by_cases hf : l.length = 16
          · have he : setE T k s v = 18 := by rw [hE, hh]; simp [hf]
            have ht : setT T k s v = [] := by unfold setT; rw [he]; rfl
            rw [he, ht]
            have hf' : ((l.length : Int) == 16) = true := by simp [hf]
            clear he ht hE hir hg h0 hnE hnT c1 hA ho hsd hlow hh hat hnat hTd hla hatl hf
            go_enter Try.func42, Try.ntmps42
            go_wp2_with fail
            refine (acheck_ok _ _ _ T _ _ (hT.out.below hB0)).mono ?_
            rintro e w1 ⟨rfl, hb1⟩
            have hbox1 := cell_later hb1 hbox0
            have hB1 := Below.on hB0 hb1
            have hr1 := (hb1.block (w.heap.size + 1) (blk_lt hr0)).trans hr0
            have q1 : w1.cell? ⟨w.heap.size + 1, 0, none⟩ = some (.slice none 0 0) := by rw [blk_cell hr1]; rfl
            have q2 : w1.frozen? ⟨w.heap.size + 1, 0, none⟩ = false := blk_frozen hr1 0
            go_wp2_with fail
            have hnew := new_ok s w1 hs
            rw [hnE'.out, hnT'.out] at hnew
            refine hnew.mono ?_
            rintro e w2 ⟨A2, c2, rfl, -, -, hb2⟩
            clear hnew
            have hB2 := Below.on hB1 hb2
            have hr2 := (hb2.block (w.heap.size + 1) (blk_lt hr1)).trans hr1
            have q1 : w2.cell? ⟨w.heap.size + 1, 0, none⟩ = some (.slice none 0 0) := by rw [blk_cell hr2]; rfl
            have q2 : w2.frozen? ⟨w.heap.size + 1, 0, none⟩ = false := blk_frozen hr2 0
            have hra := blk_alloc hr2 (.cells #[.slice A2 1 c2] 24)
            have q1a : (w2.alloc (.cells #[.slice A2 1 c2] 24)).cell? ⟨w.heap.size + 1, 0, none⟩ = some (.slice none 0 0) := by rw [blk_cell hra]; rfl
            have q2a : (w2.alloc (.cells #[.slice A2 1 c2] 24)).frozen? ⟨w.heap.size + 1, 0, none⟩ = false := blk_frozen hra 0
            have hB2a := below_alloc hB2 (.cells #[.slice A2 1 c2] 24)
            have hbox2 := cell_later (below_alloc hb2 (.cells #[.slice A2 1 c2] 24)) hbox1
            have g1 := (old hB2a _ _ hbl).trans c1'.out
            go_wp2_with fail
            have hf := find_ok AA l.length ac l s (w2.alloc (.cells #[.slice A2 1 c2] 24)) (hA'.out.below hB2a) hs'.out (by omega)
            rw [hlow'.out, hh'.out] at hf
            refine hf.mono ?_
            rintro e w3 ⟨rfl, hb3⟩
            clear hf
            have hB3 := Below.on hB2a hb3
            have hbox3 := cell_later hb3 hbox2
            have g3 := cell_later hb3 g1
            have hr3 := (hb3.block (w.heap.size + 1) (blk_lt hra)).trans hra
            have q1 : w3.cell? ⟨w.heap.size + 1, 0, none⟩ = some (.slice none 0 0) := by rw [blk_cell hr3]; rfl
            have q2 : w3.frozen? ⟨w.heap.size + 1, 0, none⟩ = false := blk_frozen hr3 0
            go_wp2
            have hres := (blk_cell (blk_set hr3 0 (.slice none 0 0)) 0).trans (rfl : (#[Value.slice none 0 0].setIfInBounds 0 (.slice none 0 0))[0]? = some (.slice none 0 0))
            refine bodyPost_ret (v := .tuple #[.agg #[.slice none 0 0], .int .i64 18]) (by simp [results, Try.results42, go_sem, hres]) rfl (made2_nil rfl (hB3.setCell (p := ⟨w.heap.size + 1, 0, none⟩) (by show w.heap.size ≤ w.heap.size + 1; omega) _))
          · refine aset_new _ n c T k s v w hT.out hk hg hnm (by omega) (by rw [hla, hh]) (by rw [hla]; exact hf) hs hv
        · refine aset_old _ n c T k s v w hT.out hk hg hnm (by omega) (by rw [hla, hh]) hs hv
  · have he : setE T i s v = askI T [i] := if_neg h0
    have ht : setT T i s v = [] := by unfold setT; rw [he, if_neg h0]
    rw [he, ht]
    have hq : (askI T [i] != 0) = true := by simp [h0]
    clear he ht h0
    go_enter Try.func42, Try.ntmps42
    go_wp2_with fail
    refine (acheck_ok _ _ _ T _ _ (hT.out.below hB0)).mono ?_
    rintro e w1 ⟨rfl, hb1⟩
    have hbox1 := cell_later hb1 hbox0
    have hB1 := Below.on hB0 hb1
    have hr1 := (hb1.block (w.heap.size + 1) (blk_lt hr0)).trans hr0
    have q1 : w1.cell? ⟨w.heap.size + 1, 0, none⟩ = some (.slice none 0 0) := by rw [blk_cell hr1]; rfl
    have q2 : w1.frozen? ⟨w.heap.size + 1, 0, none⟩ = false := blk_frozen hr1 0
    go_wp2
    have hres := (blk_cell (blk_set hr1 0 (.slice none 0 0)) 0).trans (rfl : (#[Value.slice none 0 0].setIfInBounds 0 (.slice none 0 0))[0]? = some (.slice none 0 0))
    refine bodyPost_ret (v := .tuple #[.agg #[.slice none 0 0], .int .i64 (askI T [i])]) (by simp [results, Try.results42, go_sem, hres]) rfl (made2_nil rfl (hB1.setCell (p := ⟨w.heap.size + 1, 0, none⟩) (by show w.heap.size ≤ w.heap.size + 1; omega) _))
end Go.Proofs.Ytfiiikbbiimdiaa
