/- Plain laws for the tree packages together: all elements are listed below their tops; a change that is not refused leaves a valid tree. Condition: the tree is good. -/
import Derived.Test.YtmdccplhmniiiaaGreatAuns
import Derived.Test.YtmdccplhmniiiaaGreatMug
import Derived.Test.YtmdccplhmniiiaaGreatLaws
import Derived.Test.YtmdccplhmniiiaaGreatWk
import Derived.Test.YtmdccplhmniiiaaGreatPreb
namespace Go.Proofs.YtmdccplhmniiiaaGreat
open Go.RowKit

abbrev Att := ByteArray × ByteArray
def okA (x : Att) : Prop := namedB x.1 = true ∧ x.2.size ≤ 400
theorem less_asym {a b : ByteArray} (h : before a b = true) : before b a = false := by
  unfold before at *
  cases h2 : Op.bytesLess b.toList a.toList
  · rfl
  · have := less_trans h h2; rw [less_irr] at this; cases this
theorem before_irr (a : ByteArray) : before a a = false := less_irr _
theorem before_trans {a b c : ByteArray} (h : before a b = true) (h' : before b c = true) : before a c = true := less_trans h h'
theorem before_total (a b : ByteArray) : before a b = true ∨ a = b ∨ before b a = true := by
  rcases less_total a.toList b.toList with h | h | h
  · exact .inl h
  · exact .inr (.inl (toList_inj h))
  · exact .inr (.inr h)
theorem nm_get {l : List Att} {j : Nat} (h : j < l.length) : nm l j = l[j].1 := by
  unfold nm; rw [List.getD_eq_getElem?_getD, List.getElem?_eq_getElem h]; rfl
theorem vl_get {l : List Att} {j : Nat} (h : j < l.length) : vl l j = l[j].2 := by
  unfold vl; rw [List.getD_eq_getElem?_getD, List.getElem?_eq_getElem h]; rfl
theorem attrs_pw (l : List Att) : attrsB l = true ↔ l.length ≤ 16 ∧ (∀ x ∈ l, okA x) ∧ l.Pairwise (fun x y => before x.1 y.1 = true) := by
  unfold attrsB
  simp only [Bool.and_eq_true, decide_eq_true_eq]
  constructor
  · rintro ⟨h1, h2⟩
    have hs : Sorted l := fun j h0 hj => (h2 j hj).2.2 h0
    refine ⟨h1, fun x hx => ?_, ?_⟩
    · obtain ⟨j, hj, rfl⟩ := List.getElem_of_mem hx
      have := h2 j hj
      rw [attrOk, nm_get hj, vl_get hj] at this
      exact ⟨this.1, this.2.1⟩
    · rw [List.pairwise_iff_getElem]
      intro i j hi hj hij
      have := sorted_lt hs hij hj
      rwa [nm_get hi, nm_get hj] at this
  · rintro ⟨h1, h2, h3⟩
    refine ⟨h1, fun j hj => ?_⟩
    have h4 := h2 _ (List.getElem_mem hj)
    rw [attrOk, nm_get hj, vl_get hj]
    refine ⟨h4.1, h4.2, fun h0 => ?_⟩
    rw [nm_get (by omega : j - 1 < l.length)]
    exact List.pairwise_iff_getElem.1 h3 (j - 1) j (by omega) hj (by omega)

theorem low_app {L R : List Att} {s : ByteArray} (hL : ∀ x ∈ L, before x.1 s = true) (hR : ∀ x ∈ R, before x.1 s = false) : lowA (L ++ R) s = L.length := by
  unfold lowA
  rw [List.filter_append, List.filter_eq_self.2 (by simpa using hL), List.filter_eq_nil_iff.2 (by intro x hx; simp [hR x hx])]
  simp
theorem mid_facts {L R : List Att} {s v : ByteArray} (hL : ∀ x ∈ L, before x.1 s = true) (hR : ∀ x ∈ R, before s x.1 = true) : lowA (L ++ (s, v) :: R) s = L.length ∧ hasA (L ++ (s, v) :: R) s = true ∧ vl (L ++ (s, v) :: R) L.length = v := by
  have h1 : lowA (L ++ (s, v) :: R) s = L.length := low_app hL (by
    intro x hx
    rcases List.mem_cons.1 hx with rfl | hx
    · exact before_irr _
    · exact less_asym (hR x hx))
  refine ⟨h1, ?_, ?_⟩
  · unfold hasA
    rw [h1]
    simp [nm, List.getD_eq_getElem?_getD]
  · simp [vl, List.getD_eq_getElem?_getD]
theorem gap_facts {L R : List Att} {s : ByteArray} (hL : ∀ x ∈ L, before x.1 s = true) (hR : ∀ x ∈ R, before s x.1 = true) : lowA (L ++ R) s = L.length ∧ hasA (L ++ R) s = false := by
  have h1 : lowA (L ++ R) s = L.length := low_app hL fun x hx => less_asym (hR x hx)
  refine ⟨h1, ?_⟩
  unfold hasA
  rw [h1]
  cases R with
  | nil => simp
  | cons x R =>
    have := hR x (by simp)
    simp only [List.length_append, List.length_cons]
    rw [Bool.and_eq_false_iff]
    right
    simp only [nm, List.getD_eq_getElem?_getD]
    simp
    rintro rfl
    rw [before_irr] at this
    cases this
theorem put_mid {L R : List Att} {s v u : ByteArray} (hL : ∀ x ∈ L, before x.1 s = true) (hR : ∀ x ∈ R, before s x.1 = true) : putL (L ++ (s, v) :: R) s u = L ++ (s, u) :: R := by
  obtain ⟨h1, h2, -⟩ := mid_facts (v := v) hL hR
  unfold putL
  rw [if_pos h2, h1]
  simp
theorem put_gap {L R : List Att} {s u : ByteArray} (hL : ∀ x ∈ L, before x.1 s = true) (hR : ∀ x ∈ R, before s x.1 = true) : putL (L ++ R) s u = L ++ (s, u) :: R := by
  obtain ⟨h1, h2⟩ := gap_facts hL hR
  unfold putL
  rw [h2, if_neg (by decide), h1, List.take_left, List.drop_left]
  simp
/-- Where a name is, or would be, among attributes in order. -/
theorem attrs_split {l : List Att} (h : attrsB l = true) (s : ByteArray) : ∃ L R, (∀ x ∈ L, before x.1 s = true) ∧ (∀ x ∈ R, before s x.1 = true) ∧ ((∃ v, l = L ++ (s, v) :: R) ∨ l = L ++ R) := by
  obtain ⟨-, -, hp⟩ := (attrs_pw l).1 h
  clear h
  induction l with
  | nil => exact ⟨[], [], by simp, by simp, .inr rfl⟩
  | cons x l ih =>
    obtain ⟨hx, hp⟩ := List.pairwise_cons.1 hp
    rcases before_total x.1 s with h | h | h
    · obtain ⟨L, R, h1, h2, h3⟩ := ih hp
      refine ⟨x :: L, R, ?_, h2, ?_⟩
      · intro y hy
        rcases List.mem_cons.1 hy with rfl | hy
        · exact h
        · exact h1 y hy
      · rcases h3 with ⟨v, rfl⟩ | rfl
        · exact .inl ⟨v, rfl⟩
        · exact .inr rfl
    · subst h
      exact ⟨[], l, by simp, hx, .inl ⟨x.2, rfl⟩⟩
    · refine ⟨[], x :: l, by simp, ?_, .inr rfl⟩
      intro y hy
      rcases List.mem_cons.1 hy with rfl | hy
      · exact h
      · exact before_trans h (hx y hy)
theorem attrs_join {L R : List Att} {s v : ByteArray} (hL : ∀ x ∈ L, before x.1 s = true) (hR : ∀ x ∈ R, before s x.1 = true) (hp : (L ++ R).Pairwise (fun x y => before x.1 y.1 = true)) : (L ++ (s, v) :: R).Pairwise (fun x y => before x.1 y.1 = true) := by
  obtain ⟨h1, h2, h3⟩ := List.pairwise_append.1 hp
  refine List.pairwise_append.2 ⟨h1, List.pairwise_cons.2 ⟨hR, h2⟩, fun x hx y hy => ?_⟩
  rcases List.mem_cons.1 hy with rfl | hy
  · exact hL x hx
  · exact h3 x hx y hy

/-! ## Trees -/
section
variable {T : List ANode} {k : Nat} {l : List Att}
theorem par_setA (hk : k < T.length) (j : Nat) : par (setA T k l) j = par T j := by unfold par setA; rw [nd_set hk]; split <;> simp_all
theorem kids_setA (hk : k < T.length) (j : Nat) : kids (setA T k l) j = kids T j := by unfold kids setA; rw [nd_set hk]; split <;> simp_all
theorem tag_setA (hk : k < T.length) (j : Nat) : (nd (setA T k l) j).tag = (nd T j).tag := by unfold setA; rw [nd_set hk]; split <;> simp_all
theorem atl_setA (hk : k < T.length) (j : Nat) : atl (setA T k l) j = if j = k then l else atl T j := by unfold atl setA; rw [nd_set hk]; split <;> rfl
theorem up_setA (hk : k < T.length) (m : Nat) (x : Int) : up (setA T k l) m x = up T m x := by
  induction m generalizing x with
  | zero => rfl
  | succ m ih => simp only [up, par_setA hk, ih]
theorem linked_setA (hk : k < T.length) (j : Nat) : linkedB (setA T k l) j = linkedB T j := by
  unfold linkedB
  have hko : ∀ q, kidOk (setA T k l) j q ↔ kidOk T j q := fun q => by unfold kidOk; rw [kids_setA hk, setA_len, par_setA hk]
  simp only [par_setA hk, kids_setA hk, setA_len, hko]
theorem good_setA (hg : goodB T = true) (hk : k < T.length) (hl : attrsB l = true) : goodB (setA T k l) = true := by
  rw [goodB_iff] at hg ⊢
  rw [setA_len]
  refine ⟨hg.1, hg.2.1, fun i hi => ⟨?_, ?_, ?_⟩, fun i hi => ?_⟩
  · rw [tag_setA hk]; exact (hg.2.2.1 i hi).1
  · have : (nd (setA T k l) i).attrs = atl (setA T k l) i := rfl
    rw [this, atl_setA hk]
    split
    · exact hl
    · exact (hg.2.2.1 i hi).2.1
  · rw [linked_setA hk]; exact (hg.2.2.1 i hi).2.2
  · have := hg.2.2.2 i hi
    unfold outB at this ⊢
    rw [setA_len, up_setA hk]; exact this
theorem askI_setA (hg : goodB T = true) (hk : k < T.length) (hl : attrsB l = true) (x : List Int) : askI (setA T k l) x = askI T x := by
  unfold askI; rw [good_setA hg hk hl, hg, setA_len]
theorem setA_setA (hk : k < T.length) (l' : List Att) : setA (setA T k l) k l' = setA T k l' := by unfold setA; rw [nd_set hk, if_pos rfl, List.set_set]
theorem setA_self (hk : k < T.length) : setA T k (atl T k) = T := by
  unfold setA atl
  have : ({ nd T k with attrs := (nd T k).attrs } : ANode) = nd T k := rfl
  rw [this]
  unfold nd
  rw [List.getD_eq_getElem?_getD, List.getElem?_eq_getElem hk]
  simp
theorem good_atl (hg : goodB T = true) (hk : k < T.length) : attrsB (atl T k) = true := (((goodB_iff T).1 hg).2.2.1 k hk).2.1
end

theorem has_mem {l : List Att} (h : attrsB l = true) (o : ByteArray) : (hasA l o = true ↔ ∃ v, (o, v) ∈ l) ∧ ∀ v, (o, v) ∈ l → vl l (lowA l o) = v := by
  obtain ⟨L, R, hL, hR, ⟨v0, rfl⟩ | rfl⟩ := attrs_split h o
  · obtain ⟨h1, h2, h3⟩ := mid_facts (v := v0) hL hR
    refine ⟨⟨fun _ => ⟨v0, by simp⟩, fun _ => h2⟩, fun v hv => ?_⟩
    rw [h1, h3]
    rcases List.mem_append.1 hv with hv | hv
    · have := hL _ hv; rw [before_irr] at this; cases this
    · rcases List.mem_cons.1 hv with hv | hv
      · injection hv with _ h; exact h.symm
      · have := hR _ hv; rw [before_irr] at this; cases this
  · obtain ⟨h1, h2⟩ := gap_facts hL hR
    have hno : ∀ v, (o, v) ∉ L ++ R := fun v hv => by
      rcases List.mem_append.1 hv with hv | hv
      · have := hL _ hv; rw [before_irr] at this; cases this
      · have := hR _ hv; rw [before_irr] at this; cases this
    exact ⟨⟨fun h => (by rw [h2] at h; cases h), fun ⟨v, hv⟩ => absurd hv (hno v)⟩, fun v hv => absurd hv (hno v)⟩
theorem has_same {l l' : List Att} (h : attrsB l = true) (h' : attrsB l' = true) (o : ByteArray) (he : ∀ v, (o, v) ∈ l' ↔ (o, v) ∈ l) : hasA l' o = hasA l o ∧ (hasA l o = true → vl l' (lowA l' o) = vl l (lowA l o)) := by
  have h1 := has_mem h o
  have h2 := has_mem h' o
  refine ⟨?_, fun hh => ?_⟩
  · rw [Bool.eq_iff_iff, h1.1, h2.1]
    exact ⟨fun ⟨v, hv⟩ => ⟨v, (he v).1 hv⟩, fun ⟨v, hv⟩ => ⟨v, (he v).2 hv⟩⟩
  · obtain ⟨v, hv⟩ := h1.1.1 hh
    rw [h1.2 v hv, h2.2 v ((he v).2 hv)]
/-- What is known of attributes in which one is set. -/
theorem put_facts {l : List Att} {s v : ByteArray} (h : attrsB l = true) (hs : namedB s = true) (hv : v.size ≤ 400) (h16 : hasA l s = false → l.length < 16) :
    attrsB (putL l s v) = true ∧ hasA (putL l s v) s = true ∧ vl (putL l s v) (lowA (putL l s v) s) = v ∧ putL (putL l s v) s v = putL l s v ∧ (∀ o, o ≠ s → ∀ u, (o, u) ∈ putL l s v ↔ (o, u) ∈ l) ∧
    (hasA l s = true → vl l (lowA l s) = v → putL l s v = l) ∧ ((putL l s v).length = if hasA l s = true then l.length else l.length + 1) := by
  obtain ⟨hlen, hok, hp⟩ := (attrs_pw l).1 h
  obtain ⟨L, R, hL, hR, ⟨v0, rfl⟩ | rfl⟩ := attrs_split h s
  · obtain ⟨g1, g2, g3⟩ := mid_facts (v := v0) hL hR
    rw [put_mid hL hR]
    obtain ⟨f1, f2, f3⟩ := mid_facts (v := v) hL hR
    refine ⟨(attrs_pw _).2 ⟨by simpa using hlen, fun x hx => ?_, ?_⟩, f2, by rw [f1, f3], put_mid hL hR, fun o ho u => ?_, fun _ he => ?_, by rw [if_pos g2]; simp⟩
    · rcases List.mem_append.1 hx with hx | hx
      · exact hok x (by simp [hx])
      · rcases List.mem_cons.1 hx with rfl | hx
        · exact ⟨hs, hv⟩
        · exact hok x (by simp [hx])
    · refine attrs_join hL hR (hp.sublist ?_)
      exact List.Sublist.append_left (List.sublist_cons_self _ _) _
    · simp [ho]
    · rw [g1, g3] at he; rw [he]
  · obtain ⟨g1, g2⟩ := gap_facts hL hR
    rw [put_gap hL hR]
    obtain ⟨f1, f2, f3⟩ := mid_facts (v := v) hL hR
    have := h16 g2
    refine ⟨(attrs_pw _).2 ⟨by simp at this ⊢; omega, fun x hx => ?_, attrs_join hL hR hp⟩, f2, by rw [f1, f3], put_mid hL hR, fun o ho u => ?_, fun he => ?_, by rw [g2]; simp; omega⟩
    · rcases List.mem_append.1 hx with hx | hx
      · exact hok x (by simp [hx])
      · rcases List.mem_cons.1 hx with rfl | hx
        · exact ⟨hs, hv⟩
        · exact hok x (by simp [hx])
    · simp [ho]
    · rw [g2] at he; cases he
/-- What is known of attributes out of which one is taken. -/
theorem uns_facts {l : List Att} {s : ByteArray} (h : attrsB l = true) (hh : hasA l s = true) :
    attrsB (l.take (lowA l s) ++ l.drop (lowA l s + 1)) = true ∧ hasA (l.take (lowA l s) ++ l.drop (lowA l s + 1)) s = false ∧ (l.take (lowA l s) ++ l.drop (lowA l s + 1)).length < 16 ∧ namedB s = true ∧ (vl l (lowA l s)).size ≤ 400 ∧
    putL (l.take (lowA l s) ++ l.drop (lowA l s + 1)) s (vl l (lowA l s)) = l := by
  obtain ⟨hlen, hok, hp⟩ := (attrs_pw l).1 h
  obtain ⟨L, R, hL, hR, ⟨v0, rfl⟩ | rfl⟩ := attrs_split h s
  · obtain ⟨g1, g2, g3⟩ := mid_facts (v := v0) hL hR
    have e : (L ++ (s, v0) :: R).take L.length ++ (L ++ (s, v0) :: R).drop (L.length + 1) = L ++ R := by
      rw [List.take_left, ← List.drop_drop, List.drop_left]; rfl
    rw [g1, e, g3]
    obtain ⟨f1, f2⟩ := gap_facts hL hR
    have h0 := hok (s, v0) (by simp)
    refine ⟨(attrs_pw _).2 ⟨by simp at hlen ⊢; omega, fun x hx => hok x ?_, hp.sublist (List.Sublist.append_left (List.sublist_cons_self _ _) _)⟩, f2, by simp at hlen ⊢; omega, h0.1, h0.2, put_gap hL hR⟩
    rcases List.mem_append.1 hx with hx | hx <;> simp [hx]
  · rw [(gap_facts hL hR).2] at hh; cases hh
end Go.Proofs.YtmdccplhmniiiaaGreat
namespace Go.Proofs.YtmdccplhmniiiaaGreat
open Go.RowKit

section
variable {T : List ANode} {p k m : Nat}
theorem move_self {i j : Int} (h : moveI T i j = 0) : moveI T i i = 0 := by
  obtain ⟨hg, h1, -⟩ := moveI_zero h
  exact moveI_ok hg h1 (by omega)
theorem app_zero (h0 : moveI T k p = 0) (he : appE T p k = 0) : (k : Int) ∉ anc T p ∧ appT T p k = putT T p k (-1) ∧ goodB (putT T p k (-1)) = true := by
  obtain ⟨hg, hir, hjr⟩ := moveI_zero h0
  unfold appE putE at he
  rw [if_pos h0, Int.toNat_natCast, Int.toNat_natCast] at he
  have hc : cycB T p k = false := by
    cases h : cycB T p k
    · rfl
    · rw [h] at he; exact absurd he (by decide)
  have hn : (k : Int) ∉ anc T p := by unfold cycB at hc; simpa using hc
  refine ⟨hn, ?_, good_put hg (by omega) (by omega) (by omega) _ hn⟩
  unfold appT putV
  rw [if_pos h0, Int.toNat_natCast, Int.toNat_natCast, hc]; rfl
theorem app_code (h0 : moveI T k p = 0) : appE T p k = 0 ∨ (appE T p k = 40 ∧ (k : Int) ∈ anc T p) := by
  unfold appE putE
  rw [if_pos h0, Int.toNat_natCast, Int.toNat_natCast]
  cases h : cycB T p k
  · exact .inl rfl
  · exact .inr ⟨rfl, by unfold cycB at h; simpa using h⟩
theorem bef_zero (h0 : moveI T k m = 0) (he : befE T k m = 0) : ∃ p : Nat, par T m = p ∧ p < T.length ∧ k ≠ m ∧ (k : Int) ∉ anc T p ∧ befT T k m = putT T p k m ∧ goodB (putT T p k m) = true := by
  obtain ⟨hg, hir, hjr⟩ := moveI_zero h0
  have hX : befT T k m = (if (k : Int) = (m : Int) then [] else if par T m < 0 then [] else putV T (par T m).toNat k m) := by unfold befT; rw [if_pos h0, Int.toNat_natCast, Int.toNat_natCast]
  unfold befE at he
  rw [if_pos h0, Int.toNat_natCast, Int.toNat_natCast] at he
  split at he
  · cases he
  · rename_i hkm
    rw [if_neg hkm] at hX
    split at he
    · cases he
    · rename_i hp
      rw [if_neg hp] at hX
      have hpr := good_par hg (by omega : m < T.length)
      obtain ⟨p, hpe⟩ := Int.eq_ofNat_of_zero_le (by omega : 0 ≤ par T m)
      rw [hpe, Int.toNat_natCast] at he hX
      unfold putE at he
      have hc : cycB T p k = false := by
        cases h : cycB T p k
        · rfl
        · rw [h] at he; exact absurd he (by decide)
      have hn : (k : Int) ∉ anc T p := by unfold cycB at hc; simpa using hc
      refine ⟨p, hpe, by omega, by omega, hn, ?_, good_put hg (by omega) (by omega) (by omega) _ hn⟩
      rw [hX]
      unfold putV
      rw [hc]; rfl
theorem tak_code (h0 : moveI T k k = 0) : takeE T k = if par T k < 0 then 6 else 0 := by unfold takeE; rw [if_pos h0, Int.toNat_natCast]
theorem tak_zero (h0 : moveI T k k = 0) (hp : ¬ par T k < 0) : takeE T k = 0 ∧ takeT T k = takenT T k ∧ goodB (takenT T k) = true := by
  obtain ⟨hg, hir, -⟩ := moveI_zero h0
  have he : takeE T k = 0 := by rw [tak_code h0, if_neg hp]
  refine ⟨he, ?_, good_taken hg (by omega)⟩
  unfold takeT
  rw [if_pos he, Int.toNat_natCast]
theorem tak_six (h0 : moveI T k k = 0) (hp : par T k < 0) : takeE T k = 6 ∧ takeT T k = [] := by
  have he : takeE T k = 6 := by rw [tak_code h0, if_pos hp]
  refine ⟨he, ?_⟩
  unfold takeT
  rw [he]; rfl
end
end Go.Proofs.YtmdccplhmniiiaaGreat
namespace Go.Proofs.YtmdccplhmniiiaaGreat
open Go.RowKit

theorem good_fitsA {T : List ANode} (hg : goodB T = true) : Fits T := by
  intro x hx
  obtain ⟨i, hi, rfl⟩ := List.getElem_of_mem hx
  have hnd : nd T i = T[i] := by unfold nd; rw [List.getD_eq_getElem?_getD, List.getElem?_eq_getElem hi]; rfl
  have h1 := (goodB_iff T).1 hg
  have h2 := h1.2.2.1 i hi
  have h3 := ((good_ref T).1 hg).2.2.2.1 i hi
  rw [hnd] at h2
  have hk : (T[i]).children.length ≤ T.length := by have := h3.1.2.2.2.2; simpa only [kids, hnd] using this
  have ha := h2.2.1
  simp only [attrsB, Bool.and_eq_true, decide_eq_true_eq] at ha
  have hn := (namedB_iff _).1 h2.1
  refine ⟨by omega, by omega, by omega, fun y hy => ?_⟩
  obtain ⟨j, hj, rfl⟩ := List.getElem_of_mem hy
  have h4 := ha.2 j hj
  simp only [attrOk, nm, vl, List.getD_eq_getElem?_getD, List.getElem?_eq_getElem hj, Option.getD_some] at h4
  have h5 := (namedB_iff _).1 h4.1
  exact ⟨by omega, by omega⟩

theorem isTree_prefix {w : World} {A : Option Addr} {n m : Nat} {T S : List ANode} (h : IsTree w A m (T ++ S)) (hl : T.length = n) (hm : n ≤ m) : IsTree w A n T := by
  obtain ⟨h1, h2, h3, h4⟩ := h
  have hnd : ∀ j, j < n → nd (T ++ S) j = nd T j := fun j hj => nd_app_lt (by omega)
  refine ⟨hl, by omega, fun x hx => h3 x (by simp [hx]), fun hn => ?_⟩
  obtain ⟨b, off, aA, cA, aC, cC, ha, hbl, c0, c1, c2, c3, hA, hC⟩ := h4 (by omega)
  refine ⟨b, off, aA, cA, aC, cC, ha, hbl, fun j hj => ?_, fun j hj => ?_, fun j hj => ?_, fun j hj => ?_, fun j hj => ?_, fun j hj => ?_⟩
  · rw [← hnd j hj]; exact c0 j (by omega)
  · rw [← hnd j hj]; exact c1 j (by omega)
  · rw [par, ← hnd j hj]; exact c2 j (by omega)
  · rw [kids, ← hnd j hj]; exact c3 j (by omega)
  · rw [← hnd j hj]; exact hA j (by omega)
  · rw [kids, ← hnd j hj]; exact hC j (by omega)

section
variable {T : List ANode} {tag : ByteArray}
theorem par_add {j : Nat} (h : j < T.length) : par (T ++ [rootT tag]) j = par T j := by rw [par, nd_app_lt h]; rfl
theorem kids_add {j : Nat} (h : j < T.length) : kids (T ++ [rootT tag]) j = kids T j := by rw [kids, nd_app_lt h]; rfl
theorem par_add_at : par (T ++ [rootT tag]) T.length = -1 := by rw [par, nd_app_at]; rfl
theorem kids_add_at : kids (T ++ [rootT tag]) T.length = [] := by rw [kids, nd_app_at]; rfl

theorem up_add_tree (hg : goodB T = true) (k : Nat) (x : Int) (hx : x < T.length) : up (T ++ [rootT tag]) k x = up T k x := by
  induction k generalizing x with
  | zero => simp only [up]
  | succ k ih =>
    rw [up, up]
    split
    · rfl
    · rename_i h
      obtain ⟨i, rfl⟩ := Int.eq_ofNat_of_zero_le (show 0 ≤ x by omega)
      simp only [Int.toNat_natCast]
      rw [par_add (by omega)]
      exact ih _ (good_par hg (by omega)).2
theorem ups_add_tree (hg : goodB T = true) (k : Nat) (x : Int) (hx : x < T.length) : ups (T ++ [rootT tag]) k x = ups T k x := by
  induction k generalizing x with
  | zero => rfl
  | succ k ih =>
    rw [ups, ups]
    split
    · rfl
    · rename_i h
      obtain ⟨i, rfl⟩ := Int.eq_ofNat_of_zero_le (show 0 ≤ x by omega)
      simp only [Int.toNat_natCast]
      rw [par_add (by omega), ih _ (good_par hg (by omega)).2]
theorem anc_add_tree (hg : goodB T = true) {x : Int} (hx : x < T.length) : anc (T ++ [rootT tag]) x = anc T x := by
  unfold anc
  rw [ups_add_tree hg _ _ hx, List.length_append]
  exact ups_more T T.length 1 x (good_out hg hx)

theorem good_add (hg : goodB T = true) (hn : T.length < 64) (ht : namedB tag = true) : goodB (T ++ [rootT tag]) = true := by
  have h := (goodB_iff T).1 hg
  have hlen : (T ++ [rootT tag]).length = T.length + 1 := by simp
  rw [goodB_iff]
  refine ⟨by omega, by omega, fun i hi => ?_, fun i hi => ?_⟩
  · rcases Nat.lt_or_ge i T.length with h1 | h1
    · rw [nd_app_lt h1]
      refine ⟨(h.2.2.1 i h1).1, (h.2.2.1 i h1).2.1, ?_⟩
      have hL := (linkedB_iff T i).1 (h.2.2.1 i h1).2.2
      rw [linkedB_iff, par_add h1, kids_add h1]
      refine ⟨hL.1, by have := hL.2.1; omega, hL.2.2.1, fun hp => ?_, fun j hj => ?_⟩
      · rw [kids_add (by have := hL.2.1; omega)]; exact hL.2.2.2.1 hp
      · have hk := hL.2.2.2.2 j hj
        unfold kidOk at hk ⊢
        rw [kids_add h1]
        refine ⟨hk.1, by have := hk.2.1; omega, ?_, hk.2.2.2⟩
        rw [par_add (by have := hk.1; have := hk.2.1; omega)]; exact hk.2.2.1
    · obtain rfl : i = T.length := by omega
      rw [nd_app_at]
      refine ⟨ht, (by decide : attrsB [] = true), ?_⟩
      rw [linkedB_iff, par_add_at, kids_add_at]
      exact ⟨by omega, by omega, fun _ => rfl, fun h => absurd h (by omega), fun j hj => by simp at hj⟩
  · simp only [outB, decide_eq_true_eq]
    rcases Nat.lt_or_ge i T.length with h1 | h1
    · rw [up_add_tree hg _ _ (by omega)]
      exact up_stay T (by omega : T.length ≤ (T ++ [rootT tag]).length) _ (good_out hg (by omega))
    · obtain rfl : i = T.length := by omega
      rw [hlen, up, if_neg (by omega)]
      simp only [Int.toNat_natCast]
      rw [par_add_at, up_neg _ _ _ (by omega)]
      omega
theorem topE_add_at (hg : goodB T = true) (hn : T.length < 64) (ht : namedB tag = true) : topE (T ++ [rootT tag]) T.length = T.length := by
  have hg' := good_add hg hn ht
  rw [topE_eq hg' (by simp), topF_top hg' (by simp) (by rw [par_add_at]; omega)]
theorem depE_add_at (hg : goodB T = true) (hn : T.length < 64) (ht : namedB tag = true) : depE (T ++ [rootT tag]) T.length = 0 := by
  have hg' := good_add hg hn ht
  rw [dep_top hg' (by simp) (by rw [par_add_at]; omega)]
theorem belE_add_at (hg : goodB T = true) (hn : T.length < 64) (ht : namedB tag = true) {i : Nat} (hi : i < T.length) : belE (T ++ [rootT tag]) i T.length = false := by
  have hg' := good_add hg hn ht
  rw [bel_iff hg' (by simp; omega) (by simp), par_add hi, anc_add_tree hg (good_par hg hi).2]
  simp only [decide_eq_false_iff_not]
  intro h
  have := anc_mem hg (good_par hg hi).2 h
  omega
theorem topE_add (hg : goodB T = true) (hn : T.length < 64) (ht : namedB tag = true) {i : Nat} (hi : i < T.length) : topE (T ++ [rootT tag]) i = topE T i := by
  have hg' := good_add hg hn ht
  rw [topE_eq hg' (by simp; omega), topE_eq hg hi]
  unfold topF
  rw [anc_add_tree hg (by omega)]
end
end Go.Proofs.YtmdccplhmniiiaaGreat
namespace Go.Proofs.YtmdccplhmniiiaaGreat
open Go.RowKit

theorem nodup_sub_len : ∀ {l m : List Int}, l.Nodup → (∀ x ∈ l, x ∈ m) → l.length ≤ m.length
  | [], _, _, _ => Nat.zero_le _
  | a :: l, m, hn, h => by
    rw [List.nodup_cons] at hn
    have ha := h a (by simp)
    have h1 := nodup_sub_len (l := l) (m := m.erase a) hn.2 (fun x hx => (List.mem_erase_of_ne (fun e => hn.1 (by rw [← e]; exact hx))).2 (h x (by simp [hx])))
    rw [List.length_erase_of_mem ha] at h1
    have := List.length_pos_of_mem ha
    simp only [List.length_cons]
    omega
/-- How many elements have a top below k. -/
def seenF (T : List ANode) (k : Nat) : Nat := ((List.range T.length).filter fun x : Nat => decide (topF T x < k)).length
theorem filter_two {α : Type} {p q r : α → Bool} {l : List α} (h : ∀ x ∈ l, r x = (p x || q x) ∧ (p x && q x) = false) : (l.filter r).length = (l.filter p).length + (l.filter q).length := by
  induction l with
  | nil => rfl
  | cons a l ih =>
    have ih := ih (fun x hx => h x (by simp [hx]))
    obtain ⟨h1, h2⟩ := h a (by simp)
    rw [List.filter_cons, List.filter_cons, List.filter_cons, h1]
    cases hp : p a <;> cases hq : q a <;> simp_all <;> omega
section
variable {T : List ANode} (hg : goodB T = true)
include hg
theorem seen_zero : seenF T 0 = 0 := by
  unfold seenF
  rw [List.length_eq_zero_iff, List.filter_eq_nil_iff]
  intro x hx
  have := (topF_range hg (List.mem_range.1 hx)).1
  rw [decide_eq_true_eq]
  omega
theorem seen_end : seenF T T.length = T.length := by
  unfold seenF
  rw [List.filter_eq_self.2, List.length_range]
  intro x hx
  exact decide_eq_true (topF_range hg (List.mem_range.1 hx)).2.1
omit hg in
theorem seen_split (k : Nat) : seenF T (k + 1) = seenF T k + ((List.range T.length).filter fun x : Nat => decide (topF T x = k)).length := by
  unfold seenF
  refine filter_two fun x hx => ⟨?_, ?_⟩
  · rw [Bool.eq_iff_iff]; simp only [Bool.or_eq_true, decide_eq_true_eq]; omega
  · rw [Bool.and_eq_false_iff]; simp only [decide_eq_false_iff_not]; omega
theorem seen_no {k : Nat} (hp : ¬ par T k < 0) : seenF T (k + 1) = seenF T k := by
  rw [seen_split]
  have h0 : ((List.range T.length).filter fun x : Nat => decide (topF T x = k)) = [] := by
    rw [List.filter_eq_nil_iff]
    intro x hx
    have := (topF_range hg (List.mem_range.1 hx)).2.2
    rw [decide_eq_true_eq]
    intro he
    rw [he, Int.toNat_natCast] at this
    omega
  rw [h0]; rfl
theorem seen_top {k : Nat} (hk : k < T.length) (hp : par T k < 0) : seenF T (k + 1) = seenF T k + (preT T k).length := by
  rw [seen_split]
  congr 1
  have hm : ∀ x : Int, x ∈ preT T k ↔ x ∈ ((List.range T.length).filter fun x : Nat => decide (topF T x = k)).map (fun x : Nat => (x : Int)) := by
    intro x
    rw [List.mem_map]
    constructor
    · intro hx
      obtain ⟨y, rfl, hy, ha⟩ := pre_mem hg _ hk hx
      refine ⟨y, List.mem_filter.2 ⟨List.mem_range.2 hy, decide_eq_true ?_⟩, rfl⟩
      exact ((top_only hg hy hp).1 ha).symm
    · rintro ⟨y, hy, rfl⟩
      obtain ⟨h1, h2⟩ := List.mem_filter.1 hy
      have h1 := List.mem_range.1 h1
      rw [decide_eq_true_eq] at h2
      exact (mem_preT hg hk h1).2 ((top_only hg h1 hp).2 h2.symm)
  have hn2 : (((List.range T.length).filter fun x : Nat => decide (topF T x = k)).map (fun x : Nat => (x : Int))).Nodup := by
    rw [List.nodup_iff_pairwise_ne, List.pairwise_map]
    refine ((List.nodup_iff_pairwise_ne.1 List.nodup_range).sublist List.filter_sublist).imp ?_
    intro a b h he
    exact h (by omega)
  have h1 := nodup_sub_len (preT_nodup hg hk) (fun x hx => (hm x).1 hx)
  have h2 := nodup_sub_len hn2 (fun x hx => (hm x).2 hx)
  rw [List.length_map] at h1 h2
  omega
theorem add_yes {tag : ByteArray} (ht : namedB tag = true) (h0 : addE T tag = 0) : addT T tag = T ++ [rootT tag] ∧ goodB (T ++ [rootT tag]) = true := by
  refine ⟨if_pos h0, good_add hg ?_ ht⟩
  have h64 := ((goodB_iff T).1 hg).2.1
  unfold addE at h0
  rw [if_pos hg, if_pos ht] at h0
  split at h0
  · cases h0
  · omega
omit hg in
theorem app_yes {p k : Nat} (h : appE T p k = 0) : goodB (appT T p k) = true := by
  by_cases h0 : moveI T k p = 0
  · obtain ⟨-, h2, h3⟩ := app_zero h0 h
    rw [h2]; exact h3
  · unfold appE at h; rw [if_neg h0] at h; exact absurd h h0
omit hg in
theorem bef_yes {k m : Nat} (h : befE T k m = 0) : goodB (befT T k m) = true := by
  by_cases h0 : moveI T k m = 0
  · obtain ⟨p, -, -, -, -, h2, h3⟩ := bef_zero h0 h
    rw [h2]; exact h3
  · unfold befE at h; rw [if_neg h0] at h; exact absurd h h0
omit hg in
theorem tak_yes {k : Nat} (h : takeE T k = 0) : goodB (takeT T k) = true := by
  by_cases h0 : moveI T k k = 0
  · by_cases hp : par T k < 0
    · rw [(tak_six h0 hp).1] at h; cases h
    · obtain ⟨-, h2, h3⟩ := tak_zero h0 hp
      rw [h2]; exact h3
  · unfold takeE at h; rw [if_neg h0] at h; exact absurd h h0
theorem set_yes {k : Nat} {s v : ByteArray} (hk : k < T.length) (hv : v.size ≤ 400) (hs : namedB s = true) (h : setE T k s v = 0) : setT T k s v = setA T k (putL (atl T k) s v) ∧ goodB (setA T k (putL (atl T k) s v)) = true := by
  refine ⟨if_pos h, good_setA hg hk (put_facts (good_atl hg hk) hs hv fun hh => ?_).1⟩
  have h16 : (atl T k).length ≤ 16 := ((attrs_pw _).1 (good_atl hg hk)).1
  have ha : askI T [(k : Int)] = 0 := askI_ok hg (by simp; omega)
  unfold setE at h
  simp [ha, hs, hh] at h
  omega
theorem uns_yes {k : Nat} {s : ByteArray} (hk : k < T.length) (h : getE T k s = 0) : goodB (unsT T k s) = true := by
  have hh := (getE_zero.1 h).2
  rw [Int.toNat_natCast] at hh
  unfold unsT
  rw [if_pos h, Int.toNat_natCast]
  exact good_setA hg hk (uns_facts (good_atl hg hk) hh).1
end
end Go.Proofs.YtmdccplhmniiiaaGreat
