/- Plain laws: attributes in order, one set or taken away; a tree whose attributes change. No condition but those of the laws. -/
import Derived.Test.YtbedomopojiehaaAuns
namespace Go.Proofs.Ytbedomopojiehaa
open Go.RowKit

abbrev Att := ByteArray × ByteArray
def okA (x : Att) : Prop := namedB x.1 = true ∧ x.2.size ≤ 400
theorem less_asym {a b : ByteArray} (h : before a b = true) : before b a = false := by
  unfold before at *
  cases h2 : Op.bytesLess b.toList a.toList
  · rfl
  · have := less_trans h h2; rw [less_irr] at this; cases this
theorem before_irr (a : ByteArray) : before a a = false := less_irr _
theorem before_trans {a b c : ByteArray} (h : before a b = true) (h' : before b c = true) : before a c = true := less_trans h h'
theorem before_total (a b : ByteArray) : before a b = true ∨ a = b ∨ before b a = true := by
  rcases less_total a.toList b.toList with h | h | h
  · exact .inl h
  · exact .inr (.inl (toList_inj h))
  · exact .inr (.inr h)
theorem nm_get {l : List Att} {j : Nat} (h : j < l.length) : nm l j = l[j].1 := by
  unfold nm; rw [List.getD_eq_getElem?_getD, List.getElem?_eq_getElem h]; rfl
theorem vl_get {l : List Att} {j : Nat} (h : j < l.length) : vl l j = l[j].2 := by
  unfold vl; rw [List.getD_eq_getElem?_getD, List.getElem?_eq_getElem h]; rfl
theorem attrs_pw (l : List Att) : attrsB l = true ↔ l.length ≤ 16 ∧ (∀ x ∈ l, okA x) ∧ l.Pairwise (fun x y => before x.1 y.1 = true) := by
  unfold attrsB
  simp only [Bool.and_eq_true, decide_eq_true_eq]
  constructor
  · rintro ⟨h1, h2⟩
    have hs : Sorted l := fun j h0 hj => (h2 j hj).2.2 h0
    refine ⟨h1, fun x hx => ?_, ?_⟩
    · obtain ⟨j, hj, rfl⟩ := List.getElem_of_mem hx
      have := h2 j hj
      rw [attrOk, nm_get hj, vl_get hj] at this
      exact ⟨this.1, this.2.1⟩
    · rw [List.pairwise_iff_getElem]
      intro i j hi hj hij
      have := sorted_lt hs hij hj
      rwa [nm_get hi, nm_get hj] at this
  · rintro ⟨h1, h2, h3⟩
    refine ⟨h1, fun j hj => ?_⟩
    have h4 := h2 _ (List.getElem_mem hj)
    rw [attrOk, nm_get hj, vl_get hj]
    refine ⟨h4.1, h4.2, fun h0 => ?_⟩
    rw [nm_get (by omega : j - 1 < l.length)]
    exact List.pairwise_iff_getElem.1 h3 (j - 1) j (by omega) hj (by omega)

theorem low_app {L R : List Att} {s : ByteArray} (hL : ∀ x ∈ L, before x.1 s = true) (hR : ∀ x ∈ R, before x.1 s = false) : lowA (L ++ R) s = L.length := by
  unfold lowA
  rw [List.filter_append, List.filter_eq_self.2 (by simpa using hL), List.filter_eq_nil_iff.2 (by intro x hx; simp [hR x hx])]
  simp
theorem mid_facts {L R : List Att} {s v : ByteArray} (hL : ∀ x ∈ L, before x.1 s = true) (hR : ∀ x ∈ R, before s x.1 = true) : lowA (L ++ (s, v) :: R) s = L.length ∧ hasA (L ++ (s, v) :: R) s = true ∧ vl (L ++ (s, v) :: R) L.length = v := by
  have h1 : lowA (L ++ (s, v) :: R) s = L.length := low_app hL (by
    intro x hx
    rcases List.mem_cons.1 hx with rfl | hx
    · exact before_irr _
    · exact less_asym (hR x hx))
  refine ⟨h1, ?_, ?_⟩
  · unfold hasA
    rw [h1]
    simp [nm, List.getD_eq_getElem?_getD]
  · simp [vl, List.getD_eq_getElem?_getD]
theorem gap_facts {L R : List Att} {s : ByteArray} (hL : ∀ x ∈ L, before x.1 s = true) (hR : ∀ x ∈ R, before s x.1 = true) : lowA (L ++ R) s = L.length ∧ hasA (L ++ R) s = false := by
  have h1 : lowA (L ++ R) s = L.length := low_app hL fun x hx => less_asym (hR x hx)
  refine ⟨h1, ?_⟩
  unfold hasA
  rw [h1]
  cases R with
  | nil => simp
  | cons x R =>
    have := hR x (by simp)
    simp only [List.length_append, List.length_cons]
    rw [Bool.and_eq_false_iff]
    right
    simp only [nm, List.getD_eq_getElem?_getD]
    simp
    rintro rfl
    rw [before_irr] at this
    cases this
theorem put_mid {L R : List Att} {s v u : ByteArray} (hL : ∀ x ∈ L, before x.1 s = true) (hR : ∀ x ∈ R, before s x.1 = true) : putL (L ++ (s, v) :: R) s u = L ++ (s, u) :: R := by
  obtain ⟨h1, h2, -⟩ := mid_facts (v := v) hL hR
  unfold putL
  rw [if_pos h2, h1]
  simp
theorem put_gap {L R : List Att} {s u : ByteArray} (hL : ∀ x ∈ L, before x.1 s = true) (hR : ∀ x ∈ R, before s x.1 = true) : putL (L ++ R) s u = L ++ (s, u) :: R := by
  obtain ⟨h1, h2⟩ := gap_facts hL hR
  unfold putL
  rw [h2, if_neg (by decide), h1, List.take_left, List.drop_left]
  simp
/-- Where a name is, or would be, among attributes in order. -/
theorem attrs_split {l : List Att} (h : attrsB l = true) (s : ByteArray) : ∃ L R, (∀ x ∈ L, before x.1 s = true) ∧ (∀ x ∈ R, before s x.1 = true) ∧ ((∃ v, l = L ++ (s, v) :: R) ∨ l = L ++ R) := by
  obtain ⟨-, -, hp⟩ := (attrs_pw l).1 h
  clear h
  induction l with
  | nil => exact ⟨[], [], by simp, by simp, .inr rfl⟩
  | cons x l ih =>
    obtain ⟨hx, hp⟩ := List.pairwise_cons.1 hp
    rcases before_total x.1 s with h | h | h
    · obtain ⟨L, R, h1, h2, h3⟩ := ih hp
      refine ⟨x :: L, R, ?_, h2, ?_⟩
      · intro y hy
        rcases List.mem_cons.1 hy with rfl | hy
        · exact h
        · exact h1 y hy
      · rcases h3 with ⟨v, rfl⟩ | rfl
        · exact .inl ⟨v, rfl⟩
        · exact .inr rfl
    · subst h
      exact ⟨[], l, by simp, hx, .inl ⟨x.2, rfl⟩⟩
    · refine ⟨[], x :: l, by simp, ?_, .inr rfl⟩
      intro y hy
      rcases List.mem_cons.1 hy with rfl | hy
      · exact h
      · exact before_trans h (hx y hy)
theorem attrs_join {L R : List Att} {s v : ByteArray} (hL : ∀ x ∈ L, before x.1 s = true) (hR : ∀ x ∈ R, before s x.1 = true) (hp : (L ++ R).Pairwise (fun x y => before x.1 y.1 = true)) : (L ++ (s, v) :: R).Pairwise (fun x y => before x.1 y.1 = true) := by
  obtain ⟨h1, h2, h3⟩ := List.pairwise_append.1 hp
  refine List.pairwise_append.2 ⟨h1, List.pairwise_cons.2 ⟨hR, h2⟩, fun x hx y hy => ?_⟩
  rcases List.mem_cons.1 hy with rfl | hy
  · exact hL x hx
  · exact h3 x hx y hy

/-! ## Trees -/
section
variable {T : List ANode} {k : Nat} {l : List Att}
theorem par_setA (hk : k < T.length) (j : Nat) : par (setA T k l) j = par T j := by unfold par setA; rw [nd_set hk]; split <;> simp_all
theorem kids_setA (hk : k < T.length) (j : Nat) : kids (setA T k l) j = kids T j := by unfold kids setA; rw [nd_set hk]; split <;> simp_all
theorem tag_setA (hk : k < T.length) (j : Nat) : (nd (setA T k l) j).tag = (nd T j).tag := by unfold setA; rw [nd_set hk]; split <;> simp_all
theorem atl_setA (hk : k < T.length) (j : Nat) : atl (setA T k l) j = if j = k then l else atl T j := by unfold atl setA; rw [nd_set hk]; split <;> rfl
theorem up_setA (hk : k < T.length) (m : Nat) (x : Int) : up (setA T k l) m x = up T m x := by
  induction m generalizing x with
  | zero => rfl
  | succ m ih => simp only [up, par_setA hk, ih]
theorem linked_setA (hk : k < T.length) (j : Nat) : linkedB (setA T k l) j = linkedB T j := by
  unfold linkedB
  have hko : ∀ q, kidOk (setA T k l) j q ↔ kidOk T j q := fun q => by unfold kidOk; rw [kids_setA hk, setA_len, par_setA hk]
  simp only [par_setA hk, kids_setA hk, setA_len, hko]
theorem good_setA (hg : goodB T = true) (hk : k < T.length) (hl : attrsB l = true) : goodB (setA T k l) = true := by
  rw [goodB_iff] at hg ⊢
  rw [setA_len]
  refine ⟨hg.1, hg.2.1, fun i hi => ⟨?_, ?_, ?_⟩, fun i hi => ?_⟩
  · rw [tag_setA hk]; exact (hg.2.2.1 i hi).1
  · have : (nd (setA T k l) i).attrs = atl (setA T k l) i := rfl
    rw [this, atl_setA hk]
    split
    · exact hl
    · exact (hg.2.2.1 i hi).2.1
  · rw [linked_setA hk]; exact (hg.2.2.1 i hi).2.2
  · have := hg.2.2.2 i hi
    unfold outB at this ⊢
    rw [setA_len, up_setA hk]; exact this
theorem askI_setA (hg : goodB T = true) (hk : k < T.length) (hl : attrsB l = true) (x : List Int) : askI (setA T k l) x = askI T x := by
  unfold askI; rw [good_setA hg hk hl, hg, setA_len]
theorem setA_setA (hk : k < T.length) (l' : List Att) : setA (setA T k l) k l' = setA T k l' := by unfold setA; rw [nd_set hk, if_pos rfl, List.set_set]
theorem setA_self (hk : k < T.length) : setA T k (atl T k) = T := by
  unfold setA atl
  have : ({ nd T k with attrs := (nd T k).attrs } : ANode) = nd T k := rfl
  rw [this]
  unfold nd
  rw [List.getD_eq_getElem?_getD, List.getElem?_eq_getElem hk]
  simp
theorem good_atl (hg : goodB T = true) (hk : k < T.length) : attrsB (atl T k) = true := (((goodB_iff T).1 hg).2.2.1 k hk).2.1
end

theorem has_mem {l : List Att} (h : attrsB l = true) (o : ByteArray) : (hasA l o = true ↔ ∃ v, (o, v) ∈ l) ∧ ∀ v, (o, v) ∈ l → vl l (lowA l o) = v := by
  obtain ⟨L, R, hL, hR, ⟨v0, rfl⟩ | rfl⟩ := attrs_split h o
  · obtain ⟨h1, h2, h3⟩ := mid_facts (v := v0) hL hR
    refine ⟨⟨fun _ => ⟨v0, by simp⟩, fun _ => h2⟩, fun v hv => ?_⟩
    rw [h1, h3]
    rcases List.mem_append.1 hv with hv | hv
    · have := hL _ hv; rw [before_irr] at this; cases this
    · rcases List.mem_cons.1 hv with hv | hv
      · injection hv with _ h; exact h.symm
      · have := hR _ hv; rw [before_irr] at this; cases this
  · obtain ⟨h1, h2⟩ := gap_facts hL hR
    have hno : ∀ v, (o, v) ∉ L ++ R := fun v hv => by
      rcases List.mem_append.1 hv with hv | hv
      · have := hL _ hv; rw [before_irr] at this; cases this
      · have := hR _ hv; rw [before_irr] at this; cases this
    exact ⟨⟨fun h => (by rw [h2] at h; cases h), fun ⟨v, hv⟩ => absurd hv (hno v)⟩, fun v hv => absurd hv (hno v)⟩
theorem has_same {l l' : List Att} (h : attrsB l = true) (h' : attrsB l' = true) (o : ByteArray) (he : ∀ v, (o, v) ∈ l' ↔ (o, v) ∈ l) : hasA l' o = hasA l o ∧ (hasA l o = true → vl l' (lowA l' o) = vl l (lowA l o)) := by
  have h1 := has_mem h o
  have h2 := has_mem h' o
  refine ⟨?_, fun hh => ?_⟩
  · rw [Bool.eq_iff_iff, h1.1, h2.1]
    exact ⟨fun ⟨v, hv⟩ => ⟨v, (he v).1 hv⟩, fun ⟨v, hv⟩ => ⟨v, (he v).2 hv⟩⟩
  · obtain ⟨v, hv⟩ := h1.1.1 hh
    rw [h1.2 v hv, h2.2 v ((he v).2 hv)]
/-- What is known of attributes in which one is set. -/
theorem put_facts {l : List Att} {s v : ByteArray} (h : attrsB l = true) (hs : namedB s = true) (hv : v.size ≤ 400) (h16 : hasA l s = false → l.length < 16) :
    attrsB (putL l s v) = true ∧ hasA (putL l s v) s = true ∧ vl (putL l s v) (lowA (putL l s v) s) = v ∧ putL (putL l s v) s v = putL l s v ∧ (∀ o, o ≠ s → ∀ u, (o, u) ∈ putL l s v ↔ (o, u) ∈ l) ∧
    (hasA l s = true → vl l (lowA l s) = v → putL l s v = l) ∧ ((putL l s v).length = if hasA l s = true then l.length else l.length + 1) := by
  obtain ⟨hlen, hok, hp⟩ := (attrs_pw l).1 h
  obtain ⟨L, R, hL, hR, ⟨v0, rfl⟩ | rfl⟩ := attrs_split h s
  · obtain ⟨g1, g2, g3⟩ := mid_facts (v := v0) hL hR
    rw [put_mid hL hR]
    obtain ⟨f1, f2, f3⟩ := mid_facts (v := v) hL hR
    refine ⟨(attrs_pw _).2 ⟨by simpa using hlen, fun x hx => ?_, ?_⟩, f2, by rw [f1, f3], put_mid hL hR, fun o ho u => ?_, fun _ he => ?_, by rw [if_pos g2]; simp⟩
    · rcases List.mem_append.1 hx with hx | hx
      · exact hok x (by simp [hx])
      · rcases List.mem_cons.1 hx with rfl | hx
        · exact ⟨hs, hv⟩
        · exact hok x (by simp [hx])
    · refine attrs_join hL hR (hp.sublist ?_)
      exact List.Sublist.append_left (List.sublist_cons_self _ _) _
    · simp [ho]
    · rw [g1, g3] at he; rw [he]
  · obtain ⟨g1, g2⟩ := gap_facts hL hR
    rw [put_gap hL hR]
    obtain ⟨f1, f2, f3⟩ := mid_facts (v := v) hL hR
    have := h16 g2
    refine ⟨(attrs_pw _).2 ⟨by simp at this ⊢; omega, fun x hx => ?_, attrs_join hL hR hp⟩, f2, by rw [f1, f3], put_mid hL hR, fun o ho u => ?_, fun he => ?_, by rw [g2]; simp; omega⟩
    · rcases List.mem_append.1 hx with hx | hx
      · exact hok x (by simp [hx])
      · rcases List.mem_cons.1 hx with rfl | hx
        · exact ⟨hs, hv⟩
        · exact hok x (by simp [hx])
    · simp [ho]
    · rw [g2] at he; cases he
/-- What is known of attributes out of which one is taken. -/
theorem uns_facts {l : List Att} {s : ByteArray} (h : attrsB l = true) (hh : hasA l s = true) :
    attrsB (l.take (lowA l s) ++ l.drop (lowA l s + 1)) = true ∧ hasA (l.take (lowA l s) ++ l.drop (lowA l s + 1)) s = false ∧ (l.take (lowA l s) ++ l.drop (lowA l s + 1)).length < 16 ∧ namedB s = true ∧ (vl l (lowA l s)).size ≤ 400 ∧
    putL (l.take (lowA l s) ++ l.drop (lowA l s + 1)) s (vl l (lowA l s)) = l := by
  obtain ⟨hlen, hok, hp⟩ := (attrs_pw l).1 h
  obtain ⟨L, R, hL, hR, ⟨v0, rfl⟩ | rfl⟩ := attrs_split h s
  · obtain ⟨g1, g2, g3⟩ := mid_facts (v := v0) hL hR
    have e : (L ++ (s, v0) :: R).take L.length ++ (L ++ (s, v0) :: R).drop (L.length + 1) = L ++ R := by
      rw [List.take_left, ← List.drop_drop, List.drop_left]; rfl
    rw [g1, e, g3]
    obtain ⟨f1, f2⟩ := gap_facts hL hR
    have h0 := hok (s, v0) (by simp)
    refine ⟨(attrs_pw _).2 ⟨by simp at hlen ⊢; omega, fun x hx => hok x ?_, hp.sublist (List.Sublist.append_left (List.sublist_cons_self _ _) _)⟩, f2, by simp at hlen ⊢; omega, h0.1, h0.2, put_gap hL hR⟩
    rcases List.mem_append.1 hx with hx | hx <;> simp [hx]
  · rw [(gap_facts hL hR).2] at hh; cases hh
end Go.Proofs.Ytbedomopojiehaa
