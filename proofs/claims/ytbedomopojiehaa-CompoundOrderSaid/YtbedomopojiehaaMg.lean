/- A region that draws its order: operations that write or call are shown once each, whatever has come up before. No condition. -/
import Derived.Deep.RegionHeld3
import Derived.Test.YtbedomopojiehaaBase
namespace Go.Proofs.Ytbedomopojiehaa

def cnt (d : Bool) : Nat := if d then 0 else 1
theorem cnt_true : cnt true = 0 := rfl
theorem cnt_false : cnt false = 1 := rfl
def upNext (l : List (Nat × Bool)) : List Nat := l.filterMap fun x => if x.2 then some x.1 else none
theorem mem_upNext {l : List (Nat × Bool)} {i : Nat} (h : i ∈ upNext l) : (i, true) ∈ l := by
  unfold upNext at h
  rw [List.mem_filterMap] at h
  obtain ⟨⟨a, b⟩, h1, h2⟩ := h
  cases b
  · simp at h2
  · simp at h2; subst h2; exact h1
theorem upNext_ne {l : List (Nat × Bool)} (h : l.any (·.2) = true) : upNext l ≠ [] := by
  obtain ⟨⟨a, b⟩, h1, h2⟩ := List.any_eq_true.1 h
  intro he
  have : a ∈ upNext l := by unfold upNext; rw [List.mem_filterMap]; exact ⟨(a, b), h1, by simp at h2; simp [h2]⟩
  rw [he] at this
  cases this
/-- Where an operation comes up that is wanted. -/
theorem wpOp_one {P : Program} {ops : Array Oper} {Q : Exit → Act → World → Prop} {i : Nat} {o : Oper} {K : Act → World → Prop} {a : Act} {w : World} (ho : ops[i]? = some o) (hw : o.guard = none)
    (h : Oper.wp P o a w K Q) : wpOp P ops Q i K a w := by
  unfold wpOp
  rw [ho]
  have : Region.wanted o (yielded ops a.tmps) = true := by simp [Region.wanted, hw]
  show if Region.wanted o (yielded ops a.tmps) = true then _ else _
  rw [if_pos this]
  exact .inl h


section
variable {P : Program} {md : Region.Mode} {ops : Array Oper} {Q : Exit → Act → World → Prop} {S : World → Prop}
/-- An operation of a drawn region whose guard is false, taken first. -/
theorem mgSkip (i d : Nat) {fuel : Nat} {listed : Array Bool} {a : Act} {w : World} (hd : (ops[i]?).map (·.dst) = some (some d))
    (hs : Region.noSelect ops = true) (hf : Region.free md ops listed i = true) (hr : (Region.ready md ops listed).contains i = true)
    (hQ : ∀ c a w, Q (.panic c) (a.put (some d) undef) w → Q (.panic c) a w) (hw : (ops[i]?).map (fun o => Region.wanted o (yielded ops a.tmps)) = some false) (hS : S w)
    (h : wpAnyH P md ops Q S fuel (listed.setIfInBounds i true) (a.put (some d) undef) w) : wpAnyH P md ops Q S (fuel + 1) listed a w := by
  cases ho : ops[i]? with
  | none => rw [ho] at hd; cases hd
  | some o =>
    rw [ho] at hd hw
    simp only [Option.map_some, Option.some.injEq] at hd hw
    exact wpAnyH_take ho hs hf hr (by rw [hd]; exact hQ) (Or.inr ⟨hw, rfl⟩) hS (by rw [hd]; exact h)
/-- An operation of a drawn region that is wanted and yields v in every world that meets S, taken first. -/
theorem mgTake (i d : Nat) (v : Value) {fuel : Nat} {listed : Array Bool} {a : Act} {w : World} (hd : (ops[i]?).map (·.dst) = some (some d))
    (hs : Region.noSelect ops = true) (hf : Region.free md ops listed i = true) (hr : (Region.ready md ops listed).contains i = true)
    (hQ : ∀ c a w, Q (.panic c) (a.put (some d) v) w → Q (.panic c) a w) (hw : (ops[i]?).map (fun o => Region.wanted o (yielded ops a.tmps)) = some true)
    (hy : ∀ w, S w → (ops[i]?).map (fun o => (execOp a.eval o).run P w) = some (.ok (.value v) w)) (hS : S w)
    (h : wpAnyH P md ops Q S fuel (listed.setIfInBounds i true) (a.put (some d) v) w) : wpAnyH P md ops Q S (fuel + 1) listed a w := by
  cases ho : ops[i]? with
  | none => rw [ho] at hd; cases hd
  | some o =>
    rw [ho] at hd hw hy
    simp only [Option.map_some, Option.some.injEq] at hd hw hy
    exact wpAnyH_take ho hs hf hr (by rw [hd]; exact hQ) (Or.inl ⟨hw, hy⟩) hS (by rw [hd]; exact h)
end

theorem merge3 {P : Program} {md : Region.Mode} {ops : Array Oper} {Q : Exit → Act → World → Prop} {S : World → Prop} (f : Nat) (i1 i2 i3 : Nat) (c1 c2 c3 : Bool → Bool → Bool → Bool)
    (L : Bool → Bool → Bool → Array Bool) {a0 : Act} (t1 t2 t3 : Nat) (F : Bool → Bool → Bool → Value → Value → Value → World → Prop)
    (hready : ∀ d1 d2 d3, ((!d1 || c1 d1 d2 d3) && (!d2 || c2 d1 d2 d3) && (!d3 || c3 d1 d2 d3)) = true → (d1 && d2 && d3) = false → Region.ready md ops (L d1 d2 d3) = upNext [(i1, !d1 && c1 d1 d2 d3), (i2, !d2 && c2 d1 d2 d3), (i3, !d3 && c3 d1 d2 d3)])
    (hne : ∀ d1 d2 d3, ((!d1 || c1 d1 d2 d3) && (!d2 || c2 d1 d2 d3) && (!d3 || c3 d1 d2 d3)) = true → (d1 && d2 && d3) = false → List.any [(i1, !d1 && c1 d1 d2 d3), (i2, !d2 && c2 d1 d2 d3), (i3, !d3 && c3 d1 d2 d3)] (·.2) = true)
    (hok1 : ∀ d2 d3, ((!false || c1 false d2 d3) && (!d2 || c2 false d2 d3) && (!d3 || c3 false d2 d3)) = true → c1 false d2 d3 = true → ((!true || c1 true d2 d3) && (!d2 || c2 true d2 d3) && (!d3 || c3 true d2 d3)) = true)
    (hok2 : ∀ d1 d3, ((!d1 || c1 d1 false d3) && (!false || c2 d1 false d3) && (!d3 || c3 d1 false d3)) = true → c2 d1 false d3 = true → ((!d1 || c1 d1 true d3) && (!true || c2 d1 true d3) && (!d3 || c3 d1 true d3)) = true)
    (hok3 : ∀ d1 d2, ((!d1 || c1 d1 d2 false) && (!d2 || c2 d1 d2 false) && (!false || c3 d1 d2 false)) = true → c3 d1 d2 false = true → ((!d1 || c1 d1 d2 true) && (!d2 || c2 d1 d2 true) && (!true || c3 d1 d2 true)) = true)
    (hset1 : ∀ d2 d3, (L false d2 d3).setIfInBounds i1 true = L true d2 d3)
    (hstep1 : ∀ d2 d3 v1 v2 v3 w, c1 false d2 d3 = true → F false d2 d3 v1 v2 v3 w → ∀ K : Act → World → Prop, (∀ v w', S w' → F true d2 d3 v v2 v3 w' → K (((a0.put (some t1) v).put (some t2) v2).put (some t3) v3) w') → wpOp P ops Q i1 K (((a0.put (some t1) v1).put (some t2) v2).put (some t3) v3) w)
    (hset2 : ∀ d1 d3, (L d1 false d3).setIfInBounds i2 true = L d1 true d3)
    (hstep2 : ∀ d1 d3 v1 v2 v3 w, c2 d1 false d3 = true → F d1 false d3 v1 v2 v3 w → ∀ K : Act → World → Prop, (∀ v w', S w' → F d1 true d3 v1 v v3 w' → K (((a0.put (some t1) v1).put (some t2) v).put (some t3) v3) w') → wpOp P ops Q i2 K (((a0.put (some t1) v1).put (some t2) v2).put (some t3) v3) w)
    (hset3 : ∀ d1 d2, (L d1 d2 false).setIfInBounds i3 true = L d1 d2 true)
    (hstep3 : ∀ d1 d2 v1 v2 v3 w, c3 d1 d2 false = true → F d1 d2 false v1 v2 v3 w → ∀ K : Act → World → Prop, (∀ v w', S w' → F d1 d2 true v1 v2 v w' → K (((a0.put (some t1) v1).put (some t2) v2).put (some t3) v) w') → wpOp P ops Q i3 K (((a0.put (some t1) v1).put (some t2) v2).put (some t3) v3) w)
    (hend : ∀ v1 v2 v3 w, F true true true v1 v2 v3 w → wpAnyH P md ops Q S f (L true true true) (((a0.put (some t1) v1).put (some t2) v2).put (some t3) v3) w)
    {N : Nat} (hN : N = f + 3) {l0 : Array Bool} (hl : l0 = L false false false) {w : World} {x1 x2 x3 : Value} (hx : (((a0.put (some t1) x1).put (some t2) x2).put (some t3) x3) = a0) (h0 : F false false false x1 x2 x3 w) :
    wpAnyH P md ops Q S N l0 a0 w := by
  subst hN hl
  have key : ∀ k d1 d2 d3 v1 v2 v3 w, cnt d1 + cnt d2 + cnt d3 = k → ((!d1 || c1 d1 d2 d3) && (!d2 || c2 d1 d2 d3) && (!d3 || c3 d1 d2 d3)) = true → F d1 d2 d3 v1 v2 v3 w → wpAnyH P md ops Q S (f + k) (L d1 d2 d3) (((a0.put (some t1) v1).put (some t2) v2).put (some t3) v3) w := by
    intro k
    induction k with
    | zero =>
      intro d1 d2 d3 v1 v2 v3 w hk hok hF
      cases d1
      · simp only [cnt_false] at hk; omega
      cases d2
      · simp only [cnt_false] at hk; omega
      cases d3
      · simp only [cnt_false] at hk; omega
      exact hend _ _ _ w hF
    | succ k ih =>
      intro d1 d2 d3 v1 v2 v3 w hk hok hF
      have hd : (d1 && d2 && d3) = false := by
        cases hx : (d1 && d2 && d3)
        · rfl
        · simp only [Bool.and_eq_true] at hx
          obtain ⟨⟨rfl, rfl⟩, rfl⟩ := hx
          simp only [cnt_true] at hk
          omega
      refine wpAnyH_all (hready d1 d2 d3 hok hd) (upNext_ne (hne d1 d2 d3 hok hd)) ?_
      intro i hi
      have hm := mem_upNext hi
      simp only [List.mem_cons, Prod.mk.injEq, List.not_mem_nil, or_false] at hm
      rcases hm with ⟨rfl, hc⟩ | ⟨rfl, hc⟩ | ⟨rfl, hc⟩
      · have hc' := hc.symm
        rw [Bool.and_eq_true] at hc'
        obtain ⟨h1, h2⟩ := hc'
        have hdj : d1 = false := by simpa using h1
        subst hdj
        refine hstep1 _ _ _ _ _ w h2 hF _ (fun v w' hS hF' => ⟨hS, ?_⟩)
        rw [hset1]
        exact ih _ _ _ _ _ _ w' (by simp only [cnt_true, cnt_false] at hk ⊢; omega) (hok1 _ _ hok h2) hF'
      · have hc' := hc.symm
        rw [Bool.and_eq_true] at hc'
        obtain ⟨h1, h2⟩ := hc'
        have hdj : d2 = false := by simpa using h1
        subst hdj
        refine hstep2 _ _ _ _ _ w h2 hF _ (fun v w' hS hF' => ⟨hS, ?_⟩)
        rw [hset2]
        exact ih _ _ _ _ _ _ w' (by simp only [cnt_true, cnt_false] at hk ⊢; omega) (hok2 _ _ hok h2) hF'
      · have hc' := hc.symm
        rw [Bool.and_eq_true] at hc'
        obtain ⟨h1, h2⟩ := hc'
        have hdj : d3 = false := by simpa using h1
        subst hdj
        refine hstep3 _ _ _ _ _ w h2 hF _ (fun v w' hS hF' => ⟨hS, ?_⟩)
        rw [hset3]
        exact ih _ _ _ _ _ _ w' (by simp only [cnt_true, cnt_false] at hk ⊢; omega) (hok3 _ _ hok h2) hF'
  have hk := key 3 _ _ _ _ _ _ w rfl (by simp) h0
  rw [hx] at hk
  exact hk
theorem merge5 {P : Program} {md : Region.Mode} {ops : Array Oper} {Q : Exit → Act → World → Prop} {S : World → Prop} (f : Nat) (i1 i2 i3 i4 i5 : Nat) (c1 c2 c3 c4 c5 : Bool → Bool → Bool → Bool → Bool → Bool)
    (L : Bool → Bool → Bool → Bool → Bool → Array Bool) {a0 : Act} (t1 t2 t3 t4 t5 : Nat) (F : Bool → Bool → Bool → Bool → Bool → Value → Value → Value → Value → Value → World → Prop)
    (hready : ∀ d1 d2 d3 d4 d5, ((!d1 || c1 d1 d2 d3 d4 d5) && (!d2 || c2 d1 d2 d3 d4 d5) && (!d3 || c3 d1 d2 d3 d4 d5) && (!d4 || c4 d1 d2 d3 d4 d5) && (!d5 || c5 d1 d2 d3 d4 d5)) = true → (d1 && d2 && d3 && d4 && d5) = false → Region.ready md ops (L d1 d2 d3 d4 d5) = upNext [(i1, !d1 && c1 d1 d2 d3 d4 d5), (i2, !d2 && c2 d1 d2 d3 d4 d5), (i3, !d3 && c3 d1 d2 d3 d4 d5), (i4, !d4 && c4 d1 d2 d3 d4 d5), (i5, !d5 && c5 d1 d2 d3 d4 d5)])
    (hne : ∀ d1 d2 d3 d4 d5, ((!d1 || c1 d1 d2 d3 d4 d5) && (!d2 || c2 d1 d2 d3 d4 d5) && (!d3 || c3 d1 d2 d3 d4 d5) && (!d4 || c4 d1 d2 d3 d4 d5) && (!d5 || c5 d1 d2 d3 d4 d5)) = true → (d1 && d2 && d3 && d4 && d5) = false → List.any [(i1, !d1 && c1 d1 d2 d3 d4 d5), (i2, !d2 && c2 d1 d2 d3 d4 d5), (i3, !d3 && c3 d1 d2 d3 d4 d5), (i4, !d4 && c4 d1 d2 d3 d4 d5), (i5, !d5 && c5 d1 d2 d3 d4 d5)] (·.2) = true)
    (hok1 : ∀ d2 d3 d4 d5, ((!false || c1 false d2 d3 d4 d5) && (!d2 || c2 false d2 d3 d4 d5) && (!d3 || c3 false d2 d3 d4 d5) && (!d4 || c4 false d2 d3 d4 d5) && (!d5 || c5 false d2 d3 d4 d5)) = true → c1 false d2 d3 d4 d5 = true → ((!true || c1 true d2 d3 d4 d5) && (!d2 || c2 true d2 d3 d4 d5) && (!d3 || c3 true d2 d3 d4 d5) && (!d4 || c4 true d2 d3 d4 d5) && (!d5 || c5 true d2 d3 d4 d5)) = true)
    (hok2 : ∀ d1 d3 d4 d5, ((!d1 || c1 d1 false d3 d4 d5) && (!false || c2 d1 false d3 d4 d5) && (!d3 || c3 d1 false d3 d4 d5) && (!d4 || c4 d1 false d3 d4 d5) && (!d5 || c5 d1 false d3 d4 d5)) = true → c2 d1 false d3 d4 d5 = true → ((!d1 || c1 d1 true d3 d4 d5) && (!true || c2 d1 true d3 d4 d5) && (!d3 || c3 d1 true d3 d4 d5) && (!d4 || c4 d1 true d3 d4 d5) && (!d5 || c5 d1 true d3 d4 d5)) = true)
    (hok3 : ∀ d1 d2 d4 d5, ((!d1 || c1 d1 d2 false d4 d5) && (!d2 || c2 d1 d2 false d4 d5) && (!false || c3 d1 d2 false d4 d5) && (!d4 || c4 d1 d2 false d4 d5) && (!d5 || c5 d1 d2 false d4 d5)) = true → c3 d1 d2 false d4 d5 = true → ((!d1 || c1 d1 d2 true d4 d5) && (!d2 || c2 d1 d2 true d4 d5) && (!true || c3 d1 d2 true d4 d5) && (!d4 || c4 d1 d2 true d4 d5) && (!d5 || c5 d1 d2 true d4 d5)) = true)
    (hok4 : ∀ d1 d2 d3 d5, ((!d1 || c1 d1 d2 d3 false d5) && (!d2 || c2 d1 d2 d3 false d5) && (!d3 || c3 d1 d2 d3 false d5) && (!false || c4 d1 d2 d3 false d5) && (!d5 || c5 d1 d2 d3 false d5)) = true → c4 d1 d2 d3 false d5 = true → ((!d1 || c1 d1 d2 d3 true d5) && (!d2 || c2 d1 d2 d3 true d5) && (!d3 || c3 d1 d2 d3 true d5) && (!true || c4 d1 d2 d3 true d5) && (!d5 || c5 d1 d2 d3 true d5)) = true)
    (hok5 : ∀ d1 d2 d3 d4, ((!d1 || c1 d1 d2 d3 d4 false) && (!d2 || c2 d1 d2 d3 d4 false) && (!d3 || c3 d1 d2 d3 d4 false) && (!d4 || c4 d1 d2 d3 d4 false) && (!false || c5 d1 d2 d3 d4 false)) = true → c5 d1 d2 d3 d4 false = true → ((!d1 || c1 d1 d2 d3 d4 true) && (!d2 || c2 d1 d2 d3 d4 true) && (!d3 || c3 d1 d2 d3 d4 true) && (!d4 || c4 d1 d2 d3 d4 true) && (!true || c5 d1 d2 d3 d4 true)) = true)
    (hset1 : ∀ d2 d3 d4 d5, (L false d2 d3 d4 d5).setIfInBounds i1 true = L true d2 d3 d4 d5)
    (hstep1 : ∀ d2 d3 d4 d5 v1 v2 v3 v4 v5 w, c1 false d2 d3 d4 d5 = true → F false d2 d3 d4 d5 v1 v2 v3 v4 v5 w → ∀ K : Act → World → Prop, (∀ v w', S w' → F true d2 d3 d4 d5 v v2 v3 v4 v5 w' → K (((((a0.put (some t1) v).put (some t2) v2).put (some t3) v3).put (some t4) v4).put (some t5) v5) w') → wpOp P ops Q i1 K (((((a0.put (some t1) v1).put (some t2) v2).put (some t3) v3).put (some t4) v4).put (some t5) v5) w)
    (hset2 : ∀ d1 d3 d4 d5, (L d1 false d3 d4 d5).setIfInBounds i2 true = L d1 true d3 d4 d5)
    (hstep2 : ∀ d1 d3 d4 d5 v1 v2 v3 v4 v5 w, c2 d1 false d3 d4 d5 = true → F d1 false d3 d4 d5 v1 v2 v3 v4 v5 w → ∀ K : Act → World → Prop, (∀ v w', S w' → F d1 true d3 d4 d5 v1 v v3 v4 v5 w' → K (((((a0.put (some t1) v1).put (some t2) v).put (some t3) v3).put (some t4) v4).put (some t5) v5) w') → wpOp P ops Q i2 K (((((a0.put (some t1) v1).put (some t2) v2).put (some t3) v3).put (some t4) v4).put (some t5) v5) w)
    (hset3 : ∀ d1 d2 d4 d5, (L d1 d2 false d4 d5).setIfInBounds i3 true = L d1 d2 true d4 d5)
    (hstep3 : ∀ d1 d2 d4 d5 v1 v2 v3 v4 v5 w, c3 d1 d2 false d4 d5 = true → F d1 d2 false d4 d5 v1 v2 v3 v4 v5 w → ∀ K : Act → World → Prop, (∀ v w', S w' → F d1 d2 true d4 d5 v1 v2 v v4 v5 w' → K (((((a0.put (some t1) v1).put (some t2) v2).put (some t3) v).put (some t4) v4).put (some t5) v5) w') → wpOp P ops Q i3 K (((((a0.put (some t1) v1).put (some t2) v2).put (some t3) v3).put (some t4) v4).put (some t5) v5) w)
    (hset4 : ∀ d1 d2 d3 d5, (L d1 d2 d3 false d5).setIfInBounds i4 true = L d1 d2 d3 true d5)
    (hstep4 : ∀ d1 d2 d3 d5 v1 v2 v3 v4 v5 w, c4 d1 d2 d3 false d5 = true → F d1 d2 d3 false d5 v1 v2 v3 v4 v5 w → ∀ K : Act → World → Prop, (∀ v w', S w' → F d1 d2 d3 true d5 v1 v2 v3 v v5 w' → K (((((a0.put (some t1) v1).put (some t2) v2).put (some t3) v3).put (some t4) v).put (some t5) v5) w') → wpOp P ops Q i4 K (((((a0.put (some t1) v1).put (some t2) v2).put (some t3) v3).put (some t4) v4).put (some t5) v5) w)
    (hset5 : ∀ d1 d2 d3 d4, (L d1 d2 d3 d4 false).setIfInBounds i5 true = L d1 d2 d3 d4 true)
    (hstep5 : ∀ d1 d2 d3 d4 v1 v2 v3 v4 v5 w, c5 d1 d2 d3 d4 false = true → F d1 d2 d3 d4 false v1 v2 v3 v4 v5 w → ∀ K : Act → World → Prop, (∀ v w', S w' → F d1 d2 d3 d4 true v1 v2 v3 v4 v w' → K (((((a0.put (some t1) v1).put (some t2) v2).put (some t3) v3).put (some t4) v4).put (some t5) v) w') → wpOp P ops Q i5 K (((((a0.put (some t1) v1).put (some t2) v2).put (some t3) v3).put (some t4) v4).put (some t5) v5) w)
    (hend : ∀ v1 v2 v3 v4 v5 w, F true true true true true v1 v2 v3 v4 v5 w → wpAnyH P md ops Q S f (L true true true true true) (((((a0.put (some t1) v1).put (some t2) v2).put (some t3) v3).put (some t4) v4).put (some t5) v5) w)
    {N : Nat} (hN : N = f + 5) {l0 : Array Bool} (hl : l0 = L false false false false false) {w : World} {x1 x2 x3 x4 x5 : Value} (hx : (((((a0.put (some t1) x1).put (some t2) x2).put (some t3) x3).put (some t4) x4).put (some t5) x5) = a0) (h0 : F false false false false false x1 x2 x3 x4 x5 w) :
    wpAnyH P md ops Q S N l0 a0 w := by
  subst hN hl
  have key : ∀ k d1 d2 d3 d4 d5 v1 v2 v3 v4 v5 w, cnt d1 + cnt d2 + cnt d3 + cnt d4 + cnt d5 = k → ((!d1 || c1 d1 d2 d3 d4 d5) && (!d2 || c2 d1 d2 d3 d4 d5) && (!d3 || c3 d1 d2 d3 d4 d5) && (!d4 || c4 d1 d2 d3 d4 d5) && (!d5 || c5 d1 d2 d3 d4 d5)) = true → F d1 d2 d3 d4 d5 v1 v2 v3 v4 v5 w → wpAnyH P md ops Q S (f + k) (L d1 d2 d3 d4 d5) (((((a0.put (some t1) v1).put (some t2) v2).put (some t3) v3).put (some t4) v4).put (some t5) v5) w := by
    intro k
    induction k with
    | zero =>
      intro d1 d2 d3 d4 d5 v1 v2 v3 v4 v5 w hk hok hF
      cases d1
      · simp only [cnt_false] at hk; omega
      cases d2
      · simp only [cnt_false] at hk; omega
      cases d3
      · simp only [cnt_false] at hk; omega
      cases d4
      · simp only [cnt_false] at hk; omega
      cases d5
      · simp only [cnt_false] at hk; omega
      exact hend _ _ _ _ _ w hF
    | succ k ih =>
      intro d1 d2 d3 d4 d5 v1 v2 v3 v4 v5 w hk hok hF
      have hd : (d1 && d2 && d3 && d4 && d5) = false := by
        cases hx : (d1 && d2 && d3 && d4 && d5)
        · rfl
        · simp only [Bool.and_eq_true] at hx
          obtain ⟨⟨⟨⟨rfl, rfl⟩, rfl⟩, rfl⟩, rfl⟩ := hx
          simp only [cnt_true] at hk
          omega
      refine wpAnyH_all (hready d1 d2 d3 d4 d5 hok hd) (upNext_ne (hne d1 d2 d3 d4 d5 hok hd)) ?_
      intro i hi
      have hm := mem_upNext hi
      simp only [List.mem_cons, Prod.mk.injEq, List.not_mem_nil, or_false] at hm
      rcases hm with ⟨rfl, hc⟩ | ⟨rfl, hc⟩ | ⟨rfl, hc⟩ | ⟨rfl, hc⟩ | ⟨rfl, hc⟩
      · have hc' := hc.symm
        rw [Bool.and_eq_true] at hc'
        obtain ⟨h1, h2⟩ := hc'
        have hdj : d1 = false := by simpa using h1
        subst hdj
        refine hstep1 _ _ _ _ _ _ _ _ _ w h2 hF _ (fun v w' hS hF' => ⟨hS, ?_⟩)
        rw [hset1]
        exact ih _ _ _ _ _ _ _ _ _ _ w' (by simp only [cnt_true, cnt_false] at hk ⊢; omega) (hok1 _ _ _ _ hok h2) hF'
      · have hc' := hc.symm
        rw [Bool.and_eq_true] at hc'
        obtain ⟨h1, h2⟩ := hc'
        have hdj : d2 = false := by simpa using h1
        subst hdj
        refine hstep2 _ _ _ _ _ _ _ _ _ w h2 hF _ (fun v w' hS hF' => ⟨hS, ?_⟩)
        rw [hset2]
        exact ih _ _ _ _ _ _ _ _ _ _ w' (by simp only [cnt_true, cnt_false] at hk ⊢; omega) (hok2 _ _ _ _ hok h2) hF'
      · have hc' := hc.symm
        rw [Bool.and_eq_true] at hc'
        obtain ⟨h1, h2⟩ := hc'
        have hdj : d3 = false := by simpa using h1
        subst hdj
        refine hstep3 _ _ _ _ _ _ _ _ _ w h2 hF _ (fun v w' hS hF' => ⟨hS, ?_⟩)
        rw [hset3]
        exact ih _ _ _ _ _ _ _ _ _ _ w' (by simp only [cnt_true, cnt_false] at hk ⊢; omega) (hok3 _ _ _ _ hok h2) hF'
      · have hc' := hc.symm
        rw [Bool.and_eq_true] at hc'
        obtain ⟨h1, h2⟩ := hc'
        have hdj : d4 = false := by simpa using h1
        subst hdj
        refine hstep4 _ _ _ _ _ _ _ _ _ w h2 hF _ (fun v w' hS hF' => ⟨hS, ?_⟩)
        rw [hset4]
        exact ih _ _ _ _ _ _ _ _ _ _ w' (by simp only [cnt_true, cnt_false] at hk ⊢; omega) (hok4 _ _ _ _ hok h2) hF'
      · have hc' := hc.symm
        rw [Bool.and_eq_true] at hc'
        obtain ⟨h1, h2⟩ := hc'
        have hdj : d5 = false := by simpa using h1
        subst hdj
        refine hstep5 _ _ _ _ _ _ _ _ _ w h2 hF _ (fun v w' hS hF' => ⟨hS, ?_⟩)
        rw [hset5]
        exact ih _ _ _ _ _ _ _ _ _ _ w' (by simp only [cnt_true, cnt_false] at hk ⊢; omega) (hok5 _ _ _ _ hok h2) hF'
  have hk := key 5 _ _ _ _ _ _ _ _ _ _ w rfl (by simp) h0
  rw [hx] at hk
  exact hk
theorem merge6 {P : Program} {md : Region.Mode} {ops : Array Oper} {Q : Exit → Act → World → Prop} {S : World → Prop} (f : Nat) (i1 i2 i3 i4 i5 i6 : Nat) (c1 c2 c3 c4 c5 c6 : Bool → Bool → Bool → Bool → Bool → Bool → Bool)
    (L : Bool → Bool → Bool → Bool → Bool → Bool → Array Bool) {a0 : Act} (t1 t2 t3 t4 t5 t6 : Nat) (F : Bool → Bool → Bool → Bool → Bool → Bool → Value → Value → Value → Value → Value → Value → World → Prop)
    (hready : ∀ d1 d2 d3 d4 d5 d6, ((!d1 || c1 d1 d2 d3 d4 d5 d6) && (!d2 || c2 d1 d2 d3 d4 d5 d6) && (!d3 || c3 d1 d2 d3 d4 d5 d6) && (!d4 || c4 d1 d2 d3 d4 d5 d6) && (!d5 || c5 d1 d2 d3 d4 d5 d6) && (!d6 || c6 d1 d2 d3 d4 d5 d6)) = true → (d1 && d2 && d3 && d4 && d5 && d6) = false → Region.ready md ops (L d1 d2 d3 d4 d5 d6) = upNext [(i1, !d1 && c1 d1 d2 d3 d4 d5 d6), (i2, !d2 && c2 d1 d2 d3 d4 d5 d6), (i3, !d3 && c3 d1 d2 d3 d4 d5 d6), (i4, !d4 && c4 d1 d2 d3 d4 d5 d6), (i5, !d5 && c5 d1 d2 d3 d4 d5 d6), (i6, !d6 && c6 d1 d2 d3 d4 d5 d6)])
    (hne : ∀ d1 d2 d3 d4 d5 d6, ((!d1 || c1 d1 d2 d3 d4 d5 d6) && (!d2 || c2 d1 d2 d3 d4 d5 d6) && (!d3 || c3 d1 d2 d3 d4 d5 d6) && (!d4 || c4 d1 d2 d3 d4 d5 d6) && (!d5 || c5 d1 d2 d3 d4 d5 d6) && (!d6 || c6 d1 d2 d3 d4 d5 d6)) = true → (d1 && d2 && d3 && d4 && d5 && d6) = false → List.any [(i1, !d1 && c1 d1 d2 d3 d4 d5 d6), (i2, !d2 && c2 d1 d2 d3 d4 d5 d6), (i3, !d3 && c3 d1 d2 d3 d4 d5 d6), (i4, !d4 && c4 d1 d2 d3 d4 d5 d6), (i5, !d5 && c5 d1 d2 d3 d4 d5 d6), (i6, !d6 && c6 d1 d2 d3 d4 d5 d6)] (·.2) = true)
    (hok1 : ∀ d2 d3 d4 d5 d6, ((!false || c1 false d2 d3 d4 d5 d6) && (!d2 || c2 false d2 d3 d4 d5 d6) && (!d3 || c3 false d2 d3 d4 d5 d6) && (!d4 || c4 false d2 d3 d4 d5 d6) && (!d5 || c5 false d2 d3 d4 d5 d6) && (!d6 || c6 false d2 d3 d4 d5 d6)) = true → c1 false d2 d3 d4 d5 d6 = true → ((!true || c1 true d2 d3 d4 d5 d6) && (!d2 || c2 true d2 d3 d4 d5 d6) && (!d3 || c3 true d2 d3 d4 d5 d6) && (!d4 || c4 true d2 d3 d4 d5 d6) && (!d5 || c5 true d2 d3 d4 d5 d6) && (!d6 || c6 true d2 d3 d4 d5 d6)) = true)
    (hok2 : ∀ d1 d3 d4 d5 d6, ((!d1 || c1 d1 false d3 d4 d5 d6) && (!false || c2 d1 false d3 d4 d5 d6) && (!d3 || c3 d1 false d3 d4 d5 d6) && (!d4 || c4 d1 false d3 d4 d5 d6) && (!d5 || c5 d1 false d3 d4 d5 d6) && (!d6 || c6 d1 false d3 d4 d5 d6)) = true → c2 d1 false d3 d4 d5 d6 = true → ((!d1 || c1 d1 true d3 d4 d5 d6) && (!true || c2 d1 true d3 d4 d5 d6) && (!d3 || c3 d1 true d3 d4 d5 d6) && (!d4 || c4 d1 true d3 d4 d5 d6) && (!d5 || c5 d1 true d3 d4 d5 d6) && (!d6 || c6 d1 true d3 d4 d5 d6)) = true)
    (hok3 : ∀ d1 d2 d4 d5 d6, ((!d1 || c1 d1 d2 false d4 d5 d6) && (!d2 || c2 d1 d2 false d4 d5 d6) && (!false || c3 d1 d2 false d4 d5 d6) && (!d4 || c4 d1 d2 false d4 d5 d6) && (!d5 || c5 d1 d2 false d4 d5 d6) && (!d6 || c6 d1 d2 false d4 d5 d6)) = true → c3 d1 d2 false d4 d5 d6 = true → ((!d1 || c1 d1 d2 true d4 d5 d6) && (!d2 || c2 d1 d2 true d4 d5 d6) && (!true || c3 d1 d2 true d4 d5 d6) && (!d4 || c4 d1 d2 true d4 d5 d6) && (!d5 || c5 d1 d2 true d4 d5 d6) && (!d6 || c6 d1 d2 true d4 d5 d6)) = true)
    (hok4 : ∀ d1 d2 d3 d5 d6, ((!d1 || c1 d1 d2 d3 false d5 d6) && (!d2 || c2 d1 d2 d3 false d5 d6) && (!d3 || c3 d1 d2 d3 false d5 d6) && (!false || c4 d1 d2 d3 false d5 d6) && (!d5 || c5 d1 d2 d3 false d5 d6) && (!d6 || c6 d1 d2 d3 false d5 d6)) = true → c4 d1 d2 d3 false d5 d6 = true → ((!d1 || c1 d1 d2 d3 true d5 d6) && (!d2 || c2 d1 d2 d3 true d5 d6) && (!d3 || c3 d1 d2 d3 true d5 d6) && (!true || c4 d1 d2 d3 true d5 d6) && (!d5 || c5 d1 d2 d3 true d5 d6) && (!d6 || c6 d1 d2 d3 true d5 d6)) = true)
    (hok5 : ∀ d1 d2 d3 d4 d6, ((!d1 || c1 d1 d2 d3 d4 false d6) && (!d2 || c2 d1 d2 d3 d4 false d6) && (!d3 || c3 d1 d2 d3 d4 false d6) && (!d4 || c4 d1 d2 d3 d4 false d6) && (!false || c5 d1 d2 d3 d4 false d6) && (!d6 || c6 d1 d2 d3 d4 false d6)) = true → c5 d1 d2 d3 d4 false d6 = true → ((!d1 || c1 d1 d2 d3 d4 true d6) && (!d2 || c2 d1 d2 d3 d4 true d6) && (!d3 || c3 d1 d2 d3 d4 true d6) && (!d4 || c4 d1 d2 d3 d4 true d6) && (!true || c5 d1 d2 d3 d4 true d6) && (!d6 || c6 d1 d2 d3 d4 true d6)) = true)
    (hok6 : ∀ d1 d2 d3 d4 d5, ((!d1 || c1 d1 d2 d3 d4 d5 false) && (!d2 || c2 d1 d2 d3 d4 d5 false) && (!d3 || c3 d1 d2 d3 d4 d5 false) && (!d4 || c4 d1 d2 d3 d4 d5 false) && (!d5 || c5 d1 d2 d3 d4 d5 false) && (!false || c6 d1 d2 d3 d4 d5 false)) = true → c6 d1 d2 d3 d4 d5 false = true → ((!d1 || c1 d1 d2 d3 d4 d5 true) && (!d2 || c2 d1 d2 d3 d4 d5 true) && (!d3 || c3 d1 d2 d3 d4 d5 true) && (!d4 || c4 d1 d2 d3 d4 d5 true) && (!d5 || c5 d1 d2 d3 d4 d5 true) && (!true || c6 d1 d2 d3 d4 d5 true)) = true)
    (hset1 : ∀ d2 d3 d4 d5 d6, (L false d2 d3 d4 d5 d6).setIfInBounds i1 true = L true d2 d3 d4 d5 d6)
    (hstep1 : ∀ d2 d3 d4 d5 d6 v1 v2 v3 v4 v5 v6 w, c1 false d2 d3 d4 d5 d6 = true → F false d2 d3 d4 d5 d6 v1 v2 v3 v4 v5 v6 w → ∀ K : Act → World → Prop, (∀ v w', S w' → F true d2 d3 d4 d5 d6 v v2 v3 v4 v5 v6 w' → K ((((((a0.put (some t1) v).put (some t2) v2).put (some t3) v3).put (some t4) v4).put (some t5) v5).put (some t6) v6) w') → wpOp P ops Q i1 K ((((((a0.put (some t1) v1).put (some t2) v2).put (some t3) v3).put (some t4) v4).put (some t5) v5).put (some t6) v6) w)
    (hset2 : ∀ d1 d3 d4 d5 d6, (L d1 false d3 d4 d5 d6).setIfInBounds i2 true = L d1 true d3 d4 d5 d6)
    (hstep2 : ∀ d1 d3 d4 d5 d6 v1 v2 v3 v4 v5 v6 w, c2 d1 false d3 d4 d5 d6 = true → F d1 false d3 d4 d5 d6 v1 v2 v3 v4 v5 v6 w → ∀ K : Act → World → Prop, (∀ v w', S w' → F d1 true d3 d4 d5 d6 v1 v v3 v4 v5 v6 w' → K ((((((a0.put (some t1) v1).put (some t2) v).put (some t3) v3).put (some t4) v4).put (some t5) v5).put (some t6) v6) w') → wpOp P ops Q i2 K ((((((a0.put (some t1) v1).put (some t2) v2).put (some t3) v3).put (some t4) v4).put (some t5) v5).put (some t6) v6) w)
    (hset3 : ∀ d1 d2 d4 d5 d6, (L d1 d2 false d4 d5 d6).setIfInBounds i3 true = L d1 d2 true d4 d5 d6)
    (hstep3 : ∀ d1 d2 d4 d5 d6 v1 v2 v3 v4 v5 v6 w, c3 d1 d2 false d4 d5 d6 = true → F d1 d2 false d4 d5 d6 v1 v2 v3 v4 v5 v6 w → ∀ K : Act → World → Prop, (∀ v w', S w' → F d1 d2 true d4 d5 d6 v1 v2 v v4 v5 v6 w' → K ((((((a0.put (some t1) v1).put (some t2) v2).put (some t3) v).put (some t4) v4).put (some t5) v5).put (some t6) v6) w') → wpOp P ops Q i3 K ((((((a0.put (some t1) v1).put (some t2) v2).put (some t3) v3).put (some t4) v4).put (some t5) v5).put (some t6) v6) w)
    (hset4 : ∀ d1 d2 d3 d5 d6, (L d1 d2 d3 false d5 d6).setIfInBounds i4 true = L d1 d2 d3 true d5 d6)
    (hstep4 : ∀ d1 d2 d3 d5 d6 v1 v2 v3 v4 v5 v6 w, c4 d1 d2 d3 false d5 d6 = true → F d1 d2 d3 false d5 d6 v1 v2 v3 v4 v5 v6 w → ∀ K : Act → World → Prop, (∀ v w', S w' → F d1 d2 d3 true d5 d6 v1 v2 v3 v v5 v6 w' → K ((((((a0.put (some t1) v1).put (some t2) v2).put (some t3) v3).put (some t4) v).put (some t5) v5).put (some t6) v6) w') → wpOp P ops Q i4 K ((((((a0.put (some t1) v1).put (some t2) v2).put (some t3) v3).put (some t4) v4).put (some t5) v5).put (some t6) v6) w)
    (hset5 : ∀ d1 d2 d3 d4 d6, (L d1 d2 d3 d4 false d6).setIfInBounds i5 true = L d1 d2 d3 d4 true d6)
    (hstep5 : ∀ d1 d2 d3 d4 d6 v1 v2 v3 v4 v5 v6 w, c5 d1 d2 d3 d4 false d6 = true → F d1 d2 d3 d4 false d6 v1 v2 v3 v4 v5 v6 w → ∀ K : Act → World → Prop, (∀ v w', S w' → F d1 d2 d3 d4 true d6 v1 v2 v3 v4 v v6 w' → K ((((((a0.put (some t1) v1).put (some t2) v2).put (some t3) v3).put (some t4) v4).put (some t5) v).put (some t6) v6) w') → wpOp P ops Q i5 K ((((((a0.put (some t1) v1).put (some t2) v2).put (some t3) v3).put (some t4) v4).put (some t5) v5).put (some t6) v6) w)
    (hset6 : ∀ d1 d2 d3 d4 d5, (L d1 d2 d3 d4 d5 false).setIfInBounds i6 true = L d1 d2 d3 d4 d5 true)
    (hstep6 : ∀ d1 d2 d3 d4 d5 v1 v2 v3 v4 v5 v6 w, c6 d1 d2 d3 d4 d5 false = true → F d1 d2 d3 d4 d5 false v1 v2 v3 v4 v5 v6 w → ∀ K : Act → World → Prop, (∀ v w', S w' → F d1 d2 d3 d4 d5 true v1 v2 v3 v4 v5 v w' → K ((((((a0.put (some t1) v1).put (some t2) v2).put (some t3) v3).put (some t4) v4).put (some t5) v5).put (some t6) v) w') → wpOp P ops Q i6 K ((((((a0.put (some t1) v1).put (some t2) v2).put (some t3) v3).put (some t4) v4).put (some t5) v5).put (some t6) v6) w)
    (hend : ∀ v1 v2 v3 v4 v5 v6 w, F true true true true true true v1 v2 v3 v4 v5 v6 w → wpAnyH P md ops Q S f (L true true true true true true) ((((((a0.put (some t1) v1).put (some t2) v2).put (some t3) v3).put (some t4) v4).put (some t5) v5).put (some t6) v6) w)
    {N : Nat} (hN : N = f + 6) {l0 : Array Bool} (hl : l0 = L false false false false false false) {w : World} {x1 x2 x3 x4 x5 x6 : Value} (hx : ((((((a0.put (some t1) x1).put (some t2) x2).put (some t3) x3).put (some t4) x4).put (some t5) x5).put (some t6) x6) = a0) (h0 : F false false false false false false x1 x2 x3 x4 x5 x6 w) :
    wpAnyH P md ops Q S N l0 a0 w := by
  subst hN hl
  have key : ∀ k d1 d2 d3 d4 d5 d6 v1 v2 v3 v4 v5 v6 w, cnt d1 + cnt d2 + cnt d3 + cnt d4 + cnt d5 + cnt d6 = k → ((!d1 || c1 d1 d2 d3 d4 d5 d6) && (!d2 || c2 d1 d2 d3 d4 d5 d6) && (!d3 || c3 d1 d2 d3 d4 d5 d6) && (!d4 || c4 d1 d2 d3 d4 d5 d6) && (!d5 || c5 d1 d2 d3 d4 d5 d6) && (!d6 || c6 d1 d2 d3 d4 d5 d6)) = true → F d1 d2 d3 d4 d5 d6 v1 v2 v3 v4 v5 v6 w → wpAnyH P md ops Q S (f + k) (L d1 d2 d3 d4 d5 d6) ((((((a0.put (some t1) v1).put (some t2) v2).put (some t3) v3).put (some t4) v4).put (some t5) v5).put (some t6) v6) w := by
    intro k
    induction k with
    | zero =>
      intro d1 d2 d3 d4 d5 d6 v1 v2 v3 v4 v5 v6 w hk hok hF
      cases d1
      · simp only [cnt_false] at hk; omega
      cases d2
      · simp only [cnt_false] at hk; omega
      cases d3
      · simp only [cnt_false] at hk; omega
      cases d4
      · simp only [cnt_false] at hk; omega
      cases d5
      · simp only [cnt_false] at hk; omega
      cases d6
      · simp only [cnt_false] at hk; omega
      exact hend _ _ _ _ _ _ w hF
    | succ k ih =>
      intro d1 d2 d3 d4 d5 d6 v1 v2 v3 v4 v5 v6 w hk hok hF
      have hd : (d1 && d2 && d3 && d4 && d5 && d6) = false := by
        cases hx : (d1 && d2 && d3 && d4 && d5 && d6)
        · rfl
        · simp only [Bool.and_eq_true] at hx
          obtain ⟨⟨⟨⟨⟨rfl, rfl⟩, rfl⟩, rfl⟩, rfl⟩, rfl⟩ := hx
          simp only [cnt_true] at hk
          omega
      refine wpAnyH_all (hready d1 d2 d3 d4 d5 d6 hok hd) (upNext_ne (hne d1 d2 d3 d4 d5 d6 hok hd)) ?_
      intro i hi
      have hm := mem_upNext hi
      simp only [List.mem_cons, Prod.mk.injEq, List.not_mem_nil, or_false] at hm
      rcases hm with ⟨rfl, hc⟩ | ⟨rfl, hc⟩ | ⟨rfl, hc⟩ | ⟨rfl, hc⟩ | ⟨rfl, hc⟩ | ⟨rfl, hc⟩
      · have hc' := hc.symm
        rw [Bool.and_eq_true] at hc'
        obtain ⟨h1, h2⟩ := hc'
        have hdj : d1 = false := by simpa using h1
        subst hdj
        refine hstep1 _ _ _ _ _ _ _ _ _ _ _ w h2 hF _ (fun v w' hS hF' => ⟨hS, ?_⟩)
        rw [hset1]
        exact ih _ _ _ _ _ _ _ _ _ _ _ _ w' (by simp only [cnt_true, cnt_false] at hk ⊢; omega) (hok1 _ _ _ _ _ hok h2) hF'
      · have hc' := hc.symm
        rw [Bool.and_eq_true] at hc'
        obtain ⟨h1, h2⟩ := hc'
        have hdj : d2 = false := by simpa using h1
        subst hdj
        refine hstep2 _ _ _ _ _ _ _ _ _ _ _ w h2 hF _ (fun v w' hS hF' => ⟨hS, ?_⟩)
        rw [hset2]
        exact ih _ _ _ _ _ _ _ _ _ _ _ _ w' (by simp only [cnt_true, cnt_false] at hk ⊢; omega) (hok2 _ _ _ _ _ hok h2) hF'
      · have hc' := hc.symm
        rw [Bool.and_eq_true] at hc'
        obtain ⟨h1, h2⟩ := hc'
        have hdj : d3 = false := by simpa using h1
        subst hdj
        refine hstep3 _ _ _ _ _ _ _ _ _ _ _ w h2 hF _ (fun v w' hS hF' => ⟨hS, ?_⟩)
        rw [hset3]
        exact ih _ _ _ _ _ _ _ _ _ _ _ _ w' (by simp only [cnt_true, cnt_false] at hk ⊢; omega) (hok3 _ _ _ _ _ hok h2) hF'
      · have hc' := hc.symm
        rw [Bool.and_eq_true] at hc'
        obtain ⟨h1, h2⟩ := hc'
        have hdj : d4 = false := by simpa using h1
        subst hdj
        refine hstep4 _ _ _ _ _ _ _ _ _ _ _ w h2 hF _ (fun v w' hS hF' => ⟨hS, ?_⟩)
        rw [hset4]
        exact ih _ _ _ _ _ _ _ _ _ _ _ _ w' (by simp only [cnt_true, cnt_false] at hk ⊢; omega) (hok4 _ _ _ _ _ hok h2) hF'
      · have hc' := hc.symm
        rw [Bool.and_eq_true] at hc'
        obtain ⟨h1, h2⟩ := hc'
        have hdj : d5 = false := by simpa using h1
        subst hdj
        refine hstep5 _ _ _ _ _ _ _ _ _ _ _ w h2 hF _ (fun v w' hS hF' => ⟨hS, ?_⟩)
        rw [hset5]
        exact ih _ _ _ _ _ _ _ _ _ _ _ _ w' (by simp only [cnt_true, cnt_false] at hk ⊢; omega) (hok5 _ _ _ _ _ hok h2) hF'
      · have hc' := hc.symm
        rw [Bool.and_eq_true] at hc'
        obtain ⟨h1, h2⟩ := hc'
        have hdj : d6 = false := by simpa using h1
        subst hdj
        refine hstep6 _ _ _ _ _ _ _ _ _ _ _ w h2 hF _ (fun v w' hS hF' => ⟨hS, ?_⟩)
        rw [hset6]
        exact ih _ _ _ _ _ _ _ _ _ _ _ _ w' (by simp only [cnt_true, cnt_false] at hk ⊢; omega) (hok6 _ _ _ _ _ hok h2) hF'
  have hk := key 6 _ _ _ _ _ _ _ _ _ _ _ _ w rfl (by simp) h0
  rw [hx] at hk
  exact hk
theorem merge8 {P : Program} {md : Region.Mode} {ops : Array Oper} {Q : Exit → Act → World → Prop} {S : World → Prop} (f : Nat) (i1 i2 i3 i4 i5 i6 i7 i8 : Nat) (c1 c2 c3 c4 c5 c6 c7 c8 : Bool → Bool → Bool → Bool → Bool → Bool → Bool → Bool → Bool)
    (L : Bool → Bool → Bool → Bool → Bool → Bool → Bool → Bool → Array Bool) {a0 : Act} (t1 t2 t3 t4 t5 t6 t7 t8 : Nat) (F : Bool → Bool → Bool → Bool → Bool → Bool → Bool → Bool → Value → Value → Value → Value → Value → Value → Value → Value → World → Prop)
    (hready : ∀ d1 d2 d3 d4 d5 d6 d7 d8, ((!d1 || c1 d1 d2 d3 d4 d5 d6 d7 d8) && (!d2 || c2 d1 d2 d3 d4 d5 d6 d7 d8) && (!d3 || c3 d1 d2 d3 d4 d5 d6 d7 d8) && (!d4 || c4 d1 d2 d3 d4 d5 d6 d7 d8) && (!d5 || c5 d1 d2 d3 d4 d5 d6 d7 d8) && (!d6 || c6 d1 d2 d3 d4 d5 d6 d7 d8) && (!d7 || c7 d1 d2 d3 d4 d5 d6 d7 d8) && (!d8 || c8 d1 d2 d3 d4 d5 d6 d7 d8)) = true → (d1 && d2 && d3 && d4 && d5 && d6 && d7 && d8) = false → Region.ready md ops (L d1 d2 d3 d4 d5 d6 d7 d8) = upNext [(i1, !d1 && c1 d1 d2 d3 d4 d5 d6 d7 d8), (i2, !d2 && c2 d1 d2 d3 d4 d5 d6 d7 d8), (i3, !d3 && c3 d1 d2 d3 d4 d5 d6 d7 d8), (i4, !d4 && c4 d1 d2 d3 d4 d5 d6 d7 d8), (i5, !d5 && c5 d1 d2 d3 d4 d5 d6 d7 d8), (i6, !d6 && c6 d1 d2 d3 d4 d5 d6 d7 d8), (i7, !d7 && c7 d1 d2 d3 d4 d5 d6 d7 d8), (i8, !d8 && c8 d1 d2 d3 d4 d5 d6 d7 d8)])
    (hne : ∀ d1 d2 d3 d4 d5 d6 d7 d8, ((!d1 || c1 d1 d2 d3 d4 d5 d6 d7 d8) && (!d2 || c2 d1 d2 d3 d4 d5 d6 d7 d8) && (!d3 || c3 d1 d2 d3 d4 d5 d6 d7 d8) && (!d4 || c4 d1 d2 d3 d4 d5 d6 d7 d8) && (!d5 || c5 d1 d2 d3 d4 d5 d6 d7 d8) && (!d6 || c6 d1 d2 d3 d4 d5 d6 d7 d8) && (!d7 || c7 d1 d2 d3 d4 d5 d6 d7 d8) && (!d8 || c8 d1 d2 d3 d4 d5 d6 d7 d8)) = true → (d1 && d2 && d3 && d4 && d5 && d6 && d7 && d8) = false → List.any [(i1, !d1 && c1 d1 d2 d3 d4 d5 d6 d7 d8), (i2, !d2 && c2 d1 d2 d3 d4 d5 d6 d7 d8), (i3, !d3 && c3 d1 d2 d3 d4 d5 d6 d7 d8), (i4, !d4 && c4 d1 d2 d3 d4 d5 d6 d7 d8), (i5, !d5 && c5 d1 d2 d3 d4 d5 d6 d7 d8), (i6, !d6 && c6 d1 d2 d3 d4 d5 d6 d7 d8), (i7, !d7 && c7 d1 d2 d3 d4 d5 d6 d7 d8), (i8, !d8 && c8 d1 d2 d3 d4 d5 d6 d7 d8)] (·.2) = true)
    (hok1 : ∀ d2 d3 d4 d5 d6 d7 d8, ((!false || c1 false d2 d3 d4 d5 d6 d7 d8) && (!d2 || c2 false d2 d3 d4 d5 d6 d7 d8) && (!d3 || c3 false d2 d3 d4 d5 d6 d7 d8) && (!d4 || c4 false d2 d3 d4 d5 d6 d7 d8) && (!d5 || c5 false d2 d3 d4 d5 d6 d7 d8) && (!d6 || c6 false d2 d3 d4 d5 d6 d7 d8) && (!d7 || c7 false d2 d3 d4 d5 d6 d7 d8) && (!d8 || c8 false d2 d3 d4 d5 d6 d7 d8)) = true → c1 false d2 d3 d4 d5 d6 d7 d8 = true → ((!true || c1 true d2 d3 d4 d5 d6 d7 d8) && (!d2 || c2 true d2 d3 d4 d5 d6 d7 d8) && (!d3 || c3 true d2 d3 d4 d5 d6 d7 d8) && (!d4 || c4 true d2 d3 d4 d5 d6 d7 d8) && (!d5 || c5 true d2 d3 d4 d5 d6 d7 d8) && (!d6 || c6 true d2 d3 d4 d5 d6 d7 d8) && (!d7 || c7 true d2 d3 d4 d5 d6 d7 d8) && (!d8 || c8 true d2 d3 d4 d5 d6 d7 d8)) = true)
    (hok2 : ∀ d1 d3 d4 d5 d6 d7 d8, ((!d1 || c1 d1 false d3 d4 d5 d6 d7 d8) && (!false || c2 d1 false d3 d4 d5 d6 d7 d8) && (!d3 || c3 d1 false d3 d4 d5 d6 d7 d8) && (!d4 || c4 d1 false d3 d4 d5 d6 d7 d8) && (!d5 || c5 d1 false d3 d4 d5 d6 d7 d8) && (!d6 || c6 d1 false d3 d4 d5 d6 d7 d8) && (!d7 || c7 d1 false d3 d4 d5 d6 d7 d8) && (!d8 || c8 d1 false d3 d4 d5 d6 d7 d8)) = true → c2 d1 false d3 d4 d5 d6 d7 d8 = true → ((!d1 || c1 d1 true d3 d4 d5 d6 d7 d8) && (!true || c2 d1 true d3 d4 d5 d6 d7 d8) && (!d3 || c3 d1 true d3 d4 d5 d6 d7 d8) && (!d4 || c4 d1 true d3 d4 d5 d6 d7 d8) && (!d5 || c5 d1 true d3 d4 d5 d6 d7 d8) && (!d6 || c6 d1 true d3 d4 d5 d6 d7 d8) && (!d7 || c7 d1 true d3 d4 d5 d6 d7 d8) && (!d8 || c8 d1 true d3 d4 d5 d6 d7 d8)) = true)
    (hok3 : ∀ d1 d2 d4 d5 d6 d7 d8, ((!d1 || c1 d1 d2 false d4 d5 d6 d7 d8) && (!d2 || c2 d1 d2 false d4 d5 d6 d7 d8) && (!false || c3 d1 d2 false d4 d5 d6 d7 d8) && (!d4 || c4 d1 d2 false d4 d5 d6 d7 d8) && (!d5 || c5 d1 d2 false d4 d5 d6 d7 d8) && (!d6 || c6 d1 d2 false d4 d5 d6 d7 d8) && (!d7 || c7 d1 d2 false d4 d5 d6 d7 d8) && (!d8 || c8 d1 d2 false d4 d5 d6 d7 d8)) = true → c3 d1 d2 false d4 d5 d6 d7 d8 = true → ((!d1 || c1 d1 d2 true d4 d5 d6 d7 d8) && (!d2 || c2 d1 d2 true d4 d5 d6 d7 d8) && (!true || c3 d1 d2 true d4 d5 d6 d7 d8) && (!d4 || c4 d1 d2 true d4 d5 d6 d7 d8) && (!d5 || c5 d1 d2 true d4 d5 d6 d7 d8) && (!d6 || c6 d1 d2 true d4 d5 d6 d7 d8) && (!d7 || c7 d1 d2 true d4 d5 d6 d7 d8) && (!d8 || c8 d1 d2 true d4 d5 d6 d7 d8)) = true)
    (hok4 : ∀ d1 d2 d3 d5 d6 d7 d8, ((!d1 || c1 d1 d2 d3 false d5 d6 d7 d8) && (!d2 || c2 d1 d2 d3 false d5 d6 d7 d8) && (!d3 || c3 d1 d2 d3 false d5 d6 d7 d8) && (!false || c4 d1 d2 d3 false d5 d6 d7 d8) && (!d5 || c5 d1 d2 d3 false d5 d6 d7 d8) && (!d6 || c6 d1 d2 d3 false d5 d6 d7 d8) && (!d7 || c7 d1 d2 d3 false d5 d6 d7 d8) && (!d8 || c8 d1 d2 d3 false d5 d6 d7 d8)) = true → c4 d1 d2 d3 false d5 d6 d7 d8 = true → ((!d1 || c1 d1 d2 d3 true d5 d6 d7 d8) && (!d2 || c2 d1 d2 d3 true d5 d6 d7 d8) && (!d3 || c3 d1 d2 d3 true d5 d6 d7 d8) && (!true || c4 d1 d2 d3 true d5 d6 d7 d8) && (!d5 || c5 d1 d2 d3 true d5 d6 d7 d8) && (!d6 || c6 d1 d2 d3 true d5 d6 d7 d8) && (!d7 || c7 d1 d2 d3 true d5 d6 d7 d8) && (!d8 || c8 d1 d2 d3 true d5 d6 d7 d8)) = true)
    (hok5 : ∀ d1 d2 d3 d4 d6 d7 d8, ((!d1 || c1 d1 d2 d3 d4 false d6 d7 d8) && (!d2 || c2 d1 d2 d3 d4 false d6 d7 d8) && (!d3 || c3 d1 d2 d3 d4 false d6 d7 d8) && (!d4 || c4 d1 d2 d3 d4 false d6 d7 d8) && (!false || c5 d1 d2 d3 d4 false d6 d7 d8) && (!d6 || c6 d1 d2 d3 d4 false d6 d7 d8) && (!d7 || c7 d1 d2 d3 d4 false d6 d7 d8) && (!d8 || c8 d1 d2 d3 d4 false d6 d7 d8)) = true → c5 d1 d2 d3 d4 false d6 d7 d8 = true → ((!d1 || c1 d1 d2 d3 d4 true d6 d7 d8) && (!d2 || c2 d1 d2 d3 d4 true d6 d7 d8) && (!d3 || c3 d1 d2 d3 d4 true d6 d7 d8) && (!d4 || c4 d1 d2 d3 d4 true d6 d7 d8) && (!true || c5 d1 d2 d3 d4 true d6 d7 d8) && (!d6 || c6 d1 d2 d3 d4 true d6 d7 d8) && (!d7 || c7 d1 d2 d3 d4 true d6 d7 d8) && (!d8 || c8 d1 d2 d3 d4 true d6 d7 d8)) = true)
    (hok6 : ∀ d1 d2 d3 d4 d5 d7 d8, ((!d1 || c1 d1 d2 d3 d4 d5 false d7 d8) && (!d2 || c2 d1 d2 d3 d4 d5 false d7 d8) && (!d3 || c3 d1 d2 d3 d4 d5 false d7 d8) && (!d4 || c4 d1 d2 d3 d4 d5 false d7 d8) && (!d5 || c5 d1 d2 d3 d4 d5 false d7 d8) && (!false || c6 d1 d2 d3 d4 d5 false d7 d8) && (!d7 || c7 d1 d2 d3 d4 d5 false d7 d8) && (!d8 || c8 d1 d2 d3 d4 d5 false d7 d8)) = true → c6 d1 d2 d3 d4 d5 false d7 d8 = true → ((!d1 || c1 d1 d2 d3 d4 d5 true d7 d8) && (!d2 || c2 d1 d2 d3 d4 d5 true d7 d8) && (!d3 || c3 d1 d2 d3 d4 d5 true d7 d8) && (!d4 || c4 d1 d2 d3 d4 d5 true d7 d8) && (!d5 || c5 d1 d2 d3 d4 d5 true d7 d8) && (!true || c6 d1 d2 d3 d4 d5 true d7 d8) && (!d7 || c7 d1 d2 d3 d4 d5 true d7 d8) && (!d8 || c8 d1 d2 d3 d4 d5 true d7 d8)) = true)
    (hok7 : ∀ d1 d2 d3 d4 d5 d6 d8, ((!d1 || c1 d1 d2 d3 d4 d5 d6 false d8) && (!d2 || c2 d1 d2 d3 d4 d5 d6 false d8) && (!d3 || c3 d1 d2 d3 d4 d5 d6 false d8) && (!d4 || c4 d1 d2 d3 d4 d5 d6 false d8) && (!d5 || c5 d1 d2 d3 d4 d5 d6 false d8) && (!d6 || c6 d1 d2 d3 d4 d5 d6 false d8) && (!false || c7 d1 d2 d3 d4 d5 d6 false d8) && (!d8 || c8 d1 d2 d3 d4 d5 d6 false d8)) = true → c7 d1 d2 d3 d4 d5 d6 false d8 = true → ((!d1 || c1 d1 d2 d3 d4 d5 d6 true d8) && (!d2 || c2 d1 d2 d3 d4 d5 d6 true d8) && (!d3 || c3 d1 d2 d3 d4 d5 d6 true d8) && (!d4 || c4 d1 d2 d3 d4 d5 d6 true d8) && (!d5 || c5 d1 d2 d3 d4 d5 d6 true d8) && (!d6 || c6 d1 d2 d3 d4 d5 d6 true d8) && (!true || c7 d1 d2 d3 d4 d5 d6 true d8) && (!d8 || c8 d1 d2 d3 d4 d5 d6 true d8)) = true)
    (hok8 : ∀ d1 d2 d3 d4 d5 d6 d7, ((!d1 || c1 d1 d2 d3 d4 d5 d6 d7 false) && (!d2 || c2 d1 d2 d3 d4 d5 d6 d7 false) && (!d3 || c3 d1 d2 d3 d4 d5 d6 d7 false) && (!d4 || c4 d1 d2 d3 d4 d5 d6 d7 false) && (!d5 || c5 d1 d2 d3 d4 d5 d6 d7 false) && (!d6 || c6 d1 d2 d3 d4 d5 d6 d7 false) && (!d7 || c7 d1 d2 d3 d4 d5 d6 d7 false) && (!false || c8 d1 d2 d3 d4 d5 d6 d7 false)) = true → c8 d1 d2 d3 d4 d5 d6 d7 false = true → ((!d1 || c1 d1 d2 d3 d4 d5 d6 d7 true) && (!d2 || c2 d1 d2 d3 d4 d5 d6 d7 true) && (!d3 || c3 d1 d2 d3 d4 d5 d6 d7 true) && (!d4 || c4 d1 d2 d3 d4 d5 d6 d7 true) && (!d5 || c5 d1 d2 d3 d4 d5 d6 d7 true) && (!d6 || c6 d1 d2 d3 d4 d5 d6 d7 true) && (!d7 || c7 d1 d2 d3 d4 d5 d6 d7 true) && (!true || c8 d1 d2 d3 d4 d5 d6 d7 true)) = true)
    (hset1 : ∀ d2 d3 d4 d5 d6 d7 d8, (L false d2 d3 d4 d5 d6 d7 d8).setIfInBounds i1 true = L true d2 d3 d4 d5 d6 d7 d8)
    (hstep1 : ∀ d2 d3 d4 d5 d6 d7 d8 v1 v2 v3 v4 v5 v6 v7 v8 w, c1 false d2 d3 d4 d5 d6 d7 d8 = true → F false d2 d3 d4 d5 d6 d7 d8 v1 v2 v3 v4 v5 v6 v7 v8 w → ∀ K : Act → World → Prop, (∀ v w', S w' → F true d2 d3 d4 d5 d6 d7 d8 v v2 v3 v4 v5 v6 v7 v8 w' → K ((((((((a0.put (some t1) v).put (some t2) v2).put (some t3) v3).put (some t4) v4).put (some t5) v5).put (some t6) v6).put (some t7) v7).put (some t8) v8) w') → wpOp P ops Q i1 K ((((((((a0.put (some t1) v1).put (some t2) v2).put (some t3) v3).put (some t4) v4).put (some t5) v5).put (some t6) v6).put (some t7) v7).put (some t8) v8) w)
    (hset2 : ∀ d1 d3 d4 d5 d6 d7 d8, (L d1 false d3 d4 d5 d6 d7 d8).setIfInBounds i2 true = L d1 true d3 d4 d5 d6 d7 d8)
    (hstep2 : ∀ d1 d3 d4 d5 d6 d7 d8 v1 v2 v3 v4 v5 v6 v7 v8 w, c2 d1 false d3 d4 d5 d6 d7 d8 = true → F d1 false d3 d4 d5 d6 d7 d8 v1 v2 v3 v4 v5 v6 v7 v8 w → ∀ K : Act → World → Prop, (∀ v w', S w' → F d1 true d3 d4 d5 d6 d7 d8 v1 v v3 v4 v5 v6 v7 v8 w' → K ((((((((a0.put (some t1) v1).put (some t2) v).put (some t3) v3).put (some t4) v4).put (some t5) v5).put (some t6) v6).put (some t7) v7).put (some t8) v8) w') → wpOp P ops Q i2 K ((((((((a0.put (some t1) v1).put (some t2) v2).put (some t3) v3).put (some t4) v4).put (some t5) v5).put (some t6) v6).put (some t7) v7).put (some t8) v8) w)
    (hset3 : ∀ d1 d2 d4 d5 d6 d7 d8, (L d1 d2 false d4 d5 d6 d7 d8).setIfInBounds i3 true = L d1 d2 true d4 d5 d6 d7 d8)
    (hstep3 : ∀ d1 d2 d4 d5 d6 d7 d8 v1 v2 v3 v4 v5 v6 v7 v8 w, c3 d1 d2 false d4 d5 d6 d7 d8 = true → F d1 d2 false d4 d5 d6 d7 d8 v1 v2 v3 v4 v5 v6 v7 v8 w → ∀ K : Act → World → Prop, (∀ v w', S w' → F d1 d2 true d4 d5 d6 d7 d8 v1 v2 v v4 v5 v6 v7 v8 w' → K ((((((((a0.put (some t1) v1).put (some t2) v2).put (some t3) v).put (some t4) v4).put (some t5) v5).put (some t6) v6).put (some t7) v7).put (some t8) v8) w') → wpOp P ops Q i3 K ((((((((a0.put (some t1) v1).put (some t2) v2).put (some t3) v3).put (some t4) v4).put (some t5) v5).put (some t6) v6).put (some t7) v7).put (some t8) v8) w)
    (hset4 : ∀ d1 d2 d3 d5 d6 d7 d8, (L d1 d2 d3 false d5 d6 d7 d8).setIfInBounds i4 true = L d1 d2 d3 true d5 d6 d7 d8)
    (hstep4 : ∀ d1 d2 d3 d5 d6 d7 d8 v1 v2 v3 v4 v5 v6 v7 v8 w, c4 d1 d2 d3 false d5 d6 d7 d8 = true → F d1 d2 d3 false d5 d6 d7 d8 v1 v2 v3 v4 v5 v6 v7 v8 w → ∀ K : Act → World → Prop, (∀ v w', S w' → F d1 d2 d3 true d5 d6 d7 d8 v1 v2 v3 v v5 v6 v7 v8 w' → K ((((((((a0.put (some t1) v1).put (some t2) v2).put (some t3) v3).put (some t4) v).put (some t5) v5).put (some t6) v6).put (some t7) v7).put (some t8) v8) w') → wpOp P ops Q i4 K ((((((((a0.put (some t1) v1).put (some t2) v2).put (some t3) v3).put (some t4) v4).put (some t5) v5).put (some t6) v6).put (some t7) v7).put (some t8) v8) w)
    (hset5 : ∀ d1 d2 d3 d4 d6 d7 d8, (L d1 d2 d3 d4 false d6 d7 d8).setIfInBounds i5 true = L d1 d2 d3 d4 true d6 d7 d8)
    (hstep5 : ∀ d1 d2 d3 d4 d6 d7 d8 v1 v2 v3 v4 v5 v6 v7 v8 w, c5 d1 d2 d3 d4 false d6 d7 d8 = true → F d1 d2 d3 d4 false d6 d7 d8 v1 v2 v3 v4 v5 v6 v7 v8 w → ∀ K : Act → World → Prop, (∀ v w', S w' → F d1 d2 d3 d4 true d6 d7 d8 v1 v2 v3 v4 v v6 v7 v8 w' → K ((((((((a0.put (some t1) v1).put (some t2) v2).put (some t3) v3).put (some t4) v4).put (some t5) v).put (some t6) v6).put (some t7) v7).put (some t8) v8) w') → wpOp P ops Q i5 K ((((((((a0.put (some t1) v1).put (some t2) v2).put (some t3) v3).put (some t4) v4).put (some t5) v5).put (some t6) v6).put (some t7) v7).put (some t8) v8) w)
    (hset6 : ∀ d1 d2 d3 d4 d5 d7 d8, (L d1 d2 d3 d4 d5 false d7 d8).setIfInBounds i6 true = L d1 d2 d3 d4 d5 true d7 d8)
    (hstep6 : ∀ d1 d2 d3 d4 d5 d7 d8 v1 v2 v3 v4 v5 v6 v7 v8 w, c6 d1 d2 d3 d4 d5 false d7 d8 = true → F d1 d2 d3 d4 d5 false d7 d8 v1 v2 v3 v4 v5 v6 v7 v8 w → ∀ K : Act → World → Prop, (∀ v w', S w' → F d1 d2 d3 d4 d5 true d7 d8 v1 v2 v3 v4 v5 v v7 v8 w' → K ((((((((a0.put (some t1) v1).put (some t2) v2).put (some t3) v3).put (some t4) v4).put (some t5) v5).put (some t6) v).put (some t7) v7).put (some t8) v8) w') → wpOp P ops Q i6 K ((((((((a0.put (some t1) v1).put (some t2) v2).put (some t3) v3).put (some t4) v4).put (some t5) v5).put (some t6) v6).put (some t7) v7).put (some t8) v8) w)
    (hset7 : ∀ d1 d2 d3 d4 d5 d6 d8, (L d1 d2 d3 d4 d5 d6 false d8).setIfInBounds i7 true = L d1 d2 d3 d4 d5 d6 true d8)
    (hstep7 : ∀ d1 d2 d3 d4 d5 d6 d8 v1 v2 v3 v4 v5 v6 v7 v8 w, c7 d1 d2 d3 d4 d5 d6 false d8 = true → F d1 d2 d3 d4 d5 d6 false d8 v1 v2 v3 v4 v5 v6 v7 v8 w → ∀ K : Act → World → Prop, (∀ v w', S w' → F d1 d2 d3 d4 d5 d6 true d8 v1 v2 v3 v4 v5 v6 v v8 w' → K ((((((((a0.put (some t1) v1).put (some t2) v2).put (some t3) v3).put (some t4) v4).put (some t5) v5).put (some t6) v6).put (some t7) v).put (some t8) v8) w') → wpOp P ops Q i7 K ((((((((a0.put (some t1) v1).put (some t2) v2).put (some t3) v3).put (some t4) v4).put (some t5) v5).put (some t6) v6).put (some t7) v7).put (some t8) v8) w)
    (hset8 : ∀ d1 d2 d3 d4 d5 d6 d7, (L d1 d2 d3 d4 d5 d6 d7 false).setIfInBounds i8 true = L d1 d2 d3 d4 d5 d6 d7 true)
    (hstep8 : ∀ d1 d2 d3 d4 d5 d6 d7 v1 v2 v3 v4 v5 v6 v7 v8 w, c8 d1 d2 d3 d4 d5 d6 d7 false = true → F d1 d2 d3 d4 d5 d6 d7 false v1 v2 v3 v4 v5 v6 v7 v8 w → ∀ K : Act → World → Prop, (∀ v w', S w' → F d1 d2 d3 d4 d5 d6 d7 true v1 v2 v3 v4 v5 v6 v7 v w' → K ((((((((a0.put (some t1) v1).put (some t2) v2).put (some t3) v3).put (some t4) v4).put (some t5) v5).put (some t6) v6).put (some t7) v7).put (some t8) v) w') → wpOp P ops Q i8 K ((((((((a0.put (some t1) v1).put (some t2) v2).put (some t3) v3).put (some t4) v4).put (some t5) v5).put (some t6) v6).put (some t7) v7).put (some t8) v8) w)
    (hend : ∀ v1 v2 v3 v4 v5 v6 v7 v8 w, F true true true true true true true true v1 v2 v3 v4 v5 v6 v7 v8 w → wpAnyH P md ops Q S f (L true true true true true true true true) ((((((((a0.put (some t1) v1).put (some t2) v2).put (some t3) v3).put (some t4) v4).put (some t5) v5).put (some t6) v6).put (some t7) v7).put (some t8) v8) w)
    {N : Nat} (hN : N = f + 8) {l0 : Array Bool} (hl : l0 = L false false false false false false false false) {w : World} {x1 x2 x3 x4 x5 x6 x7 x8 : Value} (hx : ((((((((a0.put (some t1) x1).put (some t2) x2).put (some t3) x3).put (some t4) x4).put (some t5) x5).put (some t6) x6).put (some t7) x7).put (some t8) x8) = a0) (h0 : F false false false false false false false false x1 x2 x3 x4 x5 x6 x7 x8 w) :
    wpAnyH P md ops Q S N l0 a0 w := by
  subst hN hl
  have key : ∀ k d1 d2 d3 d4 d5 d6 d7 d8 v1 v2 v3 v4 v5 v6 v7 v8 w, cnt d1 + cnt d2 + cnt d3 + cnt d4 + cnt d5 + cnt d6 + cnt d7 + cnt d8 = k → ((!d1 || c1 d1 d2 d3 d4 d5 d6 d7 d8) && (!d2 || c2 d1 d2 d3 d4 d5 d6 d7 d8) && (!d3 || c3 d1 d2 d3 d4 d5 d6 d7 d8) && (!d4 || c4 d1 d2 d3 d4 d5 d6 d7 d8) && (!d5 || c5 d1 d2 d3 d4 d5 d6 d7 d8) && (!d6 || c6 d1 d2 d3 d4 d5 d6 d7 d8) && (!d7 || c7 d1 d2 d3 d4 d5 d6 d7 d8) && (!d8 || c8 d1 d2 d3 d4 d5 d6 d7 d8)) = true → F d1 d2 d3 d4 d5 d6 d7 d8 v1 v2 v3 v4 v5 v6 v7 v8 w → wpAnyH P md ops Q S (f + k) (L d1 d2 d3 d4 d5 d6 d7 d8) ((((((((a0.put (some t1) v1).put (some t2) v2).put (some t3) v3).put (some t4) v4).put (some t5) v5).put (some t6) v6).put (some t7) v7).put (some t8) v8) w := by
    intro k
    induction k with
    | zero =>
      intro d1 d2 d3 d4 d5 d6 d7 d8 v1 v2 v3 v4 v5 v6 v7 v8 w hk hok hF
      cases d1
      · simp only [cnt_false] at hk; omega
      cases d2
      · simp only [cnt_false] at hk; omega
      cases d3
      · simp only [cnt_false] at hk; omega
      cases d4
      · simp only [cnt_false] at hk; omega
      cases d5
      · simp only [cnt_false] at hk; omega
      cases d6
      · simp only [cnt_false] at hk; omega
      cases d7
      · simp only [cnt_false] at hk; omega
      cases d8
      · simp only [cnt_false] at hk; omega
      exact hend _ _ _ _ _ _ _ _ w hF
    | succ k ih =>
      intro d1 d2 d3 d4 d5 d6 d7 d8 v1 v2 v3 v4 v5 v6 v7 v8 w hk hok hF
      have hd : (d1 && d2 && d3 && d4 && d5 && d6 && d7 && d8) = false := by
        cases hx : (d1 && d2 && d3 && d4 && d5 && d6 && d7 && d8)
        · rfl
        · simp only [Bool.and_eq_true] at hx
          obtain ⟨⟨⟨⟨⟨⟨⟨rfl, rfl⟩, rfl⟩, rfl⟩, rfl⟩, rfl⟩, rfl⟩, rfl⟩ := hx
          simp only [cnt_true] at hk
          omega
      refine wpAnyH_all (hready d1 d2 d3 d4 d5 d6 d7 d8 hok hd) (upNext_ne (hne d1 d2 d3 d4 d5 d6 d7 d8 hok hd)) ?_
      intro i hi
      have hm := mem_upNext hi
      simp only [List.mem_cons, Prod.mk.injEq, List.not_mem_nil, or_false] at hm
      rcases hm with ⟨rfl, hc⟩ | ⟨rfl, hc⟩ | ⟨rfl, hc⟩ | ⟨rfl, hc⟩ | ⟨rfl, hc⟩ | ⟨rfl, hc⟩ | ⟨rfl, hc⟩ | ⟨rfl, hc⟩
      · have hc' := hc.symm
        rw [Bool.and_eq_true] at hc'
        obtain ⟨h1, h2⟩ := hc'
        have hdj : d1 = false := by simpa using h1
        subst hdj
        refine hstep1 _ _ _ _ _ _ _ _ _ _ _ _ _ _ _ w h2 hF _ (fun v w' hS hF' => ⟨hS, ?_⟩)
        rw [hset1]
        exact ih _ _ _ _ _ _ _ _ _ _ _ _ _ _ _ _ w' (by simp only [cnt_true, cnt_false] at hk ⊢; omega) (hok1 _ _ _ _ _ _ _ hok h2) hF'
      · have hc' := hc.symm
        rw [Bool.and_eq_true] at hc'
        obtain ⟨h1, h2⟩ := hc'
        have hdj : d2 = false := by simpa using h1
        subst hdj
        refine hstep2 _ _ _ _ _ _ _ _ _ _ _ _ _ _ _ w h2 hF _ (fun v w' hS hF' => ⟨hS, ?_⟩)
        rw [hset2]
        exact ih _ _ _ _ _ _ _ _ _ _ _ _ _ _ _ _ w' (by simp only [cnt_true, cnt_false] at hk ⊢; omega) (hok2 _ _ _ _ _ _ _ hok h2) hF'
      · have hc' := hc.symm
        rw [Bool.and_eq_true] at hc'
        obtain ⟨h1, h2⟩ := hc'
        have hdj : d3 = false := by simpa using h1
        subst hdj
        refine hstep3 _ _ _ _ _ _ _ _ _ _ _ _ _ _ _ w h2 hF _ (fun v w' hS hF' => ⟨hS, ?_⟩)
        rw [hset3]
        exact ih _ _ _ _ _ _ _ _ _ _ _ _ _ _ _ _ w' (by simp only [cnt_true, cnt_false] at hk ⊢; omega) (hok3 _ _ _ _ _ _ _ hok h2) hF'
      · have hc' := hc.symm
        rw [Bool.and_eq_true] at hc'
        obtain ⟨h1, h2⟩ := hc'
        have hdj : d4 = false := by simpa using h1
        subst hdj
        refine hstep4 _ _ _ _ _ _ _ _ _ _ _ _ _ _ _ w h2 hF _ (fun v w' hS hF' => ⟨hS, ?_⟩)
        rw [hset4]
        exact ih _ _ _ _ _ _ _ _ _ _ _ _ _ _ _ _ w' (by simp only [cnt_true, cnt_false] at hk ⊢; omega) (hok4 _ _ _ _ _ _ _ hok h2) hF'
      · have hc' := hc.symm
        rw [Bool.and_eq_true] at hc'
        obtain ⟨h1, h2⟩ := hc'
        have hdj : d5 = false := by simpa using h1
        subst hdj
        refine hstep5 _ _ _ _ _ _ _ _ _ _ _ _ _ _ _ w h2 hF _ (fun v w' hS hF' => ⟨hS, ?_⟩)
        rw [hset5]
        exact ih _ _ _ _ _ _ _ _ _ _ _ _ _ _ _ _ w' (by simp only [cnt_true, cnt_false] at hk ⊢; omega) (hok5 _ _ _ _ _ _ _ hok h2) hF'
      · have hc' := hc.symm
        rw [Bool.and_eq_true] at hc'
        obtain ⟨h1, h2⟩ := hc'
        have hdj : d6 = false := by simpa using h1
        subst hdj
        refine hstep6 _ _ _ _ _ _ _ _ _ _ _ _ _ _ _ w h2 hF _ (fun v w' hS hF' => ⟨hS, ?_⟩)
        rw [hset6]
        exact ih _ _ _ _ _ _ _ _ _ _ _ _ _ _ _ _ w' (by simp only [cnt_true, cnt_false] at hk ⊢; omega) (hok6 _ _ _ _ _ _ _ hok h2) hF'
      · have hc' := hc.symm
        rw [Bool.and_eq_true] at hc'
        obtain ⟨h1, h2⟩ := hc'
        have hdj : d7 = false := by simpa using h1
        subst hdj
        refine hstep7 _ _ _ _ _ _ _ _ _ _ _ _ _ _ _ w h2 hF _ (fun v w' hS hF' => ⟨hS, ?_⟩)
        rw [hset7]
        exact ih _ _ _ _ _ _ _ _ _ _ _ _ _ _ _ _ w' (by simp only [cnt_true, cnt_false] at hk ⊢; omega) (hok7 _ _ _ _ _ _ _ hok h2) hF'
      · have hc' := hc.symm
        rw [Bool.and_eq_true] at hc'
        obtain ⟨h1, h2⟩ := hc'
        have hdj : d8 = false := by simpa using h1
        subst hdj
        refine hstep8 _ _ _ _ _ _ _ _ _ _ _ _ _ _ _ w h2 hF _ (fun v w' hS hF' => ⟨hS, ?_⟩)
        rw [hset8]
        exact ih _ _ _ _ _ _ _ _ _ _ _ _ _ _ _ _ w' (by simp only [cnt_true, cnt_false] at hk ⊢; omega) (hok8 _ _ _ _ _ _ _ hok h2) hF'
  have hk := key 8 _ _ _ _ _ _ _ _ _ _ _ _ _ _ _ _ w rfl (by simp) h0
  rw [hx] at hk
  exact hk
theorem merge10 {P : Program} {md : Region.Mode} {ops : Array Oper} {Q : Exit → Act → World → Prop} {S : World → Prop} (f : Nat) (i1 i2 i3 i4 i5 i6 i7 i8 i9 i10 : Nat) (c1 c2 c3 c4 c5 c6 c7 c8 c9 c10 : Bool → Bool → Bool → Bool → Bool → Bool → Bool → Bool → Bool → Bool → Bool)
    (L : Bool → Bool → Bool → Bool → Bool → Bool → Bool → Bool → Bool → Bool → Array Bool) {a0 : Act} (t1 t2 t3 t4 t5 t6 t7 t8 t9 t10 : Nat) (F : Bool → Bool → Bool → Bool → Bool → Bool → Bool → Bool → Bool → Bool → Value → Value → Value → Value → Value → Value → Value → Value → Value → Value → World → Prop)
    (hready : ∀ d1 d2 d3 d4 d5 d6 d7 d8 d9 d10, ((!d1 || c1 d1 d2 d3 d4 d5 d6 d7 d8 d9 d10) && (!d2 || c2 d1 d2 d3 d4 d5 d6 d7 d8 d9 d10) && (!d3 || c3 d1 d2 d3 d4 d5 d6 d7 d8 d9 d10) && (!d4 || c4 d1 d2 d3 d4 d5 d6 d7 d8 d9 d10) && (!d5 || c5 d1 d2 d3 d4 d5 d6 d7 d8 d9 d10) && (!d6 || c6 d1 d2 d3 d4 d5 d6 d7 d8 d9 d10) && (!d7 || c7 d1 d2 d3 d4 d5 d6 d7 d8 d9 d10) && (!d8 || c8 d1 d2 d3 d4 d5 d6 d7 d8 d9 d10) && (!d9 || c9 d1 d2 d3 d4 d5 d6 d7 d8 d9 d10) && (!d10 || c10 d1 d2 d3 d4 d5 d6 d7 d8 d9 d10)) = true → (d1 && d2 && d3 && d4 && d5 && d6 && d7 && d8 && d9 && d10) = false → Region.ready md ops (L d1 d2 d3 d4 d5 d6 d7 d8 d9 d10) = upNext [(i1, !d1 && c1 d1 d2 d3 d4 d5 d6 d7 d8 d9 d10), (i2, !d2 && c2 d1 d2 d3 d4 d5 d6 d7 d8 d9 d10), (i3, !d3 && c3 d1 d2 d3 d4 d5 d6 d7 d8 d9 d10), (i4, !d4 && c4 d1 d2 d3 d4 d5 d6 d7 d8 d9 d10), (i5, !d5 && c5 d1 d2 d3 d4 d5 d6 d7 d8 d9 d10), (i6, !d6 && c6 d1 d2 d3 d4 d5 d6 d7 d8 d9 d10), (i7, !d7 && c7 d1 d2 d3 d4 d5 d6 d7 d8 d9 d10), (i8, !d8 && c8 d1 d2 d3 d4 d5 d6 d7 d8 d9 d10), (i9, !d9 && c9 d1 d2 d3 d4 d5 d6 d7 d8 d9 d10), (i10, !d10 && c10 d1 d2 d3 d4 d5 d6 d7 d8 d9 d10)])
    (hne : ∀ d1 d2 d3 d4 d5 d6 d7 d8 d9 d10, ((!d1 || c1 d1 d2 d3 d4 d5 d6 d7 d8 d9 d10) && (!d2 || c2 d1 d2 d3 d4 d5 d6 d7 d8 d9 d10) && (!d3 || c3 d1 d2 d3 d4 d5 d6 d7 d8 d9 d10) && (!d4 || c4 d1 d2 d3 d4 d5 d6 d7 d8 d9 d10) && (!d5 || c5 d1 d2 d3 d4 d5 d6 d7 d8 d9 d10) && (!d6 || c6 d1 d2 d3 d4 d5 d6 d7 d8 d9 d10) && (!d7 || c7 d1 d2 d3 d4 d5 d6 d7 d8 d9 d10) && (!d8 || c8 d1 d2 d3 d4 d5 d6 d7 d8 d9 d10) && (!d9 || c9 d1 d2 d3 d4 d5 d6 d7 d8 d9 d10) && (!d10 || c10 d1 d2 d3 d4 d5 d6 d7 d8 d9 d10)) = true → (d1 && d2 && d3 && d4 && d5 && d6 && d7 && d8 && d9 && d10) = false → List.any [(i1, !d1 && c1 d1 d2 d3 d4 d5 d6 d7 d8 d9 d10), (i2, !d2 && c2 d1 d2 d3 d4 d5 d6 d7 d8 d9 d10), (i3, !d3 && c3 d1 d2 d3 d4 d5 d6 d7 d8 d9 d10), (i4, !d4 && c4 d1 d2 d3 d4 d5 d6 d7 d8 d9 d10), (i5, !d5 && c5 d1 d2 d3 d4 d5 d6 d7 d8 d9 d10), (i6, !d6 && c6 d1 d2 d3 d4 d5 d6 d7 d8 d9 d10), (i7, !d7 && c7 d1 d2 d3 d4 d5 d6 d7 d8 d9 d10), (i8, !d8 && c8 d1 d2 d3 d4 d5 d6 d7 d8 d9 d10), (i9, !d9 && c9 d1 d2 d3 d4 d5 d6 d7 d8 d9 d10), (i10, !d10 && c10 d1 d2 d3 d4 d5 d6 d7 d8 d9 d10)] (·.2) = true)
    (hok1 : ∀ d2 d3 d4 d5 d6 d7 d8 d9 d10, ((!false || c1 false d2 d3 d4 d5 d6 d7 d8 d9 d10) && (!d2 || c2 false d2 d3 d4 d5 d6 d7 d8 d9 d10) && (!d3 || c3 false d2 d3 d4 d5 d6 d7 d8 d9 d10) && (!d4 || c4 false d2 d3 d4 d5 d6 d7 d8 d9 d10) && (!d5 || c5 false d2 d3 d4 d5 d6 d7 d8 d9 d10) && (!d6 || c6 false d2 d3 d4 d5 d6 d7 d8 d9 d10) && (!d7 || c7 false d2 d3 d4 d5 d6 d7 d8 d9 d10) && (!d8 || c8 false d2 d3 d4 d5 d6 d7 d8 d9 d10) && (!d9 || c9 false d2 d3 d4 d5 d6 d7 d8 d9 d10) && (!d10 || c10 false d2 d3 d4 d5 d6 d7 d8 d9 d10)) = true → c1 false d2 d3 d4 d5 d6 d7 d8 d9 d10 = true → ((!true || c1 true d2 d3 d4 d5 d6 d7 d8 d9 d10) && (!d2 || c2 true d2 d3 d4 d5 d6 d7 d8 d9 d10) && (!d3 || c3 true d2 d3 d4 d5 d6 d7 d8 d9 d10) && (!d4 || c4 true d2 d3 d4 d5 d6 d7 d8 d9 d10) && (!d5 || c5 true d2 d3 d4 d5 d6 d7 d8 d9 d10) && (!d6 || c6 true d2 d3 d4 d5 d6 d7 d8 d9 d10) && (!d7 || c7 true d2 d3 d4 d5 d6 d7 d8 d9 d10) && (!d8 || c8 true d2 d3 d4 d5 d6 d7 d8 d9 d10) && (!d9 || c9 true d2 d3 d4 d5 d6 d7 d8 d9 d10) && (!d10 || c10 true d2 d3 d4 d5 d6 d7 d8 d9 d10)) = true)
    (hok2 : ∀ d1 d3 d4 d5 d6 d7 d8 d9 d10, ((!d1 || c1 d1 false d3 d4 d5 d6 d7 d8 d9 d10) && (!false || c2 d1 false d3 d4 d5 d6 d7 d8 d9 d10) && (!d3 || c3 d1 false d3 d4 d5 d6 d7 d8 d9 d10) && (!d4 || c4 d1 false d3 d4 d5 d6 d7 d8 d9 d10) && (!d5 || c5 d1 false d3 d4 d5 d6 d7 d8 d9 d10) && (!d6 || c6 d1 false d3 d4 d5 d6 d7 d8 d9 d10) && (!d7 || c7 d1 false d3 d4 d5 d6 d7 d8 d9 d10) && (!d8 || c8 d1 false d3 d4 d5 d6 d7 d8 d9 d10) && (!d9 || c9 d1 false d3 d4 d5 d6 d7 d8 d9 d10) && (!d10 || c10 d1 false d3 d4 d5 d6 d7 d8 d9 d10)) = true → c2 d1 false d3 d4 d5 d6 d7 d8 d9 d10 = true → ((!d1 || c1 d1 true d3 d4 d5 d6 d7 d8 d9 d10) && (!true || c2 d1 true d3 d4 d5 d6 d7 d8 d9 d10) && (!d3 || c3 d1 true d3 d4 d5 d6 d7 d8 d9 d10) && (!d4 || c4 d1 true d3 d4 d5 d6 d7 d8 d9 d10) && (!d5 || c5 d1 true d3 d4 d5 d6 d7 d8 d9 d10) && (!d6 || c6 d1 true d3 d4 d5 d6 d7 d8 d9 d10) && (!d7 || c7 d1 true d3 d4 d5 d6 d7 d8 d9 d10) && (!d8 || c8 d1 true d3 d4 d5 d6 d7 d8 d9 d10) && (!d9 || c9 d1 true d3 d4 d5 d6 d7 d8 d9 d10) && (!d10 || c10 d1 true d3 d4 d5 d6 d7 d8 d9 d10)) = true)
    (hok3 : ∀ d1 d2 d4 d5 d6 d7 d8 d9 d10, ((!d1 || c1 d1 d2 false d4 d5 d6 d7 d8 d9 d10) && (!d2 || c2 d1 d2 false d4 d5 d6 d7 d8 d9 d10) && (!false || c3 d1 d2 false d4 d5 d6 d7 d8 d9 d10) && (!d4 || c4 d1 d2 false d4 d5 d6 d7 d8 d9 d10) && (!d5 || c5 d1 d2 false d4 d5 d6 d7 d8 d9 d10) && (!d6 || c6 d1 d2 false d4 d5 d6 d7 d8 d9 d10) && (!d7 || c7 d1 d2 false d4 d5 d6 d7 d8 d9 d10) && (!d8 || c8 d1 d2 false d4 d5 d6 d7 d8 d9 d10) && (!d9 || c9 d1 d2 false d4 d5 d6 d7 d8 d9 d10) && (!d10 || c10 d1 d2 false d4 d5 d6 d7 d8 d9 d10)) = true → c3 d1 d2 false d4 d5 d6 d7 d8 d9 d10 = true → ((!d1 || c1 d1 d2 true d4 d5 d6 d7 d8 d9 d10) && (!d2 || c2 d1 d2 true d4 d5 d6 d7 d8 d9 d10) && (!true || c3 d1 d2 true d4 d5 d6 d7 d8 d9 d10) && (!d4 || c4 d1 d2 true d4 d5 d6 d7 d8 d9 d10) && (!d5 || c5 d1 d2 true d4 d5 d6 d7 d8 d9 d10) && (!d6 || c6 d1 d2 true d4 d5 d6 d7 d8 d9 d10) && (!d7 || c7 d1 d2 true d4 d5 d6 d7 d8 d9 d10) && (!d8 || c8 d1 d2 true d4 d5 d6 d7 d8 d9 d10) && (!d9 || c9 d1 d2 true d4 d5 d6 d7 d8 d9 d10) && (!d10 || c10 d1 d2 true d4 d5 d6 d7 d8 d9 d10)) = true)
    (hok4 : ∀ d1 d2 d3 d5 d6 d7 d8 d9 d10, ((!d1 || c1 d1 d2 d3 false d5 d6 d7 d8 d9 d10) && (!d2 || c2 d1 d2 d3 false d5 d6 d7 d8 d9 d10) && (!d3 || c3 d1 d2 d3 false d5 d6 d7 d8 d9 d10) && (!false || c4 d1 d2 d3 false d5 d6 d7 d8 d9 d10) && (!d5 || c5 d1 d2 d3 false d5 d6 d7 d8 d9 d10) && (!d6 || c6 d1 d2 d3 false d5 d6 d7 d8 d9 d10) && (!d7 || c7 d1 d2 d3 false d5 d6 d7 d8 d9 d10) && (!d8 || c8 d1 d2 d3 false d5 d6 d7 d8 d9 d10) && (!d9 || c9 d1 d2 d3 false d5 d6 d7 d8 d9 d10) && (!d10 || c10 d1 d2 d3 false d5 d6 d7 d8 d9 d10)) = true → c4 d1 d2 d3 false d5 d6 d7 d8 d9 d10 = true → ((!d1 || c1 d1 d2 d3 true d5 d6 d7 d8 d9 d10) && (!d2 || c2 d1 d2 d3 true d5 d6 d7 d8 d9 d10) && (!d3 || c3 d1 d2 d3 true d5 d6 d7 d8 d9 d10) && (!true || c4 d1 d2 d3 true d5 d6 d7 d8 d9 d10) && (!d5 || c5 d1 d2 d3 true d5 d6 d7 d8 d9 d10) && (!d6 || c6 d1 d2 d3 true d5 d6 d7 d8 d9 d10) && (!d7 || c7 d1 d2 d3 true d5 d6 d7 d8 d9 d10) && (!d8 || c8 d1 d2 d3 true d5 d6 d7 d8 d9 d10) && (!d9 || c9 d1 d2 d3 true d5 d6 d7 d8 d9 d10) && (!d10 || c10 d1 d2 d3 true d5 d6 d7 d8 d9 d10)) = true)
    (hok5 : ∀ d1 d2 d3 d4 d6 d7 d8 d9 d10, ((!d1 || c1 d1 d2 d3 d4 false d6 d7 d8 d9 d10) && (!d2 || c2 d1 d2 d3 d4 false d6 d7 d8 d9 d10) && (!d3 || c3 d1 d2 d3 d4 false d6 d7 d8 d9 d10) && (!d4 || c4 d1 d2 d3 d4 false d6 d7 d8 d9 d10) && (!false || c5 d1 d2 d3 d4 false d6 d7 d8 d9 d10) && (!d6 || c6 d1 d2 d3 d4 false d6 d7 d8 d9 d10) && (!d7 || c7 d1 d2 d3 d4 false d6 d7 d8 d9 d10) && (!d8 || c8 d1 d2 d3 d4 false d6 d7 d8 d9 d10) && (!d9 || c9 d1 d2 d3 d4 false d6 d7 d8 d9 d10) && (!d10 || c10 d1 d2 d3 d4 false d6 d7 d8 d9 d10)) = true → c5 d1 d2 d3 d4 false d6 d7 d8 d9 d10 = true → ((!d1 || c1 d1 d2 d3 d4 true d6 d7 d8 d9 d10) && (!d2 || c2 d1 d2 d3 d4 true d6 d7 d8 d9 d10) && (!d3 || c3 d1 d2 d3 d4 true d6 d7 d8 d9 d10) && (!d4 || c4 d1 d2 d3 d4 true d6 d7 d8 d9 d10) && (!true || c5 d1 d2 d3 d4 true d6 d7 d8 d9 d10) && (!d6 || c6 d1 d2 d3 d4 true d6 d7 d8 d9 d10) && (!d7 || c7 d1 d2 d3 d4 true d6 d7 d8 d9 d10) && (!d8 || c8 d1 d2 d3 d4 true d6 d7 d8 d9 d10) && (!d9 || c9 d1 d2 d3 d4 true d6 d7 d8 d9 d10) && (!d10 || c10 d1 d2 d3 d4 true d6 d7 d8 d9 d10)) = true)
    (hok6 : ∀ d1 d2 d3 d4 d5 d7 d8 d9 d10, ((!d1 || c1 d1 d2 d3 d4 d5 false d7 d8 d9 d10) && (!d2 || c2 d1 d2 d3 d4 d5 false d7 d8 d9 d10) && (!d3 || c3 d1 d2 d3 d4 d5 false d7 d8 d9 d10) && (!d4 || c4 d1 d2 d3 d4 d5 false d7 d8 d9 d10) && (!d5 || c5 d1 d2 d3 d4 d5 false d7 d8 d9 d10) && (!false || c6 d1 d2 d3 d4 d5 false d7 d8 d9 d10) && (!d7 || c7 d1 d2 d3 d4 d5 false d7 d8 d9 d10) && (!d8 || c8 d1 d2 d3 d4 d5 false d7 d8 d9 d10) && (!d9 || c9 d1 d2 d3 d4 d5 false d7 d8 d9 d10) && (!d10 || c10 d1 d2 d3 d4 d5 false d7 d8 d9 d10)) = true → c6 d1 d2 d3 d4 d5 false d7 d8 d9 d10 = true → ((!d1 || c1 d1 d2 d3 d4 d5 true d7 d8 d9 d10) && (!d2 || c2 d1 d2 d3 d4 d5 true d7 d8 d9 d10) && (!d3 || c3 d1 d2 d3 d4 d5 true d7 d8 d9 d10) && (!d4 || c4 d1 d2 d3 d4 d5 true d7 d8 d9 d10) && (!d5 || c5 d1 d2 d3 d4 d5 true d7 d8 d9 d10) && (!true || c6 d1 d2 d3 d4 d5 true d7 d8 d9 d10) && (!d7 || c7 d1 d2 d3 d4 d5 true d7 d8 d9 d10) && (!d8 || c8 d1 d2 d3 d4 d5 true d7 d8 d9 d10) && (!d9 || c9 d1 d2 d3 d4 d5 true d7 d8 d9 d10) && (!d10 || c10 d1 d2 d3 d4 d5 true d7 d8 d9 d10)) = true)
    (hok7 : ∀ d1 d2 d3 d4 d5 d6 d8 d9 d10, ((!d1 || c1 d1 d2 d3 d4 d5 d6 false d8 d9 d10) && (!d2 || c2 d1 d2 d3 d4 d5 d6 false d8 d9 d10) && (!d3 || c3 d1 d2 d3 d4 d5 d6 false d8 d9 d10) && (!d4 || c4 d1 d2 d3 d4 d5 d6 false d8 d9 d10) && (!d5 || c5 d1 d2 d3 d4 d5 d6 false d8 d9 d10) && (!d6 || c6 d1 d2 d3 d4 d5 d6 false d8 d9 d10) && (!false || c7 d1 d2 d3 d4 d5 d6 false d8 d9 d10) && (!d8 || c8 d1 d2 d3 d4 d5 d6 false d8 d9 d10) && (!d9 || c9 d1 d2 d3 d4 d5 d6 false d8 d9 d10) && (!d10 || c10 d1 d2 d3 d4 d5 d6 false d8 d9 d10)) = true → c7 d1 d2 d3 d4 d5 d6 false d8 d9 d10 = true → ((!d1 || c1 d1 d2 d3 d4 d5 d6 true d8 d9 d10) && (!d2 || c2 d1 d2 d3 d4 d5 d6 true d8 d9 d10) && (!d3 || c3 d1 d2 d3 d4 d5 d6 true d8 d9 d10) && (!d4 || c4 d1 d2 d3 d4 d5 d6 true d8 d9 d10) && (!d5 || c5 d1 d2 d3 d4 d5 d6 true d8 d9 d10) && (!d6 || c6 d1 d2 d3 d4 d5 d6 true d8 d9 d10) && (!true || c7 d1 d2 d3 d4 d5 d6 true d8 d9 d10) && (!d8 || c8 d1 d2 d3 d4 d5 d6 true d8 d9 d10) && (!d9 || c9 d1 d2 d3 d4 d5 d6 true d8 d9 d10) && (!d10 || c10 d1 d2 d3 d4 d5 d6 true d8 d9 d10)) = true)
    (hok8 : ∀ d1 d2 d3 d4 d5 d6 d7 d9 d10, ((!d1 || c1 d1 d2 d3 d4 d5 d6 d7 false d9 d10) && (!d2 || c2 d1 d2 d3 d4 d5 d6 d7 false d9 d10) && (!d3 || c3 d1 d2 d3 d4 d5 d6 d7 false d9 d10) && (!d4 || c4 d1 d2 d3 d4 d5 d6 d7 false d9 d10) && (!d5 || c5 d1 d2 d3 d4 d5 d6 d7 false d9 d10) && (!d6 || c6 d1 d2 d3 d4 d5 d6 d7 false d9 d10) && (!d7 || c7 d1 d2 d3 d4 d5 d6 d7 false d9 d10) && (!false || c8 d1 d2 d3 d4 d5 d6 d7 false d9 d10) && (!d9 || c9 d1 d2 d3 d4 d5 d6 d7 false d9 d10) && (!d10 || c10 d1 d2 d3 d4 d5 d6 d7 false d9 d10)) = true → c8 d1 d2 d3 d4 d5 d6 d7 false d9 d10 = true → ((!d1 || c1 d1 d2 d3 d4 d5 d6 d7 true d9 d10) && (!d2 || c2 d1 d2 d3 d4 d5 d6 d7 true d9 d10) && (!d3 || c3 d1 d2 d3 d4 d5 d6 d7 true d9 d10) && (!d4 || c4 d1 d2 d3 d4 d5 d6 d7 true d9 d10) && (!d5 || c5 d1 d2 d3 d4 d5 d6 d7 true d9 d10) && (!d6 || c6 d1 d2 d3 d4 d5 d6 d7 true d9 d10) && (!d7 || c7 d1 d2 d3 d4 d5 d6 d7 true d9 d10) && (!true || c8 d1 d2 d3 d4 d5 d6 d7 true d9 d10) && (!d9 || c9 d1 d2 d3 d4 d5 d6 d7 true d9 d10) && (!d10 || c10 d1 d2 d3 d4 d5 d6 d7 true d9 d10)) = true)
    (hok9 : ∀ d1 d2 d3 d4 d5 d6 d7 d8 d10, ((!d1 || c1 d1 d2 d3 d4 d5 d6 d7 d8 false d10) && (!d2 || c2 d1 d2 d3 d4 d5 d6 d7 d8 false d10) && (!d3 || c3 d1 d2 d3 d4 d5 d6 d7 d8 false d10) && (!d4 || c4 d1 d2 d3 d4 d5 d6 d7 d8 false d10) && (!d5 || c5 d1 d2 d3 d4 d5 d6 d7 d8 false d10) && (!d6 || c6 d1 d2 d3 d4 d5 d6 d7 d8 false d10) && (!d7 || c7 d1 d2 d3 d4 d5 d6 d7 d8 false d10) && (!d8 || c8 d1 d2 d3 d4 d5 d6 d7 d8 false d10) && (!false || c9 d1 d2 d3 d4 d5 d6 d7 d8 false d10) && (!d10 || c10 d1 d2 d3 d4 d5 d6 d7 d8 false d10)) = true → c9 d1 d2 d3 d4 d5 d6 d7 d8 false d10 = true → ((!d1 || c1 d1 d2 d3 d4 d5 d6 d7 d8 true d10) && (!d2 || c2 d1 d2 d3 d4 d5 d6 d7 d8 true d10) && (!d3 || c3 d1 d2 d3 d4 d5 d6 d7 d8 true d10) && (!d4 || c4 d1 d2 d3 d4 d5 d6 d7 d8 true d10) && (!d5 || c5 d1 d2 d3 d4 d5 d6 d7 d8 true d10) && (!d6 || c6 d1 d2 d3 d4 d5 d6 d7 d8 true d10) && (!d7 || c7 d1 d2 d3 d4 d5 d6 d7 d8 true d10) && (!d8 || c8 d1 d2 d3 d4 d5 d6 d7 d8 true d10) && (!true || c9 d1 d2 d3 d4 d5 d6 d7 d8 true d10) && (!d10 || c10 d1 d2 d3 d4 d5 d6 d7 d8 true d10)) = true)
    (hok10 : ∀ d1 d2 d3 d4 d5 d6 d7 d8 d9, ((!d1 || c1 d1 d2 d3 d4 d5 d6 d7 d8 d9 false) && (!d2 || c2 d1 d2 d3 d4 d5 d6 d7 d8 d9 false) && (!d3 || c3 d1 d2 d3 d4 d5 d6 d7 d8 d9 false) && (!d4 || c4 d1 d2 d3 d4 d5 d6 d7 d8 d9 false) && (!d5 || c5 d1 d2 d3 d4 d5 d6 d7 d8 d9 false) && (!d6 || c6 d1 d2 d3 d4 d5 d6 d7 d8 d9 false) && (!d7 || c7 d1 d2 d3 d4 d5 d6 d7 d8 d9 false) && (!d8 || c8 d1 d2 d3 d4 d5 d6 d7 d8 d9 false) && (!d9 || c9 d1 d2 d3 d4 d5 d6 d7 d8 d9 false) && (!false || c10 d1 d2 d3 d4 d5 d6 d7 d8 d9 false)) = true → c10 d1 d2 d3 d4 d5 d6 d7 d8 d9 false = true → ((!d1 || c1 d1 d2 d3 d4 d5 d6 d7 d8 d9 true) && (!d2 || c2 d1 d2 d3 d4 d5 d6 d7 d8 d9 true) && (!d3 || c3 d1 d2 d3 d4 d5 d6 d7 d8 d9 true) && (!d4 || c4 d1 d2 d3 d4 d5 d6 d7 d8 d9 true) && (!d5 || c5 d1 d2 d3 d4 d5 d6 d7 d8 d9 true) && (!d6 || c6 d1 d2 d3 d4 d5 d6 d7 d8 d9 true) && (!d7 || c7 d1 d2 d3 d4 d5 d6 d7 d8 d9 true) && (!d8 || c8 d1 d2 d3 d4 d5 d6 d7 d8 d9 true) && (!d9 || c9 d1 d2 d3 d4 d5 d6 d7 d8 d9 true) && (!true || c10 d1 d2 d3 d4 d5 d6 d7 d8 d9 true)) = true)
    (hset1 : ∀ d2 d3 d4 d5 d6 d7 d8 d9 d10, (L false d2 d3 d4 d5 d6 d7 d8 d9 d10).setIfInBounds i1 true = L true d2 d3 d4 d5 d6 d7 d8 d9 d10)
    (hstep1 : ∀ d2 d3 d4 d5 d6 d7 d8 d9 d10 v1 v2 v3 v4 v5 v6 v7 v8 v9 v10 w, c1 false d2 d3 d4 d5 d6 d7 d8 d9 d10 = true → F false d2 d3 d4 d5 d6 d7 d8 d9 d10 v1 v2 v3 v4 v5 v6 v7 v8 v9 v10 w → ∀ K : Act → World → Prop, (∀ v w', S w' → F true d2 d3 d4 d5 d6 d7 d8 d9 d10 v v2 v3 v4 v5 v6 v7 v8 v9 v10 w' → K ((((((((((a0.put (some t1) v).put (some t2) v2).put (some t3) v3).put (some t4) v4).put (some t5) v5).put (some t6) v6).put (some t7) v7).put (some t8) v8).put (some t9) v9).put (some t10) v10) w') → wpOp P ops Q i1 K ((((((((((a0.put (some t1) v1).put (some t2) v2).put (some t3) v3).put (some t4) v4).put (some t5) v5).put (some t6) v6).put (some t7) v7).put (some t8) v8).put (some t9) v9).put (some t10) v10) w)
    (hset2 : ∀ d1 d3 d4 d5 d6 d7 d8 d9 d10, (L d1 false d3 d4 d5 d6 d7 d8 d9 d10).setIfInBounds i2 true = L d1 true d3 d4 d5 d6 d7 d8 d9 d10)
    (hstep2 : ∀ d1 d3 d4 d5 d6 d7 d8 d9 d10 v1 v2 v3 v4 v5 v6 v7 v8 v9 v10 w, c2 d1 false d3 d4 d5 d6 d7 d8 d9 d10 = true → F d1 false d3 d4 d5 d6 d7 d8 d9 d10 v1 v2 v3 v4 v5 v6 v7 v8 v9 v10 w → ∀ K : Act → World → Prop, (∀ v w', S w' → F d1 true d3 d4 d5 d6 d7 d8 d9 d10 v1 v v3 v4 v5 v6 v7 v8 v9 v10 w' → K ((((((((((a0.put (some t1) v1).put (some t2) v).put (some t3) v3).put (some t4) v4).put (some t5) v5).put (some t6) v6).put (some t7) v7).put (some t8) v8).put (some t9) v9).put (some t10) v10) w') → wpOp P ops Q i2 K ((((((((((a0.put (some t1) v1).put (some t2) v2).put (some t3) v3).put (some t4) v4).put (some t5) v5).put (some t6) v6).put (some t7) v7).put (some t8) v8).put (some t9) v9).put (some t10) v10) w)
    (hset3 : ∀ d1 d2 d4 d5 d6 d7 d8 d9 d10, (L d1 d2 false d4 d5 d6 d7 d8 d9 d10).setIfInBounds i3 true = L d1 d2 true d4 d5 d6 d7 d8 d9 d10)
    (hstep3 : ∀ d1 d2 d4 d5 d6 d7 d8 d9 d10 v1 v2 v3 v4 v5 v6 v7 v8 v9 v10 w, c3 d1 d2 false d4 d5 d6 d7 d8 d9 d10 = true → F d1 d2 false d4 d5 d6 d7 d8 d9 d10 v1 v2 v3 v4 v5 v6 v7 v8 v9 v10 w → ∀ K : Act → World → Prop, (∀ v w', S w' → F d1 d2 true d4 d5 d6 d7 d8 d9 d10 v1 v2 v v4 v5 v6 v7 v8 v9 v10 w' → K ((((((((((a0.put (some t1) v1).put (some t2) v2).put (some t3) v).put (some t4) v4).put (some t5) v5).put (some t6) v6).put (some t7) v7).put (some t8) v8).put (some t9) v9).put (some t10) v10) w') → wpOp P ops Q i3 K ((((((((((a0.put (some t1) v1).put (some t2) v2).put (some t3) v3).put (some t4) v4).put (some t5) v5).put (some t6) v6).put (some t7) v7).put (some t8) v8).put (some t9) v9).put (some t10) v10) w)
    (hset4 : ∀ d1 d2 d3 d5 d6 d7 d8 d9 d10, (L d1 d2 d3 false d5 d6 d7 d8 d9 d10).setIfInBounds i4 true = L d1 d2 d3 true d5 d6 d7 d8 d9 d10)
    (hstep4 : ∀ d1 d2 d3 d5 d6 d7 d8 d9 d10 v1 v2 v3 v4 v5 v6 v7 v8 v9 v10 w, c4 d1 d2 d3 false d5 d6 d7 d8 d9 d10 = true → F d1 d2 d3 false d5 d6 d7 d8 d9 d10 v1 v2 v3 v4 v5 v6 v7 v8 v9 v10 w → ∀ K : Act → World → Prop, (∀ v w', S w' → F d1 d2 d3 true d5 d6 d7 d8 d9 d10 v1 v2 v3 v v5 v6 v7 v8 v9 v10 w' → K ((((((((((a0.put (some t1) v1).put (some t2) v2).put (some t3) v3).put (some t4) v).put (some t5) v5).put (some t6) v6).put (some t7) v7).put (some t8) v8).put (some t9) v9).put (some t10) v10) w') → wpOp P ops Q i4 K ((((((((((a0.put (some t1) v1).put (some t2) v2).put (some t3) v3).put (some t4) v4).put (some t5) v5).put (some t6) v6).put (some t7) v7).put (some t8) v8).put (some t9) v9).put (some t10) v10) w)
    (hset5 : ∀ d1 d2 d3 d4 d6 d7 d8 d9 d10, (L d1 d2 d3 d4 false d6 d7 d8 d9 d10).setIfInBounds i5 true = L d1 d2 d3 d4 true d6 d7 d8 d9 d10)
    (hstep5 : ∀ d1 d2 d3 d4 d6 d7 d8 d9 d10 v1 v2 v3 v4 v5 v6 v7 v8 v9 v10 w, c5 d1 d2 d3 d4 false d6 d7 d8 d9 d10 = true → F d1 d2 d3 d4 false d6 d7 d8 d9 d10 v1 v2 v3 v4 v5 v6 v7 v8 v9 v10 w → ∀ K : Act → World → Prop, (∀ v w', S w' → F d1 d2 d3 d4 true d6 d7 d8 d9 d10 v1 v2 v3 v4 v v6 v7 v8 v9 v10 w' → K ((((((((((a0.put (some t1) v1).put (some t2) v2).put (some t3) v3).put (some t4) v4).put (some t5) v).put (some t6) v6).put (some t7) v7).put (some t8) v8).put (some t9) v9).put (some t10) v10) w') → wpOp P ops Q i5 K ((((((((((a0.put (some t1) v1).put (some t2) v2).put (some t3) v3).put (some t4) v4).put (some t5) v5).put (some t6) v6).put (some t7) v7).put (some t8) v8).put (some t9) v9).put (some t10) v10) w)
    (hset6 : ∀ d1 d2 d3 d4 d5 d7 d8 d9 d10, (L d1 d2 d3 d4 d5 false d7 d8 d9 d10).setIfInBounds i6 true = L d1 d2 d3 d4 d5 true d7 d8 d9 d10)
    (hstep6 : ∀ d1 d2 d3 d4 d5 d7 d8 d9 d10 v1 v2 v3 v4 v5 v6 v7 v8 v9 v10 w, c6 d1 d2 d3 d4 d5 false d7 d8 d9 d10 = true → F d1 d2 d3 d4 d5 false d7 d8 d9 d10 v1 v2 v3 v4 v5 v6 v7 v8 v9 v10 w → ∀ K : Act → World → Prop, (∀ v w', S w' → F d1 d2 d3 d4 d5 true d7 d8 d9 d10 v1 v2 v3 v4 v5 v v7 v8 v9 v10 w' → K ((((((((((a0.put (some t1) v1).put (some t2) v2).put (some t3) v3).put (some t4) v4).put (some t5) v5).put (some t6) v).put (some t7) v7).put (some t8) v8).put (some t9) v9).put (some t10) v10) w') → wpOp P ops Q i6 K ((((((((((a0.put (some t1) v1).put (some t2) v2).put (some t3) v3).put (some t4) v4).put (some t5) v5).put (some t6) v6).put (some t7) v7).put (some t8) v8).put (some t9) v9).put (some t10) v10) w)
    (hset7 : ∀ d1 d2 d3 d4 d5 d6 d8 d9 d10, (L d1 d2 d3 d4 d5 d6 false d8 d9 d10).setIfInBounds i7 true = L d1 d2 d3 d4 d5 d6 true d8 d9 d10)
    (hstep7 : ∀ d1 d2 d3 d4 d5 d6 d8 d9 d10 v1 v2 v3 v4 v5 v6 v7 v8 v9 v10 w, c7 d1 d2 d3 d4 d5 d6 false d8 d9 d10 = true → F d1 d2 d3 d4 d5 d6 false d8 d9 d10 v1 v2 v3 v4 v5 v6 v7 v8 v9 v10 w → ∀ K : Act → World → Prop, (∀ v w', S w' → F d1 d2 d3 d4 d5 d6 true d8 d9 d10 v1 v2 v3 v4 v5 v6 v v8 v9 v10 w' → K ((((((((((a0.put (some t1) v1).put (some t2) v2).put (some t3) v3).put (some t4) v4).put (some t5) v5).put (some t6) v6).put (some t7) v).put (some t8) v8).put (some t9) v9).put (some t10) v10) w') → wpOp P ops Q i7 K ((((((((((a0.put (some t1) v1).put (some t2) v2).put (some t3) v3).put (some t4) v4).put (some t5) v5).put (some t6) v6).put (some t7) v7).put (some t8) v8).put (some t9) v9).put (some t10) v10) w)
    (hset8 : ∀ d1 d2 d3 d4 d5 d6 d7 d9 d10, (L d1 d2 d3 d4 d5 d6 d7 false d9 d10).setIfInBounds i8 true = L d1 d2 d3 d4 d5 d6 d7 true d9 d10)
    (hstep8 : ∀ d1 d2 d3 d4 d5 d6 d7 d9 d10 v1 v2 v3 v4 v5 v6 v7 v8 v9 v10 w, c8 d1 d2 d3 d4 d5 d6 d7 false d9 d10 = true → F d1 d2 d3 d4 d5 d6 d7 false d9 d10 v1 v2 v3 v4 v5 v6 v7 v8 v9 v10 w → ∀ K : Act → World → Prop, (∀ v w', S w' → F d1 d2 d3 d4 d5 d6 d7 true d9 d10 v1 v2 v3 v4 v5 v6 v7 v v9 v10 w' → K ((((((((((a0.put (some t1) v1).put (some t2) v2).put (some t3) v3).put (some t4) v4).put (some t5) v5).put (some t6) v6).put (some t7) v7).put (some t8) v).put (some t9) v9).put (some t10) v10) w') → wpOp P ops Q i8 K ((((((((((a0.put (some t1) v1).put (some t2) v2).put (some t3) v3).put (some t4) v4).put (some t5) v5).put (some t6) v6).put (some t7) v7).put (some t8) v8).put (some t9) v9).put (some t10) v10) w)
    (hset9 : ∀ d1 d2 d3 d4 d5 d6 d7 d8 d10, (L d1 d2 d3 d4 d5 d6 d7 d8 false d10).setIfInBounds i9 true = L d1 d2 d3 d4 d5 d6 d7 d8 true d10)
    (hstep9 : ∀ d1 d2 d3 d4 d5 d6 d7 d8 d10 v1 v2 v3 v4 v5 v6 v7 v8 v9 v10 w, c9 d1 d2 d3 d4 d5 d6 d7 d8 false d10 = true → F d1 d2 d3 d4 d5 d6 d7 d8 false d10 v1 v2 v3 v4 v5 v6 v7 v8 v9 v10 w → ∀ K : Act → World → Prop, (∀ v w', S w' → F d1 d2 d3 d4 d5 d6 d7 d8 true d10 v1 v2 v3 v4 v5 v6 v7 v8 v v10 w' → K ((((((((((a0.put (some t1) v1).put (some t2) v2).put (some t3) v3).put (some t4) v4).put (some t5) v5).put (some t6) v6).put (some t7) v7).put (some t8) v8).put (some t9) v).put (some t10) v10) w') → wpOp P ops Q i9 K ((((((((((a0.put (some t1) v1).put (some t2) v2).put (some t3) v3).put (some t4) v4).put (some t5) v5).put (some t6) v6).put (some t7) v7).put (some t8) v8).put (some t9) v9).put (some t10) v10) w)
    (hset10 : ∀ d1 d2 d3 d4 d5 d6 d7 d8 d9, (L d1 d2 d3 d4 d5 d6 d7 d8 d9 false).setIfInBounds i10 true = L d1 d2 d3 d4 d5 d6 d7 d8 d9 true)
    (hstep10 : ∀ d1 d2 d3 d4 d5 d6 d7 d8 d9 v1 v2 v3 v4 v5 v6 v7 v8 v9 v10 w, c10 d1 d2 d3 d4 d5 d6 d7 d8 d9 false = true → F d1 d2 d3 d4 d5 d6 d7 d8 d9 false v1 v2 v3 v4 v5 v6 v7 v8 v9 v10 w → ∀ K : Act → World → Prop, (∀ v w', S w' → F d1 d2 d3 d4 d5 d6 d7 d8 d9 true v1 v2 v3 v4 v5 v6 v7 v8 v9 v w' → K ((((((((((a0.put (some t1) v1).put (some t2) v2).put (some t3) v3).put (some t4) v4).put (some t5) v5).put (some t6) v6).put (some t7) v7).put (some t8) v8).put (some t9) v9).put (some t10) v) w') → wpOp P ops Q i10 K ((((((((((a0.put (some t1) v1).put (some t2) v2).put (some t3) v3).put (some t4) v4).put (some t5) v5).put (some t6) v6).put (some t7) v7).put (some t8) v8).put (some t9) v9).put (some t10) v10) w)
    (hend : ∀ v1 v2 v3 v4 v5 v6 v7 v8 v9 v10 w, F true true true true true true true true true true v1 v2 v3 v4 v5 v6 v7 v8 v9 v10 w → wpAnyH P md ops Q S f (L true true true true true true true true true true) ((((((((((a0.put (some t1) v1).put (some t2) v2).put (some t3) v3).put (some t4) v4).put (some t5) v5).put (some t6) v6).put (some t7) v7).put (some t8) v8).put (some t9) v9).put (some t10) v10) w)
    {N : Nat} (hN : N = f + 10) {l0 : Array Bool} (hl : l0 = L false false false false false false false false false false) {w : World} {x1 x2 x3 x4 x5 x6 x7 x8 x9 x10 : Value} (hx : ((((((((((a0.put (some t1) x1).put (some t2) x2).put (some t3) x3).put (some t4) x4).put (some t5) x5).put (some t6) x6).put (some t7) x7).put (some t8) x8).put (some t9) x9).put (some t10) x10) = a0) (h0 : F false false false false false false false false false false x1 x2 x3 x4 x5 x6 x7 x8 x9 x10 w) :
    wpAnyH P md ops Q S N l0 a0 w := by
  subst hN hl
  have key : ∀ k d1 d2 d3 d4 d5 d6 d7 d8 d9 d10 v1 v2 v3 v4 v5 v6 v7 v8 v9 v10 w, cnt d1 + cnt d2 + cnt d3 + cnt d4 + cnt d5 + cnt d6 + cnt d7 + cnt d8 + cnt d9 + cnt d10 = k → ((!d1 || c1 d1 d2 d3 d4 d5 d6 d7 d8 d9 d10) && (!d2 || c2 d1 d2 d3 d4 d5 d6 d7 d8 d9 d10) && (!d3 || c3 d1 d2 d3 d4 d5 d6 d7 d8 d9 d10) && (!d4 || c4 d1 d2 d3 d4 d5 d6 d7 d8 d9 d10) && (!d5 || c5 d1 d2 d3 d4 d5 d6 d7 d8 d9 d10) && (!d6 || c6 d1 d2 d3 d4 d5 d6 d7 d8 d9 d10) && (!d7 || c7 d1 d2 d3 d4 d5 d6 d7 d8 d9 d10) && (!d8 || c8 d1 d2 d3 d4 d5 d6 d7 d8 d9 d10) && (!d9 || c9 d1 d2 d3 d4 d5 d6 d7 d8 d9 d10) && (!d10 || c10 d1 d2 d3 d4 d5 d6 d7 d8 d9 d10)) = true → F d1 d2 d3 d4 d5 d6 d7 d8 d9 d10 v1 v2 v3 v4 v5 v6 v7 v8 v9 v10 w → wpAnyH P md ops Q S (f + k) (L d1 d2 d3 d4 d5 d6 d7 d8 d9 d10) ((((((((((a0.put (some t1) v1).put (some t2) v2).put (some t3) v3).put (some t4) v4).put (some t5) v5).put (some t6) v6).put (some t7) v7).put (some t8) v8).put (some t9) v9).put (some t10) v10) w := by
    intro k
    induction k with
    | zero =>
      intro d1 d2 d3 d4 d5 d6 d7 d8 d9 d10 v1 v2 v3 v4 v5 v6 v7 v8 v9 v10 w hk hok hF
      cases d1
      · simp only [cnt_false] at hk; omega
      cases d2
      · simp only [cnt_false] at hk; omega
      cases d3
      · simp only [cnt_false] at hk; omega
      cases d4
      · simp only [cnt_false] at hk; omega
      cases d5
      · simp only [cnt_false] at hk; omega
      cases d6
      · simp only [cnt_false] at hk; omega
      cases d7
      · simp only [cnt_false] at hk; omega
      cases d8
      · simp only [cnt_false] at hk; omega
      cases d9
      · simp only [cnt_false] at hk; omega
      cases d10
      · simp only [cnt_false] at hk; omega
      exact hend _ _ _ _ _ _ _ _ _ _ w hF
    | succ k ih =>
      intro d1 d2 d3 d4 d5 d6 d7 d8 d9 d10 v1 v2 v3 v4 v5 v6 v7 v8 v9 v10 w hk hok hF
      have hd : (d1 && d2 && d3 && d4 && d5 && d6 && d7 && d8 && d9 && d10) = false := by
        cases hx : (d1 && d2 && d3 && d4 && d5 && d6 && d7 && d8 && d9 && d10)
        · rfl
        · simp only [Bool.and_eq_true] at hx
          obtain ⟨⟨⟨⟨⟨⟨⟨⟨⟨rfl, rfl⟩, rfl⟩, rfl⟩, rfl⟩, rfl⟩, rfl⟩, rfl⟩, rfl⟩, rfl⟩ := hx
          simp only [cnt_true] at hk
          omega
      refine wpAnyH_all (hready d1 d2 d3 d4 d5 d6 d7 d8 d9 d10 hok hd) (upNext_ne (hne d1 d2 d3 d4 d5 d6 d7 d8 d9 d10 hok hd)) ?_
      intro i hi
      have hm := mem_upNext hi
      simp only [List.mem_cons, Prod.mk.injEq, List.not_mem_nil, or_false] at hm
      rcases hm with ⟨rfl, hc⟩ | ⟨rfl, hc⟩ | ⟨rfl, hc⟩ | ⟨rfl, hc⟩ | ⟨rfl, hc⟩ | ⟨rfl, hc⟩ | ⟨rfl, hc⟩ | ⟨rfl, hc⟩ | ⟨rfl, hc⟩ | ⟨rfl, hc⟩
      · have hc' := hc.symm
        rw [Bool.and_eq_true] at hc'
        obtain ⟨h1, h2⟩ := hc'
        have hdj : d1 = false := by simpa using h1
        subst hdj
        refine hstep1 _ _ _ _ _ _ _ _ _ _ _ _ _ _ _ _ _ _ _ w h2 hF _ (fun v w' hS hF' => ⟨hS, ?_⟩)
        rw [hset1]
        exact ih _ _ _ _ _ _ _ _ _ _ _ _ _ _ _ _ _ _ _ _ w' (by simp only [cnt_true, cnt_false] at hk ⊢; omega) (hok1 _ _ _ _ _ _ _ _ _ hok h2) hF'
      · have hc' := hc.symm
        rw [Bool.and_eq_true] at hc'
        obtain ⟨h1, h2⟩ := hc'
        have hdj : d2 = false := by simpa using h1
        subst hdj
        refine hstep2 _ _ _ _ _ _ _ _ _ _ _ _ _ _ _ _ _ _ _ w h2 hF _ (fun v w' hS hF' => ⟨hS, ?_⟩)
        rw [hset2]
        exact ih _ _ _ _ _ _ _ _ _ _ _ _ _ _ _ _ _ _ _ _ w' (by simp only [cnt_true, cnt_false] at hk ⊢; omega) (hok2 _ _ _ _ _ _ _ _ _ hok h2) hF'
      · have hc' := hc.symm
        rw [Bool.and_eq_true] at hc'
        obtain ⟨h1, h2⟩ := hc'
        have hdj : d3 = false := by simpa using h1
        subst hdj
        refine hstep3 _ _ _ _ _ _ _ _ _ _ _ _ _ _ _ _ _ _ _ w h2 hF _ (fun v w' hS hF' => ⟨hS, ?_⟩)
        rw [hset3]
        exact ih _ _ _ _ _ _ _ _ _ _ _ _ _ _ _ _ _ _ _ _ w' (by simp only [cnt_true, cnt_false] at hk ⊢; omega) (hok3 _ _ _ _ _ _ _ _ _ hok h2) hF'
      · have hc' := hc.symm
        rw [Bool.and_eq_true] at hc'
        obtain ⟨h1, h2⟩ := hc'
        have hdj : d4 = false := by simpa using h1
        subst hdj
        refine hstep4 _ _ _ _ _ _ _ _ _ _ _ _ _ _ _ _ _ _ _ w h2 hF _ (fun v w' hS hF' => ⟨hS, ?_⟩)
        rw [hset4]
        exact ih _ _ _ _ _ _ _ _ _ _ _ _ _ _ _ _ _ _ _ _ w' (by simp only [cnt_true, cnt_false] at hk ⊢; omega) (hok4 _ _ _ _ _ _ _ _ _ hok h2) hF'
      · have hc' := hc.symm
        rw [Bool.and_eq_true] at hc'
        obtain ⟨h1, h2⟩ := hc'
        have hdj : d5 = false := by simpa using h1
        subst hdj
        refine hstep5 _ _ _ _ _ _ _ _ _ _ _ _ _ _ _ _ _ _ _ w h2 hF _ (fun v w' hS hF' => ⟨hS, ?_⟩)
        rw [hset5]
        exact ih _ _ _ _ _ _ _ _ _ _ _ _ _ _ _ _ _ _ _ _ w' (by simp only [cnt_true, cnt_false] at hk ⊢; omega) (hok5 _ _ _ _ _ _ _ _ _ hok h2) hF'
      · have hc' := hc.symm
        rw [Bool.and_eq_true] at hc'
        obtain ⟨h1, h2⟩ := hc'
        have hdj : d6 = false := by simpa using h1
        subst hdj
        refine hstep6 _ _ _ _ _ _ _ _ _ _ _ _ _ _ _ _ _ _ _ w h2 hF _ (fun v w' hS hF' => ⟨hS, ?_⟩)
        rw [hset6]
        exact ih _ _ _ _ _ _ _ _ _ _ _ _ _ _ _ _ _ _ _ _ w' (by simp only [cnt_true, cnt_false] at hk ⊢; omega) (hok6 _ _ _ _ _ _ _ _ _ hok h2) hF'
      · have hc' := hc.symm
        rw [Bool.and_eq_true] at hc'
        obtain ⟨h1, h2⟩ := hc'
        have hdj : d7 = false := by simpa using h1
        subst hdj
        refine hstep7 _ _ _ _ _ _ _ _ _ _ _ _ _ _ _ _ _ _ _ w h2 hF _ (fun v w' hS hF' => ⟨hS, ?_⟩)
        rw [hset7]
        exact ih _ _ _ _ _ _ _ _ _ _ _ _ _ _ _ _ _ _ _ _ w' (by simp only [cnt_true, cnt_false] at hk ⊢; omega) (hok7 _ _ _ _ _ _ _ _ _ hok h2) hF'
      · have hc' := hc.symm
        rw [Bool.and_eq_true] at hc'
        obtain ⟨h1, h2⟩ := hc'
        have hdj : d8 = false := by simpa using h1
        subst hdj
        refine hstep8 _ _ _ _ _ _ _ _ _ _ _ _ _ _ _ _ _ _ _ w h2 hF _ (fun v w' hS hF' => ⟨hS, ?_⟩)
        rw [hset8]
        exact ih _ _ _ _ _ _ _ _ _ _ _ _ _ _ _ _ _ _ _ _ w' (by simp only [cnt_true, cnt_false] at hk ⊢; omega) (hok8 _ _ _ _ _ _ _ _ _ hok h2) hF'
      · have hc' := hc.symm
        rw [Bool.and_eq_true] at hc'
        obtain ⟨h1, h2⟩ := hc'
        have hdj : d9 = false := by simpa using h1
        subst hdj
        refine hstep9 _ _ _ _ _ _ _ _ _ _ _ _ _ _ _ _ _ _ _ w h2 hF _ (fun v w' hS hF' => ⟨hS, ?_⟩)
        rw [hset9]
        exact ih _ _ _ _ _ _ _ _ _ _ _ _ _ _ _ _ _ _ _ _ w' (by simp only [cnt_true, cnt_false] at hk ⊢; omega) (hok9 _ _ _ _ _ _ _ _ _ hok h2) hF'
      · have hc' := hc.symm
        rw [Bool.and_eq_true] at hc'
        obtain ⟨h1, h2⟩ := hc'
        have hdj : d10 = false := by simpa using h1
        subst hdj
        refine hstep10 _ _ _ _ _ _ _ _ _ _ _ _ _ _ _ _ _ _ _ w h2 hF _ (fun v w' hS hF' => ⟨hS, ?_⟩)
        rw [hset10]
        exact ih _ _ _ _ _ _ _ _ _ _ _ _ _ _ _ _ _ _ _ _ w' (by simp only [cnt_true, cnt_false] at hk ⊢; omega) (hok10 _ _ _ _ _ _ _ _ _ hok h2) hF'
  have hk := key 10 _ _ _ _ _ _ _ _ _ _ _ _ _ _ _ _ _ _ _ _ w rfl (by simp) h0
  rw [hx] at hk
  exact hk
end Go.Proofs.Ytbedomopojiehaa
