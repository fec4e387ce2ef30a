/- Walks: the reference's elements above one, top, being below, depth. No condition. -/
import Derived.Test.YtfiiikbbiimdiaaWf
import Derived.Laws.AppendOwnNone
namespace Go.Proofs.Ytfiiikbbiimdiaa
open Go.RowKit

theorem info_int : (Try.prog.info? 3).map (fun i => (i.zero, i.size, i.bytes)) = some (some (.int .i64 0), 1, 8) := by kernel_rfl

def ints (xs : List Int) : List Value := xs.map (Value.int .i64)
theorem ints_get {xs : List Int} {j : Nat} (h : j < xs.length) : (ints xs)[j]? = some (.int .i64 (ix xs j)) := by
  rw [ix_get h]; simp [ints, h]
theorem ints_one (xs : List Int) : ∀ u ∈ ints xs, u.oneCell' = true := by
  intro u hu
  obtain ⟨x, _, rfl⟩ := List.mem_map.1 hu
  rfl
theorem ints_app (xs ys : List Int) : ints xs ++ ints ys = ints (xs ++ ys) := by simp [ints]
theorem isInts_of_own {w : World} {base n : Nat} {v : Value} {xs : List Int} (h : w.ownsRow base 3 1 v n (ints xs)) (hn : n ≤ 9223372036854775807) :
    ∃ A c, v = .slice A n c ∧ n ≤ c ∧ c ≤ maxLen ∧ IsInts w A n xs := by
  have hl : xs.length = n := by have := h.1; simpa [ints] using this
  have h0 := h
  rcases h.2 with ⟨rfl, rfl⟩ | ⟨g, cap, cur, rfl, hb, hg, hnc, hm, hs, ht⟩
  · exact ⟨none, 0, rfl, Nat.le_refl _, by unfold maxLen; omega, hl, hn, fun hh => absurd hh (by omega)⟩
  · refine ⟨_, _, rfl, hnc, hm, hl, hn, fun hh => ⟨g, 0, rfl, ?_, fun j hj => ?_⟩⟩
    · exact (h.lt g rfl).2
    · rw [Nat.zero_add, h0.cellAt j (by omega), ints_get (by omega)]
theorem own_below {w w' : World} {base size n : Nat} {e : TypeId} {v : Value} {xs : List Value} (h : w.ownsRow base e size v n xs) (hb : Below w.heap.size w w') : w'.ownsRow base e size v n xs := by
  refine ⟨h.1, ?_⟩
  rcases h.2 with hn | ⟨g, cap, cur, rfl, hbb, hg, rest⟩
  · exact .inl hn
  · refine .inr ⟨g, cap, cur, rfl, hbb, ?_, rest⟩
    rw [hb.block g (h.lt g rfl).2]; exact hg
theorem below_own {w w1 w2 : World} {base size n : Nat} {e : TypeId} {v : Value} {xs : List Value} (hb : Below w.heap.size w w1) (h : w1.ownsRow base e size v n xs) (hB : w.heap.size ≤ base) (hg : w1.grownBy w2 v.ownBlock) : Below w.heap.size w w2 :=
  hb.grown hg hb.size fun k hk => Nat.le_trans hB (h.lt k hk).1

theorem own_base {w : World} {base base' size n : Nat} {e : TypeId} {v : Value} {xs : List Value} (h : w.ownsRow base' e size v n xs) (hb : base ≤ base') : w.ownsRow base e size v n xs := by
  refine ⟨h.1, ?_⟩
  rcases h.2 with hn | ⟨g, cap, cur, rfl, hbb, rest⟩
  · exact .inl hn
  · exact .inr ⟨g, cap, cur, rfl, Nat.le_trans hb hbb, rest⟩
/-- A cell that lies below a row that is appended to, and the row's new place. -/
theorem cell_grown {w w1 : World} {base size n : Nat} {e : TypeId} {v u : Value} {xs : List Value} {p : Addr} (h : w.ownsRow base e size v n xs) (hg : w.grownBy w1 v.ownBlock) (hp : p.block < base) (hc : w.cell? p = some u) : w1.cell? p = some u :=
  (World.cell?_of_block (hg.block p.block (cell_in hc) (fun e => by have := (h.lt _ e.symm).1; omega))).trans hc

theorem rasked_ok (A : Option Addr) (n c : Nat) (T : List ANode) (i : Int) (w : World) (h : IsTree w A n T) :
    Calls Try.prog 35 #[.agg #[.slice A n c], .int .i64 i] w fun e w' => e = .returned (.int .i64 (askI T [i])) ∧ Below w.heap.size w w' := by
  have hT := hide h
  obtain ⟨hl, hn, -, -⟩ := h
  by_cases hg : goodB T = true
  · have hc0 : chk T = 0 := chk_ok hg
    by_cases hx : 0 ≤ i ∧ i < n
    · have hr : Hid (askI T [i] = 0) := askI_ok hg fun x hx' => by simp at hx'; subst hx'; rw [hl]; exact hx
      obtain ⟨hx1, hx2⟩ := hx
      go_enter Try.func35, Try.ntmps35
      go_wp2_with (go_at_call 50; refine (rcheck_ok _ _ _ T _ (hT.out.below (below_alloc (Below.refl _ _) _))).mono ?_; rintro e w1 ⟨rfl, hb1⟩; have hbox := cell_later hb1 (a := ⟨w.heap.size, 0, none⟩) (v := .slice A n c) (by go_simp))
      go_ret
      exact ⟨ret_int hr.out.symm, Below.on (below_alloc (Below.refl _ _) _) hb1⟩
    · have hr : Hid (askI T [i] = 2) := askI_no hg i (by simp) (by rw [hl]; exact hx)
      have hx' : i < 0 ∨ (0 ≤ i ∧ (n : Int) ≤ i) := by omega
      clear hx
      rcases hx' with h | ⟨h, h'⟩
      all_goals
        go_enter Try.func35, Try.ntmps35
        go_wp2_with (go_at_call 50; refine (rcheck_ok _ _ _ T _ (hT.out.below (below_alloc (Below.refl _ _) _))).mono ?_; rintro e w1 ⟨rfl, hb1⟩; have hbox := cell_later hb1 (a := ⟨w.heap.size, 0, none⟩) (v := .slice A n c) (by go_simp))
        go_ret
        exact ⟨ret_int hr.out.symm, Below.on (below_alloc (Below.refl _ _) _) hb1⟩
  · have hc0 : chk T = 8 := chk_bad hg
    have hr := hide (askI_bad (l := [i]) hg)
    clear hg
    go_enter Try.func35, Try.ntmps35
    go_wp2_with fail
    refine (rcheck_ok _ _ _ T _ (hT.out.below (below_alloc (Below.refl _ _) _))).mono ?_
    rintro e w1 ⟨rfl, hb1⟩
    have hbox := cell_later hb1 (a := ⟨w.heap.size, 0, none⟩) (v := .slice A n c) (by go_simp)
    have hb := Below.on (below_alloc (Below.refl _ _) _) hb1
    go_wp2_with fail
    refine (rcheck_ok _ _ _ T _ (hT.out.below hb)).mono ?_
    rintro e w2 ⟨rfl, hb2⟩
    go_wp2
    go_ret
    exact ⟨ret_int hr.out.symm, Below.on hb hb2⟩

/-- A slice of numbers that the call has made. -/
def MadeInts (w : World) (xs : List Int) (e : Ending) (w' : World) : Prop :=
  ∃ (A : Option Addr) (c : Nat), e = .returned (.slice A xs.length c) ∧ w'.ownsRow w.heap.size 3 1 (.slice A xs.length c) xs.length (ints xs) ∧ Below w.heap.size w w' ∧ (xs = [] → A = none ∧ c = 0) ∧ xs.length ≤ c ∧ c ≤ maxLen ∧ IsInts w' A xs.length xs

set_option maxHeartbeats 1000000 in
theorem rup_ok (A : Option Addr) (n c : Nat) (T : List ANode) (i : Nat) (w : World) (h : IsTree w A n T) (hi : i < n) (hg : goodB T = true) :
    Calls Try.prog 85 #[.agg #[.slice A n c], .int .i64 i] w (MadeInts w (anc T (par T i))) := by
  obtain ⟨i0, hI, hz0, hz1, hz2⟩ := info_parts info_int
  obtain ⟨hl, hn, -, ho⟩ := h
  obtain ⟨b, off, aA, cA, aC, cC, rfl, hbl, -, -, c2, -, -, -⟩ := ho (by omega)
  have c2' := hide c2
  have gk0 := c2 i hi
  have hg' := hide hg
  have hle : (anc T (par T i)).length ≤ n := by have := anc_le hg (good_par hg (by omega : i < T.length)).2; omega
  have hpk := good_par hg (by omega : i < T.length)
  have hpk' := hide hpk
  have hn64 : n ≤ 64 := by have := ((goodB_iff T).1 hg).2.1; omega
  clear c2 ho hg hpk
  go_enter Try.func85, Try.ntmps85
  go_wp2
  go_loopw [5, 6] (fun v q wr => ∃ (pre : List Int) (x : Int), wr.ownsRow (w.heap.size + 1) 3 1 v pre.length (ints pre) ∧ q = .int .i64 x ∧ -1 ≤ x ∧ x < n ∧ pre ++ anc T x = anc T (par T i) ∧ Below w.heap.size w wr ∧ wr.cell? ⟨w.heap.size, 0, none⟩ = some (.slice (some ⟨b, off, none⟩) n c) ∧ (pre = [] → v = .slice none 0 0)) (fun _ q _ => (anc T (intOf q)).length)
  case atStart => exact ⟨[], _, World.ownsRow_nil _ _ _ _, rfl, hpk'.out.1, by have := hpk'.out.2; omega, rfl, below_alloc (Below.refl _ _) _, by go_simp, fun _ => rfl⟩
  case round =>
    obtain ⟨pre, x, hown, rfl, hx1, hx2, hm, hb, hbox, hnil⟩ := hrel
    have hm' := hide hm
    have hml : pre.length ≤ n := by have := congrArg List.length hm; simp at this; omega
    have hnil' := hide hnil
    clear hm hnil
    by_cases hx : 0 ≤ x
    · obtain ⟨q, rfl⟩ := Int.eq_ofNat_of_zero_le hx
      have hq : q < n := by omega
      have gq := (old hb _ _ hbl).trans (c2'.out q hq)
      have ht := hide (anc_cons hg'.out (by omega : q < T.length))
      have hp := hide (good_par hg'.out (by omega : q < T.length))
      have hbw : w.heap.size < wr.heap.size := cell_in hbox
      have hbr : b < wr.heap.size := Nat.lt_of_lt_of_le hbl hb.size
      go_wp2_with (at_builtin; refine wpList_append_own _ rfl _ _ 51 rfl (w.heap.size + 1) 3 i0 (.int .i64 0) 1 8 Try.underlying51 hI hz0 hz1 hz2 rfl (by decide) _ _ _ rfl (hown.alloc _) ⟨wr.heap.size, 0, none⟩ 1 1 (ints [(q : Int)]) rfl rfl ?c1 ?c2 ?c3 ?c4 ?c5 ?_)
      case c1 =>
        intro j u hj
        match j, hj with
        | 0, hj => simp [ints] at hj; subst hj; simp [Addr.add]
      case c2 => exact ints_one _
      case c3 => unfold maxLen; omega
      case c4 => omega
      case c5 => simp; omega
      · intro v' w1 hown' hgrow hnn
        have hb1 := below_own (below_alloc hb _) (hown.alloc _) (by omega) hgrow
        have hbx1 : w1.cell? ⟨w.heap.size, 0, none⟩ = some (.slice (some ⟨b, off, none⟩) n c) := cell_grown (hown.alloc _) hgrow (by simp) (by go_simp)
        have hgq := (old hb1 _ _ hbl).trans (c2'.out q hq)
        clear hgrow hnn hown hnil'
        go_wp2
        go_roundw
        case rel => exact ⟨pre ++ [(q : Int)], _, by simpa [ints_app] using hown', rfl, hp.out.1, by have := hp.out.2; omega, by rw [← hm'.out, ht.out]; simp, hb1, hbx1, fun h => by simp at h⟩
        case measure => simp only [intOf]; rw [ht.out]; simp
    · have ht := hide (anc_neg (T := T) (x := x) (by omega))
      go_wp2
      go_ret
      have hpe : pre = anc T (par T i) := by rw [← hm'.out, ht.out]; simp
      subst hpe
      obtain ⟨A', c', hv, hc1, hc2, hI'⟩ := isInts_of_own hown (by omega)
      subst hv
      exact ⟨A', c', rfl, own_base hown (by omega), hb, fun h => by have := hnil'.out h; simpa [h] using this, hc1, hc2, hI'⟩

theorem ix_last (i : Int) (xs : List Int) : ix (i :: xs) xs.length = (xs.getLast?).getD i := by
  induction xs generalizing i with
  | nil => rfl
  | cons x xs ih => 
    have := ih x
    simp only [ix, List.length_cons, List.getD_cons_succ] at this ⊢
    rw [this, List.getLast?_cons]
    rfl

theorem askI_two_bad (T : List ANode) (i k : Int) (h : askI T [i] ≠ 0) : askI T [i, k] = askI T [i] := by
  by_cases hg : goodB T = true
  · have hi : ¬ (0 ≤ i ∧ i < T.length) := fun hh => h (askI_ok hg (by simpa using hh))
    rw [askI_no hg i (by simp) hi, askI_no hg i (by simp) hi]
  · rw [askI_bad hg, askI_bad hg]
theorem askI_two_ok (T : List ANode) (i k : Int) (h : askI T [i] = 0) : askI T [i, k] = askI T [k] := by
  obtain ⟨hg, hi⟩ := askI_zero.1 h
  by_cases hk : 0 ≤ k ∧ k < T.length
  · rw [askI_ok (l := [i, k]) hg (by simp at hi; simp; exact ⟨hi, hk⟩), askI_ok (l := [k]) hg (by simpa using hk)]
  · rw [askI_no (l := [i, k]) hg k (by simp) hk, askI_no (l := [k]) hg k (by simp) hk]

theorem topF_ix {T : List ANode} (hg : goodB T = true) {i : Nat} (hi : i < T.length) : ix ((i : Int) :: anc T (par T i)) (anc T (par T i)).length = topF T i := by
  rw [ix_last]; unfold topF; rw [anc_cons hg hi, List.getLast?_cons]; rfl

end Go.Proofs.Ytfiiikbbiimdiaa
/- Walks: is a tree greater than the statements consider. No condition. -/
namespace Go.Proofs.Ytfiiikbbiimdiaa
open Go.RowKit

def smallN (T : List ANode) (i : Nat) : Prop :=
  (kids T i).length ≤ 70 ∧ (nd T i).attrs.length ≤ 20 ∧ (nd T i).tag.size ≤ 500 ∧ ∀ j, j < (nd T i).attrs.length → (nm (nd T i).attrs j).size ≤ 500 ∧ (vl (nd T i).attrs j).size ≤ 500
instance (T : List ANode) (i : Nat) : Decidable (smallN T i) := by unfold smallN; infer_instance
def smallTB (T : List ANode) : Bool := decide (T.length ≤ 70) && decide (∀ i, i < T.length → smallN T i)
theorem smallTB_iff (T : List ANode) : smallTB T = true ↔ T.length ≤ 70 ∧ ∀ i, i < T.length → smallN T i := by simp only [smallTB, Bool.and_eq_true, decide_eq_true_eq]
theorem small_no {T : List ANode} {i : Nat} (hi : i < T.length) (h : ¬ smallN T i) : smallTB T = false := by
  rw [Bool.eq_false_iff]; intro hc; exact h (((smallTB_iff T).1 hc).2 i hi)

set_option maxHeartbeats 2000000 in
theorem great_ok (A : Option Addr) (n c : Nat) (T : List ANode) (w : World) (h : IsTree w A n T) :
    Calls Try.prog 16 #[.agg #[.slice A n c]] w fun e w' => e = .returned (.bool (!smallTB T)) ∧ Below w.heap.size w w' := by
  obtain ⟨hl, hn, hs, ho⟩ := h
  have ho' := hide ho
  have hs' := hide hs
  clear ho hs
  go_enter Try.func16, Try.ntmps16
  go_wp2
  go_loopw [3] (fun s wr => ∃ k : Nat, k ≤ n ∧ k ≤ 71 ∧ s = .int .i64 k ∧ Below w.heap.size w wr ∧ wr.cell? ⟨w.heap.size, 0, none⟩ = some (.slice A n c) ∧ ∀ i, i < k → smallN T i) (fun s _ => n - (intOf s).toNat)
  case atStart => exact ⟨0, Nat.zero_le _, by omega, rfl, below_alloc (Below.refl _ _) _, by go_simp, fun j hj => absurd hj (by omega)⟩
  case round =>
    obtain ⟨k, hk, hk71, rfl, hb, hbox, hne⟩ := hrel
    have hne' := hide hne
    clear hne
    have hbw : w.heap.size < wr.heap.size := cell_in hbox
    by_cases hlt : k < n
    · by_cases h70 : k ≤ 70
      · obtain ⟨b, off, aA, cA, aC, cC, rfl, hbl, c0, c1, c2, c3, hA, hC⟩ := ho'.out (by omega)
        have g0 := (old hb _ _ hbl).trans (c0 k hlt)
        have g1 := (old hb _ _ hbl).trans (c1 k hlt)
        have g2 := (old hb _ _ hbl).trans (c2 k hlt)
        have g3 := (old hb _ _ hbl).trans (c3 k hlt)
        have hgA := hide (hA k hlt).1
        have hbr : b < wr.heap.size := Nat.lt_of_lt_of_le hbl hb.size
        generalize aA k = AA at g1 hgA
        have hsz1 : (nd T k).tag.size ≤ 9223372036854775807 := 
          hs'.out (nd T k) (by unfold nd; rw [List.getD_eq_getElem?_getD, List.getElem?_eq_getElem (by omega)]; exact List.getElem_mem _)
        have hkn : (kids T k).length ≤ 9223372036854775807 := (hC k hlt).1.2.1
        have han : (nd T k).attrs.length ≤ 9223372036854775807 := hgA.out.2.1
        have hno : Hid (¬ smallN T k → (!smallTB T) = true) := fun hx => by rw [small_no (by omega) hx]; rfl
        clear c0 c1 c2 c3 hA hC
        by_cases hq : (kids T k).length ≤ 70 ∧ (nd T k).attrs.length ≤ 20 ∧ (nd T k).tag.size ≤ 500
        · obtain ⟨hq1, hq2, hq3⟩ := hq
          have hB : Hid (∀ o, Below w.heap.size w (wr.alloc o)) := fun o => below_alloc hb o
          go_wp2
          go_loop [5] (fun s => ∃ j : Nat, j ≤ (nd T k).attrs.length ∧ s = .int .i64 j ∧ ∀ i, i < j → (nm (nd T k).attrs i).size ≤ 500 ∧ (vl (nd T k).attrs i).size ≤ 500) (fun s => (nd T k).attrs.length - (intOf s).toNat)
          case atStart => exact ⟨0, Nat.zero_le _, rfl, fun j hj => absurd hj (by omega)⟩
          case round =>
            obtain ⟨j, hj, rfl, hje⟩ := hrel
            have hje' := hide hje
            clear hje
            by_cases hltj : j < (nd T k).attrs.length
            · obtain ⟨b', off', rfl, hb', hcn, hcv⟩ := hgA.out.2.2.2 (by omega)
              have gn := (old hb _ _ hb').trans (hcn j hltj)
              have gv := (old hb _ _ hb').trans (hcv j hltj)
              have hbr' : b' < wr.heap.size := Nat.lt_of_lt_of_le hb' hb.size
              have hszz : (nm (nd T k).attrs j).size ≤ 9223372036854775807 ∧ (vl (nd T k).attrs j).size ≤ 9223372036854775807 := hgA.out.2.2.1 ((nd T k).attrs.getD j default) (by rw [List.getD_eq_getElem?_getD, List.getElem?_eq_getElem (by omega)]; exact List.getElem_mem _)
              obtain ⟨hz1, hz2⟩ := hszz
              clear hcn hcv
              by_cases hx : (nm (nd T k).attrs j).size ≤ 500 ∧ (vl (nd T k).attrs j).size ≤ 500
              · obtain ⟨hx1, hx2⟩ := hx
                go_wp2
                go_round
                case rel => exact ⟨j + 1, by omega, by go_num, fun i hi => by
                  by_cases h : i = j
                  · subst h; exact ⟨hx1, hx2⟩
                  · exact hje'.out i (by omega)⟩
                case measure => simp [intOf]; omega
              · have hr := hide (hno.out fun hh => hx (hh.2.2.2 j hltj))
                have hx' : 500 < (nm (nd T k).attrs j).size ∨ ((nm (nd T k).attrs j).size ≤ 500 ∧ 500 < (vl (nd T k).attrs j).size) := by omega
                clear hx hno
                rcases hx' with h | ⟨h, h'⟩
                all_goals
                  go_wp2
                  go_ret
                  exact ⟨ret_bool hr.out.symm, hB.out _⟩
            · clear hno
              go_wp2
              go_roundw
              case rel => exact ⟨k + 1, by omega, by omega, by go_num, hB.out _, by go_simp, fun i hi => by
                by_cases h : i = k
                · subst h; exact ⟨hq1, hq2, hq3, fun j' hj' => hje'.out j' (by omega)⟩
                · exact hne'.out i (by omega)⟩
              case measure => simp [intOf]; omega
        · have hr := hide (hno.out fun hx => hq ⟨hx.1, hx.2.1, hx.2.2.1⟩)
          have hq' : 70 < (kids T k).length ∨ ((kids T k).length ≤ 70 ∧ 20 < (nd T k).attrs.length) ∨ ((kids T k).length ≤ 70 ∧ (nd T k).attrs.length ≤ 20 ∧ 500 < (nd T k).tag.size) := by omega
          clear hq hno
          rcases hq' with h | ⟨h, h'⟩ | ⟨h, h', h''⟩
          all_goals
            go_wp2
            go_ret
            exact ⟨ret_bool hr.out.symm, below_alloc hb _⟩
      · have hr : Hid ((!smallTB T) = true) := by
          show (!smallTB T) = true
          have : smallTB T = false := by rw [Bool.eq_false_iff]; intro hc; have := ((smallTB_iff T).1 hc).1; omega
          rw [this]; rfl
        go_wp2
        go_ret
        exact ⟨ret_bool (by rw [hr.out]; try simp; try omega), hb⟩
    · have hr : Hid ((!smallTB T) = decide (70 < n)) := by
        show (!smallTB T) = decide (70 < n)
        by_cases h : 70 < n
        · have : smallTB T = false := by rw [Bool.eq_false_iff]; intro hc; have := ((smallTB_iff T).1 hc).1; omega
          simp [this, h]
        · have : smallTB T = true := (smallTB_iff T).2 ⟨by omega, fun i hi => hne'.out i (by omega)⟩
          simp [this]; omega
      go_wp2
      go_ret
      exact ⟨ret_bool (by rw [hr.out]; try simp; try omega), hb⟩
end Go.Proofs.Ytfiiikbbiimdiaa
