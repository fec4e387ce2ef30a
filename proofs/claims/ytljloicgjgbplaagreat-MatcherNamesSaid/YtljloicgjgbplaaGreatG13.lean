/- Walks: lists in document order, what is above an element, the comparison of two elements, by the reference. No condition. -/
import Derived.Test.YtljloicgjgbplaaGreatG09
import Derived.Test.YtljloicgjgbplaaGreatG12
import Derived.Deep.RegionHeld3
import Derived.Test.YtljloicgjgbplaaGreatG05
import Derived.Deep.QuietTactic
import Derived.BigQuiet
import Derived.Test.YtljloicgjgbplaaGreatG10
import Derived.Test.YtljloicgjgbplaaGreatG07
namespace Go.Proofs.YtljloicgjgbplaaGreat
open Go.RowKit

def lenV : Value → Nat
  | .slice _ n _ => n
  | _ => 0

theorem OwnI.lenV {w : World} {base : Nat} {v : Value} {xs : List Int} (h : OwnI w base v xs) : lenV v = xs.length := by
  obtain ⟨A, c, rfl, _⟩ := sl_of_own h
  rfl
theorem flat_len {T : List ANode} (hg : goodB T = true) {l : List Int} (h : ∀ x ∈ l, ∃ q : Nat, x = (q : Int) ∧ q < T.length) : l.length ≤ (l.flatMap (preT T)).length := by
  induction l with
  | nil => simp
  | cons a l ih =>
    obtain ⟨q, rfl, hq⟩ := h a (by simp)
    have h1 := ih fun x hx => h x (by simp [hx])
    have h2 : 1 ≤ (preT T q).length := by rw [preT_cons hg hq]; simp
    rw [List.flatMap_cons, List.length_append, List.length_cons]
    omega

set_option maxRecDepth 100000 in
set_option maxHeartbeats 1000000 in
theorem rwalk_ok (A : Option Addr) (n c : Nat) (T : List ANode) (k : Nat) (w : World) (h : IsTree w A n T) (hk : k < n) (hg : goodB T = true) :
    Calls Tryz.prog 165 #[.agg #[.slice A n c], .int .i64 k] w (MadeInts0 w (preT T k)) := by
  have ho := hide h.2.2.2
  have hT := hide h
  have hl := h.1
  clear h
  have hB0 := below_alloc (Below.refl w.heap.size w) (.cells #[.slice A n c] 24)
  have hbox0 : (w.alloc (.cells #[.slice A n c] 24)).cell? ⟨w.heap.size, 0, none⟩ = some (.slice A n c) := by go_simp
  have hpl : (preT T k).length ≤ n := by have := preT_len hg (k := k) (by omega); omega
  have hn64 : n ≤ 64 := by have := ((goodB_iff T).1 hg).2.1; omega
  have hg' := hide hg
  obtain ⟨b, off, aA, cA, aC, cC, rfl, hbl, -, -, -, c3, -, hC⟩ := ho.out (by omega)
  have c3' := hide c3
  have hC' := hide hC
  clear c3 hC ho hg
  go_enter Tryz.func165, Tryz.ntmps165
  go_wp2
  go_loopw [5, 6] (fun v s wr => ∃ pre st : List Int, OwnI wr (w.heap.size + 1) v pre ∧ OwnI wr (w.heap.size + 1) s st ∧ Apart s v ∧ Hid (pre ++ st.reverse.flatMap (preT T) = preT T k) ∧ Hid (∀ x ∈ st, ∃ q : Nat, x = (q : Int) ∧ q < T.length) ∧ Below w.heap.size w wr ∧ w.heap.size + 1 ≤ wr.heap.size ∧ wr.cell? ⟨w.heap.size, 0, none⟩ = some (.slice (some ⟨b, off, none⟩) n c)) (fun v _ _ => n + 1 - lenV v)
  case atStart => exact ⟨[], [(k : Int)], OwnI.nil _ _, OwnI.lit _ _ _ _ (by simp) (by omega), (Apart.nil _).turn, by show _ = _; simp, by show ∀ x ∈ [(k : Int)], _; intro x hx; simp at hx; exact ⟨k, hx, by omega⟩, below_alloc hB0 _, by simp, by go_simp⟩
  case round =>
    clear hB0 hbox0
    obtain ⟨pre, st, hown, hst, hap, hm, hmem, hb, hsz, hbox⟩ := hrel
    have hlv := hide hown.lenV
    have hstl : pre.length + st.length ≤ n := by
      have h1 := flat_len hg'.out (l := st.reverse) (fun x hx => hmem.out x (by simpa using hx))
      have h2 := congrArg List.length hm.out
      simp only [List.length_append, List.length_reverse] at h1 h2
      omega
    by_cases h0 : 0 < st.length
    · obtain ⟨g, cap, rfl, hcl, hcm, hgl, hcell, htake⟩ := hst.open h0
      have hx := ix_mem (l := st) (j := st.length - 1) (by omega)
      obtain ⟨q, hq, hqn⟩ := hmem.out _ hx
      have gq := hcell (st.length - 1) (by omega)
      rw [hq] at gq
      have e1 : ((st.length : Int) - 1) = ((st.length - 1 : Nat) : Int) := by omega
      have hcm' : cap ≤ 9223372036854775807 := by unfold maxLen at hcm; omega
      have hst' := hide (htake (st.length - 1) (by omega))
      have hap2 := hide (show Apart (.slice (some ⟨g, 0, none⟩) (st.length - 1) cap) _ from hap)
      have hpre := hide (preT_cons hg'.out hqn)
      have hqn' : q < n := by omega
      have hkl : (kids T q).length ≤ n := by
        have := ((good_ref T).1 hg'.out).2.2.2.1 q (by omega)
        omega
      have hsplit : Hid (st = st.take (st.length - 1) ++ [(q : Int)]) := by
        show _ = _
        have h9 := take_snoc' st (st.length - 1) (by omega)
        rw [← ix_get, hq, show st.length - 1 + 1 = st.length by omega, List.take_length] at h9
        exact h9
      have hsl : 0 < st.length := h0
      clear hcell htake hst hap hx h0 hq hcm
      go_wp2_with (at_builtin; refine wpList_pushI rfl _ _ rfl hown q _ rfl rfl (by omega) hsz ?_)
      intro A1 c1 w1 hown1 hgr
      have hb1 := hgr.below (by omega) hb
      obtain ⟨hst1, hap1⟩ := hgr.own hst'.out hap2.out
      have hbox1 : w1.cell? ⟨w.heap.size, 0, none⟩ = some (.slice (some ⟨b, off, none⟩) n c) := (World.cell?_of_block (hgr.1 w.heap.size (by omega))).trans hbox
      have hs1 := hgr.lt
      have g3h := hide (c3'.out q hqn')
      have g31 := (old hb1 _ _ hbl).trans (c3'.out q hqn')
      have hI' := hide (hC'.out q hqn').1
      generalize cA q = CA at g31 hI' g3h
      generalize cC q = cc at g31 g3h
      have hsz1 : w.heap.size + 1 ≤ w1.heap.size := by omega
      clear hgr hown hbox hst' hap2 gq hsz hb hs1
      go_wp2
      clear g31
      go_loopw [6, 8] (fun s q8 wr => ∃ (j : Nat) (st2 : List Int), j ≤ (kids T q).length ∧ q8 = .int .i64 ((j : Int) - 1) ∧ OwnI wr (w.heap.size + 1) s st2 ∧ Apart s (.slice A1 (pre.length + 1) c1) ∧ OwnI wr (w.heap.size + 1) (.slice A1 (pre.length + 1) c1) (pre ++ [(q : Int)]) ∧ Hid (st2 = st.take (st.length - 1) ++ ((kids T q).drop j).reverse) ∧ Below w.heap.size w wr ∧ w.heap.size + 1 ≤ wr.heap.size ∧ wr.cell? ⟨w.heap.size, 0, none⟩ = some (.slice (some ⟨b, off, none⟩) n c)) (fun _ q8 _ => (intOf q8 + 1).toNat)
      case atStart => exact ⟨(kids T q).length, _, Nat.le_refl _, rfl, hst1, hap1, hown1, by show _ = _; simp, hb1, hsz1, hbox1⟩
      case round =>
        clear hst1 hap1 hown1 hb1 hsz1 hbox1
        obtain ⟨j, st2, hj, rfl, hst3, hap3, hown3, he3, hb3, hsz3, hbox3⟩ := hrel
        have hst2l : st2.length ≤ n + n := by
          have h9 := congrArg List.length he3.out
          simp at h9; omega
        by_cases hj0 : 0 < j
        · obtain ⟨b3, off3, rfl, hbl3, hc3⟩ := hI'.out.2.2 (by omega)
          have e2 : ((j : Int) - 1) = ((j - 1 : Nat) : Int) := by omega
          have gc := (old hb3 _ _ hbl3).trans (hc3 (j - 1) (by omega))
          have g33 := (old hb3 _ _ hbl).trans g3h.out
          have hj1 : j - 1 < (kids T q).length := by omega
          have hyq : ix (kids T q) (j - 1) = ix (kids T q) (j - 1) := rfl
          clear hc3 hyq
          go_wp2_with (at_builtin; refine wpList_pushI rfl _ _ rfl hst3 (ix (kids T q) (j - 1)) _ rfl rfl (by omega) hsz3 ?_)
          intro A4 c4 w4 hst4 hgr4
          have hb4 := hide (hgr4.below (by omega) hb3)
          have hown4 := hide (hgr4.own hown3 hap3.turn)
          have hbox4 : w4.cell? ⟨w.heap.size, 0, none⟩ = some (.slice (some ⟨b, off, none⟩) n c) := (World.cell?_of_block (hgr4.1 w.heap.size (by omega))).trans hbox3
          have hs4 := hgr4.lt
          have hst4' := hide hst4
          have he4 : Hid (st2 ++ [ix (kids T q) (j - 1)] = st.take (st.length - 1) ++ ((kids T q).drop (j - 1)).reverse) := by
            show _ = _
            have h9 : (kids T q).drop (j - 1) = ix (kids T q) (j - 1) :: (kids T q).drop j := by
              rw [List.drop_eq_getElem_cons (by omega), ix_get (by omega), show j - 1 + 1 = j by omega]
            rw [he3.out, h9]; simp
          clear hgr4 hst3 hap3 hown3 hbox3 hst4 gc g33
          go_wp2
          go_roundw
          case rel => exact ⟨j - 1, _, by omega, by rw [← e2], hst4'.out, hown4.out.2.turn, hown4.out.1, he4, hb4.out, by omega, hbox4⟩
          case measure => simp [intOf]; omega
        · obtain rfl : j = 0 := by omega
          go_wp2
          go_roundw
          case rel =>
            refine ⟨pre ++ [(q : Int)], st2, by simpa using hown3, hst3, hap3, ?_, ?_, hb3, hsz3, hbox3⟩
            · show _ = _
              rw [he3.out, ← hm.out, hsplit.out]
              simp [hpre.out]
            · intro x hx
              rw [he3.out] at hx
              simp at hx
              rcases hx with hx | hx
              · exact hmem.out x (List.mem_of_mem_take hx)
              · obtain ⟨y, h1, h2, _⟩ := good_kid hg'.out (by omega : q < T.length) hx
                exact ⟨y, h1, h2⟩
          case measure => show n + 1 - (pre.length + 1) < n + 1 - lenV _; rw [hlv.out]; omega
    · have hst0 : st = [] := List.eq_nil_of_length_eq_zero (by omega)
      subst hst0
      have hpe : Hid (pre = preT T k) := by show _ = _; have := hm.out; simpa using this
      have h6 : ∃ A6 c6, u6 = Value.slice A6 0 c6 := by obtain ⟨A6, c6, h9, _⟩ := sl_of_own hst; exact ⟨A6, c6, h9⟩
      obtain ⟨A6, c6, rfl⟩ := h6
      go_wp2
      go_ret
      rw [hpe.out] at hown
      obtain ⟨A', c', rfl, hc1, hc2, hI'⟩ := hown.isInts (by omega)
      exact ⟨A', c', rfl, hI', hb⟩

theorem sameInts_yes (A B : Option Addr) (n m c d : Nat) (xs : List Int) (w : World) (h : IsInts w A n xs) (h' : IsInts w B m xs) :
    Calls Tryz.prog 26 #[.slice A n c, .slice B m d] w fun e w' => e = .returned (.bool true) ∧ Below w.heap.size w w' := by
  refine (sameInts_ok A B n m c d xs xs w h h').mono ?_
  rintro e w' ⟨rfl, q, rfl⟩
  exact ⟨by simp, below_drewN (Below.refl _ _) q⟩
theorem isInts_lit (W : World) (g : Nat) (t : TypeId) (xs : List Int) (hn : xs.length ≤ 1000) (hg : g = W.heap.size) : IsInts (W.alloc (.cells (ints xs).toArray t)) (some ⟨g, 0, none⟩) xs.length xs := by
  subst hg
  refine ⟨rfl, by omega, fun _ => ⟨W.heap.size, 0, rfl, by simp, fun j hj => ?_⟩⟩
  rw [Nat.zero_add, World.cell?_alloc_at _ _ _ _ rfl]
  simpa using ints_get hj
end Go.Proofs.YtljloicgjgbplaaGreat
/- Walks: All and Match, by the program. Condition: what is told is not great. -/
namespace Go.Proofs.YtljloicgjgbplaaGreat
open Go.RowKit

def allE (T : List ANode) (cs : List Int) (H : List (List Bool)) : List Bool := if cchk T cs H = 0 then rchL T cs H cs.length else []
/-- A list of truth values and an error that come back. -/
def MadeBoolsE (w : World) (xs : List Bool) (code : Int) (e : Ending) (w' : World) : Prop :=
  ∃ (A : Option Addr) (c : Nat), e = .returned (.tuple #[.slice A xs.length c, .int .i64 code]) ∧ IsBools w' A xs.length xs ∧ xs.length ≤ c ∧ c ≤ maxLen ∧ Below w.heap.size w w'
theorem madeBoolsE_nil {w w' : World} {code : Int} (hb : Below w.heap.size w w') : MadeBoolsE w [] code (.returned (.tuple #[.slice none 0 0, .int .i64 code])) w' :=
  ⟨none, 0, rfl, ⟨rfl, by decide, fun h => absurd h (by decide)⟩, Nat.le_refl _, by unfold maxLen; omega, hb⟩
theorem told_len {n : Nat} {cs : List Int} {H : List (List Bool)} (h : toldB n cs H = true) : H.length = cs.length + 1 ∧ cs.length ≤ 63 := by
  obtain ⟨t1, t2, t3, -⟩ := (toldB_iff _ _ _).1 h
  omega

set_option maxRecDepth 100000 in
set_option maxHeartbeats 1000000 in
theorem call_ok (A B C : Option Addr) (n c m d k e : Nat) (T : List ANode) (cs : List Int) (H : List (List Bool)) (w : World) (h : IsTree w A n T) (hcs : IsU8 w B m cs) (hH : IsBB w C k H) :
    Calls Tryz.prog 54 #[.agg #[.slice A n c], .slice B m d, .slice C k e] w (MadeBoolsE w (allE T cs H) (cchk T cs H)) := by
  have hcs' := hide hcs
  have hH' := hide hH
  have hml := hcs.1
  have hkl := hH.1
  clear hcs hH
  have hT := hide h
  have hl := h.1
  clear h
  have hB0 := below_alloc (Below.refl w.heap.size w) (.cells #[.slice A n c] 24)
  have hbox0 : (w.alloc (.cells #[.slice A n c] 24)).cell? ⟨w.heap.size, 0, none⟩ = some (.slice A n c) := by go_simp
  by_cases h0 : cchk T cs H = 0
  · obtain ⟨hg, ht⟩ := cchk_zero.1 h0
    obtain ⟨ht1, ht2⟩ := told_len ht
    obtain rfl : k = m + 1 := by omega
    have hq : Hid (allE T cs H = rchL T cs H m) := by show _ = _; unfold allE; rw [if_pos h0, hml]
    have h0' := hide h0
    have hg' := hide hg
    have ht' := hide ht
    have hrr := hide (rchR_row T cs H (k := m) (by omega))
    have hrl := hide (rchL_len T cs H m)
    have hall := hide (fun j (hj : j < m + 1) => by rw [rchR_row T cs H (k := j) (by omega), rchL_len] : ∀ j, j < m + 1 → (rowB (rchR T cs H) j).length = T.length)
    have hn64 : T.length ≤ 64 := ((goodB_iff T).1 hg).2.1
    rw [h0, hq.out]
    clear h0 hg ht
    go_enter Tryz.func54, Tryz.ntmps54
    go_wp2_with fail
    have hx := ccheck_ok _ _ _ _ c _ d _ e T cs H _ (hT.out.below hB0) (hcs'.out.below hB0) (hH'.out.below hB0)
    rw [h0'.out] at hx
    refine hx.mono ?_
    clear hx
    rintro e1 w1 ⟨rfl, hb1⟩
    have hbox1 := cell_later hb1 hbox0
    have hB1 := Below.on hB0 hb1
    go_wp2_with fail
    refine (reached_ok _ _ _ _ c _ d e T cs H _ (hT.out.below hB1) (hcs'.out.below hB1) (hH'.out.below hB1) hg'.out ht'.out).mono ?_
    rintro e2 w2 ⟨A2, c2, rfl, hO2, hb2⟩
    obtain ⟨g, cap, hv, o1, o2, o3, o4, hor⟩ := hO2.open (by omega) (fun j hj => by rw [hall.out j hj]; omega)
    injection hv with v1 v2 v3
    subst v1 v3
    obtain ⟨RA, RC, r1, r2, r3, r4⟩ := hor m (by omega)
    rw [hrr.out] at r1 r2 r3
    rw [Nat.zero_add] at r1
    have r2' := hide r2
    have hrl2 : (rchL T cs H m).length ≤ 9223372036854775807 := by rw [hrl.out]; omega
    have hB2 := Below.on hB1 hb2
    have o2' : c2 ≤ 9223372036854775807 := by unfold maxLen at o2; omega
    clear hor r2 hO2 v2
    go_wp2
    go_ret2
    exact ⟨RA, RC, rfl, r2'.out, r3, r4, hB2⟩
  · have hq : Hid (allE T cs H = []) := if_neg h0
    have h0' : (cchk T cs H != 0) = true := by simp [h0]
    rw [hq.out]
    clear h0
    go_enter Tryz.func54, Tryz.ntmps54
    go_wp2_with fail
    refine (ccheck_ok _ _ _ _ _ _ _ _ _ T cs H _ (hT.out.below hB0) (hcs'.out.below hB0) (hH'.out.below hB0)).mono ?_
    rintro e w1 ⟨rfl, hb1⟩
    have hbox1 := cell_later hb1 hbox0
    have hB1 := Below.on hB0 hb1
    go_wp2
    go_ret2
    exact madeBoolsE_nil hB1
end Go.Proofs.YtljloicgjgbplaaGreat
/- Walks: the nearest way to an element, by the program. Condition: what is told is not great. -/
namespace Go.Proofs.YtljloicgjgbplaaGreat
open Go.RowKit

theorem Taken.below {w w' : World} {po pk k : Nat} {B : List Bool} (h : Taken w po pk k B) (hb : Below w.heap.size w w') : Taken w' po pk k B := by
  obtain ⟨hk, g, off, m, c, R, rl, rc, h1, h2, h3, h4, h5⟩ := h
  exact ⟨cell_later hb hk, g, off, m, c, R, rl, rc, cell_later hb h1, h2, h3, cell_later hb h4, h5.below hb⟩
end Go.Proofs.YtljloicgjgbplaaGreat
/- Walks: comparing lists of truth values, by the reference. No condition. -/
namespace Go.Proofs.YtljloicgjgbplaaGreat
open Go.RowKit

theorem bx_get {xs : List Bool} {j : Nat} (h : j < xs.length) : bx xs j = xs[j] := by
  unfold bx
  rw [List.getD_eq_getElem?_getD, List.getElem?_eq_getElem h]
  rfl

set_option maxRecDepth 100000 in
set_option maxHeartbeats 1000000 in
theorem sameBools_ok (A B : Option Addr) (n m c d : Nat) (xs ys : List Bool) (w : World) (h : IsBools w A n xs) (h' : IsBools w B m ys) :
    Calls Tryz.prog 14 #[.slice A n c, .slice B m d] w fun e w' => e = .returned (.bool (decide (xs = ys))) ∧ ∃ q, w' = w.drewN q := by
  obtain ⟨hl, hn, ho⟩ := h
  obtain ⟨hl', hn', ho'⟩ := h'
  go_enter Tryz.func14, Tryz.ntmps14
  by_cases hnm : n = m
  · subst hnm
    go_wp2
    go_loopw [5] (fun i wr => ∃ k : Nat, k ≤ n ∧ i = .int .i64 k ∧ (∃ q, wr = w.drewN q) ∧ ∀ j, j < k → bx xs j = bx ys j) (fun i _ => n - (intOf i).toNat)
    case atStart => exact ⟨0, Nat.zero_le _, rfl, ⟨0, rfl⟩, fun j hj => absurd hj (by omega)⟩
    case round =>
      obtain ⟨k, hk, rfl, ⟨q, rfl⟩, hne⟩ := hrel
      have hne' := hide hne
      clear hne
      by_cases hlt : k < n
      · obtain ⟨b, off, rfl, hbl, hc⟩ := ho (by omega)
        obtain ⟨b', off', rfl, hbl', hc'⟩ := ho' (by omega)
        have hck := hc k hlt
        have hck' := hc' k hlt
        clear hc hc'
        have hfin : Hid (bx xs k ≠ bx ys k → decide (xs = ys) = false) := by
          show _ → _
          intro he; simp; rintro rfl; exact he rfl
        clear ho ho'
        cases hx : bx xs k <;> cases hy : bx ys k
        all_goals
          rw [hx] at hck
          rw [hy] at hck'
          have hx' := hide hx
          have hy' := hide hy
          clear hx hy
        · have heq : Hid (bx xs k = bx ys k) := by show _ = _; rw [hx'.out, hy'.out]
          go_wp2
          go_quiet (fail)
          go_wp2
          go_roundw
          case rel => exact ⟨k + 1, by omega, by go_num, ⟨_, rfl⟩, fun j hj => by
            by_cases h : j = k
            · subst h; exact heq.out
            · exact hne'.out j (by omega)⟩
          case measure => simp [intOf]; omega
        · have hp := hide (hfin.out (by rw [hx'.out, hy'.out]; decide))
          go_wp2
          go_quiet (fail)
          go_wp2
          go_ret
          exact ⟨ret_bool hp.out.symm, _, World.drewN_drewN _ _ _⟩
        · have hp := hide (hfin.out (by rw [hx'.out, hy'.out]; decide))
          go_wp2
          go_quiet (fail)
          go_wp2
          go_ret
          exact ⟨ret_bool hp.out.symm, _, World.drewN_drewN _ _ _⟩
        · have heq : Hid (bx xs k = bx ys k) := by show _ = _; rw [hx'.out, hy'.out]
          go_wp2
          go_quiet (fail)
          go_wp2
          go_roundw
          case rel => exact ⟨k + 1, by omega, by go_num, ⟨_, rfl⟩, fun j hj => by
            by_cases h : j = k
            · subst h; exact heq.out
            · exact hne'.out j (by omega)⟩
          case measure => simp [intOf]; omega
      · have hp : Hid (decide (xs = ys) = true) := by
          show decide (xs = ys) = true
          simp
          refine List.ext_getElem (by omega) fun i h1 h2 => ?_
          have := hne'.out i (by omega)
          rwa [bx_get h1, bx_get h2] at this
        go_wp2
        go_ret
        exact ⟨ret_bool hp.out.symm, _, rfl⟩
  · have hp : Hid (decide (xs = ys) = false) := by
      show decide (xs = ys) = false
      simp; rintro rfl; omega
    go_wp2
    go_ret
    exact ⟨ret_bool hp.out.symm, 0, rfl⟩


theorem sameBools_yes (A B : Option Addr) (n m c d : Nat) (xs : List Bool) (w : World) (h : IsBools w A n xs) (h' : IsBools w B m xs) :
    Calls Tryz.prog 14 #[.slice A n c, .slice B m d] w fun e w' => e = .returned (.bool true) ∧ Below w.heap.size w w' := by
  refine (sameBools_ok A B n m c d xs xs w h h').mono ?_
  rintro e w' ⟨rfl, q, rfl⟩
  exact ⟨by simp, below_drewN (Below.refl _ _) q⟩
end Go.Proofs.YtljloicgjgbplaaGreat
/- Words on memory for what a text writes down: trees, lists of truth values, bytes, lists of lists. No condition. -/
namespace Go.Proofs.YtljloicgjgbplaaGreat
open Go.RowKit

/-- A tree that lies as its cells are written down. -/
theorem isTree_lt {w : World} {g n : Nat} (T : List ANode) (hl : T.length = n) (hn : n ≤ 1000) (hs : ∀ x ∈ T, x.tag.size ≤ 9223372036854775807) (aA cA : Nat → Option Addr) (aC cC : Nat → Nat) (hg : 0 < n → g < w.heap.size)
    (hc : ∀ j, j < n → w.cell? ⟨g, j * 4, none⟩ = some (.string (nd T j).tag) ∧ w.cell? ⟨g, j * 4 + 1, none⟩ = some (.slice (aA j) (nd T j).attrs.length (aC j)) ∧ w.cell? ⟨g, j * 4 + 2, none⟩ = some (.int .i64 (par T j)) ∧ w.cell? ⟨g, j * 4 + 3, none⟩ = some (.slice (cA j) (kids T j).length (cC j)))
    (hA : ∀ j, j < n → IsAttrs w (aA j) (nd T j).attrs.length (nd T j).attrs ∧ (nd T j).attrs.length ≤ aC j ∧ aC j ≤ 9223372036854775807)
    (hC : ∀ j, j < n → IsInts w (cA j) (kids T j).length (kids T j) ∧ (kids T j).length ≤ cC j ∧ cC j ≤ 9223372036854775807) : IsTree w (some ⟨g, 0, none⟩) n T := by
  refine ⟨hl, by omega, hs, fun h0 => ⟨g, 0, aA, cA, aC, cC, rfl, hg h0, ?_, ?_, ?_, ?_, hA, hC⟩⟩
  all_goals (intro j hj; rw [Nat.zero_add])
  · exact (hc j hj).1
  · exact (hc j hj).2.1
  · exact (hc j hj).2.2.1
  · exact (hc j hj).2.2.2
theorem isBools_lt (W : World) (g : Nat) (t : TypeId) (xs : List Bool) (hn : xs.length ≤ 1000) (hg : g = W.heap.size) : IsBools (W.alloc (.cells (bools xs).toArray t)) (some ⟨g, 0, none⟩) xs.length xs := by
  subst hg
  refine ⟨rfl, by omega, fun _ => ⟨W.heap.size, 0, rfl, by simp, fun j hj => ?_⟩⟩
  rw [Nat.zero_add, World.cell?_alloc_at _ _ _ _ rfl]
  simpa using bools_get hj
theorem isU8_nil (w : World) : IsU8 w none 0 [] := ⟨rfl, by omega, fun _ h => by simp at h, fun h => absurd h (by omega)⟩
end Go.Proofs.YtljloicgjgbplaaGreat
/- Walks: chapter 21's example, and what is checked of it. No condition. -/
namespace Go.Proofs.YtljloicgjgbplaaGreat
open Go.RowKit

theorem lt3 {j : Nat} (h : j < 3) : j = 0 ∨ j = 1 ∨ j = 2 := by omega
/-- The contracts at known answers. -/
theorem call_at (T : List ANode) (cs : List Int) (H : List (List Bool)) (xs : List Bool) (c0 : Int) (h0 : cchk T cs H = c0) (hl : allE T cs H = xs) (A B C : Option Addr) (n c m d k e : Nat) (w : World) (h : IsTree w A n T) (hcs : IsU8 w B m cs) (hH : IsBB w C k H) :
    Calls Tryz.prog 54 #[.agg #[.slice A n c], .slice B m d, .slice C k e] w (MadeBoolsE w xs c0) := by
  have := call_ok A B C n c m d k e T cs H w h hcs hH
  rw [hl, h0] at this
  exact this
end Go.Proofs.YtljloicgjgbplaaGreat
