/- Walks: lists in document order, what is above an element, the comparison of two elements, by the reference. No condition. -/
import Derived.Test.YtfiiikbbiimdiaaOc
import Derived.Test.YtfiiikbbiimdiaaOa
namespace Go.Proofs.Ytfiiikbbiimdiaa
open Go.RowKit

def lenV : Value → Nat
  | .slice _ n _ => n
  | _ => 0

theorem OwnI.lenV {w : World} {base : Nat} {v : Value} {xs : List Int} (h : OwnI w base v xs) : lenV v = xs.length := by
  obtain ⟨A, c, rfl, _⟩ := sl_of_own h
  rfl
theorem flat_len {T : List ANode} (hg : goodB T = true) {l : List Int} (h : ∀ x ∈ l, ∃ q : Nat, x = (q : Int) ∧ q < T.length) : l.length ≤ (l.flatMap (preT T)).length := by
  induction l with
  | nil => simp
  | cons a l ih =>
    obtain ⟨q, rfl, hq⟩ := h a (by simp)
    have h1 := ih fun x hx => h x (by simp [hx])
    have h2 : 1 ≤ (preT T q).length := by rw [preT_cons hg hq]; simp
    rw [List.flatMap_cons, List.length_append, List.length_cons]
    omega

set_option maxRecDepth 100000 in
set_option maxHeartbeats 1000000 in
theorem rwalk_ok (A : Option Addr) (n c : Nat) (T : List ANode) (k : Nat) (w : World) (h : IsTree w A n T) (hk : k < n) (hg : goodB T = true) :
    Calls Try.prog 65 #[.agg #[.slice A n c], .int .i64 k] w (MadeInts0 w (preT T k)) := by
  have ho := hide h.2.2.2
  have hT := hide h
  have hl := h.1
  clear h
  have hB0 := below_alloc (Below.refl w.heap.size w) (.cells #[.slice A n c] 24)
  have hbox0 : (w.alloc (.cells #[.slice A n c] 24)).cell? ⟨w.heap.size, 0, none⟩ = some (.slice A n c) := by go_simp
  have hpl : (preT T k).length ≤ n := by have := preT_len hg (k := k) (by omega); omega
  have hn64 : n ≤ 64 := by have := ((goodB_iff T).1 hg).2.1; omega
  have hg' := hide hg
  obtain ⟨b, off, aA, cA, aC, cC, rfl, hbl, -, -, -, c3, -, hC⟩ := ho.out (by omega)
  have c3' := hide c3
  have hC' := hide hC
  clear c3 hC ho hg
  go_enter Try.func65, Try.ntmps65
  go_wp2
  go_loopw [5, 6] (fun v s wr => ∃ pre st : List Int, OwnI wr (w.heap.size + 1) v pre ∧ OwnI wr (w.heap.size + 1) s st ∧ Apart s v ∧ Hid (pre ++ st.reverse.flatMap (preT T) = preT T k) ∧ Hid (∀ x ∈ st, ∃ q : Nat, x = (q : Int) ∧ q < T.length) ∧ Below w.heap.size w wr ∧ w.heap.size + 1 ≤ wr.heap.size ∧ wr.cell? ⟨w.heap.size, 0, none⟩ = some (.slice (some ⟨b, off, none⟩) n c)) (fun v _ _ => n + 1 - lenV v)
  case atStart => exact ⟨[], [(k : Int)], OwnI.nil _ _, OwnI.lit _ _ _ _ (by simp) (by omega), (Apart.nil _).turn, by show _ = _; simp, by show ∀ x ∈ [(k : Int)], _; intro x hx; simp at hx; exact ⟨k, hx, by omega⟩, below_alloc hB0 _, by simp, by go_simp⟩
  case round =>
    clear hB0 hbox0
    obtain ⟨pre, st, hown, hst, hap, hm, hmem, hb, hsz, hbox⟩ := hrel
    have hlv := hide hown.lenV
    have hstl : pre.length + st.length ≤ n := by
      have h1 := flat_len hg'.out (l := st.reverse) (fun x hx => hmem.out x (by simpa using hx))
      have h2 := congrArg List.length hm.out
      simp only [List.length_append, List.length_reverse] at h1 h2
      omega
    by_cases h0 : 0 < st.length
    · obtain ⟨g, cap, rfl, hcl, hcm, hgl, hcell, htake⟩ := hst.open h0
      have hx := ix_mem (l := st) (j := st.length - 1) (by omega)
      obtain ⟨q, hq, hqn⟩ := hmem.out _ hx
      have gq := hcell (st.length - 1) (by omega)
      rw [hq] at gq
      have e1 : ((st.length : Int) - 1) = ((st.length - 1 : Nat) : Int) := by omega
      have hcm' : cap ≤ 9223372036854775807 := by unfold maxLen at hcm; omega
      have hst' := hide (htake (st.length - 1) (by omega))
      have hap2 := hide (show Apart (.slice (some ⟨g, 0, none⟩) (st.length - 1) cap) _ from hap)
      have hpre := hide (preT_cons hg'.out hqn)
      have hqn' : q < n := by omega
      have hkl : (kids T q).length ≤ n := by
        have := ((good_ref T).1 hg'.out).2.2.2.1 q (by omega)
        omega
      have hsplit : Hid (st = st.take (st.length - 1) ++ [(q : Int)]) := by
        show _ = _
        have h9 := take_snoc' st (st.length - 1) (by omega)
        rw [← ix_get, hq, show st.length - 1 + 1 = st.length by omega, List.take_length] at h9
        exact h9
      have hsl : 0 < st.length := h0
      clear hcell htake hst hap hx h0 hq hcm
      go_wp2_with (at_builtin; refine wpList_pushI rfl _ _ rfl hown q _ rfl rfl (by omega) hsz ?_)
      intro A1 c1 w1 hown1 hgr
      have hb1 := hgr.below (by omega) hb
      obtain ⟨hst1, hap1⟩ := hgr.own hst'.out hap2.out
      have hbox1 : w1.cell? ⟨w.heap.size, 0, none⟩ = some (.slice (some ⟨b, off, none⟩) n c) := (World.cell?_of_block (hgr.1 w.heap.size (by omega))).trans hbox
      have hs1 := hgr.lt
      have g3h := hide (c3'.out q hqn')
      have g31 := (old hb1 _ _ hbl).trans (c3'.out q hqn')
      have hI' := hide (hC'.out q hqn').1
      generalize cA q = CA at g31 hI' g3h
      generalize cC q = cc at g31 g3h
      have hsz1 : w.heap.size + 1 ≤ w1.heap.size := by omega
      clear hgr hown hbox hst' hap2 gq hsz hb hs1
      go_wp2
      clear g31
      go_loopw [6, 8] (fun s q8 wr => ∃ (j : Nat) (st2 : List Int), j ≤ (kids T q).length ∧ q8 = .int .i64 ((j : Int) - 1) ∧ OwnI wr (w.heap.size + 1) s st2 ∧ Apart s (.slice A1 (pre.length + 1) c1) ∧ OwnI wr (w.heap.size + 1) (.slice A1 (pre.length + 1) c1) (pre ++ [(q : Int)]) ∧ Hid (st2 = st.take (st.length - 1) ++ ((kids T q).drop j).reverse) ∧ Below w.heap.size w wr ∧ w.heap.size + 1 ≤ wr.heap.size ∧ wr.cell? ⟨w.heap.size, 0, none⟩ = some (.slice (some ⟨b, off, none⟩) n c)) (fun _ q8 _ => (intOf q8 + 1).toNat)
      case atStart => exact ⟨(kids T q).length, _, Nat.le_refl _, rfl, hst1, hap1, hown1, by show _ = _; simp, hb1, hsz1, hbox1⟩
      case round =>
        clear hst1 hap1 hown1 hb1 hsz1 hbox1
        obtain ⟨j, st2, hj, rfl, hst3, hap3, hown3, he3, hb3, hsz3, hbox3⟩ := hrel
        have hst2l : st2.length ≤ n + n := by
          have h9 := congrArg List.length he3.out
          simp at h9; omega
        by_cases hj0 : 0 < j
        · obtain ⟨b3, off3, rfl, hbl3, hc3⟩ := hI'.out.2.2 (by omega)
          have e2 : ((j : Int) - 1) = ((j - 1 : Nat) : Int) := by omega
          have gc := (old hb3 _ _ hbl3).trans (hc3 (j - 1) (by omega))
          have g33 := (old hb3 _ _ hbl).trans g3h.out
          have hj1 : j - 1 < (kids T q).length := by omega
          have hyq : ix (kids T q) (j - 1) = ix (kids T q) (j - 1) := rfl
          clear hc3 hyq
          go_wp2_with (at_builtin; refine wpList_pushI rfl _ _ rfl hst3 (ix (kids T q) (j - 1)) _ rfl rfl (by omega) hsz3 ?_)
          intro A4 c4 w4 hst4 hgr4
          have hb4 := hide (hgr4.below (by omega) hb3)
          have hown4 := hide (hgr4.own hown3 hap3.turn)
          have hbox4 : w4.cell? ⟨w.heap.size, 0, none⟩ = some (.slice (some ⟨b, off, none⟩) n c) := (World.cell?_of_block (hgr4.1 w.heap.size (by omega))).trans hbox3
          have hs4 := hgr4.lt
          have hst4' := hide hst4
          have he4 : Hid (st2 ++ [ix (kids T q) (j - 1)] = st.take (st.length - 1) ++ ((kids T q).drop (j - 1)).reverse) := by
            show _ = _
            have h9 : (kids T q).drop (j - 1) = ix (kids T q) (j - 1) :: (kids T q).drop j := by
              rw [List.drop_eq_getElem_cons (by omega), ix_get (by omega), show j - 1 + 1 = j by omega]
            rw [he3.out, h9]; simp
          clear hgr4 hst3 hap3 hown3 hbox3 hst4 gc g33
          go_wp2
          go_roundw
          case rel => exact ⟨j - 1, _, by omega, by rw [← e2], hst4'.out, hown4.out.2.turn, hown4.out.1, he4, hb4.out, by omega, hbox4⟩
          case measure => simp [intOf]; omega
        · obtain rfl : j = 0 := by omega
          go_wp2
          go_roundw
          case rel =>
            refine ⟨pre ++ [(q : Int)], st2, by simpa using hown3, hst3, hap3, ?_, ?_, hb3, hsz3, hbox3⟩
            · show _ = _
              rw [he3.out, ← hm.out, hsplit.out]
              simp [hpre.out]
            · intro x hx
              rw [he3.out] at hx
              simp at hx
              rcases hx with hx | hx
              · exact hmem.out x (List.mem_of_mem_take hx)
              · obtain ⟨y, h1, h2, _⟩ := good_kid hg'.out (by omega : q < T.length) hx
                exact ⟨y, h1, h2⟩
          case measure => show n + 1 - (pre.length + 1) < n + 1 - lenV _; rw [hlv.out]; omega
    · have hst0 : st = [] := List.eq_nil_of_length_eq_zero (by omega)
      subst hst0
      have hpe : Hid (pre = preT T k) := by show _ = _; have := hm.out; simpa using this
      have h6 : ∃ A6 c6, u6 = Value.slice A6 0 c6 := by obtain ⟨A6, c6, h9, _⟩ := sl_of_own hst; exact ⟨A6, c6, h9⟩
      obtain ⟨A6, c6, rfl⟩ := h6
      go_wp2
      go_ret
      rw [hpe.out] at hown
      obtain ⟨A', c', rfl, hc1, hc2, hI'⟩ := hown.isInts (by omega)
      exact ⟨A', c', rfl, hI', hb⟩

theorem sameInts_yes (A B : Option Addr) (n m c d : Nat) (xs : List Int) (w : World) (h : IsInts w A n xs) (h' : IsInts w B m xs) :
    Calls Try.prog 33 #[.slice A n c, .slice B m d] w fun e w' => e = .returned (.bool true) ∧ Below w.heap.size w w' := by
  refine (sameInts_ok A B n m c d xs xs w h h').mono ?_
  rintro e w' ⟨rfl, q, rfl⟩
  exact ⟨by simp, below_drewN (Below.refl _ _) q⟩
theorem isInts_lit (W : World) (g : Nat) (t : TypeId) (xs : List Int) (hn : xs.length ≤ 1000) (hg : g = W.heap.size) : IsInts (W.alloc (.cells (ints xs).toArray t)) (some ⟨g, 0, none⟩) xs.length xs := by
  subst hg
  refine ⟨rfl, by omega, fun _ => ⟨W.heap.size, 0, rfl, by simp, fun j hj => ?_⟩⟩
  rw [Nat.zero_add, World.cell?_alloc_at _ _ _ _ rfl]
  simpa using ints_get hj
theorem two_nil {w w' : World} {code : Int} (hb : Below w.heap.size w w') : MadeIntsE w [] code (.returned (.tuple #[.slice none 0 0, .int .i64 code])) w' := madeIntsE_nil hb

def MadeIntsR (w : World) (xs : List Int) (code : Int) (e : Ending) (w' : World) : Prop :=
  ∃ (A : Option Addr) (c : Nat), e = .returned (.tuple #[.slice A xs.length c, .int .i64 code]) ∧ IsInts w' A xs.length xs ∧ Below w.heap.size w w'
theorem madeIntsR_nil {w w' : World} {code : Int} (hb : Below w.heap.size w w') : MadeIntsR w [] code (.returned (.tuple #[.slice none 0 0, .int .i64 code])) w' :=
  ⟨none, 0, rfl, ⟨rfl, by simp, fun h => absurd h (by simp)⟩, hb⟩

theorem sgn_self (a : Int) : sgn a a = 0 := by unfold sgn; rw [if_neg (by omega), if_neg (by omega)]

end Go.Proofs.Ytfiiikbbiimdiaa
