/- Walks: lists in document order, what is above an element, the comparison of two elements, by the program. No condition. -/
import Derived.Test.YtfiiikbbiimdiaaPush
import Derived.Test.YtfiiikbbiimdiaaPreb
import Derived.Test.YtfiiikbbiimdiaaOa
import Derived.Test.YtfiiikbbiimdiaaWi
import Derived.Laws.EntriesVeiled
namespace Go.Proofs.Ytfiiikbbiimdiaa
open Go.RowKit

/-- What the closure that goes down a tree keeps: the boxes of its tree, of itself, and of its list. -/
def LInv (W : World) (tb ob wb base : Nat) (A : Option Addr) (n c : Nat) (pre : List Int) (w : World) : Prop :=
  Below W.heap.size W w ∧ W.heap.size ≤ tb ∧ tb < ob ∧ ob < wb ∧ wb < base ∧ base ≤ w.heap.size ∧ w.heap[tb]? = some (.cells #[.slice A n c] 24 (0, 0)) ∧
    w.heap[wb]? = some (.cells #[.func (.func 86) #[] #[.pointer (some ⟨ob, 0, none⟩), .pointer (some ⟨tb, 0, none⟩), .pointer (some ⟨wb, 0, none⟩)]] 112 (0, 0)) ∧
    ∃ v, w.heap[ob]? = some (.cells #[v] 51 (0, 0)) ∧ OwnI w base v pre

set_option maxRecDepth 100000 in
set_option maxHeartbeats 1000000 in
theorem list1_ok (W : World) (tb ob wb base : Nat) (A : Option Addr) (n c : Nat) (T : List ANode) (hT : IsTree W A n T) (hg : goodB T = true) (d : Nat) : ∀ (k : Nat) (pre : List Int) (w : World), k < n → n + 1 ≤ d + (anc T k).length →
    (pre ++ preT T k).length ≤ 1000 → LInv W tb ob wb base A n c pre w →
    Calls Try.prog 86 #[.int .i64 k, .pointer (some ⟨ob, 0, none⟩), .pointer (some ⟨tb, 0, none⟩), .pointer (some ⟨wb, 0, none⟩)] w fun e w' => e = .returned (.tuple #[]) ∧ LInv W tb ob wb base A n c (pre ++ preT T k) w' := by
  induction d with
  | zero => 
    intro k pre w hk hd
    have := anc_le hg (x := (k : Int)) (by have := hT.1; omega)
    have := hT.1
    omega
  | succ d ih =>
    intro k pre w hk hd hlen hI
    obtain ⟨hb, h1, h2, h3, h4, h5, hbt, hbw, v, hbo, hown⟩ := hI
    obtain ⟨hl, hn, -, ho⟩ := hT
    obtain ⟨b, off, aA, cA, aC, cC, rfl, hbl, -, -, -, c3, -, hC⟩ := ho (by omega)
    have hpre := hide (preT_cons hg (by omega : k < T.length))
    have hlen' := hide hlen
    have ih' := hide ih
    have hg' := hide hg
    have hd' := hide hd
    have hpl : pre.length ≤ 1000 := by simp at hlen; omega
    have gt : w.cell? ⟨tb, 0, none⟩ = some (.slice (some ⟨b, off, none⟩) n c) := cell_of_one hbt
    have go' : w.cell? ⟨ob, 0, none⟩ = some v := cell_of_one hbo
    have gf : w.frozen? ⟨ob, 0, none⟩ = false := free_of_one hbo
    have g3 := (old hb _ _ hbl).trans (c3 k hk)
    have hI' := hide (hC k hk).1
    have hkn : (kids T k).length ≤ n := by
      have := ((good_ref T).1 hg).2.2.2.1 k (by omega)
      omega
    have hn64 : n ≤ 64 := by have := ((goodB_iff T).1 hg).2.1; omega
    have hbt' := hide hbt
    have hbw' := hide hbw
    have hbo' := hide hbo
    generalize cA k = CA at g3 hI'
    generalize cC k = cc at g3
    clear hlen ih hg hbt hbw hbo c3 hC ho hd
    go_enter Try.func86, Try.ntmps86
    go_wp2_with (at_builtin; refine wpList_pushI rfl _ _ rfl hown k _ rfl rfl (by omega) h5 ?_)
    intro A1 c1 w1 hown1 hgr
    have hb1 : Below W.heap.size W w1 := hgr.below (by omega) hb
    have ht1 := hide (hgr.keep (by omega) hbt'.out)
    have hw1 := hide (hgr.keep (by omega) hbw'.out)
    have ho1 := hide (hgr.keep (by omega) hbo'.out)
    have hs1 := hgr.lt
    have go1 : w1.cell? ⟨ob, 0, none⟩ = some v := cell_of_one ho1.out
    have gf1 : w1.frozen? ⟨ob, 0, none⟩ = false := free_of_one ho1.out
    have gt1 : w1.cell? ⟨tb, 0, none⟩ = some (.slice (some ⟨b, off, none⟩) n c) := cell_of_one ht1.out
    have g31 := (old hb1 _ _ hbl).trans ((old hb _ _ hbl).symm.trans g3)
    clear hgr go' gf gt g3
    have hne1 : tb ≠ ob := by omega
    have hne2 : b ≠ ob := by omega
    have hJ : LInv W tb ob wb base (some ⟨b, off, none⟩) n c (pre ++ [(k : Int)]) (w1.setCell ⟨ob, 0, none⟩ (.slice A1 (pre.length + 1) c1)) :=
      ⟨hb1.setCell (by show W.heap.size ≤ ob; omega) _, h1, h2, h3, h4, by simp; omega, (Below.heap_setCell _ _ _ _ (by show tb ≠ ob; omega)).trans ht1.out, (Below.heap_setCell _ _ _ _ (by show wb ≠ ob; omega)).trans hw1.out,
        _, one_setCell ho1.out, hown1.set (by show ob < base; omega) _⟩
    have hJ' := hide hJ
    clear hJ
    go_wp2
    go_loopw [18] (fun s wr => ∃ j : Nat, j ≤ (kids T k).length ∧ s = .int .i64 j ∧ LInv W tb ob wb base (some ⟨b, off, none⟩) n c (pre ++ [(k : Int)] ++ ((kids T k).take j).flatMap (preT T)) wr) (fun s _ => (kids T k).length - (intOf s).toNat)
    case atStart => exact ⟨0, Nat.zero_le _, rfl, by simpa using hJ'.out⟩
    case round =>
      obtain ⟨j, hj, rfl, hJ⟩ := hrel
      have hJ2 := hide hJ
      obtain ⟨hbr, -, -, -, -, -, -, hwr, v3, hor, hownr⟩ := hJ
      have gw : wr.cell? ⟨wb, 0, none⟩ = some (.func (.func 86) #[] #[.pointer (some ⟨ob, 0, none⟩), .pointer (some ⟨tb, 0, none⟩), .pointer (some ⟨wb, 0, none⟩)]) := cell_of_one hwr
      clear hwr hor hownr hJ' g31 gt1 gf1 go1 hown1 hown ho1 hw1 ht1
      by_cases hlt : j < (kids T k).length
      · obtain ⟨q, hq, hqn, hqp⟩ := good_kid hg'.out (by omega : k < T.length) (ix_mem hlt)
        obtain ⟨b3, off3, rfl, hbl3, hc3⟩ := hI'.out.2.2 (by omega)
        have gq := (old hbr _ _ hbl3).trans (hc3 j hlt)
        rw [hq] at gq
        have htk : Hid (((kids T k).take (j + 1)).flatMap (preT T) = ((kids T k).take j).flatMap (preT T) ++ preT T q) := by
          show _ = _
          rw [take_snoc' _ _ hlt, List.flatMap_append, ← ix_get hlt, hq]; simp
        have hsub : Hid ((pre ++ [(k : Int)] ++ ((kids T k).take j).flatMap (preT T) ++ preT T q).length ≤ 1000) := by
          show _ ≤ _
          refine Nat.le_trans ?_ hlen'.out
          rw [hpre.out, List.append_assoc, ← htk.out]
          have h9 : (((kids T k).take (j + 1)).flatMap (preT T)).length ≤ ((kids T k).flatMap (preT T)).length := by
            conv => rhs; rw [← List.take_append_drop (j + 1) (kids T k), List.flatMap_append, List.length_append]
            omega
          simp only [List.length_append, List.length_cons, List.length_nil]
          omega
        have hdq : Hid (n + 1 ≤ d + (anc T q).length) := by
          show _ ≤ _
          have h9 := hd'.out
          have h8 := kid_anc hg'.out hqn hqp
          rw [h8, List.length_cons]
          omega
        have hqn' : q < n := by omega
        clear hc3 hq
        go_wp2_with fail
        refine (ih'.out q _ wr hqn' hdq.out hsub.out hJ2.out).mono ?_
        rintro e w4 ⟨rfl, hJ4⟩
        have hJ5 := hide hJ4
        clear hJ4
        go_wp2
        go_roundw
        case rel => exact ⟨j + 1, by omega, by go_num, by have := hJ5.out; rw [htk.out, ← List.append_assoc]; exact this⟩
        case measure => simp [intOf]; omega
      · obtain rfl : j = (kids T k).length := by omega
        go_wp2
        go_end0
        have h9 := hJ2.out
        rw [List.take_length, List.append_assoc] at h9
        exact ⟨rfl, by rw [hpre.out]; exact h9⟩
theorem blk_below {w w1 : World} {o1 : Obj} {g : Nat} {o : Obj} (hb : Below (w.alloc o1).heap.size (w.alloc o1) w1) (h : (w.alloc o1).heap[g]? = some o) : w1.heap[g]? = some o := by
  rw [hb.block g (lt_of_block h)]; exact h
/-- A list and an error that come back. -/
def MadeIntsE (w : World) (xs : List Int) (code : Int) (e : Ending) (w' : World) : Prop :=
  ∃ (A : Option Addr) (c : Nat), e = .returned (.tuple #[.slice A xs.length c, .int .i64 code]) ∧ IsInts w' A xs.length xs ∧ xs.length ≤ c ∧ c ≤ maxLen ∧ Below w.heap.size w w'
theorem madeIntsE_nil {w w' : World} {code : Int} (hb : Below w.heap.size w w') : MadeIntsE w [] code (.returned (.tuple #[.slice none 0 0, .int .i64 code])) w' :=
  ⟨none, 0, rfl, ⟨rfl, by simp, fun h => absurd h (by simp)⟩, Nat.le_refl _, Nat.zero_le _, hb⟩

set_option maxRecDepth 100000 in
theorem list_ok (A : Option Addr) (n c : Nat) (T : List ANode) (i : Int) (w : World) (h : IsTree w A n T) :
    Calls Try.prog 64 #[.agg #[.slice A n c], .int .i64 i] w (MadeIntsE w (listE T i) (askI T [i])) := by
  have hmf : ∀ (fn : Fn) (first cap : Array Value) (w : World), (Instr.makeFunc fn first cap).run Try.prog w = .ok (.func fn first cap) w := fun _ _ _ _ => rfl
  have hT := hide h
  have hl := h.1
  clear h
  have hB0 := below_alloc (Below.refl w.heap.size w) (.cells #[.slice A n c] 24)
  have hbox0 : (w.alloc (.cells #[.slice A n c] 24)).cell? ⟨w.heap.size, 0, none⟩ = some (.slice A n c) := by go_simp
  by_cases h0 : askI T [i] = 0
  · obtain ⟨hg, hir⟩ := askI_zero.1 h0
    have hir := hir i (by simp)
    obtain ⟨k, rfl⟩ := Int.eq_ofNat_of_zero_le hir.1
    have hk : k < n := by omega
    have hr : Hid (listE T k = preT T k) := if_pos h0
    have hg' := hide hg
    have h0' := hide h0
    have hpl : (preT T k).length ≤ n := by have := preT_len hg (k := k) (by omega); omega
    have hn64 : n ≤ 64 := by have := ((goodB_iff T).1 hg).2.1; omega
    clear hir hg
    go_enter Try.func64, Try.ntmps64
    go_wp2_with fail
    refine (ocheck_ok _ _ _ T _ _ (hT.out.below hB0)).mono ?_
    rintro e w1 ⟨rfl, hb1⟩
    have hbox1 := cell_later hb1 hbox0
    have hB1 := Below.on hB0 hb1
    have htb := hide (blk_below hb1 (blk_new w #[.slice A n c] 24))
    have hlt1 : w.heap.size < w1.heap.size := blk_lt htb.out
    go_wp2_with fail
    refine (list1_ok w w.heap.size w1.heap.size (w1.heap.size + 1) (w1.heap.size + 2) A n c T hT.out hg'.out n k [] _ hk ?_ (by simp; omega) ?_).mono ?_
    · have := anc_pos hg'.out (by omega : k < T.length); omega
    · refine ⟨below_alloc (below_alloc hB1 _) _, Nat.le_refl _, hlt1, by omega, by omega, by simp, blk_alloc (blk_alloc htb.out _) _, blk_at _ _ _ _ (by simp), .slice none 0 0, blk_alloc (blk_at _ _ _ _ rfl) _, OwnI.nil _ _⟩
    · rintro e w3 ⟨rfl, hJ⟩
      obtain ⟨hb3, -, -, -, -, -, -, -, v3, ho3, hown3⟩ := hJ
      rw [List.nil_append] at hown3
      obtain ⟨A3, c3, rfl, q1, q2, q3⟩ := hown3.isInts (by omega)
      have go3 : w3.cell? ⟨w1.heap.size, 0, none⟩ = some (.slice A3 (preT T k).length c3) := cell_of_one ho3
      have q3' := hide q3
      clear q3 ho3 hown3
      go_wp2
      go_ret2
      rw [hr.out, h0'.out]
      exact ⟨A3, c3, rfl, q3'.out, q1, q2, hb3⟩
  · have hr : Hid (listE T i = []) := if_neg h0
    have hq : (askI T [i] != 0) = true := by simp [h0]
    clear h0
    go_enter Try.func64, Try.ntmps64
    go_wp2_with fail
    refine (ocheck_ok _ _ _ T _ _ (hT.out.below hB0)).mono ?_
    rintro e w1 ⟨rfl, hb1⟩
    have hbox1 := cell_later hb1 hbox0
    have hB1 := Below.on hB0 hb1
    go_wp2
    go_ret2
    rw [hr.out]
    exact madeIntsE_nil hB1
end Go.Proofs.Ytfiiikbbiimdiaa
/- Walks: what is above an element, the comparison of two elements, by the program. No condition. -/
namespace Go.Proofs.Ytfiiikbbiimdiaa
open Go.RowKit

set_option maxRecDepth 100000 in
set_option maxHeartbeats 1000000 in
theorem above_ok (A : Option Addr) (n c : Nat) (T : List ANode) (i : Int) (w : World) (h : IsTree w A n T) :
    Calls Try.prog 36 #[.agg #[.slice A n c], .int .i64 i] w (MadeIntsE w (aboveE T i) (askI T [i])) := by
  have ho := hide h.2.2.2
  have hT := hide h
  have hl := h.1
  clear h
  have hB0 := below_alloc (Below.refl w.heap.size w) (.cells #[.slice A n c] 24)
  have hbox0 : (w.alloc (.cells #[.slice A n c] 24)).cell? ⟨w.heap.size, 0, none⟩ = some (.slice A n c) := by go_simp
  by_cases h0 : askI T [i] = 0
  · obtain ⟨hg, hir⟩ := askI_zero.1 h0
    have hir := hir i (by simp)
    obtain ⟨k, rfl⟩ := Int.eq_ofNat_of_zero_le hir.1
    have hk : k < n := by omega
    obtain ⟨b, off, aA, cA, aC, cC, rfl, hbl, -, -, c2, -, -, -⟩ := ho.out (by omega)
    have c2' := hide c2
    have hr : Hid (aboveE T k = anc T (par T k)) := if_pos h0
    have hg' := hide hg
    have h0' := hide h0
    have hle : (anc T (par T k)).length ≤ n := by have := anc_le hg (good_par hg (by omega : k < T.length)).2; omega
    have hpk' := hide (good_par hg (by omega : k < T.length))
    have hn64 : n ≤ 64 := by have := ((goodB_iff T).1 hg).2.1; omega
    have hq0 : (askI T [(k : Int)] != 0) = false := by simp [h0]
    clear hir hg c2 ho h0
    go_enter Try.func36, Try.ntmps36
    go_wp2_with fail
    refine (ocheck_ok _ _ _ T _ _ (hT.out.below hB0)).mono ?_
    rintro e w1 ⟨rfl, hb1⟩
    have hbox1 := cell_later hb1 hbox0
    have hB1 := Below.on hB0 hb1
    have hlt1 : w.heap.size < w1.heap.size := cell_in hbox1
    have gk := (old hB1 _ _ hbl).trans (c2'.out k hk)
    go_wp2
    clear gk hbox0 hb1 hB0
    go_loopw [7, 8] (fun v q wr => ∃ (pre : List Int) (x : Int), OwnI wr (w.heap.size + 1) v pre ∧ q = .int .i64 x ∧ -1 ≤ x ∧ x < n ∧ pre ++ anc T x = anc T (par T k) ∧ Below w.heap.size w wr ∧ w.heap.size + 1 ≤ wr.heap.size ∧ wr.cell? ⟨w.heap.size, 0, none⟩ = some (.slice (some ⟨b, off, none⟩) n c)) (fun _ q _ => (anc T (intOf q)).length)
    case atStart => exact ⟨[], _, OwnI.nil _ _, rfl, hpk'.out.1, by have := hpk'.out.2; omega, rfl, hB1, hlt1, hbox1⟩
    case round =>
      clear hB1 hbox1 hlt1
      obtain ⟨pre, x, hown, rfl, hx1, hx2, hm, hb, hsz, hbox⟩ := hrel
      have hm' := hide hm
      have hml : pre.length ≤ n := by have := congrArg List.length hm; simp at this; omega
      clear hm
      by_cases hx : 0 ≤ x
      · obtain ⟨q, rfl⟩ := Int.eq_ofNat_of_zero_le hx
        have hq : q < n := by omega
        have ht := hide (anc_cons hg'.out (by omega : q < T.length))
        have hp := hide (good_par hg'.out (by omega : q < T.length))
        go_wp2_with (at_builtin; refine wpList_pushI rfl _ _ rfl hown q _ rfl rfl (by omega) hsz ?_)
        intro A' c' w1 hown' hgr
        have hb1 := hgr.below (by omega) hb
        have hbx1 : w1.cell? ⟨w.heap.size, 0, none⟩ = some (.slice (some ⟨b, off, none⟩) n c) := (World.cell?_of_block (hgr.1 w.heap.size (by omega))).trans hbox
        have hgq := (old hb1 _ _ hbl).trans (c2'.out q hq)
        have hs1 := hgr.lt
        clear hgr hown hbox
        go_wp2
        go_roundw
        case rel => exact ⟨pre ++ [(q : Int)], _, hown', rfl, hp.out.1, by have := hp.out.2; omega, by rw [← hm'.out, ht.out]; simp, hb1, by omega, hbx1⟩
        case measure => simp only [intOf]; rw [ht.out]; simp
      · have ht := hide (anc_neg (T := T) (x := x) (by omega))
        go_wp2
        go_ret2
        have hpe : pre = anc T (par T k) := by rw [← hm'.out, ht.out]; simp
        subst hpe
        obtain ⟨A', c', rfl, hc1, hc2, hI'⟩ := hown.isInts (by omega)
        rw [hr.out, h0'.out]
        exact ⟨A', c', rfl, hI', hc1, hc2, hb⟩
  · have hr : Hid (aboveE T i = []) := if_neg h0
    have hq : (askI T [i] != 0) = true := by simp [h0]
    clear h0 ho
    go_enter Try.func36, Try.ntmps36
    go_wp2_with fail
    refine (ocheck_ok _ _ _ T _ _ (hT.out.below hB0)).mono ?_
    rintro e w1 ⟨rfl, hb1⟩
    have hbox1 := cell_later hb1 hbox0
    have hB1 := Below.on hB0 hb1
    go_wp2
    go_ret2
    rw [hr.out]
    exact madeIntsE_nil hB1

theorem cmp_parts {T : List ANode} {i k : Int} (hi : askI T [i] = 0) (hk : askI T [k] = 0) : cmpE T i k = (if topF T i = topF T k then 0 else 6) := by
  unfold cmpE; rw [if_pos hi, if_pos hk]
theorem topE_ok {T : List ANode} {i : Int} (hi : askI T [i] = 0) : topE T i = topF T i := if_pos hi
theorem listE_ok {T : List ANode} {i : Int} (hi : askI T [i] = 0) : listE T i = preT T i := if_pos hi

theorem listF_ok (A : Option Addr) (n c : Nat) (T : List ANode) (i : Int) (w : World) (h : IsTree w A n T) (h0 : askI T [i] = 0) :
    Calls Try.prog 64 #[.agg #[.slice A n c], .int .i64 i] w (MadeIntsE w (preT T i) 0) := by
  have := list_ok A n c T i w h
  rw [listE_ok h0, h0] at this
  exact this

end Go.Proofs.Ytfiiikbbiimdiaa
