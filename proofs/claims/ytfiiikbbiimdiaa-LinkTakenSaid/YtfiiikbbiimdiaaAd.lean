/- Walks: links and the nearest one, by the program and by the reference. No condition but those of the inner functions. -/
import Derived.Test.YtfiiikbbiimdiaaAc
import Derived.Deep.RegionHeld3
namespace Go.Proofs.Ytfiiikbbiimdiaa
open Go.RowKit

section
variable {W : World} {ops : Array Oper} {rest : List Oper} {o : Oper} {a : Act} {Q : Exit → Act → World → Prop}
/-- A list that lies somewhere, behind one that the call has made. -/
theorem wpList_appI (hgd : o.guard = none) (s x : Operand) (ho : o.op = .call { callee := .builtin .append, args := #[s, x], argTypes := #[51, 51] })
    {base : Nat} {v : Value} {pre : List Int} (hown : OwnI W base v pre) {A : Option Addr} {n c : Nat} {ys : List Int} (hI : IsInts W A n ys) (hs : a.eval s = v) (hx : a.eval x = .slice A n c)
    (hn : pre.length + n ≤ 1000000) (hbase : base ≤ W.heap.size)
    (h : ∀ A' c' w', OwnI w' base (.slice A' (pre.length + n) c') (pre ++ ys) → (∀ B U, B ≤ base → Below B U W → Below B U w') → wpList Try.prog ops Q rest (a.put o.dst (.slice A' (pre.length + n) c')) w') : wpList Try.prog ops Q (o :: rest) a W := by
  obtain ⟨i0, hi, hz0, hz1, hz2⟩ := info_parts info_int
  have hl := hI.1
  refine wpList_append_from hgd s x 51 ho base 3 i0 (.int .i64 0) 1 8 Try.underlying51 hi hz0 hz1 hz2 rfl (by decide) v pre.length (ints pre) hs hown A n c (ints ys) hx (by simp [ints, hl]) (ints_none hI) (ints_at hI) (ints_one _) (by unfold maxLen; omega) (by omega) hbase ?_
  intro v' w' hown' hg
  have hlt := fun k hk => (World.ownsRow.lt hown k hk).1
  obtain ⟨A', c', rfl, _, _⟩ := sl_of_own hown'
  refine h A' c' w' (by unfold OwnI; rw [List.length_append, hl, ← ints_app]; exact hown') fun B U hB hb => hb.grown hg (by omega) (fun k hk => by have := hlt k hk; omega)
end

def isE (T : List ANode) (i : Int) : Bool := if askI T [i] = 0 then lkB T i.toNat else false
def hrefE (T : List ANode) (i : Int) : Int := if askI T [i] = 0 then (if lkB T i.toNat = true then 0 else 6) else askI T [i]
def hrefV (T : List ANode) (i : Int) : ByteArray := if hrefE T i = 0 then getV T i href else .empty
/-- The nearest link from an element on, upwards. -/
def nearF (T : List ANode) (i : Int) : Int := ((anc T i).find? fun x => lkB T x.toNat).getD (-1)
def nearE (T : List ANode) (i : Int) : Int := if askI T [i] = 0 then nearF T i else 0
def linksE (T : List ANode) (i : Int) : List Int := if askI T [i] = 0 then (preT T i).filter (fun x => lkB T x.toNat) else []

theorem near_neg {T : List ANode} {x : Int} (h : x < 0) : nearF T x = -1 := by unfold nearF; rw [anc_neg h]; rfl
theorem near_yes {T : List ANode} (hg : goodB T = true) {q : Nat} (hq : q < T.length) (h : lkB T q = true) : nearF T q = q := by
  unfold nearF; rw [anc_cons hg hq, List.find?_cons]; simp [h]
theorem near_no {T : List ANode} (hg : goodB T = true) {q : Nat} (hq : q < T.length) (h : lkB T q = false) : nearF T q = nearF T (par T q) := by
  unfold nearF
  rw [anc_cons hg hq, List.find?_cons]
  simp [h]

set_option maxRecDepth 100000 in
theorem linkIs_ok (A : Option Addr) (n c : Nat) (T : List ANode) (i : Int) (w : World) (h : IsTree w A n T) :
    Calls Try.prog 25 #[.agg #[.slice A n c], .int .i64 i] w fun e w' => e = .returned (.tuple #[.bool (isE T i), .int .i64 (askI T [i])]) ∧ Below w.heap.size w w' := by
  have hT := hide h
  have hl := h.1
  clear h
  have hB0 := below_alloc (Below.refl w.heap.size w) (.cells #[.slice A n c] 24)
  have hbox0 : (w.alloc (.cells #[.slice A n c] 24)).cell? ⟨w.heap.size, 0, none⟩ = some (.slice A n c) := by go_simp
  by_cases h0 : askI T [i] = 0
  · obtain ⟨hg, hir⟩ := askI_zero.1 h0
    have hir := hir i (by simp)
    obtain ⟨k, rfl⟩ := Int.eq_ofNat_of_zero_le hir.1
    have hk : k < n := by omega
    have hr : Hid (isE T k = lkB T k) := by show _ = _; unfold isE; rw [if_pos h0, Int.toNat_natCast]
    have hg' := hide hg
    have h0' := hide h0
    have hq0 : (askI T [(k : Int)] != 0) = false := by simp [h0]
    clear hir hg h0
    go_enter Try.func25, Try.ntmps25
    go_wp2_with fail
    refine (depth_ok _ _ _ T _ _ (hT.out.below hB0)).mono ?_
    rintro e w1 ⟨rfl, hb1⟩
    have hbox1 := cell_later hb1 hbox0
    have hB1 := Below.on hB0 hb1
    go_wp2_with fail
    refine (lis_ok _ _ _ T k _ (hT.out.below hB1) hk hg'.out).mono ?_
    rintro e w2 ⟨rfl, hb2⟩
    go_wp2
    go_ret2
    exact ⟨ret_bi hr.out.symm h0'.out.symm, Below.on hB1 hb2⟩
  · have hr : Hid (isE T i = false) := if_neg h0
    have hq : (askI T [i] != 0) = true := by simp [h0]
    clear h0
    go_enter Try.func25, Try.ntmps25
    go_wp2_with fail
    refine (depth_ok _ _ _ T _ _ (hT.out.below hB0)).mono ?_
    rintro e w1 ⟨rfl, hb1⟩
    have hbox1 := cell_later hb1 hbox0
    have hB1 := Below.on hB0 hb1
    go_wp2
    go_ret2
    exact ⟨ret_bi hr.out.symm rfl, hB1⟩

set_option maxRecDepth 100000 in
theorem linkHref_ok (A : Option Addr) (n c : Nat) (T : List ANode) (i : Int) (w : World) (h : IsTree w A n T) :
    Calls Try.prog 27 #[.agg #[.slice A n c], .int .i64 i] w fun e w' => e = .returned (.tuple #[.string (hrefV T i), .int .i64 (hrefE T i)]) ∧ Below w.heap.size w w' := by
  have hT := hide h
  have hl := h.1
  clear h
  have hB0 := below_alloc (Below.refl w.heap.size w) (.cells #[.slice A n c] 24)
  have hbox0 : (w.alloc (.cells #[.slice A n c] 24)).cell? ⟨w.heap.size, 0, none⟩ = some (.slice A n c) := by go_simp
  by_cases h0 : askI T [i] = 0
  · obtain ⟨hg, hir⟩ := askI_zero.1 h0
    have hir := hir i (by simp)
    obtain ⟨k, rfl⟩ := Int.eq_ofNat_of_zero_le hir.1
    have hk : k < n := by omega
    have hE : Hid (hrefE T k = if lkB T k = true then 0 else 6) := by show _ = _; unfold hrefE; rw [if_pos h0, Int.toNat_natCast]
    have hg' := hide hg
    have h0' := hide h0
    have hq0 : (askI T [(k : Int)] != 0) = false := by simp [h0]
    cases hlk : lkB T k
    · have e1 : Hid (hrefE T k = 6) := by show _ = _; rw [hE.out, hlk]; rfl
      have e2 : Hid (hrefV T k = .empty) := by show _ = _; unfold hrefV; rw [e1.out]; rfl
      have hlk' := hide hlk
      clear hir hg h0 hlk
      go_enter Try.func27, Try.ntmps27
      go_wp2_with fail
      refine (depth_ok _ _ _ T _ _ (hT.out.below hB0)).mono ?_
      rintro e w1 ⟨rfl, hb1⟩
      have hbox1 := cell_later hb1 hbox0
      have hB1 := Below.on hB0 hb1
      go_wp2_with fail
      refine (lis_ok _ _ _ T k _ (hT.out.below hB1) hk hg'.out).mono ?_
      rw [hlk'.out]
      rintro e w2 ⟨rfl, hb2⟩
      go_wp2
      go_ret2
      exact ⟨ret_si e2.out.symm e1.out.symm, Below.on hB1 hb2⟩
    · have e1 : Hid (hrefE T k = 0) := by show _ = _; rw [hE.out, hlk]; rfl
      have e2 : Hid (hrefV T k = getV T k href) := by show _ = _; unfold hrefV; rw [e1.out]; rfl
      have hge : Hid (getE T k href = 0) := by
        show _ = _
        unfold getE lkB at *
        rw [if_pos h0, Int.toNat_natCast, if_pos]
        simp only [Bool.and_eq_true] at hlk
        exact hlk.1
      have hlk' := hide hlk
      clear hir hg h0 hlk
      go_enter Try.func27, Try.ntmps27
      go_wp2_with fail
      refine (depth_ok _ _ _ T _ _ (hT.out.below hB0)).mono ?_
      rintro e w1 ⟨rfl, hb1⟩
      have hbox1 := cell_later hb1 hbox0
      have hB1 := Below.on hB0 hb1
      go_wp2_with fail
      refine (lis_ok _ _ _ T k _ (hT.out.below hB1) hk hg'.out).mono ?_
      rw [hlk'.out]
      rintro e w2 ⟨rfl, hb2⟩
      have hbox2 := cell_later hb2 hbox1
      have hB2 := Below.on hB1 hb2
      go_wp2_with fail
      refine (get_ok _ _ _ T k href _ (hT.out.below hB2)).mono ?_
      rintro e w3 ⟨rfl, hb3⟩
      go_wp2
      go_ret2
      exact ⟨ret_si e2.out.symm (by rw [hge.out, e1.out]), Below.on hB2 hb3⟩
  · have e1 : Hid (hrefE T i = askI T [i]) := if_neg h0
    have e2 : Hid (hrefV T i = .empty) := by show _ = _; unfold hrefV; rw [e1.out, if_neg h0]
    have hq : (askI T [i] != 0) = true := by simp [h0]
    clear h0
    go_enter Try.func27, Try.ntmps27
    go_wp2_with fail
    refine (depth_ok _ _ _ T _ _ (hT.out.below hB0)).mono ?_
    rintro e w1 ⟨rfl, hb1⟩
    have hbox1 := cell_later hb1 hbox0
    have hB1 := Below.on hB0 hb1
    go_wp2
    go_ret2
    exact ⟨ret_si e2.out.symm e1.out.symm, hB1⟩

set_option maxRecDepth 100000 in
set_option maxHeartbeats 1000000 in
theorem linkRel_ok (A : Option Addr) (n c : Nat) (T : List ANode) (i : Int) (w : World) (h : IsTree w A n T) :
    Calls Try.prog 29 #[.agg #[.slice A n c], .int .i64 i] w fun e w' => e = .returned (.tuple #[.int .i64 (nearE T i), .int .i64 (askI T [i])]) ∧ Below w.heap.size w w' := by
  have ho := hide h.2.2.2
  have hT := hide h
  have hl := h.1
  clear h
  have hB0 := below_alloc (Below.refl w.heap.size w) (.cells #[.slice A n c] 24)
  have hbox0 : (w.alloc (.cells #[.slice A n c] 24)).cell? ⟨w.heap.size, 0, none⟩ = some (.slice A n c) := by go_simp
  by_cases h0 : askI T [i] = 0
  · obtain ⟨hg, hir⟩ := askI_zero.1 h0
    have hir := hir i (by simp)
    obtain ⟨k, rfl⟩ := Int.eq_ofNat_of_zero_le hir.1
    have hk : k < n := by omega
    obtain ⟨b, off, aA, cA, aC, cC, rfl, hbl, -, -, c2, -, -, -⟩ := ho.out (by omega)
    have c2' := hide c2
    have hr : Hid (nearE T k = nearF T k) := if_pos h0
    have hg' := hide hg
    have h0' := hide h0
    have hq0 : (askI T [(k : Int)] != 0) = false := by simp [h0]
    clear hir hg h0 ho c2
    go_enter Try.func29, Try.ntmps29
    go_wp2_with fail
    refine (depth_ok _ _ _ T _ _ (hT.out.below hB0)).mono ?_
    rintro e w1 ⟨rfl, hb1⟩
    have hbox1 := cell_later hb1 hbox0
    have hB1 := Below.on hB0 hb1
    go_wp2
    clear hbox0 hb1 hB0
    go_loopw [1] (fun q wr => ∃ x : Int, q = .int .i64 x ∧ -1 ≤ x ∧ x < n ∧ Hid (nearF T x = nearF T k) ∧ Below w1.heap.size w1 wr) (fun q _ => (anc T (intOf q)).length)
    case atStart => exact ⟨k, rfl, by omega, by omega, rfl, Below.refl _ _⟩
    case round =>
      obtain ⟨x, rfl, hx1, hx2, hnr, hb⟩ := hrel
      have hBw := Below.on hB1 hb
      have hbx := cell_later hb hbox1
      by_cases hx : 0 ≤ x
      · obtain ⟨q, rfl⟩ := Int.eq_ofNat_of_zero_le hx
        have hq : q < n := by omega
        have hqT : q < T.length := by omega
        cases hlk : lkB T q
        · have hn2 := hide (near_no hg'.out hqT hlk)
          have hlk' := hide hlk
          have ht := hide (anc_cons hg'.out hqT)
          have hp := hide (good_par hg'.out hqT)
          clear hlk
          go_wp2_with fail
          refine (lis_ok _ _ _ T q _ (hT.out.below hBw) hq hg'.out).mono ?_
          rw [hlk'.out]
          rintro e w2 ⟨rfl, hb2⟩
          have hbx2 := cell_later hb2 hbx
          have gq := (old (Below.on hBw hb2) _ _ hbl).trans (c2'.out q hq)
          go_wp2
          go_roundw
          case rel => exact ⟨_, rfl, hp.out.1, by have := hp.out.2; omega, by show _ = _; rw [← hn2.out]; exact hnr.out, Below.on hb hb2⟩
          case measure => simp only [intOf]; rw [ht.out]; simp
        · have hn2 : Hid (nearF T k = q) := by show _ = _; rw [← hnr.out, near_yes hg'.out hqT hlk]
          have hlk' := hide hlk
          clear hlk
          go_wp2_with fail
          refine (lis_ok _ _ _ T q _ (hT.out.below hBw) hq hg'.out).mono ?_
          rw [hlk'.out]
          rintro e w2 ⟨rfl, hb2⟩
          go_wp2
          go_ret2
          exact ⟨ret_two (by rw [hr.out, hn2.out]) h0'.out.symm, Below.on hBw hb2⟩
      · obtain rfl : x = -1 := by omega
        have hn2 : Hid (nearF T k = -1) := by show _ = _; rw [← hnr.out, near_neg (by omega)]
        go_wp2
        go_ret2
        exact ⟨ret_two (by rw [hr.out, hn2.out]) h0'.out.symm, hBw⟩
  · have hr : Hid (nearE T i = 0) := if_neg h0
    have hq : (askI T [i] != 0) = true := by simp [h0]
    clear h0 ho
    go_enter Try.func29, Try.ntmps29
    go_wp2_with fail
    refine (depth_ok _ _ _ T _ _ (hT.out.below hB0)).mono ?_
    rintro e w1 ⟨rfl, hb1⟩
    have hbox1 := cell_later hb1 hbox0
    have hB1 := Below.on hB0 hb1
    go_wp2
    go_ret2
    exact ⟨ret_two hr.out.symm rfl, hB1⟩
end Go.Proofs.Ytfiiikbbiimdiaa
