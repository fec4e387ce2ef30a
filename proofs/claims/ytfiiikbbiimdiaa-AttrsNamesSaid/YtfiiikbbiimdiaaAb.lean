/- Walks: the value of an attribute, by the program and by the reference. No condition but those of the inner functions. -/
import Derived.Test.YtfiiikbbiimdiaaAa
import Derived.Test.YtfiiikbbiimdiaaOe
import Derived.Deep.RegionHeld3
namespace Go.Proofs.Ytfiiikbbiimdiaa
open Go.RowKit

def atl (T : List ANode) (i : Nat) : List (ByteArray × ByteArray) := (nd T i).attrs
def getE (T : List ANode) (i : Int) (s : ByteArray) : Int := if askI T [i] = 0 then (if hasA (atl T i.toNat) s = true then 0 else 6) else askI T [i]
def getV (T : List ANode) (i : Int) (s : ByteArray) : ByteArray := if getE T i s = 0 then vl (atl T i.toNat) (lowA (atl T i.toNat) s) else .empty
theorem good_attrs {T : List ANode} (hg : goodB T = true) {i : Nat} (hi : i < T.length) : Sorted (atl T i) ∧ (atl T i).length ≤ 16 := by
  have h := (((goodB_iff T).1 hg).2.2.1 i hi).2.1
  refine ⟨sorted_attrs h, ?_⟩
  unfold attrsB at h
  simp only [Bool.and_eq_true, decide_eq_true_eq] at h
  exact h.1
theorem ret_si {k' : IntKind} {a b : ByteArray} {c d : Int} (h : a = b) (h' : c = d) : Ending.returned (.tuple #[.string a, .int k' c]) = .returned (.tuple #[.string b, .int k' d]) := by rw [h, h']
theorem ret_sb {a b : ByteArray} {c d : Bool} (h : a = b) (h' : c = d) : Ending.returned (.tuple #[.string a, .bool c]) = .returned (.tuple #[.string b, .bool d]) := by rw [h, h']

theorem acheck_ok (A : Option Addr) (n c : Nat) (T : List ANode) (i : Int) (w : World) (h : IsTree w A n T) :
    Calls Try.prog 55 #[.agg #[.slice A n c], .int .i64 i] w fun e w' => e = .returned (.int .i64 (askI T [i])) ∧ Below w.heap.size w w' := by
  have hT := hide h
  have hl := h.1
  clear h
  have hB0 := below_alloc (Below.refl w.heap.size w) (.cells #[.slice A n c] 24)
  have hbox0 : (w.alloc (.cells #[.slice A n c] 24)).cell? ⟨w.heap.size, 0, none⟩ = some (.slice A n c) := by go_simp
  by_cases hg : goodB T = true
  · have hc0 : chk T = 0 := chk_ok hg
    by_cases hr : 0 ≤ i ∧ i < n
    · have hq := hide (askI_ok hg (l := [i]) (by simp; omega))
      obtain ⟨k, rfl⟩ := Int.eq_ofNat_of_zero_le hr.1
      have hk : k < n := by omega
      clear hg hr
      go_enter Try.func55, Try.ntmps55
      go_wp2_with fail
      refine (check_ok _ _ _ T _ (hT.out.below hB0)).mono ?_
      rintro e w1 ⟨rfl, hb1⟩
      have hbox1 := cell_later hb1 hbox0
      have hB1 := Below.on hB0 hb1
      go_wp2
      go_ret
      exact ⟨ret_int hq.out.symm, hB1⟩
    · have hq := hide (askI_no hg i (by simp) (l := [i]) (by omega))
      have hr' : i < 0 ∨ (0 ≤ i ∧ (n : Int) ≤ i) := by omega
      clear hg hr
      rcases hr' with h1 | ⟨h1, h2⟩
      all_goals
        go_enter Try.func55, Try.ntmps55
        go_wp2_with fail
        refine (check_ok _ _ _ T _ (hT.out.below hB0)).mono ?_
        rintro e w1 ⟨rfl, hb1⟩
        have hbox1 := cell_later hb1 hbox0
        have hB1 := Below.on hB0 hb1
        go_wp2
        go_ret
        exact ⟨ret_int hq.out.symm, hB1⟩
  · have hc0 : chk T = 8 := chk_bad hg
    have hq := hide (askI_bad (l := [i]) hg)
    clear hg
    go_enter Try.func55, Try.ntmps55
    go_wp2_with fail
    refine (check_ok _ _ _ T _ (hT.out.below hB0)).mono ?_
    rintro e w1 ⟨rfl, hb1⟩
    have hbox1 := cell_later hb1 hbox0
    have hB1 := Below.on hB0 hb1
    go_wp2
    go_ret
    exact ⟨ret_int hq.out.symm, hB1⟩

set_option maxRecDepth 100000 in
set_option maxHeartbeats 1000000 in
theorem get_ok (A : Option Addr) (n c : Nat) (T : List ANode) (i : Int) (s : ByteArray) (w : World) (h : IsTree w A n T) :
    Calls Try.prog 40 #[.agg #[.slice A n c], .int .i64 i, .string s] w fun e w' => e = .returned (.tuple #[.string (getV T i s), .int .i64 (getE T i s)]) ∧ Below w.heap.size w w' := by
  have ho := hide h.2.2.2
  have hT := hide h
  have hl := h.1
  clear h
  have hB0 := below_alloc (Below.refl w.heap.size w) (.cells #[.slice A n c] 24)
  have hbox0 : (w.alloc (.cells #[.slice A n c] 24)).cell? ⟨w.heap.size, 0, none⟩ = some (.slice A n c) := by go_simp
  by_cases h0 : askI T [i] = 0
  · obtain ⟨hg, hir⟩ := askI_zero.1 h0
    have hir := hir i (by simp)
    obtain ⟨k, rfl⟩ := Int.eq_ofNat_of_zero_le hir.1
    have hk : k < n := by omega
    obtain ⟨hs, h16⟩ := good_attrs hg (by omega : k < T.length)
    obtain ⟨b, off, aA, cA, aC, cC, rfl, hbl, -, c1, -, -, hA, -⟩ := ho.out (by omega)
    have c1' := hide (c1 k hk)
    have hA' := hide (hA k hk).1
    have hcap : (nd T k).attrs.length ≤ aC k ∧ aC k ≤ 9223372036854775807 := (hA k hk).2
    change Hid (w.cell? ⟨b, off + k * 4 + 1, none⟩ = some (Value.slice (aA k) (atl T k).length (aC k))) at c1'
    change Hid (IsAttrs w (aA k) (atl T k).length (atl T k)) at hA'
    have hr1 : Hid (getE T k s = if hasA (atl T k) s = true then 0 else 6) := by show _ = _; unfold getE; rw [if_pos h0, Int.toNat_natCast]
    have hr2 : Hid (getV T k s = if getE T k s = 0 then vl (atl T k) (lowA (atl T k) s) else .empty) := by show _ = _; unfold getV; rw [Int.toNat_natCast]
    have hq0 : (askI T [(k : Int)] != 0) = false := by simp [h0]
    have hlo := (low_split hs s).1
    have hha : hasA (atl T k) s = true → lowA (atl T k) s < (atl T k).length := fun h => by unfold hasA at h; simp at h; exact h.1
    generalize aA k = AA at c1' hA'
    generalize aC k = ac at c1'
    generalize atl T k = l at *
    generalize hlow : lowA l s = at' at *
    have hlow' := hide hlow
    have hs' := hide hs
    clear hir hg c1 hA ho h0 hcap hs hlow
    cases hh : hasA l s
    · have e1 : Hid (getE T k s = 6) := by show _ = _; rw [hr1.out, hh]; rfl
      have e2 : Hid (getV T k s = .empty) := by show _ = _; rw [hr2.out, e1.out]; rfl
      have hh' := hide hh
      clear hh hha
      go_enter Try.func40, Try.ntmps40
      go_wp2_with fail
      refine (acheck_ok _ _ _ T _ _ (hT.out.below hB0)).mono ?_
      rintro e w1 ⟨rfl, hb1⟩
      have hbox1 := cell_later hb1 hbox0
      have hB1 := Below.on hB0 hb1
      have g1 := (old hB1 _ _ hbl).trans c1'.out
      go_wp2_with fail
      have hf := find_ok AA l.length ac l s w1 (hA'.out.below hB1) hs'.out (by omega)
      rw [hlow'.out, hh'.out] at hf
      refine hf.mono ?_
      rintro e w2 ⟨rfl, hb2⟩
      clear hf
      go_wp2
      go_ret2
      exact ⟨ret_si e2.out.symm e1.out.symm, Below.on hB1 hb2⟩
    · have hat := hha hh
      have e1 : Hid (getE T k s = 0) := by show _ = _; rw [hr1.out, hh]; rfl
      have e2 : Hid (getV T k s = vl l at') := by show _ = _; rw [hr2.out, e1.out, if_pos rfl]
      have hh' := hide hh
      obtain ⟨ba, oa, rfl, hba, ca0, ca1⟩ := hA'.out.2.2.2 (by omega)
      have ca1' := hide (ca1 at' hat)
      clear hh hha ca0 ca1
      go_enter Try.func40, Try.ntmps40
      go_wp2_with fail
      refine (acheck_ok _ _ _ T _ _ (hT.out.below hB0)).mono ?_
      rintro e w1 ⟨rfl, hb1⟩
      have hbox1 := cell_later hb1 hbox0
      have hB1 := Below.on hB0 hb1
      have g1 := (old hB1 _ _ hbl).trans c1'.out
      go_wp2_with fail
      have hf := find_ok (some ⟨ba, oa, none⟩) l.length ac l s w1 (hA'.out.below hB1) hs'.out (by omega)
      rw [hlow'.out, hh'.out] at hf
      refine hf.mono ?_
      rintro e w2 ⟨rfl, hb2⟩
      have hB2 := Below.on hB1 hb2
      have hbox2 := cell_later hb2 hbox1
      have g2 := cell_later hb2 g1
      have g3 := (old hB2 _ _ hba).trans ca1'.out
      clear hf g1
      go_wp2
      go_ret2
      exact ⟨ret_si e2.out.symm e1.out.symm, hB2⟩
  · have e1 : Hid (getE T i s = askI T [i]) := if_neg h0
    have e2 : Hid (getV T i s = .empty) := by show _ = _; unfold getV; rw [e1.out, if_neg h0]
    have hq : (askI T [i] != 0) = true := by simp [h0]
    clear h0 ho
    go_enter Try.func40, Try.ntmps40
    go_wp2_with fail
    refine (acheck_ok _ _ _ T _ _ (hT.out.below hB0)).mono ?_
    rintro e w1 ⟨rfl, hb1⟩
    have hbox1 := cell_later hb1 hbox0
    have hB1 := Below.on hB0 hb1
    go_wp2
    go_ret2
    exact ⟨ret_si e2.out.symm e1.out.symm, hB1⟩
end Go.Proofs.Ytfiiikbbiimdiaa
/- Walks: where an attribute is, by the reference; links, by the program and by the reference. No condition but those of the inner functions. -/
namespace Go.Proofs.Ytfiiikbbiimdiaa
open Go.RowKit

def atV (l : List (ByteArray × ByteArray)) (s : ByteArray) : Int := if hasA l s = true then (lowA l s : Int) else -1

set_option maxRecDepth 100000 in
set_option maxHeartbeats 1000000 in
theorem rattr_ok (A : Option Addr) (n c : Nat) (T : List ANode) (i : Nat) (s : ByteArray) (w : World) (h : IsTree w A n T) (hi : i < n) (hg : goodB T = true) :
    Calls Try.prog 73 #[.agg #[.slice A n c], .int .i64 i, .string s] w fun e w' => e = .returned (.int .i64 (atV (atl T i) s)) ∧ Below w.heap.size w w' := by
  have ho := hide h.2.2.2
  have hT := hide h
  have hl := h.1
  clear h
  have hB0 := below_alloc (Below.refl w.heap.size w) (.cells #[.slice A n c] 24)
  have hbox0 : (w.alloc (.cells #[.slice A n c] 24)).cell? ⟨w.heap.size, 0, none⟩ = some (.slice A n c) := by go_simp
  obtain ⟨hs, h16⟩ := good_attrs hg (by omega : i < T.length)
  obtain ⟨b, off, aA, cA, aC, cC, rfl, hbl, -, c1, -, -, hA, -⟩ := ho.out (by omega)
  have c1' := hide (c1 i hi)
  have hA' := hide (hA i hi).1
  change Hid (w.cell? ⟨b, off + i * 4 + 1, none⟩ = some (Value.slice (aA i) (atl T i).length (aC i))) at c1'
  change Hid (IsAttrs w (aA i) (atl T i).length (atl T i)) at hA'
  generalize aA i = AA at c1' hA'
  generalize aC i = ac at c1'
  generalize atl T i = l at *
  have hs' := hide hs
  obtain ⟨m, hm⟩ : ∃ m, l.length = m := ⟨_, rfl⟩
  rw [hm] at c1' hA' h16
  have hm' := hide hm
  clear c1 hA ho hg hs hm
  go_enter Try.func73, Try.ntmps73
  go_wp2
  go_loop [7] (fun x => ∃ k : Nat, k ≤ m ∧ x = .int .i64 k ∧ Hid (∀ j, j < k → nm l j ≠ s)) (fun x => m - (intOf x).toNat)
  case atStart => exact ⟨0, Nat.zero_le _, rfl, fun j hj => absurd hj (by omega)⟩
  case round =>
    obtain ⟨k, hk, rfl, hne⟩ := hrel
    have g1 := (old hB0 _ _ hbl).trans c1'.out
    by_cases hlt : k < m
    · obtain ⟨ba, oa, rfl, hba, ca0, -⟩ := hA'.out.2.2.2 (by omega)
      have g2 := (old hB0 _ _ hba).trans (ca0 k hlt)
      clear ca0
      by_cases he : nm l k = s
      · have hr : Hid (atV l s = k) := by
          show _ = _
          have := has_at hs'.out (j := k) (by have := hm'.out; omega)
          rw [he] at this
          unfold atV
          rw [if_pos this.2, this.1]
        have hq : ((nm l k).toList == s.toList) = true := by simp [he]
        clear he
        go_wp2
        go_ret
        exact ⟨ret_int hr.out.symm, hB0⟩
      · have hq : ((nm l k).toList == s.toList) = false := by
          rw [Bool.eq_false_iff]; intro h; exact he (toList_inj (by simpa using h))
        have he' := hide he
        clear he
        go_wp2
        go_round
        case rel => exact ⟨k + 1, by omega, by go_num, fun j hj => by
          by_cases h : j = k
          · subst h; exact he'.out
          · exact hne.out j (by omega)⟩
        case measure => simp [intOf]; omega
    · have hr : Hid (atV l s = -1) := by
        show _ = _
        unfold atV
        rw [if_neg]
        intro h
        obtain ⟨j, h1, h2⟩ := (hasA_iff hs'.out s).1 h
        exact hne.out j (by have := hm'.out; omega) h2
      go_wp2
      go_ret
      exact ⟨ret_int hr.out.symm, hB0⟩

def href : ByteArray := ⟨#[104, 114, 101, 102]⟩
/-- Whether an element of a good tree is a link. -/
def lkB (T : List ANode) (i : Nat) : Bool := hasA (atl T i) href && ((nd T i).tag.toList == ([97] : List UInt8))

set_option maxRecDepth 100000 in
set_option maxHeartbeats 1000000 in
theorem lis_ok (A : Option Addr) (n c : Nat) (T : List ANode) (i : Nat) (w : World) (h : IsTree w A n T) (hi : i < n) (hg : goodB T = true) :
    Calls Try.prog 60 #[.agg #[.slice A n c], .int .i64 i] w fun e w' => e = .returned (.bool (lkB T i)) ∧ Below w.heap.size w w' := by
  have ho := hide h.2.2.2
  have hT := hide h
  have hl := h.1
  clear h
  have hB0 := below_alloc (Below.refl w.heap.size w) (.cells #[.slice A n c] 24)
  have hbox0 : (w.alloc (.cells #[.slice A n c] 24)).cell? ⟨w.heap.size, 0, none⟩ = some (.slice A n c) := by go_simp
  have q1 : askI T [(i : Int)] = 0 := askI_ok hg (by simp; omega)
  have he : getE T i href = if hasA (atl T i) href = true then 0 else 6 := by unfold getE; rw [if_pos q1, Int.toNat_natCast]
  obtain ⟨b, off, aA, cA, aC, cC, rfl, hbl, c0, -, -, -, -, -⟩ := ho.out (by omega)
  have g0 := hide (c0 i hi)
  clear c0 ho hg q1
  cases hh : hasA (atl T i) href
  · have e1 : getE T i href = 6 := by rw [he, hh]; rfl
    have hr : Hid (lkB T i = false) := by show _ = _; unfold lkB; rw [hh]; rfl
    clear he hh
    go_enter Try.func60, Try.ntmps60
    go_wp2_with fail
    refine (get_ok _ _ _ T _ href _ (hT.out.below hB0)).mono ?_
    rintro e w1 ⟨rfl, hb1⟩
    have hbox1 := cell_later hb1 hbox0
    have hB1 := Below.on hB0 hb1
    go_wp2
    go_ret
    exact ⟨ret_bool hr.out.symm, hB1⟩
  · have e1 : getE T i href = 0 := by rw [he, hh]; rfl
    have hr : Hid (lkB T i = ((nd T i).tag.toList == ([97] : List UInt8))) := by show _ = _; unfold lkB; rw [hh]; rfl
    clear he hh
    go_enter Try.func60, Try.ntmps60
    go_wp2_with fail
    refine (get_ok _ _ _ T _ href _ (hT.out.below hB0)).mono ?_
    rintro e w1 ⟨rfl, hb1⟩
    have hbox1 := cell_later hb1 hbox0
    have hB1 := Below.on hB0 hb1
    have g1 := (old hB1 _ _ hbl).trans g0.out
    go_wp2
    go_ret
    exact ⟨ret_bool hr.out.symm, hB1⟩

set_option maxRecDepth 100000 in
set_option maxHeartbeats 1000000 in
theorem rlk_ok (A : Option Addr) (n c : Nat) (T : List ANode) (i : Nat) (w : World) (h : IsTree w A n T) (hi : i < n) (hg : goodB T = true) :
    Calls Try.prog 61 #[.agg #[.slice A n c], .int .i64 i] w fun e w' => e = .returned (.bool (lkB T i)) ∧ Below w.heap.size w w' := by
  have ho := hide h.2.2.2
  have hT := hide h
  have hl := h.1
  clear h
  have hB0 := below_alloc (Below.refl w.heap.size w) (.cells #[.slice A n c] 24)
  have hbox0 : (w.alloc (.cells #[.slice A n c] 24)).cell? ⟨w.heap.size, 0, none⟩ = some (.slice A n c) := by go_simp
  obtain ⟨b, off, aA, cA, aC, cC, rfl, hbl, c0, -, -, -, -, -⟩ := ho.out (by omega)
  have g0 := (old hB0 _ _ hbl).trans (c0 i hi)
  have hg' := hide hg
  clear c0 ho hg
  cases ht : ((nd T i).tag.toList == ([97] : List UInt8))
  · have hr : Hid (lkB T i = false) := by show _ = _; unfold lkB; rw [ht]; simp
    have ht' : ((nd T i).tag.toList == [97]) = false := ht
    clear ht
    go_enter Try.func61, Try.ntmps61
    go_wp2
    go_ret
    exact ⟨ret_bool hr.out.symm, hB0⟩
  · have hr : Hid (lkB T i = hasA (atl T i) href) := by show _ = _; unfold lkB; rw [ht]; simp
    have ht' : ((nd T i).tag.toList == [97]) = true := ht
    clear ht
    cases hh : hasA (atl T i) href
    · have hav : atV (atl T i) href = -1 := by unfold atV; rw [hh]; rfl
      have hav' := hide hav
      rw [hh] at hr
      clear hh hav
      go_enter Try.func61, Try.ntmps61
      go_wp2_with fail
      refine (rattr_ok _ _ _ T i href _ (hT.out.below hB0) hi hg'.out).mono ?_
      rw [hav'.out]
      rintro e w1 ⟨rfl, hb1⟩
      go_wp2
      go_ret
      exact ⟨ret_bool hr.out.symm, Below.on hB0 hb1⟩
    · have hav : atV (atl T i) href = (lowA (atl T i) href : Int) := by unfold atV; rw [hh]; rfl
      have hav' := hide hav
      rw [hh] at hr
      clear hh hav
      go_enter Try.func61, Try.ntmps61
      go_wp2_with fail
      refine (rattr_ok _ _ _ T i href _ (hT.out.below hB0) hi hg'.out).mono ?_
      rw [hav'.out]
      rintro e w1 ⟨rfl, hb1⟩
      go_wp2
      go_ret
      exact ⟨ret_bool hr.out.symm, Below.on hB0 hb1⟩
end Go.Proofs.Ytfiiikbbiimdiaa
/- Walks: links and the nearest one, by the program and by the reference. No condition but those of the inner functions. -/
namespace Go.Proofs.Ytfiiikbbiimdiaa
open Go.RowKit

section
variable {W : World} {ops : Array Oper} {rest : List Oper} {o : Oper} {a : Act} {Q : Exit → Act → World → Prop}
/-- A list that lies somewhere, behind one that the call has made. -/
theorem wpList_appI (hgd : o.guard = none) (s x : Operand) (ho : o.op = .call { callee := .builtin .append, args := #[s, x], argTypes := #[51, 51] })
    {base : Nat} {v : Value} {pre : List Int} (hown : OwnI W base v pre) {A : Option Addr} {n c : Nat} {ys : List Int} (hI : IsInts W A n ys) (hs : a.eval s = v) (hx : a.eval x = .slice A n c)
    (hn : pre.length + n ≤ 1000000) (hbase : base ≤ W.heap.size)
    (h : ∀ A' c' w', OwnI w' base (.slice A' (pre.length + n) c') (pre ++ ys) → (∀ B U, B ≤ base → Below B U W → Below B U w') → wpList Try.prog ops Q rest (a.put o.dst (.slice A' (pre.length + n) c')) w') : wpList Try.prog ops Q (o :: rest) a W := by
  obtain ⟨i0, hi, hz0, hz1, hz2⟩ := info_parts info_int
  have hl := hI.1
  refine wpList_append_from hgd s x 51 ho base 3 i0 (.int .i64 0) 1 8 Try.underlying51 hi hz0 hz1 hz2 rfl (by decide) v pre.length (ints pre) hs hown A n c (ints ys) hx (by simp [ints, hl]) (ints_none hI) (ints_at hI) (ints_one _) (by unfold maxLen; omega) (by omega) hbase ?_
  intro v' w' hown' hg
  have hlt := fun k hk => (World.ownsRow.lt hown k hk).1
  obtain ⟨A', c', rfl, _, _⟩ := sl_of_own hown'
  refine h A' c' w' (by unfold OwnI; rw [List.length_append, hl, ← ints_app]; exact hown') fun B U hB hb => hb.grown hg (by omega) (fun k hk => by have := hlt k hk; omega)
end

def isE (T : List ANode) (i : Int) : Bool := if askI T [i] = 0 then lkB T i.toNat else false
def hrefE (T : List ANode) (i : Int) : Int := if askI T [i] = 0 then (if lkB T i.toNat = true then 0 else 6) else askI T [i]
def hrefV (T : List ANode) (i : Int) : ByteArray := if hrefE T i = 0 then getV T i href else .empty
/-- The nearest link from an element on, upwards. -/
def nearF (T : List ANode) (i : Int) : Int := ((anc T i).find? fun x => lkB T x.toNat).getD (-1)
def nearE (T : List ANode) (i : Int) : Int := if askI T [i] = 0 then nearF T i else 0
def linksE (T : List ANode) (i : Int) : List Int := if askI T [i] = 0 then (preT T i).filter (fun x => lkB T x.toNat) else []

theorem near_neg {T : List ANode} {x : Int} (h : x < 0) : nearF T x = -1 := by unfold nearF; rw [anc_neg h]; rfl
theorem near_yes {T : List ANode} (hg : goodB T = true) {q : Nat} (hq : q < T.length) (h : lkB T q = true) : nearF T q = q := by
  unfold nearF; rw [anc_cons hg hq, List.find?_cons]; simp [h]
theorem near_no {T : List ANode} (hg : goodB T = true) {q : Nat} (hq : q < T.length) (h : lkB T q = false) : nearF T q = nearF T (par T q) := by
  unfold nearF
  rw [anc_cons hg hq, List.find?_cons]
  simp [h]

set_option maxRecDepth 100000 in
theorem linkIs_ok (A : Option Addr) (n c : Nat) (T : List ANode) (i : Int) (w : World) (h : IsTree w A n T) :
    Calls Try.prog 25 #[.agg #[.slice A n c], .int .i64 i] w fun e w' => e = .returned (.tuple #[.bool (isE T i), .int .i64 (askI T [i])]) ∧ Below w.heap.size w w' := by
  have hT := hide h
  have hl := h.1
  clear h
  have hB0 := below_alloc (Below.refl w.heap.size w) (.cells #[.slice A n c] 24)
  have hbox0 : (w.alloc (.cells #[.slice A n c] 24)).cell? ⟨w.heap.size, 0, none⟩ = some (.slice A n c) := by go_simp
  by_cases h0 : askI T [i] = 0
  · obtain ⟨hg, hir⟩ := askI_zero.1 h0
    have hir := hir i (by simp)
    obtain ⟨k, rfl⟩ := Int.eq_ofNat_of_zero_le hir.1
    have hk : k < n := by omega
    have hr : Hid (isE T k = lkB T k) := by show _ = _; unfold isE; rw [if_pos h0, Int.toNat_natCast]
    have hg' := hide hg
    have h0' := hide h0
    have hq0 : (askI T [(k : Int)] != 0) = false := by simp [h0]
    clear hir hg h0
    go_enter Try.func25, Try.ntmps25
    go_wp2_with fail
    refine (depth_ok _ _ _ T _ _ (hT.out.below hB0)).mono ?_
    rintro e w1 ⟨rfl, hb1⟩
    have hbox1 := cell_later hb1 hbox0
    have hB1 := Below.on hB0 hb1
    go_wp2_with fail
    refine (lis_ok _ _ _ T k _ (hT.out.below hB1) hk hg'.out).mono ?_
    rintro e w2 ⟨rfl, hb2⟩
    go_wp2
    go_ret2
    exact ⟨ret_bi hr.out.symm h0'.out.symm, Below.on hB1 hb2⟩
  · have hr : Hid (isE T i = false) := if_neg h0
    have hq : (askI T [i] != 0) = true := by simp [h0]
    clear h0
    go_enter Try.func25, Try.ntmps25
    go_wp2_with fail
    refine (depth_ok _ _ _ T _ _ (hT.out.below hB0)).mono ?_
    rintro e w1 ⟨rfl, hb1⟩
    have hbox1 := cell_later hb1 hbox0
    have hB1 := Below.on hB0 hb1
    go_wp2
    go_ret2
    exact ⟨ret_bi hr.out.symm rfl, hB1⟩

set_option maxRecDepth 100000 in
theorem linkHref_ok (A : Option Addr) (n c : Nat) (T : List ANode) (i : Int) (w : World) (h : IsTree w A n T) :
    Calls Try.prog 27 #[.agg #[.slice A n c], .int .i64 i] w fun e w' => e = .returned (.tuple #[.string (hrefV T i), .int .i64 (hrefE T i)]) ∧ Below w.heap.size w w' := by
  have hT := hide h
  have hl := h.1
  clear h
  have hB0 := below_alloc (Below.refl w.heap.size w) (.cells #[.slice A n c] 24)
  have hbox0 : (w.alloc (.cells #[.slice A n c] 24)).cell? ⟨w.heap.size, 0, none⟩ = some (.slice A n c) := by go_simp
  by_cases h0 : askI T [i] = 0
  · obtain ⟨hg, hir⟩ := askI_zero.1 h0
    have hir := hir i (by simp)
    obtain ⟨k, rfl⟩ := Int.eq_ofNat_of_zero_le hir.1
    have hk : k < n := by omega
    have hE : Hid (hrefE T k = if lkB T k = true then 0 else 6) := by show _ = _; unfold hrefE; rw [if_pos h0, Int.toNat_natCast]
    have hg' := hide hg
    have h0' := hide h0
    have hq0 : (askI T [(k : Int)] != 0) = false := by simp [h0]
    cases hlk : lkB T k
    · have e1 : Hid (hrefE T k = 6) := by show _ = _; rw [hE.out, hlk]; rfl
      have e2 : Hid (hrefV T k = .empty) := by show _ = _; unfold hrefV; rw [e1.out]; rfl
      have hlk' := hide hlk
      clear hir hg h0 hlk
      go_enter Try.func27, Try.ntmps27
      go_wp2_with fail
      refine (depth_ok _ _ _ T _ _ (hT.out.below hB0)).mono ?_
      rintro e w1 ⟨rfl, hb1⟩
      have hbox1 := cell_later hb1 hbox0
      have hB1 := Below.on hB0 hb1
      go_wp2_with fail
      refine (lis_ok _ _ _ T k _ (hT.out.below hB1) hk hg'.out).mono ?_
      rw [hlk'.out]
      rintro e w2 ⟨rfl, hb2⟩
      go_wp2
      go_ret2
      exact ⟨ret_si e2.out.symm e1.out.symm, Below.on hB1 hb2⟩
    · have e1 : Hid (hrefE T k = 0) := by show _ = _; rw [hE.out, hlk]; rfl
      have e2 : Hid (hrefV T k = getV T k href) := by show _ = _; unfold hrefV; rw [e1.out]; rfl
      have hge : Hid (getE T k href = 0) := by
        show _ = _
        unfold getE lkB at *
        rw [if_pos h0, Int.toNat_natCast, if_pos]
        simp only [Bool.and_eq_true] at hlk
        exact hlk.1
      have hlk' := hide hlk
      clear hir hg h0 hlk
      go_enter Try.func27, Try.ntmps27
      go_wp2_with fail
      refine (depth_ok _ _ _ T _ _ (hT.out.below hB0)).mono ?_
      rintro e w1 ⟨rfl, hb1⟩
      have hbox1 := cell_later hb1 hbox0
      have hB1 := Below.on hB0 hb1
      go_wp2_with fail
      refine (lis_ok _ _ _ T k _ (hT.out.below hB1) hk hg'.out).mono ?_
      rw [hlk'.out]
      rintro e w2 ⟨rfl, hb2⟩
      have hbox2 := cell_later hb2 hbox1
      have hB2 := Below.on hB1 hb2
      go_wp2_with fail
      refine (get_ok _ _ _ T k href _ (hT.out.below hB2)).mono ?_
      rintro e w3 ⟨rfl, hb3⟩
      go_wp2
      go_ret2
      exact ⟨ret_si e2.out.symm (by rw [hge.out, e1.out]), Below.on hB2 hb3⟩
  · have e1 : Hid (hrefE T i = askI T [i]) := if_neg h0
    have e2 : Hid (hrefV T i = .empty) := by show _ = _; unfold hrefV; rw [e1.out, if_neg h0]
    have hq : (askI T [i] != 0) = true := by simp [h0]
    clear h0
    go_enter Try.func27, Try.ntmps27
    go_wp2_with fail
    refine (depth_ok _ _ _ T _ _ (hT.out.below hB0)).mono ?_
    rintro e w1 ⟨rfl, hb1⟩
    have hbox1 := cell_later hb1 hbox0
    have hB1 := Below.on hB0 hb1
    go_wp2
    go_ret2
    exact ⟨ret_si e2.out.symm e1.out.symm, hB1⟩

set_option maxRecDepth 100000 in
set_option maxHeartbeats 1000000 in
theorem linkRel_ok (A : Option Addr) (n c : Nat) (T : List ANode) (i : Int) (w : World) (h : IsTree w A n T) :
    Calls Try.prog 29 #[.agg #[.slice A n c], .int .i64 i] w fun e w' => e = .returned (.tuple #[.int .i64 (nearE T i), .int .i64 (askI T [i])]) ∧ Below w.heap.size w w' := by
  have ho := hide h.2.2.2
  have hT := hide h
  have hl := h.1
  clear h
  have hB0 := below_alloc (Below.refl w.heap.size w) (.cells #[.slice A n c] 24)
  have hbox0 : (w.alloc (.cells #[.slice A n c] 24)).cell? ⟨w.heap.size, 0, none⟩ = some (.slice A n c) := by go_simp
  by_cases h0 : askI T [i] = 0
  · obtain ⟨hg, hir⟩ := askI_zero.1 h0
    have hir := hir i (by simp)
    obtain ⟨k, rfl⟩ := Int.eq_ofNat_of_zero_le hir.1
    have hk : k < n := by omega
    obtain ⟨b, off, aA, cA, aC, cC, rfl, hbl, -, -, c2, -, -, -⟩ := ho.out (by omega)
    have c2' := hide c2
    have hr : Hid (nearE T k = nearF T k) := if_pos h0
    have hg' := hide hg
    have h0' := hide h0
    have hq0 : (askI T [(k : Int)] != 0) = false := by simp [h0]
    clear hir hg h0 ho c2
    go_enter Try.func29, Try.ntmps29
    go_wp2_with fail
    refine (depth_ok _ _ _ T _ _ (hT.out.below hB0)).mono ?_
    rintro e w1 ⟨rfl, hb1⟩
    have hbox1 := cell_later hb1 hbox0
    have hB1 := Below.on hB0 hb1
    go_wp2
    clear hbox0 hb1 hB0
    go_loopw [1] (fun q wr => ∃ x : Int, q = .int .i64 x ∧ -1 ≤ x ∧ x < n ∧ Hid (nearF T x = nearF T k) ∧ Below w1.heap.size w1 wr) (fun q _ => (anc T (intOf q)).length)
    case atStart => exact ⟨k, rfl, by omega, by omega, rfl, Below.refl _ _⟩
    case round =>
      obtain ⟨x, rfl, hx1, hx2, hnr, hb⟩ := hrel
      have hBw := Below.on hB1 hb
      have hbx := cell_later hb hbox1
      by_cases hx : 0 ≤ x
      · obtain ⟨q, rfl⟩ := Int.eq_ofNat_of_zero_le hx
        have hq : q < n := by omega
        have hqT : q < T.length := by omega
        cases hlk : lkB T q
        · have hn2 := hide (near_no hg'.out hqT hlk)
          have hlk' := hide hlk
          have ht := hide (anc_cons hg'.out hqT)
          have hp := hide (good_par hg'.out hqT)
          clear hlk
          go_wp2_with fail
          refine (lis_ok _ _ _ T q _ (hT.out.below hBw) hq hg'.out).mono ?_
          rw [hlk'.out]
          rintro e w2 ⟨rfl, hb2⟩
          have hbx2 := cell_later hb2 hbx
          have gq := (old (Below.on hBw hb2) _ _ hbl).trans (c2'.out q hq)
          go_wp2
          go_roundw
          case rel => exact ⟨_, rfl, hp.out.1, by have := hp.out.2; omega, by show _ = _; rw [← hn2.out]; exact hnr.out, Below.on hb hb2⟩
          case measure => simp only [intOf]; rw [ht.out]; simp
        · have hn2 : Hid (nearF T k = q) := by show _ = _; rw [← hnr.out, near_yes hg'.out hqT hlk]
          have hlk' := hide hlk
          clear hlk
          go_wp2_with fail
          refine (lis_ok _ _ _ T q _ (hT.out.below hBw) hq hg'.out).mono ?_
          rw [hlk'.out]
          rintro e w2 ⟨rfl, hb2⟩
          go_wp2
          go_ret2
          exact ⟨ret_two (by rw [hr.out, hn2.out]) h0'.out.symm, Below.on hBw hb2⟩
      · obtain rfl : x = -1 := by omega
        have hn2 : Hid (nearF T k = -1) := by show _ = _; rw [← hnr.out, near_neg (by omega)]
        go_wp2
        go_ret2
        exact ⟨ret_two (by rw [hr.out, hn2.out]) h0'.out.symm, hBw⟩
  · have hr : Hid (nearE T i = 0) := if_neg h0
    have hq : (askI T [i] != 0) = true := by simp [h0]
    clear h0 ho
    go_enter Try.func29, Try.ntmps29
    go_wp2_with fail
    refine (depth_ok _ _ _ T _ _ (hT.out.below hB0)).mono ?_
    rintro e w1 ⟨rfl, hb1⟩
    have hbox1 := cell_later hb1 hbox0
    have hB1 := Below.on hB0 hb1
    go_wp2
    go_ret2
    exact ⟨ret_two hr.out.symm rfl, hB1⟩
end Go.Proofs.Ytfiiikbbiimdiaa
/- Walks: all links, by the program; values of attributes, links, nearest links, all links, by the reference. No condition but those of the inner functions. -/
namespace Go.Proofs.Ytfiiikbbiimdiaa
open Go.RowKit

theorem filt_succ (p : Int → Bool) (l : List Int) {k : Nat} (hk : k < l.length) : (l.take (k + 1)).filter p = (l.take k).filter p ++ (if p (ix l k) = true then [ix l k] else []) := by
  rw [take_snoc' l k hk, ← ix_get hk, List.filter_append]
  congr 1
  by_cases hb : p (ix l k) = true
  · rw [if_pos hb, List.filter_cons, if_pos hb]; rfl
  · rw [if_neg hb, List.filter_cons, if_neg hb]; rfl

set_option maxRecDepth 100000 in
set_option maxHeartbeats 1000000 in
theorem linkAll_ok (A : Option Addr) (n c : Nat) (T : List ANode) (i : Int) (w : World) (h : IsTree w A n T) :
    Calls Try.prog 31 #[.agg #[.slice A n c], .int .i64 i] w (MadeIntsR w (linksE T i) (askI T [i])) := by
  have hT := hide h
  have hl := h.1
  clear h
  have hB0 := below_alloc (Below.refl w.heap.size w) (.cells #[.slice A n c] 24)
  have hbox0 : (w.alloc (.cells #[.slice A n c] 24)).cell? ⟨w.heap.size, 0, none⟩ = some (.slice A n c) := by go_simp
  by_cases h0 : askI T [i] = 0
  · obtain ⟨hg, hir⟩ := askI_zero.1 h0
    have hir := hir i (by simp)
    obtain ⟨k, rfl⟩ := Int.eq_ofNat_of_zero_le hir.1
    have hk : k < n := by omega
    have hkT : k < T.length := by omega
    have hn64 : n ≤ 64 := by have := ((goodB_iff T).1 hg).2.1; omega
    have hpl : (preT T k).length ≤ n := by have := preT_len hg hkT; omega
    have hr : Hid (linksE T k = (preT T k).filter (fun x => lkB T x.toNat)) := if_pos h0
    have hmem : Hid (∀ j, j < (preT T k).length → ∃ r : Nat, ix (preT T k) j = r ∧ r < n) := fun j hj => by
      obtain ⟨y, h1, h2, _⟩ := pre_mem hg _ hkT (ix_mem (l := preT T k) hj); exact ⟨y, h1, by omega⟩
    have hg' := hide hg
    have h0' := hide h0
    clear hir hg h0
    go_enter Try.func31, Try.ntmps31
    go_wp2_with fail
    refine (listF_ok _ _ _ T _ _ (hT.out.below hB0) h0'.out).mono ?_
    rintro e w1 ⟨A1, c1, rfl, hI1, -, -, hb1⟩
    have hB1 := Below.on hB0 hb1
    have hbox1 := cell_later hb1 hbox0
    obtain ⟨l, hl2⟩ : ∃ l, preT T k = l := ⟨_, rfl⟩
    rw [hl2] at hI1 hpl hr hmem ⊢
    obtain ⟨m, hm⟩ : ∃ m, l.length = m := ⟨_, rfl⟩
    rw [hm] at hI1 hpl hmem ⊢
    have hm' := hide hm
    have hI1' := hide hI1
    have hlt1 : w.heap.size < w1.heap.size := cell_in hbox1
    clear hl2 hm hI1 hb1 hbox0 hB0
    go_wp2
    go_loopw [8, 22] (fun v s wr => ∃ j : Nat, j ≤ m ∧ s = .int .i64 j ∧ OwnI wr w1.heap.size v ((l.take j).filter (fun x => lkB T x.toNat)) ∧ Below w1.heap.size w1 wr) (fun _ s _ => m - (intOf s).toNat)
    case atStart => exact ⟨0, Nat.zero_le _, rfl, OwnI.nil _ _, Below.refl _ _⟩
    case round =>
      obtain ⟨j, hj, rfl, hown, hb⟩ := hrel
      have hBw := Below.on hB1 hb
      have hbx := cell_later hb hbox1
      have hsz : w1.heap.size ≤ wr.heap.size := hb.size
      have hfl : ((l.take j).filter (fun x => lkB T x.toNat)).length ≤ j := Nat.le_trans (List.length_filter_le _ _) (List.length_take_le _ _)
      by_cases hlt : j < m
      · obtain ⟨r, hr2, hrn⟩ := hmem.out j hlt
        obtain ⟨b3, off3, rfl, hbl3, hc3⟩ := hI1'.out.2.2 (by omega)
        have gk := (old hb _ _ hbl3).trans (hc3 j hlt)
        have hfs := hide (filt_succ (fun x => lkB T x.toNat) l (k := j) (by have := hm'.out; omega))
        rw [hr2] at gk
        have hr2' := hide hr2
        clear hr2 hc3
        cases hlk : lkB T r
        · have hf2 : Hid ((l.take (j + 1)).filter (fun x => lkB T x.toNat) = (l.take j).filter (fun x => lkB T x.toNat)) := by show _ = _; rw [hfs.out, hr2'.out]; simp [hlk]
          have hlk' := hide hlk
          clear hlk
          go_wp2_with fail
          refine (lis_ok _ _ _ T r _ (hT.out.below hBw) hrn hg'.out).mono ?_
          rw [hlk'.out]
          rintro e w2 ⟨rfl, hb2⟩
          have hown2 := hide (hown.below hb2)
          clear hown
          go_wp2
          go_roundw
          case rel => exact ⟨j + 1, by omega, by go_num, by rw [hf2.out]; exact hown2.out, Below.on hb hb2⟩
          case measure => simp [intOf]; omega
        · have hf2 : Hid ((l.take (j + 1)).filter (fun x => lkB T x.toNat) = (l.take j).filter (fun x => lkB T x.toNat) ++ [(r : Int)]) := by show _ = _; rw [hfs.out, hr2'.out]; simp [hlk]
          have hlk' := hide hlk
          clear hlk
          go_wp2_with fail
          refine (lis_ok _ _ _ T r _ (hT.out.below hBw) hrn hg'.out).mono ?_
          rw [hlk'.out]
          rintro e w2 ⟨rfl, hb2⟩
          have hown2 := hown.below hb2
          have hB2 := Below.on hb hb2
          have hsz2 : w1.heap.size ≤ w2.heap.size := hB2.size
          clear hown
          go_wp2_with (at_builtin; refine wpList_pushI rfl _ _ rfl hown2 r _ rfl rfl (by omega) hsz2 ?_)
          intro A5 c5 w5 hown5 hgr
          have hB5 := hgr.below (Nat.le_refl _) hB2
          have hown5' := hide hown5
          clear hgr hown5 hown2
          go_wp2
          go_roundw
          case rel => exact ⟨j + 1, by omega, by go_num, by rw [hf2.out]; exact hown5'.out, hB5⟩
          case measure => simp [intOf]; omega
      · obtain rfl : m = j := by omega
        have hfin : (l.take m).filter (fun x => lkB T x.toNat) = linksE T k := by rw [hr.out, ← hm'.out, List.take_length]
        rw [hfin] at hown hfl
        obtain ⟨A', c', rfl, -, -, hI'⟩ := hown.isInts (by omega)
        have hI2 := hide hI'
        clear hI' hown hfin
        go_wp2
        go_ret2
        rw [h0'.out]
        exact ⟨A', c', rfl, hI2.out, hBw⟩
  · have hr : Hid (linksE T i = []) := if_neg h0
    have hq : (askI T [i] != 0) = true := by simp [h0]
    have hle : Hid (listE T i = []) := if_neg h0
    clear h0
    go_enter Try.func31, Try.ntmps31
    go_wp2_with fail
    have hlo := list_ok _ _ c T i _ (hT.out.below hB0)
    rw [hle.out] at hlo
    refine hlo.mono ?_
    rintro e w1 ⟨A1, c1, rfl, -, -, -, hb1⟩
    clear hlo
    go_wp2
    go_ret2
    rw [hr.out]
    exact madeIntsR_nil (Below.on hB0 hb1)

set_option maxRecDepth 100000 in
set_option maxHeartbeats 1000000 in
theorem rgot_ok (A : Option Addr) (n c : Nat) (T : List ANode) (i : Nat) (s : ByteArray) (w : World) (h : IsTree w A n T) (hi : i < n) (hg : goodB T = true) :
    Calls Try.prog 62 #[.agg #[.slice A n c], .int .i64 i, .string s] w fun e w' => e = .returned (.tuple #[.string (getV T i s), .bool (hasA (atl T i) s)]) ∧ Below w.heap.size w w' := by
  have ho := hide h.2.2.2
  have hT := hide h
  have hl := h.1
  clear h
  have hB0 := below_alloc (Below.refl w.heap.size w) (.cells #[.slice A n c] 24)
  have hbox0 : (w.alloc (.cells #[.slice A n c] 24)).cell? ⟨w.heap.size, 0, none⟩ = some (.slice A n c) := by go_simp
  have q1 : askI T [(i : Int)] = 0 := askI_ok hg (by simp; omega)
  have he : getE T i s = if hasA (atl T i) s = true then 0 else 6 := by unfold getE; rw [if_pos q1, Int.toNat_natCast]
  have hv : getV T i s = if getE T i s = 0 then vl (atl T i) (lowA (atl T i) s) else .empty := by unfold getV; rw [Int.toNat_natCast]
  obtain ⟨b, off, aA, cA, aC, cC, rfl, hbl, -, c1, -, -, hA, -⟩ := ho.out (by omega)
  have c1' := hide (c1 i hi)
  have hA' := hide (hA i hi).1
  change Hid (w.cell? ⟨b, off + i * 4 + 1, none⟩ = some (Value.slice (aA i) (atl T i).length (aC i))) at c1'
  change Hid (IsAttrs w (aA i) (atl T i).length (atl T i)) at hA'
  generalize aA i = AA at c1' hA'
  generalize aC i = ac at c1'
  have hg' := hide hg
  obtain ⟨hs, h16⟩ := good_attrs hg (by omega : i < T.length)
  clear c1 hA ho hg q1
  cases hh : hasA (atl T i) s
  · have hr : Hid (getV T i s = .empty) := by show _ = _; rw [hv, he, hh]; rfl
    have hav : Hid (atV (atl T i) s = -1) := by show _ = _; unfold atV; rw [hh]; rfl
    clear he hv hs hh
    go_enter Try.func62, Try.ntmps62
    go_wp2_with fail
    refine (rattr_ok _ _ _ T i s _ (hT.out.below hB0) hi hg'.out).mono ?_
    rw [hav.out]
    rintro e w1 ⟨rfl, hb1⟩
    go_wp2
    go_ret2
    exact ⟨ret_sb hr.out.symm rfl, Below.on hB0 hb1⟩
  · have hr : Hid (getV T i s = vl (atl T i) (lowA (atl T i) s)) := by show _ = _; rw [hv, he, hh]; rfl
    have hav : Hid (atV (atl T i) s = (lowA (atl T i) s : Int)) := by show _ = _; unfold atV; rw [hh]; rfl
    have hat : lowA (atl T i) s < (atl T i).length := by unfold hasA at hh; simp at hh; exact hh.1
    generalize lowA (atl T i) s = p at *
    obtain ⟨ba, oa, rfl, hba, ca0, ca1⟩ := hA'.out.2.2.2 (by omega)
    have ca1' := hide (ca1 p hat)
    clear he hv hs hh ca0 ca1
    go_enter Try.func62, Try.ntmps62
    go_wp2_with fail
    refine (rattr_ok _ _ _ T i s _ (hT.out.below hB0) hi hg'.out).mono ?_
    rw [hav.out]
    rintro e w1 ⟨rfl, hb1⟩
    have hB1 := Below.on hB0 hb1
    have hbox1 := cell_later hb1 hbox0
    have g1 := (old hB1 _ _ hbl).trans c1'.out
    have g2 := (old hB1 _ _ hba).trans ca1'.out
    go_wp2
    go_ret2
    exact ⟨ret_sb hr.out.symm rfl, hB1⟩
end Go.Proofs.Ytfiiikbbiimdiaa
