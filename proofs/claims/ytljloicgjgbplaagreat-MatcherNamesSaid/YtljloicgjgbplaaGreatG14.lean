/- Walks: the value of an attribute, by the program and by the reference. No condition but those of the inner functions. -/
import Derived.Test.YtljloicgjgbplaaGreatG06
import Derived.Test.YtljloicgjgbplaaGreatG13
import Derived.Deep.RegionHeld3
import Derived.Test.YtljloicgjgbplaaGreatG07
namespace Go.Proofs.YtljloicgjgbplaaGreat
open Go.RowKit

def atl (T : List ANode) (i : Nat) : List (ByteArray × ByteArray) := (nd T i).attrs
def getE (T : List ANode) (i : Int) (s : ByteArray) : Int := if askI T [i] = 0 then (if hasA (atl T i.toNat) s = true then 0 else 6) else askI T [i]
def getV (T : List ANode) (i : Int) (s : ByteArray) : ByteArray := if getE T i s = 0 then vl (atl T i.toNat) (lowA (atl T i.toNat) s) else .empty
theorem good_attrs {T : List ANode} (hg : goodB T = true) {i : Nat} (hi : i < T.length) : Sorted (atl T i) ∧ (atl T i).length ≤ 16 := by
  have h := (((goodB_iff T).1 hg).2.2.1 i hi).2.1
  refine ⟨sorted_attrs h, ?_⟩
  unfold attrsB at h
  simp only [Bool.and_eq_true, decide_eq_true_eq] at h
  exact h.1
theorem ret_si {k' : IntKind} {a b : ByteArray} {c d : Int} (h : a = b) (h' : c = d) : Ending.returned (.tuple #[.string a, .int k' c]) = .returned (.tuple #[.string b, .int k' d]) := by rw [h, h']
theorem ret_sb {a b : ByteArray} {c d : Bool} (h : a = b) (h' : c = d) : Ending.returned (.tuple #[.string a, .bool c]) = .returned (.tuple #[.string b, .bool d]) := by rw [h, h']

theorem acheck_ok (A : Option Addr) (n c : Nat) (T : List ANode) (i : Int) (w : World) (h : IsTree w A n T) :
    Calls Tryz.prog 86 #[.agg #[.slice A n c], .int .i64 i] w fun e w' => e = .returned (.int .i64 (askI T [i])) ∧ Below w.heap.size w w' := by
  have hT := hide h
  have hl := h.1
  clear h
  have hB0 := below_alloc (Below.refl w.heap.size w) (.cells #[.slice A n c] 24)
  have hbox0 : (w.alloc (.cells #[.slice A n c] 24)).cell? ⟨w.heap.size, 0, none⟩ = some (.slice A n c) := by go_simp
  by_cases hg : goodB T = true
  · have hc0 : chk T = 0 := chk_ok hg
    by_cases hr : 0 ≤ i ∧ i < n
    · have hq := hide (askI_ok hg (l := [i]) (by simp; omega))
      obtain ⟨k, rfl⟩ := Int.eq_ofNat_of_zero_le hr.1
      have hk : k < n := by omega
      clear hg hr
      go_enter Tryz.func86, Tryz.ntmps86
      go_wp2_with fail
      refine (check_ok _ _ _ T _ (hT.out.below hB0)).mono ?_
      rintro e w1 ⟨rfl, hb1⟩
      have hbox1 := cell_later hb1 hbox0
      have hB1 := Below.on hB0 hb1
      go_wp2
      go_ret
      exact ⟨ret_int hq.out.symm, hB1⟩
    · have hq := hide (askI_no hg i (by simp) (l := [i]) (by omega))
      have hr' : i < 0 ∨ (0 ≤ i ∧ (n : Int) ≤ i) := by omega
      clear hg hr
      rcases hr' with h1 | ⟨h1, h2⟩
      all_goals
        go_enter Tryz.func86, Tryz.ntmps86
        go_wp2_with fail
        refine (check_ok _ _ _ T _ (hT.out.below hB0)).mono ?_
        rintro e w1 ⟨rfl, hb1⟩
        have hbox1 := cell_later hb1 hbox0
        have hB1 := Below.on hB0 hb1
        go_wp2
        go_ret
        exact ⟨ret_int hq.out.symm, hB1⟩
  · have hc0 : chk T = 8 := chk_bad hg
    have hq := hide (askI_bad (l := [i]) hg)
    clear hg
    go_enter Tryz.func86, Tryz.ntmps86
    go_wp2_with fail
    refine (check_ok _ _ _ T _ (hT.out.below hB0)).mono ?_
    rintro e w1 ⟨rfl, hb1⟩
    have hbox1 := cell_later hb1 hbox0
    have hB1 := Below.on hB0 hb1
    go_wp2
    go_ret
    exact ⟨ret_int hq.out.symm, hB1⟩

set_option maxRecDepth 100000 in
set_option maxHeartbeats 1000000 in
theorem get_ok (A : Option Addr) (n c : Nat) (T : List ANode) (i : Int) (s : ByteArray) (w : World) (h : IsTree w A n T) :
    Calls Tryz.prog 68 #[.agg #[.slice A n c], .int .i64 i, .string s] w fun e w' => e = .returned (.tuple #[.string (getV T i s), .int .i64 (getE T i s)]) ∧ Below w.heap.size w w' := by
  have ho := hide h.2.2.2
  have hT := hide h
  have hl := h.1
  clear h
  have hB0 := below_alloc (Below.refl w.heap.size w) (.cells #[.slice A n c] 24)
  have hbox0 : (w.alloc (.cells #[.slice A n c] 24)).cell? ⟨w.heap.size, 0, none⟩ = some (.slice A n c) := by go_simp
  by_cases h0 : askI T [i] = 0
  · obtain ⟨hg, hir⟩ := askI_zero.1 h0
    have hir := hir i (by simp)
    obtain ⟨k, rfl⟩ := Int.eq_ofNat_of_zero_le hir.1
    have hk : k < n := by omega
    obtain ⟨hs, h16⟩ := good_attrs hg (by omega : k < T.length)
    obtain ⟨b, off, aA, cA, aC, cC, rfl, hbl, -, c1, -, -, hA, -⟩ := ho.out (by omega)
    have c1' := hide (c1 k hk)
    have hA' := hide (hA k hk).1
    have hcap : (nd T k).attrs.length ≤ aC k ∧ aC k ≤ 9223372036854775807 := (hA k hk).2
    change Hid (w.cell? ⟨b, off + k * 4 + 1, none⟩ = some (Value.slice (aA k) (atl T k).length (aC k))) at c1'
    change Hid (IsAttrs w (aA k) (atl T k).length (atl T k)) at hA'
    have hr1 : Hid (getE T k s = if hasA (atl T k) s = true then 0 else 6) := by show _ = _; unfold getE; rw [if_pos h0, Int.toNat_natCast]
    have hr2 : Hid (getV T k s = if getE T k s = 0 then vl (atl T k) (lowA (atl T k) s) else .empty) := by show _ = _; unfold getV; rw [Int.toNat_natCast]
    have hq0 : (askI T [(k : Int)] != 0) = false := by simp [h0]
    have hlo := (low_split hs s).1
    have hha : hasA (atl T k) s = true → lowA (atl T k) s < (atl T k).length := fun h => by unfold hasA at h; simp at h; exact h.1
    generalize aA k = AA at c1' hA'
    generalize aC k = ac at c1'
    generalize atl T k = l at *
    generalize hlow : lowA l s = at' at *
    have hlow' := hide hlow
    have hs' := hide hs
    clear hir hg c1 hA ho h0 hcap hs hlow
    cases hh : hasA l s
    · have e1 : Hid (getE T k s = 6) := by show _ = _; rw [hr1.out, hh]; rfl
      have e2 : Hid (getV T k s = .empty) := by show _ = _; rw [hr2.out, e1.out]; rfl
      have hh' := hide hh
      clear hh hha
      go_enter Tryz.func68, Tryz.ntmps68
      go_wp2_with fail
      refine (acheck_ok _ _ _ T _ _ (hT.out.below hB0)).mono ?_
      rintro e w1 ⟨rfl, hb1⟩
      have hbox1 := cell_later hb1 hbox0
      have hB1 := Below.on hB0 hb1
      have g1 := (old hB1 _ _ hbl).trans c1'.out
      go_wp2_with fail
      have hf := find_ok AA l.length ac l s w1 (hA'.out.below hB1) hs'.out (by omega)
      rw [hlow'.out, hh'.out] at hf
      refine hf.mono ?_
      rintro e w2 ⟨rfl, hb2⟩
      clear hf
      go_wp2
      go_ret2
      exact ⟨ret_si e2.out.symm e1.out.symm, Below.on hB1 hb2⟩
    · have hat := hha hh
      have e1 : Hid (getE T k s = 0) := by show _ = _; rw [hr1.out, hh]; rfl
      have e2 : Hid (getV T k s = vl l at') := by show _ = _; rw [hr2.out, e1.out, if_pos rfl]
      have hh' := hide hh
      obtain ⟨ba, oa, rfl, hba, ca0, ca1⟩ := hA'.out.2.2.2 (by omega)
      have ca1' := hide (ca1 at' hat)
      clear hh hha ca0 ca1
      go_enter Tryz.func68, Tryz.ntmps68
      go_wp2_with fail
      refine (acheck_ok _ _ _ T _ _ (hT.out.below hB0)).mono ?_
      rintro e w1 ⟨rfl, hb1⟩
      have hbox1 := cell_later hb1 hbox0
      have hB1 := Below.on hB0 hb1
      have g1 := (old hB1 _ _ hbl).trans c1'.out
      go_wp2_with fail
      have hf := find_ok (some ⟨ba, oa, none⟩) l.length ac l s w1 (hA'.out.below hB1) hs'.out (by omega)
      rw [hlow'.out, hh'.out] at hf
      refine hf.mono ?_
      rintro e w2 ⟨rfl, hb2⟩
      have hB2 := Below.on hB1 hb2
      have hbox2 := cell_later hb2 hbox1
      have g2 := cell_later hb2 g1
      have g3 := (old hB2 _ _ hba).trans ca1'.out
      clear hf g1
      go_wp2
      go_ret2
      exact ⟨ret_si e2.out.symm e1.out.symm, hB2⟩
  · have e1 : Hid (getE T i s = askI T [i]) := if_neg h0
    have e2 : Hid (getV T i s = .empty) := by show _ = _; unfold getV; rw [e1.out, if_neg h0]
    have hq : (askI T [i] != 0) = true := by simp [h0]
    clear h0 ho
    go_enter Tryz.func68, Tryz.ntmps68
    go_wp2_with fail
    refine (acheck_ok _ _ _ T _ _ (hT.out.below hB0)).mono ?_
    rintro e w1 ⟨rfl, hb1⟩
    have hbox1 := cell_later hb1 hbox0
    have hB1 := Below.on hB0 hb1
    go_wp2
    go_ret2
    exact ⟨ret_si e2.out.symm e1.out.symm, hB1⟩
end Go.Proofs.YtljloicgjgbplaaGreat
/- Walks: where an attribute is, by the reference; links, by the program and by the reference. No condition but those of the inner functions. -/
namespace Go.Proofs.YtljloicgjgbplaaGreat
open Go.RowKit

def atV (l : List (ByteArray × ByteArray)) (s : ByteArray) : Int := if hasA l s = true then (lowA l s : Int) else -1

set_option maxRecDepth 100000 in
set_option maxHeartbeats 1000000 in
theorem rattr_ok (A : Option Addr) (n c : Nat) (T : List ANode) (i : Nat) (s : ByteArray) (w : World) (h : IsTree w A n T) (hi : i < n) (hg : goodB T = true) :
    Calls Tryz.prog 62 #[.agg #[.slice A n c], .int .i64 i, .string s] w fun e w' => e = .returned (.int .i64 (atV (atl T i) s)) ∧ Below w.heap.size w w' := by
  have ho := hide h.2.2.2
  have hT := hide h
  have hl := h.1
  clear h
  have hB0 := below_alloc (Below.refl w.heap.size w) (.cells #[.slice A n c] 24)
  have hbox0 : (w.alloc (.cells #[.slice A n c] 24)).cell? ⟨w.heap.size, 0, none⟩ = some (.slice A n c) := by go_simp
  obtain ⟨hs, h16⟩ := good_attrs hg (by omega : i < T.length)
  obtain ⟨b, off, aA, cA, aC, cC, rfl, hbl, -, c1, -, -, hA, -⟩ := ho.out (by omega)
  have c1' := hide (c1 i hi)
  have hA' := hide (hA i hi).1
  change Hid (w.cell? ⟨b, off + i * 4 + 1, none⟩ = some (Value.slice (aA i) (atl T i).length (aC i))) at c1'
  change Hid (IsAttrs w (aA i) (atl T i).length (atl T i)) at hA'
  generalize aA i = AA at c1' hA'
  generalize aC i = ac at c1'
  generalize atl T i = l at *
  have hs' := hide hs
  obtain ⟨m, hm⟩ : ∃ m, l.length = m := ⟨_, rfl⟩
  rw [hm] at c1' hA' h16
  have hm' := hide hm
  clear c1 hA ho hg hs hm
  go_enter Tryz.func62, Tryz.ntmps62
  go_wp2
  go_loop [7] (fun x => ∃ k : Nat, k ≤ m ∧ x = .int .i64 k ∧ Hid (∀ j, j < k → nm l j ≠ s)) (fun x => m - (intOf x).toNat)
  case atStart => exact ⟨0, Nat.zero_le _, rfl, fun j hj => absurd hj (by omega)⟩
  case round =>
    obtain ⟨k, hk, rfl, hne⟩ := hrel
    have g1 := (old hB0 _ _ hbl).trans c1'.out
    by_cases hlt : k < m
    · obtain ⟨ba, oa, rfl, hba, ca0, -⟩ := hA'.out.2.2.2 (by omega)
      have g2 := (old hB0 _ _ hba).trans (ca0 k hlt)
      clear ca0
      by_cases he : nm l k = s
      · have hr : Hid (atV l s = k) := by
          show _ = _
          have := has_at hs'.out (j := k) (by have := hm'.out; omega)
          rw [he] at this
          unfold atV
          rw [if_pos this.2, this.1]
        have hq : ((nm l k).toList == s.toList) = true := by simp [he]
        clear he
        go_wp2
        go_ret
        exact ⟨ret_int hr.out.symm, hB0⟩
      · have hq : ((nm l k).toList == s.toList) = false := by
          rw [Bool.eq_false_iff]; intro h; exact he (toList_inj (by simpa using h))
        have he' := hide he
        clear he
        go_wp2
        go_round
        case rel => exact ⟨k + 1, by omega, by go_num, fun j hj => by
          by_cases h : j = k
          · subst h; exact he'.out
          · exact hne.out j (by omega)⟩
        case measure => simp [intOf]; omega
    · have hr : Hid (atV l s = -1) := by
        show _ = _
        unfold atV
        rw [if_neg]
        intro h
        obtain ⟨j, h1, h2⟩ := (hasA_iff hs'.out s).1 h
        exact hne.out j (by have := hm'.out; omega) h2
      go_wp2
      go_ret
      exact ⟨ret_int hr.out.symm, hB0⟩

def href : ByteArray := ⟨#[104, 114, 101, 102]⟩
/-- Whether an element of a good tree is a link. -/
def lkB (T : List ANode) (i : Nat) : Bool := hasA (atl T i) href && ((nd T i).tag.toList == ([97] : List UInt8))

set_option maxRecDepth 100000 in
set_option maxHeartbeats 1000000 in
theorem lis_ok (A : Option Addr) (n c : Nat) (T : List ANode) (i : Nat) (w : World) (h : IsTree w A n T) (hi : i < n) (hg : goodB T = true) :
    Calls Tryz.prog 85 #[.agg #[.slice A n c], .int .i64 i] w fun e w' => e = .returned (.bool (lkB T i)) ∧ Below w.heap.size w w' := by
  have ho := hide h.2.2.2
  have hT := hide h
  have hl := h.1
  clear h
  have hB0 := below_alloc (Below.refl w.heap.size w) (.cells #[.slice A n c] 24)
  have hbox0 : (w.alloc (.cells #[.slice A n c] 24)).cell? ⟨w.heap.size, 0, none⟩ = some (.slice A n c) := by go_simp
  have q1 : askI T [(i : Int)] = 0 := askI_ok hg (by simp; omega)
  have he : getE T i href = if hasA (atl T i) href = true then 0 else 6 := by unfold getE; rw [if_pos q1, Int.toNat_natCast]
  obtain ⟨b, off, aA, cA, aC, cC, rfl, hbl, c0, -, -, -, -, -⟩ := ho.out (by omega)
  have g0 := hide (c0 i hi)
  clear c0 ho hg q1
  cases hh : hasA (atl T i) href
  · have e1 : getE T i href = 6 := by rw [he, hh]; rfl
    have hr : Hid (lkB T i = false) := by show _ = _; unfold lkB; rw [hh]; rfl
    clear he hh
    go_enter Tryz.func85, Tryz.ntmps85
    go_wp2_with fail
    refine (get_ok _ _ _ T _ href _ (hT.out.below hB0)).mono ?_
    rintro e w1 ⟨rfl, hb1⟩
    have hbox1 := cell_later hb1 hbox0
    have hB1 := Below.on hB0 hb1
    go_wp2
    go_ret
    exact ⟨ret_bool hr.out.symm, hB1⟩
  · have e1 : getE T i href = 0 := by rw [he, hh]; rfl
    have hr : Hid (lkB T i = ((nd T i).tag.toList == ([97] : List UInt8))) := by show _ = _; unfold lkB; rw [hh]; rfl
    clear he hh
    go_enter Tryz.func85, Tryz.ntmps85
    go_wp2_with fail
    refine (get_ok _ _ _ T _ href _ (hT.out.below hB0)).mono ?_
    rintro e w1 ⟨rfl, hb1⟩
    have hbox1 := cell_later hb1 hbox0
    have hB1 := Below.on hB0 hb1
    have g1 := (old hB1 _ _ hbl).trans g0.out
    go_wp2
    go_ret
    exact ⟨ret_bool hr.out.symm, hB1⟩

set_option maxRecDepth 100000 in
set_option maxHeartbeats 1000000 in
theorem rlk_ok (A : Option Addr) (n c : Nat) (T : List ANode) (i : Nat) (w : World) (h : IsTree w A n T) (hi : i < n) (hg : goodB T = true) :
    Calls Tryz.prog 43 #[.agg #[.slice A n c], .int .i64 i] w fun e w' => e = .returned (.bool (lkB T i)) ∧ Below w.heap.size w w' := by
  have ho := hide h.2.2.2
  have hT := hide h
  have hl := h.1
  clear h
  have hB0 := below_alloc (Below.refl w.heap.size w) (.cells #[.slice A n c] 24)
  have hbox0 : (w.alloc (.cells #[.slice A n c] 24)).cell? ⟨w.heap.size, 0, none⟩ = some (.slice A n c) := by go_simp
  obtain ⟨b, off, aA, cA, aC, cC, rfl, hbl, c0, -, -, -, -, -⟩ := ho.out (by omega)
  have g0 := (old hB0 _ _ hbl).trans (c0 i hi)
  have hg' := hide hg
  clear c0 ho hg
  cases ht : ((nd T i).tag.toList == ([97] : List UInt8))
  · have hr : Hid (lkB T i = false) := by show _ = _; unfold lkB; rw [ht]; simp
    have ht' : ((nd T i).tag.toList == [97]) = false := ht
    clear ht
    go_enter Tryz.func43, Tryz.ntmps43
    go_wp2
    go_ret
    exact ⟨ret_bool hr.out.symm, hB0⟩
  · have hr : Hid (lkB T i = hasA (atl T i) href) := by show _ = _; unfold lkB; rw [ht]; simp
    have ht' : ((nd T i).tag.toList == [97]) = true := ht
    clear ht
    cases hh : hasA (atl T i) href
    · have hav : atV (atl T i) href = -1 := by unfold atV; rw [hh]; rfl
      have hav' := hide hav
      rw [hh] at hr
      clear hh hav
      go_enter Tryz.func43, Tryz.ntmps43
      go_wp2_with fail
      refine (rattr_ok _ _ _ T i href _ (hT.out.below hB0) hi hg'.out).mono ?_
      rw [hav'.out]
      rintro e w1 ⟨rfl, hb1⟩
      go_wp2
      go_ret
      exact ⟨ret_bool hr.out.symm, Below.on hB0 hb1⟩
    · have hav : atV (atl T i) href = (lowA (atl T i) href : Int) := by unfold atV; rw [hh]; rfl
      have hav' := hide hav
      rw [hh] at hr
      clear hh hav
      go_enter Tryz.func43, Tryz.ntmps43
      go_wp2_with fail
      refine (rattr_ok _ _ _ T i href _ (hT.out.below hB0) hi hg'.out).mono ?_
      rw [hav'.out]
      rintro e w1 ⟨rfl, hb1⟩
      go_wp2
      go_ret
      exact ⟨ret_bool hr.out.symm, Below.on hB0 hb1⟩
end Go.Proofs.YtljloicgjgbplaaGreat
/- Walks: links and the nearest one, by the program and by the reference. No condition but those of the inner functions. -/
namespace Go.Proofs.YtljloicgjgbplaaGreat
open Go.RowKit

section
variable {W : World} {ops : Array Oper} {rest : List Oper} {o : Oper} {a : Act} {Q : Exit → Act → World → Prop}
end

def isE (T : List ANode) (i : Int) : Bool := if askI T [i] = 0 then lkB T i.toNat else false
set_option maxRecDepth 100000 in
theorem linkIs_ok (A : Option Addr) (n c : Nat) (T : List ANode) (i : Int) (w : World) (h : IsTree w A n T) :
    Calls Tryz.prog 66 #[.agg #[.slice A n c], .int .i64 i] w fun e w' => e = .returned (.tuple #[.bool (isE T i), .int .i64 (askI T [i])]) ∧ Below w.heap.size w w' := by
  have hT := hide h
  have hl := h.1
  clear h
  have hB0 := below_alloc (Below.refl w.heap.size w) (.cells #[.slice A n c] 24)
  have hbox0 : (w.alloc (.cells #[.slice A n c] 24)).cell? ⟨w.heap.size, 0, none⟩ = some (.slice A n c) := by go_simp
  by_cases h0 : askI T [i] = 0
  · obtain ⟨hg, hir⟩ := askI_zero.1 h0
    have hir := hir i (by simp)
    obtain ⟨k, rfl⟩ := Int.eq_ofNat_of_zero_le hir.1
    have hk : k < n := by omega
    have hr : Hid (isE T k = lkB T k) := by show _ = _; unfold isE; rw [if_pos h0, Int.toNat_natCast]
    have hg' := hide hg
    have h0' := hide h0
    have hq0 : (askI T [(k : Int)] != 0) = false := by simp [h0]
    clear hir hg h0
    go_enter Tryz.func66, Tryz.ntmps66
    go_wp2_with fail
    refine (depth_ok _ _ _ T _ _ (hT.out.below hB0)).mono ?_
    rintro e w1 ⟨rfl, hb1⟩
    have hbox1 := cell_later hb1 hbox0
    have hB1 := Below.on hB0 hb1
    go_wp2_with fail
    refine (lis_ok _ _ _ T k _ (hT.out.below hB1) hk hg'.out).mono ?_
    rintro e w2 ⟨rfl, hb2⟩
    go_wp2
    go_ret2
    exact ⟨ret_bi hr.out.symm h0'.out.symm, Below.on hB1 hb2⟩
  · have hr : Hid (isE T i = false) := if_neg h0
    have hq : (askI T [i] != 0) = true := by simp [h0]
    clear h0
    go_enter Tryz.func66, Tryz.ntmps66
    go_wp2_with fail
    refine (depth_ok _ _ _ T _ _ (hT.out.below hB0)).mono ?_
    rintro e w1 ⟨rfl, hb1⟩
    have hbox1 := cell_later hb1 hbox0
    have hB1 := Below.on hB0 hb1
    go_wp2
    go_ret2
    exact ⟨ret_bi hr.out.symm rfl, hB1⟩

end Go.Proofs.YtljloicgjgbplaaGreat
/- Walks: all links, by the program; values of attributes, links, nearest links, all links, by the reference. No condition but those of the inner functions. -/
namespace Go.Proofs.YtljloicgjgbplaaGreat
open Go.RowKit

set_option maxRecDepth 100000 in
set_option maxHeartbeats 1000000 in
theorem rgot_ok (A : Option Addr) (n c : Nat) (T : List ANode) (i : Nat) (s : ByteArray) (w : World) (h : IsTree w A n T) (hi : i < n) (hg : goodB T = true) :
    Calls Tryz.prog 166 #[.agg #[.slice A n c], .int .i64 i, .string s] w fun e w' => e = .returned (.tuple #[.string (getV T i s), .bool (hasA (atl T i) s)]) ∧ Below w.heap.size w w' := by
  have ho := hide h.2.2.2
  have hT := hide h
  have hl := h.1
  clear h
  have hB0 := below_alloc (Below.refl w.heap.size w) (.cells #[.slice A n c] 24)
  have hbox0 : (w.alloc (.cells #[.slice A n c] 24)).cell? ⟨w.heap.size, 0, none⟩ = some (.slice A n c) := by go_simp
  have q1 : askI T [(i : Int)] = 0 := askI_ok hg (by simp; omega)
  have he : getE T i s = if hasA (atl T i) s = true then 0 else 6 := by unfold getE; rw [if_pos q1, Int.toNat_natCast]
  have hv : getV T i s = if getE T i s = 0 then vl (atl T i) (lowA (atl T i) s) else .empty := by unfold getV; rw [Int.toNat_natCast]
  obtain ⟨b, off, aA, cA, aC, cC, rfl, hbl, -, c1, -, -, hA, -⟩ := ho.out (by omega)
  have c1' := hide (c1 i hi)
  have hA' := hide (hA i hi).1
  change Hid (w.cell? ⟨b, off + i * 4 + 1, none⟩ = some (Value.slice (aA i) (atl T i).length (aC i))) at c1'
  change Hid (IsAttrs w (aA i) (atl T i).length (atl T i)) at hA'
  generalize aA i = AA at c1' hA'
  generalize aC i = ac at c1'
  have hg' := hide hg
  obtain ⟨hs, h16⟩ := good_attrs hg (by omega : i < T.length)
  clear c1 hA ho hg q1
  cases hh : hasA (atl T i) s
  · have hr : Hid (getV T i s = .empty) := by show _ = _; rw [hv, he, hh]; rfl
    have hav : Hid (atV (atl T i) s = -1) := by show _ = _; unfold atV; rw [hh]; rfl
    clear he hv hs hh
    go_enter Tryz.func166, Tryz.ntmps166
    go_wp2_with fail
    refine (rattr_ok _ _ _ T i s _ (hT.out.below hB0) hi hg'.out).mono ?_
    rw [hav.out]
    rintro e w1 ⟨rfl, hb1⟩
    go_wp2
    go_ret2
    exact ⟨ret_sb hr.out.symm rfl, Below.on hB0 hb1⟩
  · have hr : Hid (getV T i s = vl (atl T i) (lowA (atl T i) s)) := by show _ = _; rw [hv, he, hh]; rfl
    have hav : Hid (atV (atl T i) s = (lowA (atl T i) s : Int)) := by show _ = _; unfold atV; rw [hh]; rfl
    have hat : lowA (atl T i) s < (atl T i).length := by unfold hasA at hh; simp at hh; exact hh.1
    generalize lowA (atl T i) s = p at *
    obtain ⟨ba, oa, rfl, hba, ca0, ca1⟩ := hA'.out.2.2.2 (by omega)
    have ca1' := hide (ca1 p hat)
    clear he hv hs hh ca0 ca1
    go_enter Tryz.func166, Tryz.ntmps166
    go_wp2_with fail
    refine (rattr_ok _ _ _ T i s _ (hT.out.below hB0) hi hg'.out).mono ?_
    rw [hav.out]
    rintro e w1 ⟨rfl, hb1⟩
    have hB1 := Below.on hB0 hb1
    have hbox1 := cell_later hb1 hbox0
    have g1 := (old hB1 _ _ hbl).trans c1'.out
    have g2 := (old hB1 _ _ hba).trans ca1'.out
    go_wp2
    go_ret2
    exact ⟨ret_sb hr.out.symm rfl, hB1⟩
end Go.Proofs.YtljloicgjgbplaaGreat
/- Walks: words and classes, by the program and by the reference. Condition: texts of at most 1000 bytes. -/
namespace Go.Proofs.YtljloicgjgbplaaGreat
open Go.RowKit

def wordsE (s : ByteArray) : Int := if 400 < s.size then 28 else 0
def wordsV (s : ByteArray) : List ByteArray := if 400 < s.size then [] else wordsS s
/-- A list of texts and an error that come back. -/
def MadeStrsE (w : World) (xs : List ByteArray) (code : Int) (e : Ending) (w' : World) : Prop :=
  ∃ (A : Option Addr) (c : Nat), e = .returned (.tuple #[.slice A xs.length c, .int .i64 code]) ∧ IsStrs w' A xs.length xs ∧ Below w.heap.size w w'
theorem madeStrsE_nil {w w' : World} {code : Int} (hb : Below w.heap.size w w') : MadeStrsE w [] code (.returned (.tuple #[.slice none 0 0, .int .i64 code])) w' :=
  ⟨none, 0, rfl, ⟨rfl, by simp, fun h => absurd h (by simp)⟩, hb⟩

theorem Words_ok (s : ByteArray) (w : World) (hs : s.size ≤ 1000) : Calls Tryz.prog 92 #[.string s] w (MadeStrsE w (wordsV s) (wordsE s)) := by
  by_cases h : 400 < s.size
  · have h1 : wordsE s = 28 := if_pos h
    have h2 : wordsV s = [] := if_pos h
    rw [h1, h2]
    clear h1 h2
    go_enter Tryz.func92, Tryz.ntmps92
    go_wp2
    go_ret2
    exact madeStrsE_nil (Below.refl _ _)
  · have h1 : wordsE s = 0 := if_neg h
    have h2 : wordsV s = wordsS s := if_neg h
    rw [h1, h2]
    clear h1 h2
    go_enter Tryz.func92, Tryz.ntmps92
    go_wp2_with fail
    refine (words_ok s _ hs).mono ?_
    rintro e w1 ⟨A, c, rfl, hO, hI, hb⟩
    go_wp2
    go_ret2
    exact ⟨_, _, rfl, hI, hb⟩
def clsN : ByteArray := bs [99, 108, 97, 115, 115]
def clsB (T : List ANode) (i : Nat) (s : ByteArray) : Bool := decide (s ∈ wordsS (getV T i clsN))
def clsE (T : List ANode) (i : Int) (s : ByteArray) : Bool := if askI T [i] = 0 then clsB T i.toNat s else false
theorem words_empty : wordsS .empty = [] := by simp [wordsS, splitW, finW]
theorem good_vals {T : List ANode} (hg : goodB T = true) {i : Nat} (hi : i < T.length) : ∀ j, j < (atl T i).length → namedB (nm (atl T i) j) = true ∧ (vl (atl T i) j).size ≤ 400 := by
  have h := (((goodB_iff T).1 hg).2.2.1 i hi).2.1
  unfold attrsB at h
  simp only [Bool.and_eq_true, decide_eq_true_eq] at h
  exact fun j hj => ⟨(h.2 j hj).1, (h.2 j hj).2.1⟩
theorem getV_size {T : List ANode} (hg : goodB T = true) {i : Nat} (hi : i < T.length) (s : ByteArray) : (getV T i s).size ≤ 400 := by
  unfold getV
  split
  · rename_i h
    unfold getE at h
    split at h
    · split at h
      · rename_i h2
        rw [Int.toNat_natCast] at h2 ⊢
        unfold hasA at h2
        simp only [Bool.and_eq_true, decide_eq_true_eq] at h2
        exact (good_vals hg hi _ h2.1).2
      · cases h
    · rename_i h3; exact absurd h h3
  · decide

set_option maxRecDepth 100000 in
set_option maxHeartbeats 1000000 in
theorem classed_ok (A : Option Addr) (n c : Nat) (T : List ANode) (i : Nat) (s : ByteArray) (w : World) (h : IsTree w A n T) (hi : i < n) (hg : goodB T = true) :
    Calls Tryz.prog 167 #[.agg #[.slice A n c], .int .i64 i, .string s] w fun e w' => e = .returned (.bool (clsB T i s)) ∧ Below w.heap.size w w' := by
  have hz := getV_size hg (by have := h.1; omega : i < T.length) clsN
  have hT := hide h
  have hl := h.1
  clear h
  have hB0 := below_alloc (Below.refl w.heap.size w) (.cells #[.slice A n c] 24)
  have hbox0 : (w.alloc (.cells #[.slice A n c] 24)).cell? ⟨w.heap.size, 0, none⟩ = some (.slice A n c) := by go_simp
  have hg' := hide hg
  clear hg
  go_enter Tryz.func167, Tryz.ntmps167
  go_wp2_with fail
  refine (rgot_ok _ _ _ T i clsN _ (hT.out.below hB0) hi hg'.out).mono ?_
  rintro e w1 ⟨rfl, hb1⟩
  go_wp2_with fail
  refine (split_ok _ _ (by omega)).mono ?_
  rintro e w2 ⟨A2, c2, rfl, -, hI2, hb2⟩
  have hI2' := hide hI2
  clear hI2
  go_wp2_with fail
  refine (rin_ok _ _ _ _ s _ hI2'.out).mono ?_
  rintro e w3 ⟨rfl, rfl⟩
  go_wp2
  go_ret
  exact ⟨rfl, Below.on (Below.on hB0 hb1) hb2⟩

set_option maxRecDepth 100000 in
set_option maxHeartbeats 1000000 in
theorem class_ok (A : Option Addr) (n c : Nat) (T : List ANode) (i : Int) (s : ByteArray) (w : World) (h : IsTree w A n T) :
    Calls Tryz.prog 69 #[.agg #[.slice A n c], .int .i64 i, .string s] w fun e w' => e = .returned (.tuple #[.bool (clsE T i s), .int .i64 (askI T [i])]) ∧ Below w.heap.size w w' := by
  have ho := hide h.2.2.2
  have hT := hide h
  have hl := h.1
  clear h
  have hB0 := below_alloc (Below.refl w.heap.size w) (.cells #[.slice A n c] 24)
  have hbox0 : (w.alloc (.cells #[.slice A n c] 24)).cell? ⟨w.heap.size, 0, none⟩ = some (.slice A n c) := by go_simp
  by_cases h0 : askI T [i] = 0
  · obtain ⟨hg, hir⟩ := askI_zero.1 h0
    have hir := hir i (by simp)
    obtain ⟨k, rfl⟩ := Int.eq_ofNat_of_zero_le hir.1
    have hk : k < n := by omega
    obtain ⟨hs, h16⟩ := good_attrs hg (by omega : k < T.length)
    have hvs := getV_size hg (by omega : k < T.length) clsN
    obtain ⟨b, off, aA, cA, aC, cC, rfl, hbl, -, c1, -, -, hA, -⟩ := ho.out (by omega)
    have c1' := hide (c1 k hk)
    have hA' := hide (hA k hk).1
    change Hid (w.cell? ⟨b, off + k * 4 + 1, none⟩ = some (Value.slice (aA k) (atl T k).length (aC k))) at c1'
    change Hid (IsAttrs w (aA k) (atl T k).length (atl T k)) at hA'
    have hr1 : getE T k clsN = if hasA (atl T k) clsN = true then 0 else 6 := by unfold getE; rw [if_pos h0, Int.toNat_natCast]
    have hr2 : getV T k clsN = if getE T k clsN = 0 then vl (atl T k) (lowA (atl T k) clsN) else .empty := by unfold getV; rw [Int.toNat_natCast]
    have hq0 : (askI T [(k : Int)] != 0) = false := by simp [h0]
    have hr : clsE T k s = decide (s ∈ wordsS (getV T k clsN)) := by unfold clsE clsB; rw [if_pos h0, Int.toNat_natCast]
    have h0' := hide h0
    have hha : hasA (atl T k) clsN = true → lowA (atl T k) clsN < (atl T k).length := fun h => by unfold hasA at h; simp at h; exact h.1
    generalize aA k = AA at c1' hA'
    generalize aC k = ac at c1'
    generalize atl T k = l at *
    generalize hlow : lowA l clsN = at' at *
    have hlow' := hide hlow
    have hs' := hide hs
    clear hir hg c1 hA ho h0 hs hlow
    cases hh : hasA l clsN
    · have e1 : Hid (clsE T k s = false) := by show _ = _; rw [hr, hr2, hr1, hh]; simp [words_empty]
      have hh' := hide hh
      clear hh hha hr hr1 hr2
      go_enter Tryz.func69, Tryz.ntmps69
      go_wp2_with fail
      refine (acheck_ok _ _ _ T _ _ (hT.out.below hB0)).mono ?_
      rintro e w1 ⟨rfl, hb1⟩
      have hbox1 := cell_later hb1 hbox0
      have hB1 := Below.on hB0 hb1
      have g1 := (old hB1 _ _ hbl).trans c1'.out
      go_wp2_with fail
      have hf := find_ok AA l.length ac l clsN w1 (hA'.out.below hB1) hs'.out (by omega)
      rw [hlow'.out, hh'.out] at hf
      refine hf.mono ?_
      rintro e w2 ⟨rfl, hb2⟩
      clear hf
      go_wp2
      go_ret2
      exact ⟨ret_bi e1.out.symm h0'.out.symm, Below.on hB1 hb2⟩
    · have hat := hha hh
      have e2 : getV T k clsN = vl l at' := by rw [hr2, hr1, hh]; rfl
      have e1 : Hid (clsE T k s = decide (s ∈ wordsS (vl l at'))) := by show _ = _; rw [hr, e2]
      rw [e2] at hvs
      have hh' := hide hh
      obtain ⟨ba, oa, rfl, hba, ca0, ca1⟩ := hA'.out.2.2.2 (by omega)
      have ca1' := hide (ca1 at' hat)
      clear hh hha ca0 ca1 hr hr1 hr2 e2
      go_enter Tryz.func69, Tryz.ntmps69
      go_wp2_with fail
      refine (acheck_ok _ _ _ T _ _ (hT.out.below hB0)).mono ?_
      rintro e w1 ⟨rfl, hb1⟩
      have hbox1 := cell_later hb1 hbox0
      have hB1 := Below.on hB0 hb1
      have g1 := (old hB1 _ _ hbl).trans c1'.out
      go_wp2_with fail
      have hf := find_ok (some ⟨ba, oa, none⟩) l.length ac l clsN w1 (hA'.out.below hB1) hs'.out (by omega)
      rw [hlow'.out, hh'.out] at hf
      refine hf.mono ?_
      rintro e w2 ⟨rfl, hb2⟩
      have hB2 := Below.on hB1 hb2
      have hbox2 := cell_later hb2 hbox1
      have g2 := cell_later hb2 g1
      have g3 := (old hB2 _ _ hba).trans ca1'.out
      clear hf g1
      go_wp2_with fail
      refine (words_ok _ _ (by omega)).mono ?_
      rintro e w3 ⟨A3, c3, rfl, -, hI3, hb3⟩
      have hI3' := hide hI3
      clear hI3
      go_wp2_with fail
      refine (contS_ok _ _ _ _ s _ hI3'.out).mono ?_
      rintro e w4 ⟨rfl, rfl⟩
      go_wp2
      go_ret2
      exact ⟨ret_bi e1.out.symm h0'.out.symm, Below.on hB2 hb3⟩
  · have e1 : Hid (clsE T i s = false) := if_neg h0
    have hq : (askI T [i] != 0) = true := by simp [h0]
    clear h0 ho
    go_enter Tryz.func69, Tryz.ntmps69
    go_wp2_with fail
    refine (acheck_ok _ _ _ T _ _ (hT.out.below hB0)).mono ?_
    rintro e w1 ⟨rfl, hb1⟩
    have hbox1 := cell_later hb1 hbox0
    have hB1 := Below.on hB0 hb1
    go_wp2
    go_ret2
    exact ⟨ret_bi e1.out.symm rfl, hB1⟩
end Go.Proofs.YtljloicgjgbplaaGreat
