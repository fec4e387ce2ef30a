/- Walks: the value of an attribute, by the program and by the reference. No condition but those of the inner functions. -/
import Derived.Test.YtbedomopojiehaaAa
import Derived.Test.YtbedomopojiehaaOe
namespace Go.Proofs.Ytbedomopojiehaa
open Go.RowKit

def atl (T : List ANode) (i : Nat) : List (ByteArray × ByteArray) := (nd T i).attrs
def getE (T : List ANode) (i : Int) (s : ByteArray) : Int := if askI T [i] = 0 then (if hasA (atl T i.toNat) s = true then 0 else 6) else askI T [i]
def getV (T : List ANode) (i : Int) (s : ByteArray) : ByteArray := if getE T i s = 0 then vl (atl T i.toNat) (lowA (atl T i.toNat) s) else .empty
theorem good_attrs {T : List ANode} (hg : goodB T = true) {i : Nat} (hi : i < T.length) : Sorted (atl T i) ∧ (atl T i).length ≤ 16 := by
  have h := (((goodB_iff T).1 hg).2.2.1 i hi).2.1
  refine ⟨sorted_attrs h, ?_⟩
  unfold attrsB at h
  simp only [Bool.and_eq_true, decide_eq_true_eq] at h
  exact h.1
theorem ret_si {k' : IntKind} {a b : ByteArray} {c d : Int} (h : a = b) (h' : c = d) : Ending.returned (.tuple #[.string a, .int k' c]) = .returned (.tuple #[.string b, .int k' d]) := by rw [h, h']
theorem ret_sb {a b : ByteArray} {c d : Bool} (h : a = b) (h' : c = d) : Ending.returned (.tuple #[.string a, .bool c]) = .returned (.tuple #[.string b, .bool d]) := by rw [h, h']

theorem acheck_ok (A : Option Addr) (n c : Nat) (T : List ANode) (i : Int) (w : World) (h : IsTree w A n T) :
    Calls Try.prog 74 #[.agg #[.slice A n c], .int .i64 i] w fun e w' => e = .returned (.int .i64 (askI T [i])) ∧ Below w.heap.size w w' := by
  have hT := hide h
  have hl := h.1
  clear h
  have hB0 := below_alloc (Below.refl w.heap.size w) (.cells #[.slice A n c] 43)
  have hbox0 : (w.alloc (.cells #[.slice A n c] 43)).cell? ⟨w.heap.size, 0, none⟩ = some (.slice A n c) := by go_simp
  by_cases hg : goodB T = true
  · have hc0 : chk T = 0 := chk_ok hg
    by_cases hr : 0 ≤ i ∧ i < n
    · have hq := hide (askI_ok hg (l := [i]) (by simp; omega))
      obtain ⟨k, rfl⟩ := Int.eq_ofNat_of_zero_le hr.1
      have hk : k < n := by omega
      clear hg hr
      go_enter Try.func74, Try.ntmps74
      go_wp2_with fail
      refine (check_ok _ _ _ T _ (hT.out.below hB0)).mono ?_
      rintro e w1 ⟨rfl, hb1⟩
      have hbox1 := cell_later hb1 hbox0
      have hB1 := Below.on hB0 hb1
      go_wp2
      go_ret
      exact ⟨ret_int hq.out.symm, hB1⟩
    · have hq := hide (askI_no hg i (by simp) (l := [i]) (by omega))
      have hr' : i < 0 ∨ (0 ≤ i ∧ (n : Int) ≤ i) := by omega
      clear hg hr
      rcases hr' with h1 | ⟨h1, h2⟩
      all_goals
        go_enter Try.func74, Try.ntmps74
        go_wp2_with fail
        refine (check_ok _ _ _ T _ (hT.out.below hB0)).mono ?_
        rintro e w1 ⟨rfl, hb1⟩
        have hbox1 := cell_later hb1 hbox0
        have hB1 := Below.on hB0 hb1
        go_wp2
        go_ret
        exact ⟨ret_int hq.out.symm, hB1⟩
  · have hc0 : chk T = 8 := chk_bad hg
    have hq := hide (askI_bad (l := [i]) hg)
    clear hg
    go_enter Try.func74, Try.ntmps74
    go_wp2_with fail
    refine (check_ok _ _ _ T _ (hT.out.below hB0)).mono ?_
    rintro e w1 ⟨rfl, hb1⟩
    have hbox1 := cell_later hb1 hbox0
    have hB1 := Below.on hB0 hb1
    go_wp2
    go_ret
    exact ⟨ret_int hq.out.symm, hB1⟩

set_option maxRecDepth 100000 in
set_option maxHeartbeats 1000000 in
theorem get_ok (A : Option Addr) (n c : Nat) (T : List ANode) (i : Int) (s : ByteArray) (w : World) (h : IsTree w A n T) :
    Calls Try.prog 51 #[.agg #[.slice A n c], .int .i64 i, .string s] w fun e w' => e = .returned (.tuple #[.string (getV T i s), .int .i64 (getE T i s)]) ∧ Below w.heap.size w w' := by
  have ho := hide h.2.2.2
  have hT := hide h
  have hl := h.1
  clear h
  have hB0 := below_alloc (Below.refl w.heap.size w) (.cells #[.slice A n c] 43)
  have hbox0 : (w.alloc (.cells #[.slice A n c] 43)).cell? ⟨w.heap.size, 0, none⟩ = some (.slice A n c) := by go_simp
  by_cases h0 : askI T [i] = 0
  · obtain ⟨hg, hir⟩ := askI_zero.1 h0
    have hir := hir i (by simp)
    obtain ⟨k, rfl⟩ := Int.eq_ofNat_of_zero_le hir.1
    have hk : k < n := by omega
    obtain ⟨hs, h16⟩ := good_attrs hg (by omega : k < T.length)
    obtain ⟨b, off, aA, cA, aC, cC, rfl, hbl, -, c1, -, -, hA, -⟩ := ho.out (by omega)
    have c1' := hide (c1 k hk)
    have hA' := hide (hA k hk).1
    have hcap : (nd T k).attrs.length ≤ aC k ∧ aC k ≤ 9223372036854775807 := (hA k hk).2
    change Hid (w.cell? ⟨b, off + k * 4 + 1, none⟩ = some (Value.slice (aA k) (atl T k).length (aC k))) at c1'
    change Hid (IsAttrs w (aA k) (atl T k).length (atl T k)) at hA'
    have hr1 : Hid (getE T k s = if hasA (atl T k) s = true then 0 else 6) := by show _ = _; unfold getE; rw [if_pos h0, Int.toNat_natCast]
    have hr2 : Hid (getV T k s = if getE T k s = 0 then vl (atl T k) (lowA (atl T k) s) else .empty) := by show _ = _; unfold getV; rw [Int.toNat_natCast]
    have hq0 : (askI T [(k : Int)] != 0) = false := by simp [h0]
    have hlo := (low_split hs s).1
    have hha : hasA (atl T k) s = true → lowA (atl T k) s < (atl T k).length := fun h => by unfold hasA at h; simp at h; exact h.1
    generalize aA k = AA at c1' hA'
    generalize aC k = ac at c1'
    generalize atl T k = l at *
    generalize hlow : lowA l s = at' at *
    have hlow' := hide hlow
    have hs' := hide hs
    clear hir hg c1 hA ho h0 hcap hs hlow
    cases hh : hasA l s
    · have e1 : Hid (getE T k s = 6) := by show _ = _; rw [hr1.out, hh]; rfl
      have e2 : Hid (getV T k s = .empty) := by show _ = _; rw [hr2.out, e1.out]; rfl
      have hh' := hide hh
      clear hh hha
      go_enter Try.func51, Try.ntmps51
      go_wp2_with fail
      refine (acheck_ok _ _ _ T _ _ (hT.out.below hB0)).mono ?_
      rintro e w1 ⟨rfl, hb1⟩
      have hbox1 := cell_later hb1 hbox0
      have hB1 := Below.on hB0 hb1
      have g1 := (old hB1 _ _ hbl).trans c1'.out
      go_wp2_with fail
      have hf := find_ok AA l.length ac l s w1 (hA'.out.below hB1) hs'.out (by omega)
      rw [hlow'.out, hh'.out] at hf
      refine hf.mono ?_
      rintro e w2 ⟨rfl, hb2⟩
      clear hf
      go_wp2
      go_ret2
      exact ⟨ret_si e2.out.symm e1.out.symm, Below.on hB1 hb2⟩
    · have hat := hha hh
      have e1 : Hid (getE T k s = 0) := by show _ = _; rw [hr1.out, hh]; rfl
      have e2 : Hid (getV T k s = vl l at') := by show _ = _; rw [hr2.out, e1.out, if_pos rfl]
      have hh' := hide hh
      obtain ⟨ba, oa, rfl, hba, ca0, ca1⟩ := hA'.out.2.2.2 (by omega)
      have ca1' := hide (ca1 at' hat)
      clear hh hha ca0 ca1
      go_enter Try.func51, Try.ntmps51
      go_wp2_with fail
      refine (acheck_ok _ _ _ T _ _ (hT.out.below hB0)).mono ?_
      rintro e w1 ⟨rfl, hb1⟩
      have hbox1 := cell_later hb1 hbox0
      have hB1 := Below.on hB0 hb1
      have g1 := (old hB1 _ _ hbl).trans c1'.out
      go_wp2_with fail
      have hf := find_ok (some ⟨ba, oa, none⟩) l.length ac l s w1 (hA'.out.below hB1) hs'.out (by omega)
      rw [hlow'.out, hh'.out] at hf
      refine hf.mono ?_
      rintro e w2 ⟨rfl, hb2⟩
      have hB2 := Below.on hB1 hb2
      have hbox2 := cell_later hb2 hbox1
      have g2 := cell_later hb2 g1
      have g3 := (old hB2 _ _ hba).trans ca1'.out
      clear hf g1
      go_wp2
      go_ret2
      exact ⟨ret_si e2.out.symm e1.out.symm, hB2⟩
  · have e1 : Hid (getE T i s = askI T [i]) := if_neg h0
    have e2 : Hid (getV T i s = .empty) := by show _ = _; unfold getV; rw [e1.out, if_neg h0]
    have hq : (askI T [i] != 0) = true := by simp [h0]
    clear h0 ho
    go_enter Try.func51, Try.ntmps51
    go_wp2_with fail
    refine (acheck_ok _ _ _ T _ _ (hT.out.below hB0)).mono ?_
    rintro e w1 ⟨rfl, hb1⟩
    have hbox1 := cell_later hb1 hbox0
    have hB1 := Below.on hB0 hb1
    go_wp2
    go_ret2
    exact ⟨ret_si e2.out.symm e1.out.symm, hB1⟩
end Go.Proofs.Ytbedomopojiehaa
