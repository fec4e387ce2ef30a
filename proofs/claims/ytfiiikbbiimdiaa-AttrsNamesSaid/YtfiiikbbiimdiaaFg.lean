/- Walks: words and classes, by the program and by the reference. Condition: texts of at most 1000 bytes. -/
import Derived.Test.YtfiiikbbiimdiaaFe
import Derived.Test.YtfiiikbbiimdiaaAb
namespace Go.Proofs.Ytfiiikbbiimdiaa
open Go.RowKit

def wordsE (s : ByteArray) : Int := if 400 < s.size then 28 else 0
def wordsV (s : ByteArray) : List ByteArray := if 400 < s.size then [] else wordsS s
/-- A list of texts and an error that come back. -/
def MadeStrsE (w : World) (xs : List ByteArray) (code : Int) (e : Ending) (w' : World) : Prop :=
  ∃ (A : Option Addr) (c : Nat), e = .returned (.tuple #[.slice A xs.length c, .int .i64 code]) ∧ IsStrs w' A xs.length xs ∧ Below w.heap.size w w'
theorem madeStrsE_nil {w w' : World} {code : Int} (hb : Below w.heap.size w w') : MadeStrsE w [] code (.returned (.tuple #[.slice none 0 0, .int .i64 code])) w' :=
  ⟨none, 0, rfl, ⟨rfl, by simp, fun h => absurd h (by simp)⟩, hb⟩

theorem Words_ok (s : ByteArray) (w : World) (hs : s.size ≤ 1000) : Calls Try.prog 17 #[.string s] w (MadeStrsE w (wordsV s) (wordsE s)) := by
  by_cases h : 400 < s.size
  · have h1 : wordsE s = 28 := if_pos h
    have h2 : wordsV s = [] := if_pos h
    rw [h1, h2]
    clear h1 h2
    go_enter Try.func17, Try.ntmps17
    go_wp2
    go_ret2
    exact madeStrsE_nil (Below.refl _ _)
  · have h1 : wordsE s = 0 := if_neg h
    have h2 : wordsV s = wordsS s := if_neg h
    rw [h1, h2]
    clear h1 h2
    go_enter Try.func17, Try.ntmps17
    go_wp2_with fail
    refine (words_ok s _ hs).mono ?_
    rintro e w1 ⟨A, c, rfl, hO, hI, hb⟩
    go_wp2
    go_ret2
    exact ⟨_, _, rfl, hI, hb⟩
theorem rWords_ok (s : ByteArray) (w : World) (hs : s.size ≤ 1000) : Calls Try.prog 18 #[.string s] w (MadeStrsE w (wordsV s) (wordsE s)) := by
  by_cases h : 400 < s.size
  · have h1 : wordsE s = 28 := if_pos h
    have h2 : wordsV s = [] := if_pos h
    rw [h1, h2]
    clear h1 h2
    go_enter Try.func18, Try.ntmps18
    go_wp2
    go_ret2
    exact madeStrsE_nil (Below.refl _ _)
  · have h1 : wordsE s = 0 := if_neg h
    have h2 : wordsV s = wordsS s := if_neg h
    rw [h1, h2]
    clear h1 h2
    go_enter Try.func18, Try.ntmps18
    go_wp2_with fail
    refine (split_ok s _ hs).mono ?_
    rintro e w1 ⟨A, c, rfl, hO, hI, hb⟩
    go_wp2
    go_ret2
    exact ⟨_, _, rfl, hI, hb⟩

def clsN : ByteArray := bs [99, 108, 97, 115, 115]
def clsB (T : List ANode) (i : Nat) (s : ByteArray) : Bool := decide (s ∈ wordsS (getV T i clsN))
def clsE (T : List ANode) (i : Int) (s : ByteArray) : Bool := if askI T [i] = 0 then clsB T i.toNat s else false
theorem words_empty : wordsS .empty = [] := by simp [wordsS, splitW, finW]
theorem good_vals {T : List ANode} (hg : goodB T = true) {i : Nat} (hi : i < T.length) : ∀ j, j < (atl T i).length → namedB (nm (atl T i) j) = true ∧ (vl (atl T i) j).size ≤ 400 := by
  have h := (((goodB_iff T).1 hg).2.2.1 i hi).2.1
  unfold attrsB at h
  simp only [Bool.and_eq_true, decide_eq_true_eq] at h
  exact fun j hj => ⟨(h.2 j hj).1, (h.2 j hj).2.1⟩
theorem getV_size {T : List ANode} (hg : goodB T = true) {i : Nat} (hi : i < T.length) (s : ByteArray) : (getV T i s).size ≤ 400 := by
  unfold getV
  split
  · rename_i h
    unfold getE at h
    split at h
    · split at h
      · rename_i h2
        rw [Int.toNat_natCast] at h2 ⊢
        unfold hasA at h2
        simp only [Bool.and_eq_true, decide_eq_true_eq] at h2
        exact (good_vals hg hi _ h2.1).2
      · cases h
    · rename_i h3; exact absurd h h3
  · decide

set_option maxRecDepth 100000 in
set_option maxHeartbeats 1000000 in
theorem classed_ok (A : Option Addr) (n c : Nat) (T : List ANode) (i : Nat) (s : ByteArray) (w : World) (h : IsTree w A n T) (hi : i < n) (hg : goodB T = true) :
    Calls Try.prog 58 #[.agg #[.slice A n c], .int .i64 i, .string s] w fun e w' => e = .returned (.bool (clsB T i s)) ∧ Below w.heap.size w w' := by
  have hz := getV_size hg (by have := h.1; omega : i < T.length) clsN
  have hT := hide h
  have hl := h.1
  clear h
  have hB0 := below_alloc (Below.refl w.heap.size w) (.cells #[.slice A n c] 24)
  have hbox0 : (w.alloc (.cells #[.slice A n c] 24)).cell? ⟨w.heap.size, 0, none⟩ = some (.slice A n c) := by go_simp
  have hg' := hide hg
  clear hg
  go_enter Try.func58, Try.ntmps58
  go_wp2_with fail
  refine (rgot_ok _ _ _ T i clsN _ (hT.out.below hB0) hi hg'.out).mono ?_
  rintro e w1 ⟨rfl, hb1⟩
  go_wp2_with fail
  refine (split_ok _ _ (by omega)).mono ?_
  rintro e w2 ⟨A2, c2, rfl, -, hI2, hb2⟩
  have hI2' := hide hI2
  clear hI2
  go_wp2_with fail
  refine (rin_ok _ _ _ _ s _ hI2'.out).mono ?_
  rintro e w3 ⟨rfl, rfl⟩
  go_wp2
  go_ret
  exact ⟨rfl, Below.on (Below.on hB0 hb1) hb2⟩

set_option maxRecDepth 100000 in
set_option maxHeartbeats 1000000 in
theorem rclass_ok (A : Option Addr) (n c : Nat) (T : List ANode) (i : Int) (s : ByteArray) (w : World) (h : IsTree w A n T) :
    Calls Try.prog 20 #[.agg #[.slice A n c], .int .i64 i, .string s] w fun e w' => e = .returned (.tuple #[.bool (clsE T i s), .int .i64 (askI T [i])]) ∧ Below w.heap.size w w' := by
  have hT := hide h
  have hl := h.1
  clear h
  have hB0 := below_alloc (Below.refl w.heap.size w) (.cells #[.slice A n c] 24)
  have hbox0 : (w.alloc (.cells #[.slice A n c] 24)).cell? ⟨w.heap.size, 0, none⟩ = some (.slice A n c) := by go_simp
  by_cases h0 : askI T [i] = 0
  · obtain ⟨hg, hir⟩ := askI_zero.1 h0
    have hir := hir i (by simp)
    obtain ⟨k, rfl⟩ := Int.eq_ofNat_of_zero_le hir.1
    have hk : k < n := by omega
    have hr : Hid (clsE T k s = clsB T k s) := by show _ = _; unfold clsE; rw [if_pos h0, Int.toNat_natCast]
    have hg' := hide hg
    have h0' := hide h0
    have hq0 : (askI T [(k : Int)] != 0) = false := by simp [h0]
    clear hir hg h0
    go_enter Try.func20, Try.ntmps20
    go_wp2_with fail
    refine (rasked_ok _ _ _ T _ _ (hT.out.below hB0)).mono ?_
    rintro e w1 ⟨rfl, hb1⟩
    have hbox1 := cell_later hb1 hbox0
    have hB1 := Below.on hB0 hb1
    go_wp2_with fail
    refine (classed_ok _ _ _ T k s _ (hT.out.below hB1) hk hg'.out).mono ?_
    rintro e w2 ⟨rfl, hb2⟩
    go_wp2
    go_ret2
    exact ⟨ret_bi hr.out.symm h0'.out.symm, Below.on hB1 hb2⟩
  · have hr : Hid (clsE T i s = false) := if_neg h0
    have hq : (askI T [i] != 0) = true := by simp [h0]
    clear h0
    go_enter Try.func20, Try.ntmps20
    go_wp2_with fail
    refine (rasked_ok _ _ _ T _ _ (hT.out.below hB0)).mono ?_
    rintro e w1 ⟨rfl, hb1⟩
    have hbox1 := cell_later hb1 hbox0
    have hB1 := Below.on hB0 hb1
    go_wp2_with fail
    refine (rasked_ok _ _ _ T _ _ (hT.out.below hB1)).mono ?_
    rintro e w2 ⟨rfl, hb2⟩
    have hbox2 := cell_later hb2 hbox1
    have hB2 := Below.on hB1 hb2
    go_wp2
    go_ret2
    exact ⟨ret_bi hr.out.symm rfl, hB2⟩

set_option maxRecDepth 100000 in
set_option maxHeartbeats 1000000 in
theorem class_ok (A : Option Addr) (n c : Nat) (T : List ANode) (i : Int) (s : ByteArray) (w : World) (h : IsTree w A n T) :
    Calls Try.prog 19 #[.agg #[.slice A n c], .int .i64 i, .string s] w fun e w' => e = .returned (.tuple #[.bool (clsE T i s), .int .i64 (askI T [i])]) ∧ Below w.heap.size w w' := by
  have ho := hide h.2.2.2
  have hT := hide h
  have hl := h.1
  clear h
  have hB0 := below_alloc (Below.refl w.heap.size w) (.cells #[.slice A n c] 24)
  have hbox0 : (w.alloc (.cells #[.slice A n c] 24)).cell? ⟨w.heap.size, 0, none⟩ = some (.slice A n c) := by go_simp
  by_cases h0 : askI T [i] = 0
  · obtain ⟨hg, hir⟩ := askI_zero.1 h0
    have hir := hir i (by simp)
    obtain ⟨k, rfl⟩ := Int.eq_ofNat_of_zero_le hir.1
    have hk : k < n := by omega
    obtain ⟨hs, h16⟩ := good_attrs hg (by omega : k < T.length)
    have hvs := getV_size hg (by omega : k < T.length) clsN
    obtain ⟨b, off, aA, cA, aC, cC, rfl, hbl, -, c1, -, -, hA, -⟩ := ho.out (by omega)
    have c1' := hide (c1 k hk)
    have hA' := hide (hA k hk).1
    change Hid (w.cell? ⟨b, off + k * 4 + 1, none⟩ = some (Value.slice (aA k) (atl T k).length (aC k))) at c1'
    change Hid (IsAttrs w (aA k) (atl T k).length (atl T k)) at hA'
    have hr1 : getE T k clsN = if hasA (atl T k) clsN = true then 0 else 6 := by unfold getE; rw [if_pos h0, Int.toNat_natCast]
    have hr2 : getV T k clsN = if getE T k clsN = 0 then vl (atl T k) (lowA (atl T k) clsN) else .empty := by unfold getV; rw [Int.toNat_natCast]
    have hq0 : (askI T [(k : Int)] != 0) = false := by simp [h0]
    have hr : clsE T k s = decide (s ∈ wordsS (getV T k clsN)) := by unfold clsE clsB; rw [if_pos h0, Int.toNat_natCast]
    have h0' := hide h0
    have hha : hasA (atl T k) clsN = true → lowA (atl T k) clsN < (atl T k).length := fun h => by unfold hasA at h; simp at h; exact h.1
    generalize aA k = AA at c1' hA'
    generalize aC k = ac at c1'
    generalize atl T k = l at *
    generalize hlow : lowA l clsN = at' at *
    have hlow' := hide hlow
    have hs' := hide hs
    clear hir hg c1 hA ho h0 hs hlow
    cases hh : hasA l clsN
    · have e1 : Hid (clsE T k s = false) := by show _ = _; rw [hr, hr2, hr1, hh]; simp [words_empty]
      have hh' := hide hh
      clear hh hha hr hr1 hr2
      go_enter Try.func19, Try.ntmps19
      go_wp2_with fail
      refine (acheck_ok _ _ _ T _ _ (hT.out.below hB0)).mono ?_
      rintro e w1 ⟨rfl, hb1⟩
      have hbox1 := cell_later hb1 hbox0
      have hB1 := Below.on hB0 hb1
      have g1 := (old hB1 _ _ hbl).trans c1'.out
      go_wp2_with fail
      have hf := find_ok AA l.length ac l clsN w1 (hA'.out.below hB1) hs'.out (by omega)
      rw [hlow'.out, hh'.out] at hf
      refine hf.mono ?_
      rintro e w2 ⟨rfl, hb2⟩
      clear hf
      go_wp2
      go_ret2
      exact ⟨ret_bi e1.out.symm h0'.out.symm, Below.on hB1 hb2⟩
    · have hat := hha hh
      have e2 : getV T k clsN = vl l at' := by rw [hr2, hr1, hh]; rfl
      have e1 : Hid (clsE T k s = decide (s ∈ wordsS (vl l at'))) := by show _ = _; rw [hr, e2]
      rw [e2] at hvs
      have hh' := hide hh
      obtain ⟨ba, oa, rfl, hba, ca0, ca1⟩ := hA'.out.2.2.2 (by omega)
      have ca1' := hide (ca1 at' hat)
      clear hh hha ca0 ca1 hr hr1 hr2 e2
      go_enter Try.func19, Try.ntmps19
      go_wp2_with fail
      refine (acheck_ok _ _ _ T _ _ (hT.out.below hB0)).mono ?_
      rintro e w1 ⟨rfl, hb1⟩
      have hbox1 := cell_later hb1 hbox0
      have hB1 := Below.on hB0 hb1
      have g1 := (old hB1 _ _ hbl).trans c1'.out
      go_wp2_with fail
      have hf := find_ok (some ⟨ba, oa, none⟩) l.length ac l clsN w1 (hA'.out.below hB1) hs'.out (by omega)
      rw [hlow'.out, hh'.out] at hf
      refine hf.mono ?_
      rintro e w2 ⟨rfl, hb2⟩
      have hB2 := Below.on hB1 hb2
      have hbox2 := cell_later hb2 hbox1
      have g2 := cell_later hb2 g1
      have g3 := (old hB2 _ _ hba).trans ca1'.out
      clear hf g1
      go_wp2_with fail
      refine (words_ok _ _ (by omega)).mono ?_
      rintro e w3 ⟨A3, c3, rfl, -, hI3, hb3⟩
      have hI3' := hide hI3
      clear hI3
      go_wp2_with fail
      refine (contS_ok _ _ _ _ s _ hI3'.out).mono ?_
      rintro e w4 ⟨rfl, rfl⟩
      go_wp2
      go_ret2
      exact ⟨ret_bi e1.out.symm h0'.out.symm, Below.on hB2 hb3⟩
  · have e1 : Hid (clsE T i s = false) := if_neg h0
    have hq : (askI T [i] != 0) = true := by simp [h0]
    clear h0 ho
    go_enter Try.func19, Try.ntmps19
    go_wp2_with fail
    refine (acheck_ok _ _ _ T _ _ (hT.out.below hB0)).mono ?_
    rintro e w1 ⟨rfl, hb1⟩
    have hbox1 := cell_later hb1 hbox0
    have hB1 := Below.on hB0 hb1
    go_wp2
    go_ret2
    exact ⟨ret_bi e1.out.symm rfl, hB1⟩
end Go.Proofs.Ytfiiikbbiimdiaa
