/- Walks: what suits an attribute selector, by the program and by the reference. Conditions: texts of at most 400 and 1000 bytes; the variable of the library that strings.Contains reads holds a number. -/
import Derived.Test.YtmdccplhmniiiaaGreatShl
import Derived.Test.YtmdccplhmniiiaaGreatSo
import Derived.Test.YtmdccplhmniiiaaGreatFg
import Derived.Deep.CutBlock
import Derived.Deep.CutRange
namespace Go.Proofs.YtmdccplhmniiiaaGreat
open Go.RowKit

def SuitRel (w : World) (op : Int) (R : Bool) (v1 v5 : Value) (wx : World) : Prop :=
  ∃ V Q : ByteArray, v1 = .string V ∧ v5 = .string Q ∧ V.size ≤ 400 ∧ Q.size ≤ 1000 ∧ Hid (R = suitF op Q V) ∧ Below w.heap.size w wx ∧ wx.cell? ⟨w.heap.size, 2, none⟩ = some (.int .u8 op)
set_option maxRecDepth 100000 in
set_option maxHeartbeats 4000000 in
theorem suits_ok (k : Int) (nm : ByteArray) (op : Int) (vl : ByteArray) (fo : Bool) (a b : Int) (f : Bool) (LA : Option Addr) (ln lc : Nat) (v : ByteArray) (w : World) (hvl : vl.size ≤ 1000) (hv : v.size ≤ 400) (hm : HasMax w) :
    Calls Tryz.prog 65 #[.agg #[.int .u8 k, .string nm, .int .u8 op, .string vl, .bool fo, .int .i64 a, .int .i64 b, .bool f, .slice LA ln lc], .string v] w fun r w' => r = .returned (.bool (suitsF op vl fo v)) ∧ Below w.heap.size w w' := by
  have hm' := hide hm
  obtain ⟨R, hR0⟩ : ∃ R, suitsF op vl fo v = R := ⟨_, rfl⟩
  rw [hR0]
  have hR := hide hR0
  clear hm hR0
  go_enter Tryz.func65, Tryz.ntmps65
  go_upto_if 11 with (fail)
  go_cut [1, 5] from 12 to 15 (fun v1 v5 wx => SuitRel w op R v1 v5 wx)
  case first =>
    have hB0 := below_alloc (Below.refl w.heap.size w) (.cells #[.int .u8 k, .string nm, .int .u8 op, .string vl, .bool fo, .int .i64 a, .int .i64 b, .bool f, .slice LA ln lc] 42)
    have hop : (w.alloc (.cells #[.int .u8 k, .string nm, .int .u8 op, .string vl, .bool fo, .int .i64 a, .int .i64 b, .bool f, .slice LA ln lc] 42)).cell? ⟨w.heap.size, 2, none⟩ = some (.int .u8 op) := by go_simp
    cases fo
    · go_wp2_with fail
      go_meet
      exact ⟨v, vl, rfl, rfl, hv, hvl, hR.out.symm, hB0, hop⟩
    · go_wp2_with fail
      refine (fold_ok v _ (by omega)).mono ?_
      rintro e w1 ⟨rfl, hb1⟩
      have hB1 := Below.on hB0 hb1
      have hop1 := cell_later hb1 hop
      clear hb1 hop
      go_wp2_with fail
      refine (fold_ok vl _ (by omega)).mono ?_
      rintro e w2 ⟨rfl, hb2⟩
      have hB2 := Below.on hB1 hb2
      have hop2 := cell_later hb2 hop1
      go_wp2_with fail
      go_meet
      exact ⟨foldS v, foldS vl, rfl, rfl, by rw [foldS_size]; exact hv, by rw [foldS_size]; exact hvl, hR.out.symm, hB2, hop2⟩
  case rest =>
  obtain ⟨V, Q, rfl, rfl, hV, hQ, hs, hB, hop⟩ := hcut
  generalize wc = wx at *
  rcases (by omega : op = 0 ∨ op = 1 ∨ op = 2 ∨ op = 3 ∨ op = 4 ∨ op = 5 ∨ (¬ op = 0 ∧ ¬ op = 1 ∧ ¬ op = 2 ∧ ¬ op = 3 ∧ ¬ op = 4 ∧ ¬ op = 5)) with ho | ho | ho | ho | ho | ho | ⟨ho0, ho1, ho2, ho3, ho4, ho5⟩
  · subst ho
    have hr : Hid (suitF 0 Q V = true) := by show _ = _; rfl
    go_wp2
    go_ret
    exact ⟨ret_bool (hs.out.trans hr.out).symm, hB⟩
  · subst ho
    by_cases hq : V = Q
    · have hr : Hid (suitF 1 Q V = true) := by show _ = _; simp [suitF, hq]
      have hq' := str_eq hq
      clear hq
      go_wp2
      go_ret
      exact ⟨ret_bool (hs.out.trans hr.out).symm, hB⟩
    · have hr : Hid (suitF 1 Q V = false) := by show _ = _; simp [suitF, hq]
      have hq' := str_ne hq
      clear hq
      go_wp2
      go_ret
      exact ⟨ret_bool (hs.out.trans hr.out).symm, hB⟩
  · subst ho
    by_cases he : Q.size = 0
    · have hr : Hid (suitF 2 Q V = false) := by show _ = _; simp [suitF, he]
      have he' := (toList_nil Q).2 he
      have he2 : Q.toList.isEmpty = true := by rw [he']; rfl
      clear he
      go_wp2
      go_ret
      exact ⟨ret_bool (hs.out.trans hr.out).symm, hB⟩
    · have he' : ¬ Q.toList = [] := mt (toList_nil Q).1 he
      have he2 : Q.toList.isEmpty = false := by rw [List.isEmpty_eq_false_iff]; exact he'
      have hr : Hid (suitF 2 Q V = decide (Q ∈ wordsS V)) := by show _ = _; simp [suitF, he]
      have hw1 : wordsV V = wordsS V := if_neg (by omega)
      have hw2 : wordsE V = 0 := if_neg (by omega)
      clear he
      go_wp2_with fail
      have hx := Words_ok V wx (by omega)
      rw [hw1, hw2] at hx
      refine hx.mono ?_
      clear hx hw1 hw2
      rintro e w3 ⟨A3, c3, rfl, hI3, hb3⟩
      have hB3 := Below.on hB hb3
      have hI3' := hide hI3
      clear hB hop hb3 hI3
      go_wp2_with fail
      refine (contS_ok _ _ c3 (wordsS V) Q _ hI3'.out).mono ?_
      rintro e w4 ⟨rfl, rfl⟩
      have hB := hB3
      go_wp2
      go_ret
      exact ⟨ret_bool (hs.out.trans hr.out).symm, hB⟩
  · subst ho
    by_cases hq : V = Q
    · have hr : Hid (suitF 3 Q V = true) := by show _ = _; simp [suitF, hq]
      have hq' := str_eq hq
      clear hq
      go_wp2
      go_ret
      exact ⟨ret_bool (hs.out.trans hr.out).symm, hB⟩
    · have hr : Hid (suitF 3 Q V = Lib.hasPrefix V.data.toList (Q ++ dash).data.toList) := by show _ = _; simp [suitF, hq]
      have hq' := str_ne hq
      clear hq
      go_wp2_with fail
      refine (Tryz.strings_HasPrefix V (Q ++ dash) _).mono ?_
      rintro e w4 ⟨rfl, rfl⟩
      go_wp2
      go_ret
      exact ⟨ret_bool (hs.out.trans hr.out).symm, hB⟩
  · subst ho
    by_cases he : Q.size = 0
    · have hr : Hid (suitF 4 Q V = false) := by show _ = _; simp [suitF, he]
      have he' := (toList_nil Q).2 he
      have he2 : Q.toList.isEmpty = true := by rw [he']; rfl
      clear he
      go_wp2
      go_ret
      exact ⟨ret_bool (hs.out.trans hr.out).symm, hB⟩
    · have he' : ¬ Q.toList = [] := mt (toList_nil Q).1 he
      have he2 : Q.toList.isEmpty = false := by rw [List.isEmpty_eq_false_iff]; exact he'
      have hr : Hid (suitF 4 Q V = Lib.hasPrefix V.data.toList Q.data.toList) := by show _ = _; simp [suitF, he]
      clear he
      go_wp2_with fail
      refine (Tryz.strings_HasPrefix V Q _).mono ?_
      rintro e w4 ⟨rfl, rfl⟩
      go_wp2
      go_ret
      exact ⟨ret_bool (hs.out.trans hr.out).symm, hB⟩
  · subst ho
    by_cases he : Q.size = 0
    · have hr : Hid (suitF 5 Q V = false) := by show _ = _; simp [suitF, he]
      have he' := (toList_nil Q).2 he
      have he2 : Q.toList.isEmpty = true := by rw [he']; rfl
      clear he
      go_wp2
      go_ret
      exact ⟨ret_bool (hs.out.trans hr.out).symm, hB⟩
    · have he' : ¬ Q.toList = [] := mt (toList_nil Q).1 he
      have he2 : Q.toList.isEmpty = false := by rw [List.isEmpty_eq_false_iff]; exact he'
      have hr : Hid (suitF 5 Q V = Lib.hasSuffix V.data.toList Q.data.toList) := by show _ = _; simp [suitF, he]
      clear he
      go_wp2_with fail
      refine (Tryz.strings_HasSuffix V Q _ (by omega)).mono ?_
      rintro e w4 ⟨rfl, rfl⟩
      go_wp2
      go_ret
      exact ⟨ret_bool (hs.out.trans hr.out).symm, hB⟩
  · have e0 : (op == 0) = false := by simp [ho0]
    have e1 : (op == 1) = false := by simp [ho1]
    have e2 : (op == 2) = false := by simp [ho2]
    have e3 : (op == 3) = false := by simp [ho3]
    have e4 : (op == 4) = false := by simp [ho4]
    have e5 : (op == 5) = false := by simp [ho5]
    by_cases he : Q.size = 0
    · have hr : Hid (suitF op Q V = false) := by show _ = _; unfold suitF; rw [if_neg ho0, if_neg ho1, if_neg ho3, if_pos he]
      have he' := (toList_nil Q).2 he
      have he2 : Q.toList.isEmpty = true := by rw [he']; rfl
      clear he
      go_wp2
      go_ret
      exact ⟨ret_bool (hs.out.trans hr.out).symm, hB⟩
    · have he' : ¬ Q.toList = [] := mt (toList_nil Q).1 he
      have he2 : Q.toList.isEmpty = false := by rw [List.isEmpty_eq_false_iff]; exact he'
      have hr : Hid (suitF op Q V = Lib.contains V.data.toList Q.data.toList) := by show _ = _; unfold suitF; rw [if_neg ho0, if_neg ho1, if_neg ho3, if_neg he, if_neg ho2, if_neg ho4, if_neg ho5]
      clear he
      have hmx := hide (hm'.out.below hB)
      go_wp2_with fail
      refine (contStr_ok V Q _ (by omega) hmx.out).mono ?_
      rintro e w4 ⟨rfl, rfl⟩
      go_wp2
      go_ret
      exact ⟨ret_bool (hs.out.trans hr.out).symm, hB⟩
theorem dash_size (s : ByteArray) : (s ++ dash).size = s.size + 1 := by
  rw [ByteArray.size_append]; rfl
theorem word_size (v q : ByteArray) : q ∈ wordsS v → q.size ≠ 0 := by
  have hf : ∀ (out : List ByteArray) (cur : List UInt8), (∀ x ∈ out, x.size ≠ 0) → ∀ x ∈ finW out cur, x.size ≠ 0 := fun out cur h x hx => by
    unfold finW at hx
    split at hx
    · exact h x hx
    · rename_i hn
      rcases List.mem_append.1 hx with hx | hx
      · exact h x hx
      · rw [List.mem_singleton.1 hx, bs_size]
        intro h0
        exact hn (.inl (List.eq_nil_of_length_eq_zero h0))
  have hs : ∀ (l cur : List UInt8) (out : List ByteArray), (∀ x ∈ out, x.size ≠ 0) → ∀ x ∈ splitW l cur out, x.size ≠ 0 := by
    intro l
    induction l with
    | nil => intro cur out h; exact hf out cur h
    | cons c l ih =>
      intro cur out h
      unfold splitW
      split
      · exact ih _ _ (hf out cur h)
      · exact ih _ _ h
  exact hs _ _ _ (fun x hx => by simp at hx) q
end Go.Proofs.YtmdccplhmniiiaaGreat
