/- Plain laws: where a moved element stands, and moving all children of an element one after the other. Conditions as each states. -/
import Derived.Test.YtkimjpcmcfnmkaaPlo
import Derived.Test.YtkimjpcmcfnmkaaMue
namespace Go.Proofs.Ytkimjpcmcfnmkaa
open Go.RowKit

theorem posn_none {l : List Int} {x : Int} (h : x ∉ l) : posn l x < 0 := by
  unfold posn; rw [if_neg (by rw [List.idxOf_lt_length_iff]; exact h)]; omega
theorem insB_end {l : List Int} {x nx : Int} (h : nx ∉ l) : insB l x nx = l ++ [x] := by
  unfold insB insAt
  rw [if_pos (posn_none h)]
  simp
theorem insB_at {l : List Int} {x nx : Int} (h : nx ∈ l) : ∃ a, a + 1 < (insB l x nx).length ∧ ix (insB l x nx) a = x ∧ ix (insB l x nx) (a + 1) = nx := by
  have hp := (posn_neg (xs := l) (x := nx)).2 h
  have hlt := posn_lt l nx
  have hlen := insB_len l x nx
  have hat := insAt_le l nx
  have hpx : posn l nx = l.idxOf nx := by unfold posn; rw [if_pos (List.idxOf_lt_length_iff.2 h)]
  have hax : insAt l nx = l.idxOf nx := by unfold insAt; rw [if_neg (by omega), hpx]; omega
  have hi := List.idxOf_lt_length_iff.2 h
  have hlt' : (l.take (insAt l nx)).length = insAt l nx := by rw [List.length_take]; omega
  have hget : l[insAt l nx]? = some nx := by
    rw [hax, List.getElem?_eq_getElem hi, List.getElem_idxOf hi]
  refine ⟨insAt l nx, by omega, ?_, ?_⟩
  · unfold ix insB
    rw [List.getD_eq_getElem?_getD, List.append_assoc, List.getElem?_append_right (by omega), hlt', Nat.sub_self]
    rfl
  · unfold ix insB
    rw [List.getD_eq_getElem?_getD, List.append_assoc, List.getElem?_append_right (by omega), hlt', show insAt l nx + 1 - insAt l nx = 0 + 1 by omega, List.singleton_append, List.getElem?_cons_succ, List.getElem?_drop, Nat.add_zero, hget]
    rfl

section
variable {T : List ANode} {m : Nat}
def rotT (T : List ANode) (m q : Nat) : List ANode := setK T m ((kids T m).drop q ++ (kids T m).take q)
theorem rotT_len (T : List ANode) (m q : Nat) : (rotT T m q).length = T.length := by unfold rotT setK; rw [List.length_set]
theorem nd_rot (hm : m < T.length) (q j : Nat) : nd (rotT T m q) j = if j = m then { nd T m with children := (kids T m).drop q ++ (kids T m).take q } else nd T j := by
  unfold rotT setK; exact nd_set hm _ _
theorem rot_zero (hm : m < T.length) : rotT T m 0 = T := by
  refine list_nd (rotT_len T m 0) fun j _ => ?_
  rw [nd_rot hm]
  split
  · rename_i h; subst h; simp [kids]
  · rfl
theorem rot_all (hm : m < T.length) : rotT T m (kids T m).length = T := by
  refine list_nd (rotT_len T m _) fun j _ => ?_
  rw [nd_rot hm]
  split
  · rename_i h; subst h; simp [kids]
  · rfl
theorem par_rot (hm : m < T.length) (q j : Nat) : par (rotT T m q) j = par T j := by
  unfold par; rw [nd_rot hm]; split
  · rename_i h; subst h; rfl
  · rfl
theorem rot_step (hg : goodB T = true) (hm : m < T.length) {q : Nat} (hq : q < (kids T m).length) (hgq : goodB (rotT T m q) = true) : ∃ y : Nat, ix (kids T m) q = (y : Int) ∧ appE (rotT T m q) m y = 0 ∧ appT (rotT T m q) m y = rotT T m (q + 1) ∧ goodB (rotT T m (q + 1)) = true := by
  obtain ⟨y, hy, hyl, hyp⟩ := good_kid hg hm (ix_mem hq)
  have hnd := kids_nodup hg hm
  have hy1 : 1 ≤ y := by
    rcases Nat.eq_zero_or_pos y with h | h
    · have := ((linkedB_iff T 0).1 (((goodB_iff T).1 hg).2.2.1 0 (by omega)).2.2).2.2.1 rfl
      rw [h, this] at hyp
      omega
    · exact h
  have h0 : moveI (rotT T m q) y m = 0 := moveI_ok hgq (by rw [rotT_len]; omega) (by rw [rotT_len]; omega)
  have hcy : (y : Int) ∉ anc (rotT T m q) m := by
    have := anc_self hgq (i := y) (by rw [rotT_len]; exact hyl)
    rw [par_rot hm, hyp] at this
    exact this
  have hym : y ≠ m := fun e => by
    subst e
    exact hcy (anc_self_mem hgq (by rw [rotT_len]; exact hyl))
  have hc : cycB (rotT T m q) m y = false := by unfold cycB; exact decide_eq_false hcy
  have he : appE (rotT T m q) m y = 0 := by unfold appE putE; rw [if_pos h0, Int.toNat_natCast, Int.toNat_natCast, hc]; rfl
  have hgp := good_put hgq (p := m) (k := y) (by rw [rotT_len]; exact hm) (by rw [rotT_len]; exact hyl) hy1 (-1) hcy
  have hdrop : (kids T m).drop q = (y : Int) :: (kids T m).drop (q + 1) := by
    rw [List.drop_eq_getElem_cons hq, ← ix_get hq, hy]
  have hsplit : (kids T m).take q ++ (y : Int) :: (kids T m).drop (q + 1) = kids T m := by rw [← hdrop, List.take_append_drop]
  have hnd2 := hnd
  rw [← hsplit, List.nodup_append] at hnd2
  have hyt : (y : Int) ∉ (kids T m).take q := fun h => hnd2.2.2 _ h _ (by simp) rfl
  have hyd : (y : Int) ∉ (kids T m).drop (q + 1) := (List.nodup_cons.1 hnd2.2.1).1
  have hno : ∀ i, i < T.length → i ≠ m → less1 (kids T i) y = kids T i := fun i hi hne => less1_none fun hmem => by
    obtain ⟨z, hz, -, hzp⟩ := good_kid hg hi hmem
    have : z = y := by omega
    subst this; omega
  have hX : putT (rotT T m q) m y (-1) = rotT T m (q + 1) := by
    refine list_nd (by rw [putT_len, rotT_len, rotT_len]) fun j hj => ?_
    rw [putT_len, rotT_len] at hj
    rw [nd_put (by rw [rotT_len]; exact hm) (by rw [rotT_len]; exact hyl), nd_rot hm (q + 1), par_rot hm]
    have hkm : kids (rotT T m q) m = (kids T m).drop q ++ (kids T m).take q := by unfold kids; rw [nd_rot hm, if_pos rfl]; rfl
    have hk2 : ∀ i, i ≠ m → kids (rotT T m q) i = kids T i := fun i hi => by unfold kids; rw [nd_rot hm, if_neg hi]
    by_cases hjm : j = m
    · subst hjm
      rw [if_neg (by omega), if_pos rfl, if_pos rfl, hkm, nd_rot hm, if_pos rfl]
      have e1 : less1 ((kids T j).drop q ++ (kids T j).take q) y = (kids T j).drop (q + 1) ++ (kids T j).take q := by
        rw [hdrop]
        have e2 := less1_none hyt
        have e3 := less1_none hyd
        unfold less1 at e2 e3 ⊢
        rw [List.filter_append, List.filter_cons, e2, e3]
        simp
      have e4 : insB ((kids T j).drop (q + 1) ++ (kids T j).take q) y (-1) = (kids T j).drop (q + 1) ++ (kids T j).take (q + 1) := by
        rw [insB_end, take_snoc' _ q hq, ← ix_get hq, hy, List.append_assoc]
        intro h
        have hk : (-1 : Int) ∈ kids T j := by
          rcases List.mem_append.1 h with h | h
          · exact List.mem_of_mem_drop h
          · exact List.mem_of_mem_take h
        obtain ⟨z, hz, -, -⟩ := good_kid hg hj hk
        omega
      rw [e1, e4]
      rfl
    · rw [if_neg hjm, if_neg hjm, hk2 j hjm, hno j hj hjm, nd_rot hm, if_neg hjm]
      by_cases hjy : j = y
      · subst hjy; rw [if_pos rfl, ← hyp]; rfl
      · rw [if_neg hjy]; rfl
  refine ⟨y, hy, he, ?_, by rw [← hX]; exact hgp⟩
  rw [(app_zero h0 he).2.1, hX]
theorem good_rot (hg : goodB T = true) (hm : m < T.length) : ∀ q, q ≤ (kids T m).length → goodB (rotT T m q) = true
  | 0, _ => by rw [rot_zero hm]; exact hg
  | q + 1, h => by
    obtain ⟨_, _, _, _, h2⟩ := rot_step hg hm (by omega) (good_rot hg hm q (by omega))
    exact h2
end
end Go.Proofs.Ytkimjpcmcfnmkaa
