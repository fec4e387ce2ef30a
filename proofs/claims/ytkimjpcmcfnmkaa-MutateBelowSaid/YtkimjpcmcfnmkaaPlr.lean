/- Plain laws: what was put is taken out, what was taken out is put back. Conditions as each states. -/
import Derived.Test.YtkimjpcmcfnmkaaPlq
namespace Go.Proofs.Ytkimjpcmcfnmkaa
open Go.RowKit

section
variable {T : List ANode} {p k m : Nat}
theorem less1_less1 (l : List Int) (x : Int) : less1 (less1 l x) x = less1 l x := less1_none (less1_self l x)
/-- Taking out what was put gives what taking it out at first gives. -/
theorem taken_put (hp : p < T.length) (hk : k < T.length) (nx : Int) : takenT (putT T p k nx) k = takenT T k := by
  have hk' : k < (putT T p k nx).length := by rw [putT_len]; exact hk
  refine list_nd (by rw [takenT_len, takenT_len, putT_len]) fun j _ => ?_
  rw [nd_taken hk', nd_taken hk, nd_put hp hk, nd_put hp hk, kids_put hp hk, kids_put hp hk]
  have e : ∀ i, less1 (if i = p then insB (less1 (kids T p) k) k nx else less1 (kids T i) k) k = less1 (kids T i) k := fun i => by
    split
    · rename_i h; rw [h, less1_insB _ (less1_self _ _)]
    · exact less1_less1 _ _
  by_cases hjk : j = k
  · rw [if_pos hjk, if_pos hjk, e]
  · rw [if_neg hjk, if_neg hjk, if_neg hjk, e]; rfl
theorem insB_back {l : List Int} (hn : l.Nodup) {a : Nat} (ha : a < l.length) {x : Int} (hx : ix l a = x) {nx : Int} (h : (a + 1 < l.length ∧ nx = ix l (a + 1)) ∨ (a + 1 = l.length ∧ nx ∉ l)) : insB (less1 l x) x nx = l := by
  have hd : l.drop a = x :: l.drop (a + 1) := by rw [List.drop_eq_getElem_cons ha, ← ix_get ha, hx]
  have hsplit : l.take a ++ x :: l.drop (a + 1) = l := by rw [← hd, List.take_append_drop]
  have hn2 := hn
  rw [← hsplit, List.nodup_append] at hn2
  have hxt : x ∉ l.take a := fun h => hn2.2.2 _ h _ (by simp) rfl
  have hxd : x ∉ l.drop (a + 1) := (List.nodup_cons.1 hn2.2.1).1
  have hless : less1 l x = l.take a ++ l.drop (a + 1) := by
    have e2 := less1_none hxt
    have e3 := less1_none hxd
    have : less1 (l.take a ++ x :: l.drop (a + 1)) x = l.take a ++ l.drop (a + 1) := by
      unfold less1 at e2 e3 ⊢
      rw [List.filter_append, List.filter_cons, e2, e3]
      simp
    rwa [hsplit] at this
  have hta : (l.take a).length = a := by rw [List.length_take]; omega
  rcases h with ⟨h1, h2⟩ | ⟨h1, h2⟩
  · have hd2 : l.drop (a + 1) = nx :: l.drop (a + 1 + 1) := by rw [List.drop_eq_getElem_cons h1, ← ix_get h1, h2]
    have hnt : nx ∉ l.take a := fun h => hn2.2.2 _ h _ (by rw [hd2]; simp) rfl
    have hat : insAt (less1 l x) nx = a := by
      have hp : posn (less1 l x) nx = a := by
        refine posn_at ?_ ?_ ?_
        · rw [hless, List.length_append, hta, hd2]; simp
        · rw [hless, hd2]; unfold ix; rw [List.getD_eq_getElem?_getD, List.getElem?_append_right (by omega), hta]; simp
        · intro j hj e
          refine hnt ?_
          rw [← e, hless]
          unfold ix
          rw [List.getD_eq_getElem?_getD, List.getElem?_append_left (by omega), List.getElem?_eq_getElem (by omega)]
          exact List.getElem_mem _
      unfold insAt; rw [hp, if_neg (by omega)]; omega
    unfold insB
    rw [hat, hless, List.take_left' hta, List.drop_left' hta, List.append_assoc, List.singleton_append, hsplit]
  · have hno : nx ∉ less1 l x := fun h => h2 (less1_mem.1 h).1
    rw [insB_end hno, hless]
    have : l.drop (a + 1) = [] := List.drop_of_length_le (by omega)
    rw [this] at hsplit ⊢
    rw [List.append_nil]; exact hsplit
theorem kid_index (hg : goodB T = true) (hk : k < T.length) (hp : par T k = p) : ∃ a, a < (kids T p).length ∧ ix (kids T p) a = k ∧ ∀ j, j < a → ix (kids T p) j ≠ k := by
  have hm := par_kid hg hk (by omega)
  rw [hp, Int.toNat_natCast] at hm
  exact first_ix hm
theorem put_back (hg : goodB T = true) (hk : k < T.length) (hp : par T k = p) {a : Nat} (ha : a < (kids T p).length) (hx : ix (kids T p) a = k) {nx : Int} (h : (a + 1 < (kids T p).length ∧ nx = ix (kids T p) (a + 1)) ∨ (a + 1 = (kids T p).length ∧ nx = -1)) : putT (takenT T k) p k nx = T := by
  have hpl : p < T.length := by have := (good_par hg hk).2; omega
  have hno : ∀ i, i < T.length → i ≠ p → less1 (kids T i) k = kids T i := fun i hi hne => less1_none fun hmem => by
    obtain ⟨z, hz, -, hzp⟩ := good_kid hg hi hmem
    have : z = k := by omega
    subst this; omega
  have hneg : (-1 : Int) ∉ kids T p := fun h => by obtain ⟨z, hz, -, -⟩ := good_kid hg hpl h; omega
  have hb := insB_back (kids_nodup hg hpl) ha hx (nx := nx) (h.imp id fun ⟨h1, h2⟩ => ⟨h1, by rw [h2]; exact hneg⟩)
  refine list_nd (by rw [putT_len, takenT_len]) fun j hj => ?_
  rw [putT_len, takenT_len] at hj
  rw [nd_put (by rw [takenT_len]; exact hpl) (by rw [takenT_len]; exact hk), kids_taken hk, kids_taken hk, tag_taken hk, att_taken hk, par_taken hk, less1_less1, less1_less1, hb]
  have hkid : (if j = p then kids T p else less1 (kids T j) k) = kids T j := by
    split
    · rename_i e; rw [e]
    · rename_i e; exact hno j hj e
  rw [hkid]
  by_cases hjk : j = k
  · rw [if_pos hjk, hjk, ← hp]; rfl
  · rw [if_neg hjk, if_neg hjk]; rfl
/-- What is known of putting back. -/
theorem back_known (hg : goodB T = true) (hk : k < T.length) (hk1 : 1 ≤ k) (hp : par T k = p) : (appE (takenT T k) p k = 0 ∧ appT (takenT T k) p k = putT (takenT T k) p k (-1)) ∧
    ∀ z : Nat, (z : Int) ∈ kids T p → z ≠ k → befE (takenT T k) k z = 0 ∧ befT (takenT T k) k z = putT (takenT T k) p k z := by
  have hpl : p < T.length := by have := (good_par hg hk).2; omega
  have hgO := good_taken hg hk
  have hn : (k : Int) ∉ anc T p := by have := anc_self hg hk; rwa [hp] at this
  have hnO : (k : Int) ∉ anc (takenT T k) p := by
    rw [anc_keep hg hgO (takenT_len T k) hk (fun j _ hne => by rw [par_taken hk, if_neg hne]) (by omega)]; exact hn
  have hc : cycB (takenT T k) p k = false := by unfold cycB; exact decide_eq_false hnO
  have h0 : moveI (takenT T k) k p = 0 := moveI_ok hgO (by rw [takenT_len]; omega) (by rw [takenT_len]; omega)
  refine ⟨?_, fun z hz hne => ?_⟩
  · have he : appE (takenT T k) p k = 0 := by unfold appE putE; rw [if_pos h0, Int.toNat_natCast, Int.toNat_natCast, hc]; rfl
    exact ⟨he, (app_zero h0 he).2.1⟩
  · obtain ⟨y, hy, hyl, hyp⟩ := good_kid hg hpl hz
    have hzy : z = y := by omega
    subst hzy
    have h1 : moveI (takenT T k) k z = 0 := moveI_ok hgO (by rw [takenT_len]; omega) (by rw [takenT_len]; omega)
    have hpz : par (takenT T k) z = p := by rw [par_taken hk, if_neg hne]; exact hyp
    have he : befE (takenT T k) k z = 0 := by
      unfold befE putE
      rw [if_pos h1, Int.toNat_natCast, Int.toNat_natCast, if_neg (by omega), hpz, if_neg (by omega), Int.toNat_natCast, hc]; rfl
    obtain ⟨p', hp', -, -, -, hX, -⟩ := bef_zero h1 he
    have : p' = p := by omega
    subst this
    exact ⟨he, hX⟩
end
end Go.Proofs.Ytkimjpcmcfnmkaa
