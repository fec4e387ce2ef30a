/- Plain laws on partners and on the nearest way. Condition: the tree is good. -/
import Derived.Test.YtaliekkdamghbaaPcu
import Derived.Test.YtaliekkdamghbaaCx
import Derived.Test.YtaliekkdamghbaaLaws
namespace Go.Proofs.Ytaliekkdamghbaa
open Go.RowKit

theorem idx_le (x : Int) : ∀ (l : List Int) (j : Nat), j < l.length → ix l j = x → l.idxOf x ≤ j
  | [], _, hj, _ => absurd hj (by simp)
  | y :: ys, 0, _, hx => by
    have : y = x := hx
    subst this
    simp
  | y :: ys, j + 1, hj, hx => by
    have h1 := idx_le x ys j (by simpa using hj) (by simpa [ix] using hx)
    rw [List.idxOf_cons]
    cases h2 : (y == x)
    · simpa using h1
    · simp
theorem mem_take_posn {l : List Int} {x : Int} (hx : x ∈ l) (k : Nat) : x ∈ l.take k ↔ posn l x < k := by
  have h1 : l.idxOf x < l.length := List.idxOf_lt_length_iff.2 hx
  have h2 : posn l x = (l.idxOf x : Nat) := by unfold posn; rw [if_pos h1]
  rw [h2]
  constructor
  · intro h
    obtain ⟨j, hj, hjx⟩ := mem_ix h
    rw [List.length_take] at hj
    have hjx' : ix l j = x := by
      rw [← hjx]
      unfold ix
      rw [List.getD_eq_getElem?_getD, List.getD_eq_getElem?_getD, List.getElem?_take, if_pos (by omega)]
    have h3 := idx_le x l j (by omega) hjx'
    omega
  · intro h
    have h4 : ix (l.take k) (l.idxOf x) = x := by
      unfold ix
      rw [List.getD_eq_getElem?_getD, List.getElem?_take, if_pos (by omega), List.getElem?_eq_getElem h1]
      exact List.getElem_idxOf h1
    rw [← h4]
    exact ix_mem (by rw [List.length_take]; omega)
section
variable {T : List ANode} (hg : goodB T = true) {i p : Nat} (hi : i < T.length) (hp : p < T.length)
include hg hi
theorem prt_two (hp0 : 0 ≤ par T i) : prtF T i 2 = [par T i] := by
  obtain ⟨q, hq⟩ := Int.eq_ofNat_of_zero_le hp0
  have := (good_par hg hi).2
  show (anc T (par T i)).take 1 = _
  rw [hq, anc_cons hg (by omega)]
  rfl
include hp in
theorem prt1_iff : decide ((p : Int) ∈ prtF T i 1) = belE T i p := by rw [bel_iff hg hi hp]; rfl
theorem prt2_iff : decide ((p : Int) ∈ prtF T i 2) = decide (par T i = p) := by
  rw [decide_eq_decide]
  by_cases h0 : 0 ≤ par T i
  · rw [prt_two hg hi h0, List.mem_singleton]
    exact ⟨fun h => h.symm, fun h => h.symm⟩
  · have e : prtF T i 2 = [] := by show (anc T (par T i)).take 1 = _; rw [anc_neg (by omega)]; rfl
    rw [e]
    constructor
    · intro h; simp at h
    · intro h; omega
theorem prt3_iff : decide ((p : Int) ∈ prtF T i 3) = decide (besE T i (-1) = p) := by
  rw [decide_eq_decide]
  show (p : Int) ∈ (prevL T i).take 1 ↔ _
  rcases prevL_cons hg hi with ⟨h1, h2⟩ | ⟨q, h1, h2, h3⟩
  · rw [h2]
    constructor
    · intro h; simp at h
    · intro h; omega
  · rw [h3, h1]
    show (p : Int) ∈ [(q : Int)] ↔ _
    rw [List.mem_singleton]
    exact ⟨fun h => h.symm, fun h => h.symm⟩
include hp in
theorem prt4_iff : decide ((p : Int) ∈ prtF T i 4) = (decide (0 ≤ par T i) && decide (par T i = par T p) && decide (placeE T p < placeE T i)) := by
  have e1 : placeE T p = posn (sibs T p) p := by unfold placeE; rw [if_pos (askI_ok hg (by simp; omega)), Int.toNat_natCast]
  have e2 : placeE T i = posn (sibs T i) i := by unfold placeE; rw [if_pos (askI_ok hg (by simp; omega)), Int.toNat_natCast]
  rw [e1, e2, Bool.eq_iff_iff]
  simp only [Bool.and_eq_true, decide_eq_true_eq]
  show (p : Int) ∈ prevL T i ↔ _
  rw [prevL_at, List.mem_reverse]
  obtain ⟨x, hx, hxi, hxp⟩ := sibs_pos hg hi
  rw [hxp, Int.toNat_natCast]
  constructor
  · intro h
    have hm := List.mem_of_mem_take h
    obtain ⟨q, h1, h2, h3, h4⟩ := sibs_mem hg hi hm
    obtain rfl : p = q := by omega
    rw [mem_take_posn hm] at h
    rw [h3]
    refine ⟨⟨?_, h4.symm⟩, h⟩
    rcases (by omega : par T i < 0 ∨ 0 ≤ par T i) with h0 | h0
    · exfalso
      have e : sibs T i = [(i : Int)] := if_pos h0
      rw [e] at h hxp
      have : posn [(i : Int)] i = 0 := by simp [posn]
      have := (posn_lt [(i : Int)] p).1
      rw [e] at hm
      simp at hm
      have : p = i := by omega
      subst this
      omega
    · exact h0
  · rintro ⟨⟨h0, h1⟩, h2⟩
    have es : sibs T p = sibs T i := by unfold sibs; rw [if_neg (by omega), if_neg (by omega), h1]
    have hm : (p : Int) ∈ sibs T i := by rw [← es]; exact sibs_self hg hp
    rw [mem_take_posn hm, ← es]
    exact h2
end
/-- What is known of the nearest way. -/
theorem way_last (T : List ANode) (cs : List Int) (H : List (List Bool)) (q i : Nat) : ix (wayF T cs H q i) q = i := by
  cases q with
  | zero => rfl
  | succ q =>
    show ix (wayF T cs H q (stepF T cs H q i).toNat ++ [(i : Int)]) (q + 1) = i
    unfold ix
    rw [List.getD_eq_getElem?_getD, List.getElem?_append_right (by rw [wayF_len]; omega), wayF_len, Nat.sub_self]
    rfl
theorem ix_app_lt {xs ys : List Int} {k : Nat} (h : k < xs.length) : ix (xs ++ ys) k = ix xs k := by
  unfold ix
  rw [List.getD_eq_getElem?_getD, List.getD_eq_getElem?_getD, List.getElem?_append_left h]
theorem rch_hit {T : List ANode} {cs : List Int} {H : List (List Bool)} {q i : Nat} (h : rchF T cs H q i = true) : bx (rowB H q) i = true := by
  cases q with
  | zero => exact h
  | succ q =>
    have h2 : (bx (rowB H (q + 1)) i && _) = true := h
    rw [Bool.and_eq_true] at h2
    exact h2.1
theorem way_spec {T : List ANode} (hg : goodB T = true) {cs : List Int} {H : List (List Bool)} : ∀ q i, i < T.length → rchF T cs H q i = true → ∀ k, k ≤ q → ∃ p : Nat, ix (wayF T cs H q i) k = p ∧ p < T.length ∧ bx (rowB H k) p = true ∧
    (0 < k → ∃ p' : Nat, ix (wayF T cs H q i) (k - 1) = p' ∧ p' < T.length ∧ (p' : Int) ∈ prtF T p (ix cs (k - 1))) := by
  intro q
  induction q with
  | zero =>
    intro i hi h k hk
    obtain rfl : k = 0 := by omega
    exact ⟨i, rfl, hi, h, fun h => absurd h (by omega)⟩
  | succ q ih =>
    intro i hi h k hk
    obtain ⟨p, j, hs, hpl, hrp, -, hjl, hjx⟩ := step_ok hg hi h
    have hw := wayF_succ hs
    rw [hw]
    by_cases hkq : k ≤ q
    · obtain ⟨r, h1, h2, h3, h4⟩ := ih p hpl hrp k hkq
      refine ⟨r, by rw [ix_app_lt (by rw [wayF_len]; omega)]; exact h1, h2, h3, fun h0 => ?_⟩
      obtain ⟨p', h5, h6, h7⟩ := h4 h0
      exact ⟨p', by rw [ix_app_lt (by rw [wayF_len]; omega)]; exact h5, h6, h7⟩
    · obtain rfl : k = q + 1 := by omega
      have hl := way_last T cs H (q + 1) i
      rw [hw] at hl
      refine ⟨i, hl, hi, rch_hit h, fun _ => ⟨p, ?_, hpl, ?_⟩⟩
      · rw [Nat.add_sub_cancel, ix_app_lt (by rw [wayF_len]; omega)]
        exact way_last T cs H q p
      · rw [Nat.add_sub_cancel, ← hjx]
        exact ix_mem hjl
/-- One that does not match has no partner to which there is a way. -/
theorem no_way {T : List ANode} {cs : List Int} {H : List (List Bool)} {q i : Nat} (h : rchF T cs H (q + 1) i = false) (hb : bx (rowB H (q + 1)) i = true) {p : Nat} (hp : (p : Int) ∈ prtF T i (ix cs q)) : rchF T cs H q p = false := by
  have h2 : (bx (rowB H (q + 1)) i && (prtF T i (ix cs q)).any fun p => rchF T cs H q p.toNat) = false := h
  rw [hb, Bool.true_and, List.any_eq_false] at h2
  have := h2 _ hp
  rw [Int.toNat_natCast] at this
  simpa using this
end Go.Proofs.Ytaliekkdamghbaa
