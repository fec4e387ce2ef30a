/- Walks: the check of a tree, by the program and by the reference. No condition. -/
import Derived.Test.YtbedomopojiehaaWc
namespace Go.Proofs.Ytbedomopojiehaa
open Go.RowKit

/-- The element that is some steps up, or a number below 0. -/
def up (T : List ANode) : Nat → Int → Int
  | 0, x => x
  | k + 1, x => if x < 0 then x else up T k (par T x.toNat)
def outB (T : List ANode) (i : Nat) : Bool := decide (up T T.length (i : Int) < 0)
def goodB (T : List ANode) : Bool :=
  decide (1 ≤ T.length) && decide (T.length ≤ 64) && decide (∀ i, i < T.length → namedB (nd T i).tag = true ∧ attrsB (nd T i).attrs = true ∧ linkedB T i = true) && decide (∀ i, i < T.length → outB T i = true)
theorem goodB_iff (T : List ANode) : goodB T = true ↔ 1 ≤ T.length ∧ T.length ≤ 64 ∧ (∀ i, i < T.length → namedB (nd T i).tag = true ∧ attrsB (nd T i).attrs = true ∧ linkedB T i = true) ∧ ∀ i, i < T.length → outB T i = true := by
  simp only [goodB, Bool.and_eq_true, decide_eq_true_eq, and_assoc]
/-- The error of a tree. -/
def chk (T : List ANode) : Int := if goodB T = true then 0 else 8

theorem up_succ (T : List ANode) (k : Nat) (x : Int) : up T (k + 1) x = if up T k x < 0 then up T k x else par T (up T k x).toNat := by
  induction k generalizing x with
  | zero => simp only [up]; rfl
  | succ k ih =>
    rw [up]
    split
    · rename_i h; rw [show up T (k + 1) x = x by simp [up, h]]; simp [h]
    · rename_i h; rw [ih]; simp [up, h]
theorem up_neg (T : List ANode) (k : Nat) (x : Int) (h : x < 0) : up T k x = x := by
  cases k <;> simp [up, h]
theorem up_add (T : List ANode) (j k : Nat) (x : Int) : up T (j + k) x = up T k (up T j x) := by
  induction j generalizing x with
  | zero => simp [up]
  | succ j ih =>
    rw [show j + 1 + k = (j + k) + 1 by omega, up, up]
    split
    · rename_i h; rw [up_neg _ _ _ h]
    · rw [ih]
theorem up_stay (T : List ANode) {j k : Nat} (hjk : j ≤ k) (x : Int) (h : up T j x < 0) : up T k x < 0 := by
  obtain ⟨d, rfl⟩ := Nat.exists_eq_add_of_le hjk
  rw [up_add, up_neg _ _ _ h]; exact h

theorem up_lt {T : List ANode} (hr : ∀ i, i < T.length → par T i < T.length) (m : Nat) (x : Int) (hx : x < T.length) : up T m x < T.length := by
  induction m generalizing x with
  | zero => exact hx
  | succ m ih =>
    rw [up]
    split
    · exact hx
    · exact ih _ (hr _ (by omega))

theorem chk_bad {T : List ANode} (h : ¬ goodB T = true) : chk T = 8 := by simp [chk, h]
theorem chk_ok {T : List ANode} (h : goodB T = true) : chk T = 0 := by simp [chk, h]

theorem cell_in {w : World} {p : Addr} {v : Value} (h : w.cell? p = some v) : p.block < w.heap.size := by
  rcases Nat.lt_or_ge p.block w.heap.size with h1 | h1
  · exact h1
  · exfalso
    simp [World.cell?, Array.getElem?_eq_none h1] at h

set_option maxHeartbeats 1000000 in
theorem check_ok (A : Option Addr) (n c : Nat) (T : List ANode) (w : World) (h : IsTree w A n T) :
    Calls Try.prog 90 #[.agg #[.slice A n c]] w fun e w' => e = .returned (.int .i64 (chk T)) ∧ Below w.heap.size w w' := by
  have hT := hide h
  obtain ⟨hl, hn, hs, ho⟩ := h
  by_cases hn1 : 1 ≤ n ∧ n ≤ 64
  · obtain ⟨hn1, hn2⟩ := hn1
    obtain ⟨b, off, aA, cA, aC, cC, rfl, hbl, c0, c1, c2, c3, hA, hC⟩ := ho (by omega)
    clear ho hs
    have c0' := hide c0
    have c1' := hide c1
    have c2' := hide c2
    have c3' := hide c3
    have hA' := hide hA
    have hT' := hide hT
    clear c0 c1 c2 c3 hA hC hT
    go_enter Try.func90, Try.ntmps90
    go_wp2
    go_loopw [21] (fun s wr => ∃ k : Nat, k ≤ n ∧ s = .int .i64 k ∧ Below w.heap.size w wr ∧ wr.cell? ⟨w.heap.size, 0, none⟩ = some (.slice (some ⟨b, off, none⟩) n c) ∧
        ∀ i, i < k → namedB (nd T i).tag = true ∧ attrsB (nd T i).attrs = true ∧ linkedB T i = true) (fun s _ => n - (intOf s).toNat)
    case atStart => exact ⟨0, Nat.zero_le _, rfl, below_alloc (Below.refl _ _) _, by go_simp, fun j hj => absurd hj (by omega)⟩
    case round =>
      obtain ⟨k, hk, rfl, hb, hbox, hne⟩ := hrel
      have hne' := hide hne
      clear hne
      by_cases hlt : k < n
      · have g0 := (old hb _ _ hbl).trans (c0'.out k hlt)
        have g1 := (old hb _ _ hbl).trans (c1'.out k hlt)
        have g2 := (old hb _ _ hbl).trans (c2'.out k hlt)
        have g3 := (old hb _ _ hbl).trans (c3'.out k hlt)
        have hbr : b < wr.heap.size := Nat.lt_of_lt_of_le hbl hb.size
        have hbw : w.heap.size < wr.heap.size := cell_in hbox
        have hsz1 : (nd T k).tag.size ≤ 9223372036854775807 := by
          have := hT'.out.out.2.2.1 (nd T k) (by unfold nd; rw [List.getD_eq_getElem?_getD, List.getElem?_eq_getElem (by omega)]; exact List.getElem_mem _)
          exact this
        have hgA := hide (hA'.out k hlt).1
        have hbad : Hid (¬ (namedB (nd T k).tag = true ∧ attrsB (nd T k).attrs = true ∧ linkedB T k = true) → chk T = 8) := fun hx => chk_bad fun hg => hx (((goodB_iff T).1 hg).2.2.1 k (by omega))
        cases h1 : namedB (nd T k).tag
        · have hr : Hid (chk T = 8) := hbad.out fun hx => by rw [h1] at hx; cases hx.1
          clear hbad
          go_wp2_with (go_at_call 97; refine (named_ok _ _ hsz1).mono ?_; rintro e w1 ⟨rfl, rfl⟩)
          go_ret
          exact ⟨ret_int hr.out.symm, below_alloc hb _⟩
        · cases h2 : attrsB (nd T k).attrs
          · have hr : Hid (chk T = 8) := hbad.out fun hx => by rw [h2] at hx; cases hx.2.1
            clear hbad
            go_wp2_with (first | (go_at_call 97; refine (named_ok _ _ hsz1).mono ?_; rintro e w1 ⟨rfl, rfl⟩) | (go_at_call 108; refine (attributes_ok _ _ _ _ _ (hgA.out.below (below_alloc hb _))).mono ?_; rintro e w1 ⟨rfl, hb1⟩))
            go_ret
            exact ⟨ret_int hr.out.symm, Below.on (below_alloc hb _) hb1⟩
          · cases h3 : linkedB T k
            · have hr : Hid (chk T = 8) := hbad.out fun hx => by rw [h3] at hx; cases hx.2.2
              clear hbad
              go_wp2_with (first | (go_at_call 97; refine (named_ok _ _ hsz1).mono ?_; rintro e w1 ⟨rfl, rfl⟩) | (go_at_call 108; refine (attributes_ok _ _ _ _ _ (hgA.out.below (below_alloc hb _))).mono ?_; rintro e w1 ⟨rfl, hb1⟩; have hbx := cell_later hb1 (a := ⟨w.heap.size, 0, none⟩) (v := .slice (some ⟨b, off, none⟩) n c) (by go_simp)) | (go_at_call 109; refine (linked_ok _ _ _ _ _ _ (hT'.out.out.below (Below.on (below_alloc hb _) hb1)) hlt hn2).mono ?_; rintro e w2 ⟨rfl, hb2⟩))
              go_ret
              exact ⟨ret_int hr.out.symm, Below.on (Below.on (below_alloc hb _) hb1) hb2⟩
            · clear hbad
              go_wp2_with (first | (go_at_call 97; refine (named_ok _ _ hsz1).mono ?_; rintro e w1 ⟨rfl, rfl⟩) | (go_at_call 108; refine (attributes_ok _ _ _ _ _ (hgA.out.below (below_alloc hb _))).mono ?_; rintro e w1 ⟨rfl, hb1⟩; have hbx := cell_later hb1 (a := ⟨w.heap.size, 0, none⟩) (v := .slice (some ⟨b, off, none⟩) n c) (by go_simp)) | (go_at_call 109; refine (linked_ok _ _ _ _ _ _ (hT'.out.out.below (Below.on (below_alloc hb _) hb1)) hlt hn2).mono ?_; rintro e w2 ⟨rfl, hb2⟩))
              go_roundw
              case rel => exact ⟨k + 1, by omega, by go_num, Below.on (Below.on (below_alloc hb _) hb1) hb2, cell_later hb2 hbx, fun j hj => by
                by_cases h : j = k
                · subst h; exact ⟨h1, h2, h3⟩
                · exact hne'.out j (by omega)⟩
              case measure => simp [intOf]; omega
      · have hall : Hid (∀ i, i < n → namedB (nd T i).tag = true ∧ attrsB (nd T i).attrs = true ∧ linkedB T i = true) := fun i hi => hne'.out i (by omega)
        have hrg : Hid (∀ i, i < T.length → par T i < T.length) := fun i hi => ((linkedB_iff T i).1 (hall.out i (by omega)).2.2).2.1
        clear hne'
        go_wp2
        go_loop [46] (fun s => ∃ k : Nat, k ≤ n ∧ s = .int .i64 k ∧ ∀ i, i < k → outB T i = true) (fun s => n - (intOf s).toNat)
        case atStart => exact ⟨0, Nat.zero_le _, rfl, fun j hj => absurd hj (by omega)⟩
        case round =>
          obtain ⟨i, hi, rfl, hne⟩ := hrel
          have hne' := hide hne
          clear hne
          by_cases hlt2 : i < n
          · go_wp2
            go_loop [6, 7] (fun s q => ∃ m : Nat, m ≤ n ∧ s = .int .i64 m ∧ q = .int .i64 (up T m i)) (fun s _ => n + 1 - (intOf s).toNat)
            case atStart => exact ⟨0, Nat.zero_le _, rfl, rfl⟩
            case round =>
              obtain ⟨m, hm, rfl, rfl⟩ := hrel
              have hul := up_lt hrg.out m i (by omega)
              by_cases hq : up T m i < 0
              · have hout : Hid (outB T i = true) := by
                  show outB T i = true
                  simp only [outB, decide_eq_true_eq]
                  exact up_stay T (by omega) _ hq
                go_wp2
                go_round
                case rel => exact ⟨i + 1, by omega, by go_num, fun j hj => by
                  by_cases h : j = i
                  · subst h; exact hout.out
                  · exact hne'.out j (by omega)⟩
                case measure => simp [intOf]; omega
              · obtain ⟨q, hqe⟩ := Int.eq_ofNat_of_zero_le (show 0 ≤ up T m i by omega)
                have hqn : q < n := by omega
                have hus := hide (up_succ T m i)
                have gq := (old hb _ _ hbl).trans (c2'.out q hqn)
                by_cases hmn : m < n
                · have hqe' := hide hqe
                  go_wp2
                  go_round
                  case rel => exact ⟨m + 1, by omega, by go_num, by rw [hus.out, if_neg (by rw [hqe'.out]; omega), hqe'.out]; rfl⟩
                  case measure => simp [intOf]; omega
                · have hr : Hid (chk T = 8) := chk_bad fun hg => by
                    have h1 := ((goodB_iff T).1 hg).2.2.2 i (by omega)
                    simp only [outB, decide_eq_true_eq] at h1
                    rw [show T.length = m by omega] at h1
                    omega
                  go_wp2
                  go_ret
                  exact ⟨ret_int hr.out.symm, hb⟩
          · have hr : Hid (chk T = 0) := chk_ok ((goodB_iff T).2 ⟨by omega, by omega, fun j hj => hall.out j (by omega), fun j hj => hne'.out j (by omega)⟩)
            go_wp2
            go_ret
            exact ⟨ret_int hr.out.symm, hb⟩
  · have hr : Hid (chk T = 8) := chk_bad fun hg => hn1 ⟨by have := ((goodB_iff T).1 hg).1; omega, by have := ((goodB_iff T).1 hg).2.1; omega⟩
    have hn1' : n < 1 ∨ 64 < n := by omega
    clear hn1 ho hs hT
    rcases hn1' with h | h
    · go_enter Try.func90, Try.ntmps90
      go_wp2
      go_ret
      exact ⟨ret_int hr.out.symm, below_alloc (Below.refl _ _) _⟩
    · go_enter Try.func90, Try.ntmps90
      go_wp2
      go_ret
      exact ⟨ret_int hr.out.symm, below_alloc (Below.refl _ _) _⟩
end Go.Proofs.Ytbedomopojiehaa
