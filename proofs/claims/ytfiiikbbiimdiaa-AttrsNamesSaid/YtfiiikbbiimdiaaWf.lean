/- Walks: the top, being below, the depth, by the program. No condition. -/
import Derived.Test.YtfiiikbbiimdiaaWa
namespace Go.Proofs.Ytfiiikbbiimdiaa
open Go.RowKit

theorem isInts_build1 (W : World) (g : Nat) (t : TypeId) (x : Int) (hg : g = W.heap.size) : IsInts (W.alloc (.cells #[.int .i64 x] t)) (some ⟨g, 0, none⟩) 1 [x] := by
  subst hg
  refine ⟨rfl, by omega, fun _ => ⟨_, _, rfl, by simp, fun j hj => ?_⟩⟩
  obtain rfl : j = 0 := by omega
  simp [ix]
theorem isInts_build2 (W : World) (g : Nat) (t : TypeId) (x y : Int) (hg : g = W.heap.size) : IsInts (W.alloc (.cells #[.int .i64 x, .int .i64 y] t)) (some ⟨g, 0, none⟩) 2 [x, y] := by
  subst hg
  refine ⟨rfl, by omega, fun _ => ⟨_, _, rfl, by simp, fun j hj => ?_⟩⟩
  obtain rfl | rfl : j = 0 ∨ j = 1 := by omega
  all_goals simp [ix]

theorem asked_ok (A B : Option Addr) (n c m d : Nat) (T : List ANode) (l : List Int) (w : World) (h : IsTree w A n T) (h' : IsInts w B m l) :
    Calls Try.prog 67 #[.agg #[.slice A n c], .slice B m d] w fun e w' => e = .returned (.int .i64 (askI T l)) ∧ Below w.heap.size w w' := by
  have hT := hide h
  obtain ⟨hl, hn, -, -⟩ := h
  obtain ⟨hl', hn', ho'⟩ := h'
  have ho := hide ho'
  clear ho'
  by_cases hg : goodB T = true
  · have hc0 : chk T = 0 := chk_ok hg
    go_enter Try.func67, Try.ntmps67
    go_wp2_with (go_at_call 80; refine (check_ok _ _ _ T _ (hT.out.below (below_alloc (Below.refl _ _) _))).mono ?_; rintro e w1 ⟨rfl, hb1⟩; have hbox := cell_later hb1 (a := ⟨w.heap.size, 0, none⟩) (v := .slice A n c) (by go_simp))
    have hb := Below.on (below_alloc (Below.refl _ _) _) hb1
    go_loop [15] (fun s => ∃ k : Nat, k ≤ m ∧ s = .int .i64 k ∧ ∀ j, j < k → 0 ≤ ix l j ∧ ix l j < n) (fun s => m - (intOf s).toNat)
    case atStart => exact ⟨0, Nat.zero_le _, rfl, fun j hj => absurd hj (by omega)⟩
    case round =>
      obtain ⟨k, hk, rfl, hne⟩ := hrel
      have hne' := hide hne
      clear hne
      by_cases hlt : k < m
      · obtain ⟨b, off, rfl, hbl, hcc⟩ := ho.out (by omega)
        have gk := (old hb _ _ hbl).trans (hcc k hlt)
        clear hcc
        by_cases hx : 0 ≤ ix l k ∧ ix l k < n
        · obtain ⟨hx1, hx2⟩ := hx
          go_wp2
          go_round
          case rel => exact ⟨k + 1, by omega, by go_num, fun j hj => by
            by_cases h : j = k
            · subst h; exact ⟨hx1, hx2⟩
            · exact hne'.out j (by omega)⟩
          case measure => simp [intOf]; omega
        · have hr : Hid (askI T l = 2) := askI_no hg _ (ix_mem (by omega : k < l.length)) (by rw [hl]; exact hx)
          have hx' : ix l k < 0 ∨ (0 ≤ ix l k ∧ (n : Int) ≤ ix l k) := by omega
          clear hx
          rcases hx' with h | ⟨h, h'⟩
          all_goals
            go_wp2
            go_ret
            exact ⟨ret_int hr.out.symm, hb⟩
      · have hr : Hid (askI T l = 0) := askI_ok hg fun x hx => by
          obtain ⟨j, hj, rfl⟩ := mem_ix hx
          rw [hl]; exact hne'.out j (by omega)
        go_wp2
        go_ret
        exact ⟨ret_int hr.out.symm, hb⟩
  · have hc0 : chk T = 8 := chk_bad hg
    have hr := hide (askI_bad (l := l) hg)
    clear hg
    go_enter Try.func67, Try.ntmps67
    go_wp2_with (go_at_call 80; refine (check_ok _ _ _ T _ (hT.out.below (below_alloc (Below.refl _ _) _))).mono ?_; rintro e w1 ⟨rfl, hb1⟩)
    go_ret
    exact ⟨ret_int hr.out.symm, Below.on (below_alloc (Below.refl _ _) _) hb1⟩

def topE (T : List ANode) (i : Int) : Int := if askI T [i] = 0 then topF T i else 0
def depE (T : List ANode) (i : Int) : Int := if askI T [i] = 0 then ((anc T (par T i.toNat)).length : Nat) else 0
def belE (T : List ANode) (i k : Int) : Bool := decide (askI T [i, k] = 0) && decide (k ∈ anc T (par T i.toNat))

theorem ret_two {k k' : IntKind} {a b c d : Int} (h : a = b) (h' : c = d) : Ending.returned (.tuple #[.int k a, .int k' c]) = .returned (.tuple #[.int k b, .int k' d]) := by rw [h, h']
theorem ret_bi {k' : IntKind} {a b : Bool} {c d : Int} (h : a = b) (h' : c = d) : Ending.returned (.tuple #[.bool a, .int k' c]) = .returned (.tuple #[.bool b, .int k' d]) := by rw [h, h']

theorem depth_ok (A : Option Addr) (n c : Nat) (T : List ANode) (i : Int) (w : World) (h : IsTree w A n T) :
    Calls Try.prog 59 #[.agg #[.slice A n c], .int .i64 i] w fun e w' => e = .returned (.tuple #[.int .i64 (depE T i), .int .i64 (askI T [i])]) ∧ Below w.heap.size w w' := by
  have hT := hide h
  obtain ⟨hl, hn, -, ho⟩ := h
  by_cases h0 : askI T [i] = 0
  · obtain ⟨hg, hir⟩ := askI_zero.1 h0
    have hir := hir i (by simp)
    obtain ⟨k, rfl⟩ := Int.eq_ofNat_of_zero_le hir.1
    have hk : k < n := by omega
    obtain ⟨b, off, aA, cA, aC, cC, rfl, hbl, -, -, c2, -, -, -⟩ := ho (by omega)
    have c2' := hide c2
    have gk0 := c2 k hk
    have hg' := hide hg
    have hr : Hid (depE T k = ((anc T (par T k)).length : Nat)) := by show depE T k = _; simp [depE, h0]
    have hle : (anc T (par T k)).length ≤ n := by have := anc_le hg (good_par hg (by omega : k < T.length)).2; omega
    have hn64 : n ≤ 64 := by have := ((goodB_iff T).1 hg).2.1; omega
    have hpk := good_par hg (by omega : k < T.length)
    have hpk' := hide hpk
    clear c2 ho hir hg hpk
    go_enter Try.func59, Try.ntmps59
    go_wp2_with (go_at_call 67; refine (asked_ok _ _ _ _ _ _ T [(k : Int)] _ (hT.out.below (below_alloc (below_alloc (Below.refl _ _) _) _)) (isInts_build1 _ _ _ _ (by simp))).mono ?_; rintro e w1 ⟨rfl, hb1⟩; have hbox := cell_later hb1 (a := ⟨w.heap.size, 0, none⟩) (v := .slice (some ⟨b, off, none⟩) n c) (by go_simp); have gk := cell_later (Below.on (below_alloc (below_alloc (Below.refl _ _) _) _) hb1) gk0)
    have hb := Below.on (below_alloc (below_alloc (Below.refl _ _) _) _) hb1
    go_loop [7, 8] (fun s q => ∃ (m : Nat) (x : Int), s = .int .i64 m ∧ q = .int .i64 x ∧ -1 ≤ x ∧ x < n ∧ m + (anc T x).length = (anc T (par T k)).length) (fun _ q => (anc T (intOf q)).length)
    case atStart => exact ⟨0, _, rfl, rfl, hpk'.out.1, by have := hpk'.out.2; omega, by omega⟩
    case round =>
      obtain ⟨m, x, rfl, rfl, hx1, hx2, hm⟩ := hrel
      have hm' := hide hm
      have hml : m ≤ n := by omega
      clear hm
      by_cases hx : 0 ≤ x
      · obtain ⟨q, rfl⟩ := Int.eq_ofNat_of_zero_le hx
        have hq : q < n := by omega
        have gq := (old hb _ _ hbl).trans (c2'.out q hq)
        have ht := hide (anc_cons hg'.out (by omega : q < T.length))
        have hp := hide (good_par hg'.out (by omega : q < T.length))
        go_wp2
        go_round
        case rel => exact ⟨m + 1, _, by go_num, rfl, hp.out.1, by have := hp.out.2; omega, by have := hm'.out; rw [ht.out, List.length_cons] at this; omega⟩
        case measure => simp only [intOf]; rw [ht.out]; simp
      · have ht := hide (anc_neg (T := T) (x := x) (by omega))
        go_wp2
        go_ret2
        exact ⟨ret_two (by have := hm'.out; rw [ht.out] at this; rw [hr.out]; simp at this; omega) rfl, hb⟩
  · have hr : Hid (depE T i = 0) := if_neg h0
    have hq : (askI T [i] != 0) = true := by simp [h0]
    clear h0 ho
    go_enter Try.func59, Try.ntmps59
    go_wp2_with (go_at_call 67; refine (asked_ok _ _ _ _ _ _ T [i] _ (hT.out.below (below_alloc (below_alloc (Below.refl _ _) _) _)) (isInts_build1 _ _ _ _ (by simp))).mono ?_; rintro e w1 ⟨rfl, hb1⟩)
    go_ret2
    exact ⟨ret_two hr.out.symm rfl, Below.on (below_alloc (below_alloc (Below.refl _ _) _) _) hb1⟩

theorem below_ok (A : Option Addr) (n c : Nat) (T : List ANode) (i j : Int) (w : World) (h : IsTree w A n T) :
    Calls Try.prog 37 #[.agg #[.slice A n c], .int .i64 i, .int .i64 j] w fun e w' => e = .returned (.tuple #[.bool (belE T i j), .int .i64 (askI T [i, j])]) ∧ Below w.heap.size w w' := by
  have hT := hide h
  obtain ⟨hl, hn, -, ho⟩ := h
  by_cases h0 : askI T [i, j] = 0
  · obtain ⟨hg, hir⟩ := askI_zero.1 h0
    have hir := hir i (by simp)
    obtain ⟨k, rfl⟩ := Int.eq_ofNat_of_zero_le hir.1
    have hk : k < n := by omega
    obtain ⟨b, off, aA, cA, aC, cC, rfl, hbl, -, -, c2, -, -, -⟩ := ho (by omega)
    have c2' := hide c2
    have gk0 := c2 k hk
    have hg' := hide hg
    have hr : Hid (belE T k j = decide (j ∈ anc T (par T k))) := by show belE T k j = _; simp [belE, h0]
    have hn64 : n ≤ 64 := by have := ((goodB_iff T).1 hg).2.1; omega
    have hpk := good_par hg (by omega : k < T.length)
    have hpk' := hide hpk
    clear c2 ho hir hg hpk
    go_enter Try.func37, Try.ntmps37
    go_wp2_with (go_at_call 67; refine (asked_ok _ _ _ _ _ _ T [(k : Int), j] _ (hT.out.below (below_alloc (below_alloc (Below.refl _ _) _) _)) (isInts_build2 _ _ _ _ _ (by simp))).mono ?_; rintro e w1 ⟨rfl, hb1⟩; have hbox := cell_later hb1 (a := ⟨w.heap.size, 0, none⟩) (v := .slice (some ⟨b, off, none⟩) n c) (by go_simp); have gk := cell_later (Below.on (below_alloc (below_alloc (Below.refl _ _) _) _) hb1) gk0)
    have hb := Below.on (below_alloc (below_alloc (Below.refl _ _) _) _) hb1
    go_loop [9] (fun q => ∃ (x : Int), q = .int .i64 x ∧ -1 ≤ x ∧ x < n ∧ (j ∈ anc T x ↔ j ∈ anc T (par T k))) (fun q => (anc T (intOf q)).length)
    case atStart => exact ⟨_, rfl, hpk'.out.1, by have := hpk'.out.2; omega, Iff.rfl⟩
    case round =>
      obtain ⟨x, rfl, hx1, hx2, hm⟩ := hrel
      have hm' := hide hm
      clear hm
      by_cases hx : 0 ≤ x
      · obtain ⟨q, rfl⟩ := Int.eq_ofNat_of_zero_le hx
        have hq : q < n := by omega
        have gq := (old hb _ _ hbl).trans (c2'.out q hq)
        have ht := hide (anc_cons hg'.out (by omega : q < T.length))
        have hp := hide (good_par hg'.out (by omega : q < T.length))
        cases hj : ((q : Int) == j)
        · go_wp2
          go_round
          case rel => exact ⟨_, rfl, hp.out.1, by have := hp.out.2; omega, by
            rw [← hm'.out, ht.out, List.mem_cons]
            have : ¬ j = q := fun e => by simp [e] at hj
            exact ⟨fun h => .inr h, fun h => h.resolve_left this⟩⟩
          case measure => simp only [intOf]; rw [ht.out]; simp
        · go_wp2
          go_ret2
          exact ⟨ret_bi (by rw [hr.out]; symm; rw [decide_eq_true_eq, ← hm'.out, ht.out]; simp at hj; simp [hj]) rfl, hb⟩
      · have ht := hide (anc_neg (T := T) (x := x) (by omega))
        go_wp2
        go_ret2
        exact ⟨ret_bi (by rw [hr.out]; symm; rw [decide_eq_false_iff_not, ← hm'.out, ht.out]; simp) rfl, hb⟩
  · have hr : Hid (belE T i j = false) := by show belE T i j = false; simp [belE, h0]
    have hq : (askI T [i, j] != 0) = true := by simp [h0]
    clear h0 ho
    go_enter Try.func37, Try.ntmps37
    go_wp2_with (go_at_call 67; refine (asked_ok _ _ _ _ _ _ T [i, j] _ (hT.out.below (below_alloc (below_alloc (Below.refl _ _) _) _)) (isInts_build2 _ _ _ _ _ (by simp))).mono ?_; rintro e w1 ⟨rfl, hb1⟩)
    go_ret2
    exact ⟨ret_bi hr.out.symm rfl, Below.on (below_alloc (below_alloc (Below.refl _ _) _) _) hb1⟩
end Go.Proofs.Ytfiiikbbiimdiaa
