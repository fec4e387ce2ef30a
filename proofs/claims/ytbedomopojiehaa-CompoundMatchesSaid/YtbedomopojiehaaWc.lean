/- Walks: is an element linked rightly. No condition. -/
import Derived.Test.YtbedomopojiehaaWb
import Derived.Deep.OwnRows
import Derived.KernelRfl
namespace Go.Proofs.Ytbedomopojiehaa
open Go.RowKit

theorem info_bool : (Try.prog.info? 4).map (fun i => (i.zero, i.size, i.bytes)) = some (some (.bool false), 1, 1) := by kernel_rfl
theorem mk_bools (n : Nat) (hn : n ≤ 140737488351232) (W : World) :
    (Instr.makeSlice 47 (.int .i64 (n : Int)) (.int .i64 (n : Int))).run Try.prog W = .ok (.slice (some ⟨W.heap.size, 0, none⟩) n n) (W.alloc (.cells (madeCells #[.bool false] n) 4)) := by
  obtain ⟨i, hi, hz0, hz1, hz2⟩ := info_parts info_bool
  have hr := run_make (P := Try.prog) W 47 4 i (.bool false) Try.underlying47 hi hz0 .i64 .i64 (n : Int) (n : Int) (by omega) (by omega) (by rw [hz2]; omega) (by omega)
  rw [hz1, show (Value.bool false).cells = #[.bool false] from rfl] at hr
  simpa using hr

def kidOk (T : List ANode) (i j : Nat) : Prop :=
  0 ≤ ix (kids T i) j ∧ ix (kids T i) j < T.length ∧ par T (ix (kids T i) j).toNat = i ∧ ix (kids T i) j ∉ (kids T i).take j
instance (T : List ANode) (i j : Nat) : Decidable (kidOk T i j) := by unfold kidOk; infer_instance
def linkedB (T : List ANode) (i : Nat) : Bool :=
  decide (-1 ≤ par T i) && decide (par T i < T.length) && decide (i = 0 → par T i = -1) && decide (0 ≤ par T i → (i : Int) ∈ kids T (par T i).toNat) && decide (∀ j, j < (kids T i).length → kidOk T i j)
theorem linkedB_iff (T : List ANode) (i : Nat) : linkedB T i = true ↔ -1 ≤ par T i ∧ par T i < T.length ∧ (i = 0 → par T i = -1) ∧ (0 ≤ par T i → (i : Int) ∈ kids T (par T i).toNat) ∧ ∀ j, j < (kids T i).length → kidOk T i j := by
  simp only [linkedB, Bool.and_eq_true, decide_eq_true_eq, and_assoc]

theorem mem_take_succ {xs : List Int} {k : Nat} (h : k < xs.length) (x : Int) : x ∈ xs.take (k + 1) ↔ x ∈ xs.take k ∨ x = ix xs k := by
  rw [take_snoc' xs k h, List.mem_append, ix_get h]; simp

theorem linked_no {T : List ANode} {i j : Nat} (hj : j < (kids T i).length) (h : ¬ kidOk T i j) : linkedB T i = false := by
  rw [Bool.eq_false_iff]; intro hc; rw [linkedB_iff] at hc; exact h (hc.2.2.2.2 j hj)

theorem rowIs_made2 (w : World) (o1 o2 : Obj) (z : Value) (n : Nat) (t : TypeId) : (((w.alloc o1).alloc o2).alloc (.cells (madeCells #[z] n) t)).rowIs (w.heap.size + 1 + 1) t n (fun _ => z) := by
  have h := World.rowIs_made ((w.alloc o1).alloc o2) z n t
  simpa using h

theorem mem_take_zero (xs : List Int) (x : Int) : decide (x ∈ xs.take 0) = false := by simp

set_option maxHeartbeats 4000000 in
theorem linked_ok (A : Option Addr) (n c : Nat) (T : List ANode) (i : Nat) (w : World) (h : IsTree w A n T) (hi : i < n) (h64 : n ≤ 64) :
    Calls Try.prog 109 #[.agg #[.slice A n c], .int .i64 i] w fun e w' => e = .returned (.bool (linkedB T i)) ∧ Below w.heap.size w w' := by
  obtain ⟨hl, hn, hs, ho⟩ := h
  obtain ⟨b, off, aA, cA, aC, cC, rfl, hbl, c0, c1, c2, c3, hA, hC⟩ := ho (by omega)
  clear ho hs
  have g0 := c0 i hi
  have g1 := c1 i hi
  have g2 := c2 i hi
  have g3 := c3 i hi
  have hK := (hC i hi).1
  obtain ⟨-, hk2, hko⟩ := hK
  clear c0 c1
  have hmk := mk_bools n (by omega)
  generalize cA i = CA at hko g3
  by_cases h1 : -1 ≤ par T i ∧ par T i < n ∧ (i = 0 → par T i = -1)
  · obtain ⟨h1, h2, h3⟩ := h1
    by_cases hnin : 0 ≤ par T i ∧ ¬ (i : Int) ∈ kids T (par T i).toNat
    · obtain ⟨hp0, hin⟩ := hnin
      obtain ⟨p, hp⟩ := Int.eq_ofNat_of_zero_le hp0
      have hpn : p < n := by omega
      have g4 := c3 p hpn
      have hKp := (hC p hpn).1
      have hi0 : ¬ i = 0 := by omega
      clear c2 c3 hC hA h3
      have hr : Hid (linkedB T i = false) := by
        show linkedB T i = false
        rw [Bool.eq_false_iff]; intro hc; rw [linkedB_iff] at hc; exact hin (hc.2.2.2.1 hp0)
      rw [hp] at hin
      have hin' : decide ((i : Int) ∈ kids T p) = false := by simpa using hin
      have hKp' := hide hKp
      clear hKp hin hp0 hko
      go_enter Try.func109, Try.ntmps109
      go_wp2_with (go_at_call 115; refine (contains_ok _ _ _ _ _ _ (hKp'.out.below ?_)).mono ?_; (exact below_alloc (below_alloc (Below.refl _ _) _) _); rintro e w1 ⟨rfl, rfl⟩)
      go_ret
      exact ⟨ret_bool hr.out.symm, below_alloc (below_alloc (Below.refl _ _) _) _⟩
    · have hfin : Hid ((∀ j, j < (kids T i).length → kidOk T i j) → linkedB T i = true) := fun h => by
        rw [linkedB_iff]
        exact ⟨h1, by omega, h3, fun h4 => Classical.byContradiction fun h5 => hnin ⟨h4, h5⟩, h⟩
      have hno : Hid (∀ j, j < (kids T i).length → ¬ kidOk T i j → linkedB T i = false) := fun j => linked_no
      have hC2 := hide c2
      have hko' := hide hko
      by_cases hp0 : 0 ≤ par T i
      focus
        have hin : (i : Int) ∈ kids T (par T i).toNat := Classical.byContradiction fun h5 => hnin ⟨hp0, h5⟩
        obtain ⟨p, hp⟩ := Int.eq_ofNat_of_zero_le hp0
        have hpn : p < n := by omega
        have g4 := c3 p hpn
        have hKp := hide (hC p hpn).1
        have hi0 : ¬ i = 0 := by omega
        clear c2 c3 hC hA h3 hnin hko
        rw [hp] at hin
        have hin' : decide ((i : Int) ∈ kids T p) = true := by simpa using hin
        clear hin hp0
        go_enter Try.func109, Try.ntmps109
        go_wp2_with (go_at_call 115; refine (contains_ok _ _ _ _ _ _ (hKp.out.below ?_)).mono ?_; (exact below_alloc (below_alloc (Below.refl _ _) _) _); rintro e w1 ⟨rfl, rfl⟩)
        clear hKp hin' g4 hi0 hp
      rotate_left
      focus
        have hp : par T i = -1 := by omega
        clear c2 c3 hC hA h3 hnin hko
        have hq : ((par T i) != -1) = false := by simp [hp]
        cases hib : ((i : Int) == 0)
        all_goals
          go_enter Try.func109, Try.ntmps109
          go_wp2
          clear hp0 hp hib hq
      all_goals
        clear g0 g1 g2 g3 hmk
        go_loopw [56] (fun s wr => ∃ k : Nat, k ≤ (kids T i).length ∧ s = .int .i64 k ∧ Below w.heap.size w wr ∧ wr.cell? ⟨w.heap.size, 0, none⟩ = some (.slice (some ⟨b, off, none⟩) n c) ∧
            wr.rowIs (w.heap.size + 1 + 1) 4 n (fun x => .bool (decide ((x : Int) ∈ (kids T i).take k))) ∧ ∀ j, j < k → kidOk T i j) (fun s _ => (kids T i).length - (intOf s).toNat)
        case atStart =>
          refine ⟨0, Nat.zero_le _, rfl, below_alloc (below_alloc (below_alloc (Below.refl _ _) _) _) _, by go_simp, ?_, fun j hj => absurd hj (by omega)⟩
          exact (rowIs_made2 _ _ _ _ _ _).congr (fun x _ => by simp)
        case round =>
          obtain ⟨k, hk, rfl, hb, hbox, hrow, hne⟩ := hrel
          have hne' := hide hne
          clear hne
          by_cases hlt : k < (kids T i).length
          · have hkid : ∃ b' off', CA = some ⟨b', off', none⟩ ∧ b' < w.heap.size ∧ wr.cell? ⟨b', off' + k, none⟩ = some (.int .i64 (ix (kids T i) k)) := by
              obtain ⟨b', off', e1, e2, e3⟩ := hko'.out (by omega)
              exact ⟨b', off', e1, e2, (old hb _ _ e2).trans (e3 k hlt)⟩
            obtain ⟨b', off', rfl, hb', gk⟩ := hkid
            by_cases hrg : 0 ≤ ix (kids T i) k ∧ ix (kids T i) k < n
            · obtain ⟨x, hx⟩ := Int.eq_ofNat_of_zero_le hrg.1
              have hxn : x < n := by omega
              have gx := (old hb _ _ hbl).trans (hC2.out x hxn)
              have gs := hrow.cell hxn
              have gf := hrow.frozen x
              have hrow' := hide hrow
              clear hrow hrg
              by_cases hs : (x : Int) ∈ (kids T i).take k
              · have hr := hide (hno.out k hlt fun h => by have := h.2.2.2; rw [hx] at this; exact this hs)
                have hs' : decide ((x : Int) ∈ (kids T i).take k) = true := by simpa using hs
                clear hs hno hfin
                go_wp2
                go_ret
                exact ⟨ret_bool hr.out.symm, hb⟩
              · have hs' : decide ((x : Int) ∈ (kids T i).take k) = false := by simpa using hs
                clear hs
                by_cases hpx : par T x = i
                · have hpx' : (par T x != (i : Int)) = false := by simp [hpx]
                  have hpx2 := hide hpx
                  have hx' := hide hx
                  have hset := hide (hrow'.out.set x (.bool true))
                  have hs2 : Hid (¬ (x : Int) ∈ (kids T i).take k) := by
                    show ¬ _
                    simpa using hs'
                  clear hpx hno hfin
                  go_wp2
                  go_roundw
                  case rel =>
                    refine ⟨k + 1, by omega, by go_num, hb.setCell (by simp; omega) _, ?_, hset.out.congr fun y hy => ?_, fun j hj => ?_⟩
                    · rw [World.cell?_setCell_other _ _ _ _ (by intro e; injection e; omega)]; exact hbox
                    · simp only [mem_take_succ hlt, hx'.out]
                      by_cases hyx : y = x
                      · simp [hyx]
                      · have hyx' : ¬ ((y : Int) = (x : Int)) := by omega
                        simp [hyx, hyx']
                    · by_cases h : j = k
                      · subst h
                        refine ⟨by rw [hx'.out]; omega, by rw [hx'.out]; omega, by rw [hx'.out]; exact hpx2.out, by rw [hx'.out]; exact hs2.out⟩
                      · exact hne'.out j (by omega)
                  case measure => simp [intOf]; omega
                · have hpx' : (par T x != (i : Int)) = true := by simp [hpx]
                  have hr := hide (hno.out k hlt fun h => by have := h.2.2.1; rw [hx] at this; exact hpx this)
                  clear hpx hno hfin
                  go_wp2
                  go_ret
                  exact ⟨ret_bool hr.out.symm, hb⟩
            · have hr := hide (hno.out k hlt fun h => hrg ⟨h.1, by have := h.2.1; omega⟩)
              have hrow' := hide hrow
              have hrg' : ix (kids T i) k < 0 ∨ (0 ≤ ix (kids T i) k ∧ (n : Int) ≤ ix (kids T i) k) := by omega
              clear hrow hrg hno hfin
              rcases hrg' with h | ⟨h, h'⟩
              · go_wp2
                go_ret
                exact ⟨ret_bool hr.out.symm, hb⟩
              · go_wp2
                go_ret
                exact ⟨ret_bool hr.out.symm, hb⟩
          · have hr := hide (hfin.out fun j hj => hne'.out j (by omega))
            have hrow' := hide hrow
            clear hrow hno hfin
            go_wp2
            go_ret
            exact ⟨ret_bool hr.out.symm, hb⟩
  · have hr : Hid (linkedB T i = false) := by
      show linkedB T i = false
      rw [Bool.eq_false_iff]; intro hc; rw [linkedB_iff] at hc; exact h1 ⟨hc.1, by omega, hc.2.2.1⟩
    have h1' : par T i < -1 ∨ (-1 ≤ par T i ∧ (n : Int) ≤ par T i) ∨ (i = 0 ∧ 0 ≤ par T i ∧ par T i < n) := by omega
    clear c2 c3 hC hA h1 hko
    rcases h1' with h | ⟨h, h'⟩ | ⟨h0, h, h'⟩
    · go_enter Try.func109, Try.ntmps109
      go_wp2
      go_ret
      exact ⟨ret_bool hr.out.symm, below_alloc (below_alloc (Below.refl _ _) _) _⟩
    · go_enter Try.func109, Try.ntmps109
      go_wp2
      go_ret
      exact ⟨ret_bool hr.out.symm, below_alloc (below_alloc (Below.refl _ _) _) _⟩
    · have hi0 : ((i : Int) == 0) = true := by simp [h0]
      have hq : (par T i != -1) = true := by simp; omega
      clear h0
      go_enter Try.func109, Try.ntmps109
      go_wp2
      go_ret
      exact ⟨ret_bool hr.out.symm, below_alloc (below_alloc (Below.refl _ _) _) _⟩
end Go.Proofs.Ytbedomopojiehaa
