/- Walks: whether a simple selector is right, by the reference: what holds of complex ones below is given. Conditions as each states. -/
import Derived.Test.YtljloicgjgbplaaGreatG31
import Derived.Deep.RegionHeld3
namespace Go.Proofs.YtljloicgjgbplaaGreat
open Go.RowKit

theorem bareOf_ok (k : Int) (nm : ByteArray) (op : Int) (vl : ByteArray) (fo : Bool) (a b : Int) (f : Bool) (LA : Option Addr) (ln lc : Nat) (w : World) :
    Calls Tryz.prog 75 #[.agg #[.int .u8 k, .string nm, .int .u8 op, .string vl, .bool fo, .int .i64 a, .int .i64 b, .bool f, .slice LA ln lc]] w fun e w' => e = .returned (.agg #[.int .u8 k, .string nm, .int .u8 op, .string vl, .bool fo, .int .i64 a, .int .i64 b, .bool f]) ∧ Below w.heap.size w w' := by
  go_enter Tryz.func75, Tryz.ntmps75
  go_wp2
  refine bodyPost_ret (v := .agg #[.int .u8 k, .string nm, .int .u8 op, .string vl, .bool fo, .int .i64 a, .int .i64 b, .bool f]) (by simp [results, Tryz.results75, go_sem]) rfl ⟨rfl, ?_⟩
  exact below_alloc (below_alloc (Below.refl _ _) _) _
theorem below8_ok (d : Nat) (h : Bool) (k : Int) (hd : d ≤ 3) (w : World) : Calls Tryz.prog 162 #[.agg #[.int .i64 (d : Int), .bool h], .int .u8 k] w (MadePl w d h k) := by
  by_cases h3 : d = 3
  · subst h3
    go_enter Tryz.func162, Tryz.ntmps162
    go_wp2
    refine bodyPost_ret (v := .tuple #[.agg #[.int .i64 (3 : Nat), .bool h], .bool false]) (by simp [results, Tryz.results162, go_sem]) rfl ?_
    exact ⟨3, h, by simp [plB], fun e => by simp [plB] at e, below_alloc (below_alloc (Below.refl _ _) _) _⟩
  · have g1 : ((d : Int) == 3) = false := by rw [beq_eq_false_iff_ne]; omega
    by_cases hk : k = 14
    · subst hk
      cases h
      · go_enter Tryz.func162, Tryz.ntmps162
        go_wp2
        refine bodyPost_ret (v := .tuple #[.agg #[.int .i64 ((d + 1 : Nat) : Int), .bool true], .bool true]) (by simp [results, Tryz.results162, go_sem]) rfl ?_
        exact ⟨d + 1, true, by simp [plB, h3], fun _ => ⟨rfl, rfl⟩, below_alloc (below_alloc (Below.refl _ _) _) _⟩
      · go_enter Tryz.func162, Tryz.ntmps162
        go_wp2
        refine bodyPost_ret (v := .tuple #[.agg #[.int .i64 (d : Int), .bool true], .bool false]) (by simp [results, Tryz.results162, go_sem]) rfl ?_
        exact ⟨d, true, by simp [plB], fun e => by simp [plB] at e, below_alloc (below_alloc (Below.refl _ _) _) _⟩
    · have g2 : (k == 14) = false := by rw [beq_eq_false_iff_ne]; omega
      cases h
      · go_enter Tryz.func162, Tryz.ntmps162
        go_wp2
        refine bodyPost_ret (v := .tuple #[.agg #[.int .i64 ((d + 1 : Nat) : Int), .bool false], .bool true]) (by simp [results, Tryz.results162, go_sem]) rfl ?_
        exact ⟨d + 1, false, by simp [plB, h3], fun _ => ⟨rfl, by simp [hk]⟩, below_alloc (below_alloc (Below.refl _ _) _) _⟩
      · go_enter Tryz.func162, Tryz.ntmps162
        go_wp2
        refine bodyPost_ret (v := .tuple #[.agg #[.int .i64 ((d + 1 : Nat) : Int), .bool true], .bool true]) (by simp [results, Tryz.results162, go_sem]) rfl ?_
        exact ⟨d + 1, true, by simp [plB, h3, hk], fun _ => ⟨rfl, rfl⟩, below_alloc (below_alloc (Below.refl _ _) _) _⟩
/-- The reference tells whether complex selectors are right. -/
def RWholeT {X : Type} (V : Lies X) (Wf : Nat → Bool → Bool → X → Bool) : Prop := ∀ (d : Nat) (h r : Bool) (ld : Int) (PA : Option Addr) (pn pc : Nat) (KA : Option Addr) (kn kc : Nat) (x : X) (W : World), d ≤ 3 → V W ld PA pn pc KA kn kc x →
  Calls Tryz.prog 57 #[.agg #[.int .u8 ld, .slice PA pn pc, .slice KA kn kc], .agg #[.int .i64 d, .bool h], .bool r] W fun e w' => e = .returned (.bool (Wf d h r x)) ∧ Below W.heap.size W w'
section
variable {X : Type} {V : Lies X} (hV : Stays V) {Wf : Nat → Bool → Bool → X → Bool} (hW : RWholeT V Wf)
include hV hW
set_option maxRecDepth 100000 in
set_option maxHeartbeats 1000000 in
theorem listed8_ok (d : Nat) (h : Bool) (k : Int) (A : Option Addr) (n c : Nat) (l : List X) (w : World) (hd : d ≤ 3) (hrow0 : IsRow V w A n l) :
    Calls Tryz.prog 145 #[.slice A n c, .agg #[.int .i64 (d : Int), .bool h], .int .u8 k] w fun e w' => e = .returned (.bool (listB Wf d h k l)) ∧ Below w.heap.size w w' := by
  have hll := hrow0.1
  have hn63 := hrow0.2.1
  have hrow := hide hrow0
  have hV' := hide hV
  have hW' := hide hW
  clear hrow0 hV hW
  cases hpl : plB d h k
  · have hr : Hid (listB Wf d h k l = false) := by show _ = _; unfold listB; rw [hpl]; rfl
    go_enter Tryz.func145, Tryz.ntmps145
    go_wp2_with fail
    refine (below8_ok d h k hd _).mono ?_
    rintro e w2 ⟨d', h', rfl, hdh, hb2⟩
    rw [hpl]
    clear hdh hpl
    go_wp2
    go_ret
    exact ⟨ret_bool hr.out.symm, below_alloc (Below.on (below_alloc (Below.refl _ _) _) hb2) _⟩
  · have hd3 : d ≤ 2 := by
      have : ¬ d = 3 := fun e => by rw [e] at hpl; simp [plB] at hpl
      omega
    go_enter Tryz.func145, Tryz.ntmps145
    go_wp2_with fail
    refine (below8_ok d h k hd _).mono ?_
    rintro e w2 ⟨d', h', rfl, hdh, hb2⟩
    rw [hpl]
    have hdd := hide (hdh hpl)
    have hd4 : d' ≤ 3 := by have := hdd.out.1; omega
    have hpl' := hide hpl
    clear hdh hpl
    have q0 : (w2.alloc (.cells #[.int .i64 (d' : Int), .bool h'] 104)).cell? ⟨w2.heap.size, 0, none⟩ = some (.int .i64 (d' : Int)) := blk_cell (blk_new _ _ _) 0
    have q1 : (w2.alloc (.cells #[.int .i64 (d' : Int), .bool h'] 104)).cell? ⟨w2.heap.size, 1, none⟩ = some (.bool h') := blk_cell (blk_new _ _ _) 1
    have hB3 := hide (below_alloc (Below.on (below_alloc (Below.refl w.heap.size w) (.cells #[.int .i64 (d : Int), .bool h] 104)) hb2) (.cells #[.int .i64 (d' : Int), .bool h'] 104))
    have hQ := hide (And.intro q0 q1)
    clear q0 q1 hb2
    go_wp2_with fail
    go_loopw [9] (fun i wr => ∃ k' : Nat, k' ≤ n ∧ i = .int .i64 k' ∧ Hid (∀ (j : Nat) (x : X), j < k' → l[j]? = some x → Wf d' h' (decide (k = 14)) x = true) ∧ Below w.heap.size w wr ∧ wr.cell? ⟨w2.heap.size, 0, none⟩ = some (.int .i64 (d' : Int)) ∧ wr.cell? ⟨w2.heap.size, 1, none⟩ = some (.bool h')) (fun i _ => n - (intOf i).toNat)
    case atStart => exact ⟨0, Nat.zero_le _, rfl, fun j x hj => absurd hj (by omega), hB3.out, hQ.out.1, hQ.out.2⟩
    case round =>
      obtain ⟨q, hq, rfl, hall, hb, p0, p1⟩ := hrel
      clear hQ hB3
      by_cases hlt : q < n
      · obtain ⟨b, off, ld, PA, pn, pc, KA, kn, kc, rfl, hbl, c0, c1, c2, hv⟩ := hrow.out.at hlt hll
        have g0 := cell_later hb c0
        have g1 := cell_later hb c1
        have g2 := cell_later hb c2
        have hk := hide (hW'.out d' h' (k == 14) ld PA pn pc KA kn kc _ wr.drew hd4 (hV'.out _ _ _ _ _ _ _ _ _ _ hb.drew hv))
        have hi1 : (0 : Int) ≤ (q : Int) := by omega
        have hi2 : (q : Int) < (n : Int) := by omega
        have hx : Hid (l[q]? = some (l[q]'(by omega))) := List.getElem?_eq_getElem (by omega)
        have e14 : Hid (decide (k = 14) = (k == 14)) := by show _ = _; rw [Bool.eq_iff_iff]; simp
        rw [e14.out] at hall
        generalize l[q] = x at *
        clear c0 c1 c2 hv
        cases hp : Wf d' h' (k == 14) x
        · rw [hp] at hk
          have hr : Hid (listB Wf d h k l = false) := by
            show _ = _
            unfold listB
            rw [← hdd.out.1, ← hdd.out.2, e14.out, Bool.and_eq_false_iff]
            refine .inr (Bool.eq_false_iff.2 fun e => ?_)
            rw [List.all_eq_true.1 e x (List.mem_of_getElem? hx.out)] at hp
            cases hp
          clear hp hall
          go_wp2_with fail
          go_region_held3 (fun X => X.cell? ⟨b, off + q * 3, none⟩ = some (.int .u8 ld) ∧ X.cell? ⟨b, off + q * 3 + 1, none⟩ = some (.slice PA pn pc) ∧ X.cell? ⟨b, off + q * 3 + 2, none⟩ = some (.slice KA kn kc) ∧ X.cell? ⟨w2.heap.size, 0, none⟩ = some (.int .i64 (d' : Int)) ∧ X.cell? ⟨w2.heap.size, 1, none⟩ = some (.bool h')) (first | exact ⟨g0, g1, g2, p0, p1⟩ | exact ⟨r0, r1, r2, r3, r4⟩) (first | (go_at_call 57; (with_reducible refine hk.out.mono ?_); rintro e w3 ⟨rfl, hb3⟩; have r0 := cell_later hb3 g0; have r1 := cell_later hb3 g1; have r2 := cell_later hb3 g2; have r3 := cell_later hb3 p0; have r4 := cell_later hb3 p1))
          go_wp2
          go_ret
          exact ⟨ret_bool hr.out.symm, Below.on (w1 := wr.drew) hb.drew hb3⟩
        · rw [hp] at hk
          have hp' := hide hp
          clear hp
          go_wp2_with fail
          go_region_held3 (fun X => X.cell? ⟨b, off + q * 3, none⟩ = some (.int .u8 ld) ∧ X.cell? ⟨b, off + q * 3 + 1, none⟩ = some (.slice PA pn pc) ∧ X.cell? ⟨b, off + q * 3 + 2, none⟩ = some (.slice KA kn kc) ∧ X.cell? ⟨w2.heap.size, 0, none⟩ = some (.int .i64 (d' : Int)) ∧ X.cell? ⟨w2.heap.size, 1, none⟩ = some (.bool h')) (first | exact ⟨g0, g1, g2, p0, p1⟩ | exact ⟨r0, r1, r2, r3, r4⟩) (first | (go_at_call 57; (with_reducible refine hk.out.mono ?_); rintro e w3 ⟨rfl, hb3⟩; have r0 := cell_later hb3 g0; have r1 := cell_later hb3 g1; have r2 := cell_later hb3 g2; have r3 := cell_later hb3 p0; have r4 := cell_later hb3 p1))
          have hb3' := Below.on (w1 := wr.drew) hb.drew hb3
          go_wp2
          go_roundw
          case rel => exact ⟨q + 1, by omega, by go_num, fun j y hj hy => by
            rw [e14.out]
            by_cases h : j = q
            · subst h
              rw [hx.out] at hy; cases hy; exact hp'.out
            · exact hall.out j y (by omega) hy, hb3', r3, r4⟩
          case measure => simp [intOf]; omega
      · obtain rfl : q = n := by omega
        have hr : Hid (listB Wf d h k l = true) := by
          show _ = _
          unfold listB
          rw [← hdd.out.1, ← hdd.out.2, hpl'.out, Bool.true_and, List.all_eq_true]
          intro x hx
          obtain ⟨j, hj, rfl⟩ := List.getElem_of_mem hx
          exact hall.out j _ (by omega) (List.getElem?_eq_getElem hj)
        clear hall
        go_wp2
        go_ret
        exact ⟨ret_bool hr.out.symm, hb⟩
end
end Go.Proofs.YtljloicgjgbplaaGreat
