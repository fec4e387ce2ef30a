/- Walks: whether a compound is right, by the reference: what holds of simple selectors is given. Conditions as each states. -/
import Derived.Test.YtljloicgjgbplaaGreatG34
import Derived.Test.YtljloicgjgbplaaGreatG28
import Derived.Deep.CutRange
import Derived.Deep.RegionHeld3
import Derived.Test.YtljloicgjgbplaaGreatG35
namespace Go.Proofs.YtljloicgjgbplaaGreat
open Go.RowKit

/-- The reference tells whether simple selectors are right. -/
def RSimT {X : Type} (V : Lies X) (Wf : Nat → Bool → Bool → X → Bool) : Prop := ∀ (d : Nat) (h : Bool) (s : Sim) (x : SimX X) (W : World), d ≤ 3 → SimRel V W s x →
  Calls Tryz.prog 106 #[.agg #[.int .u8 s.kind, .string s.name, .int .u8 s.op, .string s.val, .bool s.fold, .int .i64 s.a, .int .i64 s.b, .bool s.of, .slice s.LA s.ln s.lc], .agg #[.int .i64 d, .bool h]] W fun e w' => e = .returned (.bool (simB Wf d h x)) ∧ Below W.heap.size W w'
section
variable {X : Type} {V : Lies X} (hV : Stays V) {Wf : Nat → Bool → Bool → X → Bool} (hS : RSimT V Wf)
include hV hS
set_option maxRecDepth 100000 in
set_option maxHeartbeats 2000000 in
theorem rcompT_ok (d : Nat) (h : Bool) (tag : ByteArray) (SA : Option Addr) (sn sc : Nat) (c : CompX X) (w : World) (hd : d ≤ 3) (hc : IsComp V w tag SA sn sc c) :
    Calls Tryz.prog 76 #[.agg #[.string tag, .slice SA sn sc], .agg #[.int .i64 d, .bool h]] w fun e w' => e = .returned (.bool (compB Wf d h c)) ∧ Below w.heap.size w w' := by
  obtain ⟨rfl, rfl, hrow, ⟨hc1, hc2⟩, hts⟩ := hc
  obtain ⟨-, S, hS0, hrel0⟩ := hrow
  have hrow' := hide (show IsSims w SA c.sims.length S ∧ ∀ j, j < c.sims.length → SimRel V w (sm S j) (sy c.sims j) from ⟨hS0, hrel0⟩)
  have hsm := fun W => rsmallT_ok c.tag W hts
  obtain ⟨n, hn⟩ : ∃ n, n = c.sims.length := ⟨_, rfl⟩
  rw [← hn] at hrow' hc1 ⊢
  have hn' := hide hn
  have hlen := hrow'.out.1.2.1
  clear hn
  have hS' := hide hS
  have hV' := hide hV
  clear hS0 hrel0 hS hV
  have f0 : ((w.alloc (.cells #[.string c.tag, .slice SA n sc] 70)).alloc (.cells #[.int .i64 d, .bool h] 104)).cell? ⟨w.heap.size, 0, none⟩ = some (.string c.tag) := by go_simp
  have f1 : ((w.alloc (.cells #[.string c.tag, .slice SA n sc] 70)).alloc (.cells #[.int .i64 d, .bool h] 104)).cell? ⟨w.heap.size, 1, none⟩ = some (.slice SA n sc) := by clear f0; go_simp
  have f2 : ((w.alloc (.cells #[.string c.tag, .slice SA n sc] 70)).alloc (.cells #[.int .i64 d, .bool h] 104)).cell? ⟨w.heap.size + 1, 0, none⟩ = some (.int .i64 d) := by clear f0 f1; go_simp
  have f3 : ((w.alloc (.cells #[.string c.tag, .slice SA n sc] 70)).alloc (.cells #[.int .i64 d, .bool h] 104)).cell? ⟨w.heap.size + 1, 1, none⟩ = some (.bool h) := by clear f0 f1 f2; go_simp
  have hB0 := below_alloc (below_alloc (Below.refl w.heap.size w) (.cells #[.string c.tag, .slice SA n sc] 70)) (.cells #[.int .i64 d, .bool h] 104)
  obtain ⟨W0, hW0⟩ : ∃ W0, W0 = (w.alloc (.cells #[.string c.tag, .slice SA n sc] 70)).alloc (.cells #[.int .i64 d, .bool h] 104) := ⟨_, rfl⟩
  rw [← hW0] at f0 f1 f2 f3 hB0
  go_enter Tryz.func76, Tryz.ntmps76
  go_upto_region 1 with fail
  rw [← hW0]
  clear hW0
  have hin : w.heap.size + 1 < W0.heap.size := cell_in f2
  go_cut [36] from 6 to 36 (fun v wx => v = .bool (!(tagB c.tag && decide (0 < c.tag.size ∨ 0 < n) && decide (n ≤ 64))) ∧ Below W0.heap.size W0 wx)
  case first =>
    by_cases h0 : c.tag.size = 0
    · have g0 := (toList_nil c.tag).2 h0
      have hr : Hid ((!(tagB c.tag && decide (0 < c.tag.size ∨ 0 < n) && decide (n ≤ 64))) = (!(decide (0 < n) && decide (n ≤ 64)))) := by
        show _ = _
        rw [show tagB c.tag = true by unfold tagB; rw [decide_eq_true h0]; rfl, Bool.true_and]
        have e : decide (0 < c.tag.size ∨ 0 < n) = decide (0 < n) := decide_eq_decide.2 (by omega)
        rw [e]
      clear h0
      by_cases hz : n = 0
      · have g1 : ((n : Int) == 0) = true := by simp [hz]
        have hz' := hide hz
        clear hz
        go_wp2_with fail
        go_meet
        exact ⟨by rw [hr.out, hz'.out]; rfl, Below.refl _ _⟩
      · have g1 : ((n : Int) == 0) = false := by simp [hz]
        have hz' := hide hz
        clear hz
        go_wp2_with fail
        go_meet
        refine ⟨congrArg Value.bool ?_, Below.refl _ _⟩
        rw [hr.out, decide_eq_true (Nat.pos_of_ne_zero hz'.out), Bool.true_and]
        clear hr hrow' hS' hV' hsm f0 f1 f2 f3 hB0 hin
        rw [Bool.eq_iff_iff]
        simp
        omega
    · have g0 : ¬ c.tag.toList = [] := fun e => h0 ((toList_nil c.tag).1 e)
      have hr0 : decide (0 < c.tag.size ∨ 0 < n) = true := decide_eq_true (by omega)
      by_cases h1 : c.tag = ⟨#[42]⟩
      · have g1 : c.tag.toList = [42] := by rw [h1, ByteArray.toList_eq]
        have hr : Hid ((!(tagB c.tag && decide (0 < c.tag.size ∨ 0 < n) && decide (n ≤ 64))) = !decide (n ≤ 64)) := by
          show _ = _
          rw [hr0, show tagB c.tag = true by unfold tagB; rw [decide_eq_true h1]; simp]
          rfl
        clear h0 h1 hr0
        go_wp2_with fail
        all_goals go_meet
        all_goals refine ⟨congrArg Value.bool (Eq.symm ?_), Below.refl _ _⟩
        all_goals rw [hr.out]
        all_goals clear hr hrow' hS' hV' hsm f0 f1 f2 f3 hB0 hin
        all_goals (first | (simp_all; done) | (simp_all; omega) | (rw [Bool.eq_iff_iff]; simp_all; omega))
      · have g1 : ¬ c.tag.toList = [42] := fun e => h1 (by rw [ByteArray.toList_eq] at e; exact Go.WideShapes.bytes_inj e)
        have hr : Hid ((!(tagB c.tag && decide (0 < c.tag.size ∨ 0 < n) && decide (n ≤ 64))) = !(smB c.tag && decide (n ≤ 64))) := by
          show _ = _
          rw [hr0, show tagB c.tag = smB c.tag by unfold tagB; rw [decide_eq_false h0, decide_eq_false h1]; rfl]
          simp
        clear h0 h1 hr0
        go_wp2_with (go_at_call 105; refine (hsm _).mono ?_; rintro e w1 ⟨rfl, hb1⟩; have p1 := cell_later hb1 f1; have p0 := cell_later hb1 f0)
        all_goals go_meet
        all_goals refine ⟨congrArg Value.bool (Eq.symm ?_), hb1⟩
        all_goals rw [hr.out]
        all_goals clear hr hrow' hS' hV' hsm f0 f1 f2 f3 hB0 hin
        all_goals (try clear p0 p1)
        all_goals (first | (simp_all; done) | (simp_all; omega) | (rw [Bool.eq_iff_iff]; simp_all; omega))
  case rest =>
  obtain ⟨rfl, hbc⟩ := hcut
  have q0 := cell_later hbc f0
  have q1 := cell_later hbc f1
  have q2 := cell_later hbc f2
  have q3 := cell_later hbc f3
  have hBc := Below.on hB0 hbc
  clear f0 f1 f2 f3 hB0 hin hbc
  cases hb : (!(tagB c.tag && decide (0 < c.tag.size ∨ 0 < n) && decide (n ≤ 64)))
  · have hr : Hid (compB Wf d h c = c.sims.all (simB Wf d h)) := by
      show _ = _
      simp only [Bool.not_eq_false', Bool.and_eq_true] at hb
      unfold compB
      rw [← hn'.out, hb.1.1, hb.1.2, hb.2]
      rfl
    clear hb
    go_wp2_with fail
    go_loopw [5] (fun i wr => ∃ k : Nat, k ≤ n ∧ i = .int .i64 k ∧ Hid (∀ j, j < k → simB Wf d h (sy c.sims j) = true) ∧ Below wc.heap.size wc wr) (fun i _ => n - (intOf i).toNat)
    case atStart => exact ⟨0, Nat.zero_le _, rfl, fun j hj => absurd hj (by omega), Below.refl _ _⟩
    case round =>
      obtain ⟨q, hq, rfl, hall, hb⟩ := hrel
      have hBr := Below.on hBc hb
      by_cases hlt : q < n
      · obtain ⟨b, off, rfl, hbl, hc⟩ := hrow'.out.1.2.2 (by omega)
        obtain ⟨c0, c1, c2, c3, c4, c5, c6, c7, c8⟩ := (hc q hlt).later hBr
        have hk := hide (hS'.out d h (sm S q) (sy c.sims q) wr.drew hd ((hrow'.out.2 q hlt).below hV'.out hBr.drew))
        have z1 := cell_later hb q1
        have z2 := cell_later hb q2
        have z3 := cell_later hb q3
        have hi1 : (0 : Int) ≤ (q : Int) := by omega
        have hi2 : (q : Int) < (n : Int) := by omega
        clear hc q0
        cases hp : simB Wf d h (sy c.sims q)
        · rw [hp] at hk
          have hr2 : Hid (compB Wf d h c = false) := by
            show _ = _
            rw [hr.out]
            refine Bool.eq_false_iff.2 fun hal => ?_
            have := List.all_eq_true.1 hal (sy c.sims q) (by
              have hqn : q < c.sims.length := by rw [← hn'.out]; exact hlt
              unfold sy; rw [List.getD_eq_getElem?_getD, List.getElem?_eq_getElem hqn]; exact List.getElem_mem _)
            rw [hp] at this; cases this
          clear hp hr hall
          go_wp2_with fail
          go_region_held3 (fun X => X.cell? ⟨b, off + q * 9, none⟩ = some (.int .u8 (sm S q).kind) ∧ X.cell? ⟨b, off + q * 9 + 1, none⟩ = some (.string (sm S q).name) ∧ X.cell? ⟨b, off + q * 9 + 2, none⟩ = some (.int .u8 (sm S q).op) ∧ X.cell? ⟨b, off + q * 9 + 3, none⟩ = some (.string (sm S q).val) ∧ X.cell? ⟨b, off + q * 9 + 4, none⟩ = some (.bool (sm S q).fold) ∧ X.cell? ⟨b, off + q * 9 + 5, none⟩ = some (.int .i64 (sm S q).a) ∧ X.cell? ⟨b, off + q * 9 + 6, none⟩ = some (.int .i64 (sm S q).b) ∧ X.cell? ⟨b, off + q * 9 + 7, none⟩ = some (.bool (sm S q).of) ∧ X.cell? ⟨b, off + q * 9 + 8, none⟩ = some (.slice (sm S q).LA (sm S q).ln (sm S q).lc) ∧ X.cell? ⟨w.heap.size, 1, none⟩ = some (.slice (some ⟨b, off, none⟩) n sc) ∧ X.cell? ⟨w.heap.size + 1, 0, none⟩ = some (.int .i64 (d : Int)) ∧ X.cell? ⟨w.heap.size + 1, 1, none⟩ = some (.bool h)) (first | exact ⟨c0, c1, c2, c3, c4, c5, c6, c7, c8, z1, z2, z3⟩ | exact ⟨r0, r1, r2, r3, r4, r5, r6, r7, r8, r9, r10, r11⟩) (first | (go_at_call 106; (with_reducible refine hk.out.mono ?_); rintro e w3 ⟨rfl, hb3⟩; have r0 := cell_later hb3 c0; have r1 := cell_later hb3 c1; have r2 := cell_later hb3 c2; have r3 := cell_later hb3 c3; have r4 := cell_later hb3 c4; have r5 := cell_later hb3 c5; have r6 := cell_later hb3 c6; have r7 := cell_later hb3 c7; have r8 := cell_later hb3 c8; have r9 := cell_later hb3 z1; have r10 := cell_later hb3 z2; have r11 := cell_later hb3 z3))
          go_wp2
          go_ret
          exact ⟨ret_bool hr2.out.symm, Below.on (w1 := wr.drew) hBr.drew hb3⟩
        · rw [hp] at hk
          have hp' := hide hp
          clear hp
          go_wp2_with fail
          go_region_held3 (fun X => X.cell? ⟨b, off + q * 9, none⟩ = some (.int .u8 (sm S q).kind) ∧ X.cell? ⟨b, off + q * 9 + 1, none⟩ = some (.string (sm S q).name) ∧ X.cell? ⟨b, off + q * 9 + 2, none⟩ = some (.int .u8 (sm S q).op) ∧ X.cell? ⟨b, off + q * 9 + 3, none⟩ = some (.string (sm S q).val) ∧ X.cell? ⟨b, off + q * 9 + 4, none⟩ = some (.bool (sm S q).fold) ∧ X.cell? ⟨b, off + q * 9 + 5, none⟩ = some (.int .i64 (sm S q).a) ∧ X.cell? ⟨b, off + q * 9 + 6, none⟩ = some (.int .i64 (sm S q).b) ∧ X.cell? ⟨b, off + q * 9 + 7, none⟩ = some (.bool (sm S q).of) ∧ X.cell? ⟨b, off + q * 9 + 8, none⟩ = some (.slice (sm S q).LA (sm S q).ln (sm S q).lc) ∧ X.cell? ⟨w.heap.size, 1, none⟩ = some (.slice (some ⟨b, off, none⟩) n sc) ∧ X.cell? ⟨w.heap.size + 1, 0, none⟩ = some (.int .i64 (d : Int)) ∧ X.cell? ⟨w.heap.size + 1, 1, none⟩ = some (.bool h)) (first | exact ⟨c0, c1, c2, c3, c4, c5, c6, c7, c8, z1, z2, z3⟩ | exact ⟨r0, r1, r2, r3, r4, r5, r6, r7, r8, r9, r10, r11⟩) (first | (go_at_call 106; (with_reducible refine hk.out.mono ?_); rintro e w3 ⟨rfl, hb3⟩; have r0 := cell_later hb3 c0; have r1 := cell_later hb3 c1; have r2 := cell_later hb3 c2; have r3 := cell_later hb3 c3; have r4 := cell_later hb3 c4; have r5 := cell_later hb3 c5; have r6 := cell_later hb3 c6; have r7 := cell_later hb3 c7; have r8 := cell_later hb3 c8; have r9 := cell_later hb3 z1; have r10 := cell_later hb3 z2; have r11 := cell_later hb3 z3))
          have hb3' := Below.on (w1 := wr.drew) hb.drew hb3
          go_wp2
          go_roundw
          case rel => exact ⟨q + 1, by omega, by go_num, fun j hj => by
            by_cases h : j = q
            · subst h; exact hp'.out
            · exact hall.out j (by omega), hb3'⟩
          case measure => simp [intOf]; omega
      · obtain rfl : q = n := by omega
        have hal : c.sims.all (simB Wf d h) = true := List.all_eq_true.2 fun x hx => by
          obtain ⟨j, hj, rfl⟩ := List.getElem_of_mem hx
          have := hall.out j (by rw [hn'.out]; exact hj)
          unfold sy at this
          rwa [List.getD_eq_getElem?_getD, List.getElem?_eq_getElem hj] at this
        have hr2 : Hid (compB Wf d h c = true) := by show _ = _; rw [hr.out, hal]
        have z1 := cell_later hb q1
        clear hal hr hall q0 q2 q3
        go_wp2
        go_ret
        exact ⟨ret_bool hr2.out.symm, hBr⟩
  · have hr : Hid (compB Wf d h c = false) := by
      show _ = _
      refine Bool.eq_false_iff.2 fun e => ?_
      unfold compB at e
      simp only [Bool.and_eq_true] at e
      rw [← hn'.out] at e
      rw [e.1.1.1, e.1.2, e.1.1.2] at hb
      cases hb
    clear hb
    go_wp2
    go_ret
    exact ⟨ret_bool hr.out.symm, hBc⟩
end
end Go.Proofs.YtljloicgjgbplaaGreat
/- Walks: whether simple and complex selectors are right at every level, and whether a list is, by the reference. Conditions as each states. -/
namespace Go.Proofs.YtljloicgjgbplaaGreat
open Go.RowKit

set_option maxRecDepth 100000 in
set_option maxHeartbeats 1000000 in
theorem rsimB_other {X : Type} (Wf : Nat → Bool → Bool → X → Bool) (d : Nat) (h : Bool) (k : Int) (nm : ByteArray) (op : Int) (vl : ByteArray) (fo : Bool) (a b : Int) (f : Bool) (LA : Option Addr) (ln lc : Nat) (l : List X) (w : World) (h1 : k < 1 ∨ 14 < k) :
    Calls Tryz.prog 106 #[.agg #[.int .u8 k, .string nm, .int .u8 op, .string vl, .bool fo, .int .i64 a, .int .i64 b, .bool f, .slice LA ln lc], .agg #[.int .i64 d, .bool h]] w fun e w' => e = .returned (.bool (simB Wf d h ⟨k, nm, op, vl, fo, a, b, f, l⟩)) ∧ Below w.heap.size w w' := by
  rw [simB_other h1]
  have hbo := fun W => bareOf_ok k nm op vl fo a b f LA ln lc W
  have g1 : (k == 1) = false := by rw [beq_eq_false_iff_ne]; omega
  have g2 : (k == 2) = false := by rw [beq_eq_false_iff_ne]; omega
  have g3 : (k == 3) = false := by rw [beq_eq_false_iff_ne]; omega
  have g4 : (k == 4) = false := by rw [beq_eq_false_iff_ne]; omega
  have g5 : (k == 5) = false := by rw [beq_eq_false_iff_ne]; omega
  have g6 : (k == 6) = false := by rw [beq_eq_false_iff_ne]; omega
  have g7 : (k == 7) = false := by rw [beq_eq_false_iff_ne]; omega
  have g8 : (k == 8) = false := by rw [beq_eq_false_iff_ne]; omega
  have g9 : (k == 9) = false := by rw [beq_eq_false_iff_ne]; omega
  have ga : (k == 10) = false := by rw [beq_eq_false_iff_ne]; omega
  have gb : (k == 11) = false := by rw [beq_eq_false_iff_ne]; omega
  have gc : (k == 12) = false := by rw [beq_eq_false_iff_ne]; omega
  have gd : (k == 13) = false := by rw [beq_eq_false_iff_ne]; omega
  have ge : (k == 14) = false := by rw [beq_eq_false_iff_ne]; omega
  have hX : ((w.alloc (.cells #[.int .u8 k, .string nm, .int .u8 op, .string vl, .bool fo, .int .i64 a, .int .i64 b, .bool f, .slice LA ln lc] 41)).alloc (.cells #[.int .i64 d, .bool h] 104)).heap[w.heap.size]? = some (.cells #[.int .u8 k, .string nm, .int .u8 op, .string vl, .bool fo, .int .i64 a, .int .i64 b, .bool f, .slice LA ln lc] 41 (0, 0)) := blk_alloc (blk_new _ _ _) _
  have hB0 := below_alloc (below_alloc (Below.refl w.heap.size w) (.cells #[.int .u8 k, .string nm, .int .u8 op, .string vl, .bool fo, .int .i64 a, .int .i64 b, .bool f, .slice LA ln lc] 41)) (.cells #[.int .i64 d, .bool h] 104)
  clear h1
  go_enter Tryz.func106, Tryz.ntmps106
  go_wp2_with fail
  refine (hbo _).mono ?_
  rintro e w1 ⟨rfl, hb1⟩
  have hX1 := (hb1.block _ (blk_lt hX)).trans hX
  have hB1 := Below.on hB0 hb1
  clear hX hB0 hb1 hbo
  have x0 : w1.cell? ⟨w.heap.size, 0, none⟩ = some (.int .u8 k) := blk_cell hX1 0
  have xl2 : w.heap.size < w1.heap.size := blk_lt hX1
  clear hX1
  go_wp2
  go_ret
  exact ⟨rfl, below_alloc hB1 _⟩
theorem rsimT_ok {X : Type} {V : Lies X} (hV : Stays V) {Wf : Nat → Bool → Bool → X → Bool} (hW : RWholeT V Wf) : RSimT V Wf := by
  intro d h s x W hd hr
  obtain ⟨k, nm, op, vl, fo, a, b, f, LA, ln, lc⟩ := s
  obtain ⟨k', nm', op', vl', fo', a', b', f', l⟩ := x
  obtain ⟨e1, e2, e3, e4, e5, e6, e7, e8, hl, -, -, -, -, hns, hvs, -, -, hrow⟩ := hr
  simp only at e1 e2 e3 e4 e5 e6 e7 e8 hl hrow hns hvs
  subst e1 e2 e3 e4 e5 e6 e7 e8
  simp only
  by_cases h1 : k < 1 ∨ 14 < k
  · exact rsimB_other Wf d h k nm op vl fo a b f LA ln lc l W h1
  · obtain rfl | rfl | rfl | rfl | rfl | rfl | rfl | rfl | rfl | rfl | rfl | rfl | rfl | rfl : k = 1 ∨ k = 2 ∨ k = 3 ∨ k = 4 ∨ k = 5 ∨ k = 6 ∨ k = 7 ∨ k = 8 ∨ k = 9 ∨ k = 10 ∨ k = 11 ∨ k = 12 ∨ k = 13 ∨ k = 14 := by omega
    · exact rsimT1_ok d h nm op vl fo a b f LA ln lc l W hns hvs hl
    · exact rsimT2_ok d h nm op vl fo a b f LA ln lc l W hns hvs hl
    · by_cases ho : op = 0
      · subst ho
        exact rsimT3z_ok d h nm vl fo a b f LA ln lc l W hns hvs hl
      · exact rsimT3_ok d h nm op vl fo a b f LA ln lc l W ho hns hvs hl
    · exact rsimT4_ok d h nm op vl fo a b f LA ln lc l W hns hvs hl
    · exact rsimT5_ok d h nm op vl fo a b f LA ln lc l W hns hvs hl
    · exact rsimT6_ok d h nm op vl fo a b f LA ln lc l W hns hvs hl
    · exact rsimT7_ok d h nm op vl fo a b f LA ln lc l W hns hvs hl
    · exact rsimT8_ok d h nm op vl fo a b f LA ln lc l W hns hvs hl
    · exact rsimT9_ok hV hW d h nm op vl fo a b f LA ln lc l W hd hns hvs hl hrow
    · exact rsimT10_ok hV hW d h nm op vl fo a b f LA ln lc l W hd hns hvs hl hrow
    · exact rsimT11_ok hV hW d h nm op vl fo a b f LA ln lc l W hd hns hvs hl hrow
    · exact rsimT12_ok hV hW d h nm op vl fo a b f LA ln lc l W hd hns hvs hl hrow
    · exact rsimT13_ok hV hW d h nm op vl fo a b f LA ln lc l W hd hns hvs hl hrow
    · exact rsimT14_ok hV hW d h nm op vl fo a b f LA ln lc l W hd hns hvs hl hrow
end Go.Proofs.YtljloicgjgbplaaGreat
