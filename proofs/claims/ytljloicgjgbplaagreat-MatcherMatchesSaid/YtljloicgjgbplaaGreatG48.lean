/- Walks: whether an element matches a list, by chapter 23's reference: what is said of each selector is given. Conditions: the selectors are right, the element is in the tree. -/
import Derived.Test.YtljloicgjgbplaaGreatG41
namespace Go.Proofs.YtljloicgjgbplaaGreat
open Go.RowKit

/-- The reference says of a selector whether an element matches it. -/
def RCpxT {X : Type} (V : Lies X) (Wf : Nat → Bool → Bool → X → Bool) (T : List ANode) (m : Int) (C : X → List Int) (R : X → List (List Bool)) : Prop :=
  ∀ (A : Option Addr) (n c i : Nat) (ld : Int) (PA : Option Addr) (pn pc : Nat) (KA : Option Addr) (kn kc : Nat) (x : X) (W : World), IsTree W A n T → V W ld PA pn pc KA kn kc x → (∃ d h r, Wf d h r x = true) → i < n →
    Calls Tryz.prog 46 #[.agg #[.slice A n c], .int .i64 i, .agg #[.int .u8 ld, .slice PA pn pc, .slice KA kn kc], .int .i64 m] W fun e w' => e = .returned (.bool (isI T C R x i)) ∧ Below W.heap.size W w'
def RInT {X : Type} (V : Lies X) (Wf : Nat → Bool → Bool → X → Bool) (T : List ANode) (m : Int) (C : X → List Int) (R : X → List (List Bool)) : Prop :=
  ∀ (A : Option Addr) (n c i : Nat) (LA : Option Addr) (ln lc : Nat) (l : List X) (W : World), IsTree W A n T → IsRow V W LA ln l → (∃ d h r, l.all (Wf d h r) = true) → i < n →
    Calls Tryz.prog 45 #[.agg #[.slice A n c], .int .i64 i, .slice LA ln lc, .int .i64 m] W fun e w' => e = .returned (.bool (anyI T C R l i)) ∧ Below W.heap.size W w'
section
variable {X : Type} {V : Lies X} {Wf : Nat → Bool → Bool → X → Bool} {T : List ANode} {m : Int} {C : X → List Int} {R : X → List (List Bool)}
set_option maxRecDepth 100000 in
set_option maxHeartbeats 1000000 in
theorem rinT_ok (hV : Stays V) (hC : RCpxT V Wf T m C R) : RInT V Wf T m C R := by
  intro A n c i LA ln lc l w h hrow0 hal hi
  obtain ⟨d0, h0, r0, hall⟩ := hal
  have hT := hide h
  have hrow := hide hrow0
  have hll := hrow0.1
  have hln := hrow0.2.1
  have hC' := hide hC
  have hV' := hide hV
  have hall' := hide hall
  have hB0 := below_alloc (Below.refl w.heap.size w) (.cells #[.slice A n c] 24)
  have hbox0 : (w.alloc (.cells #[.slice A n c] 24)).cell? ⟨w.heap.size, 0, none⟩ = some (.slice A n c) := by go_simp
  obtain ⟨rv, hrv⟩ : ∃ rv, anyI T C R l i = rv := ⟨_, rfl⟩
  rw [hrv]
  have hrv' := hide hrv
  clear h hrow0 hall hC hV hrv
  go_enter Tryz.func45, Tryz.ntmps45
  go_wp2
  go_loopw [9] (fun s wr => ∃ q : Nat, q ≤ ln ∧ s = .int .i64 q ∧ Hid (anyI T C R (l.take q) i = false) ∧ Below (w.alloc (.cells #[.slice A n c] 24)).heap.size (w.alloc (.cells #[.slice A n c] 24)) wr) (fun s _ => ln - (intOf s).toNat)
  case atStart => exact ⟨0, Nat.zero_le _, rfl, rfl, Below.refl _ _⟩
  case round =>
    obtain ⟨q, hq, rfl, hno, hb⟩ := hrel
    have hbox := cell_later hb hbox0
    have hBw := Below.on hB0 hb
    by_cases hlt : q < ln
    · obtain ⟨b, off, ld, PA, pn, pc, KA, kn, kc, rfl, hbl, c0, c1, c2, hv⟩ := hrow.out.at hlt hll
      have g0 := cell_later hBw c0
      have g1 := cell_later hBw c1
      have g2 := cell_later hBw c2
      have hxm : l[q]'(by omega) ∈ l := List.getElem_mem _
      have hwx := List.all_eq_true.1 hall'.out _ hxm
      have htk : Hid (anyI T C R (l.take (q + 1)) i = (anyI T C R (l.take q) i || isI T C R (l[q]'(by omega)) i)) := take_any (by omega)
      have hyes : Hid (isI T C R (l[q]'(by omega)) i = true → rv = true) := fun h => by rw [← hrv'.out]; exact List.any_eq_true.2 ⟨_, hxm, h⟩
      generalize l[q] = x at *
      have hx := hC'.out A n c i ld PA pn pc KA kn kc x wr.drew (hT.out.below hBw.drew) (hV'.out _ _ _ _ _ _ _ _ _ _ hBw.drew hv) ⟨d0, h0, r0, hwx⟩ hi
      have x0 : (0 : Int) ≤ (q : Int) := by omega
      have x1 : (q : Int) < (ln : Int) := by omega
      cases hr : isI T C R x i
      · rw [hr] at hx
        have hx' := hide hx
        have hno2 : Hid (anyI T C R (l.take (q + 1)) i = false) := by show _ = _; rw [htk.out, hno.out, hr]; rfl
        clear c0 c1 c2 hv hxm hwx htk hyes hr hx
        go_wp2
        go_region_held3 (fun X => X.cell? ⟨w.heap.size, 0, none⟩ = some (.slice A n c) ∧ X.cell? ⟨b, off + q * 3, none⟩ = some (.int .u8 ld) ∧ X.cell? ⟨b, off + q * 3 + 1, none⟩ = some (.slice PA pn pc) ∧ X.cell? ⟨b, off + q * 3 + 2, none⟩ = some (.slice KA kn kc)) (first | exact ⟨hbox, g0, g1, g2⟩ | exact ⟨r0, r1, r2, r3⟩) (first | (go_at_call 46; (with_reducible refine hx'.out.mono ?_); rintro e7 w7 ⟨rfl, hb7⟩; have r0 := cell_later hb7 hbox; have r1 := cell_later hb7 g0; have r2 := cell_later hb7 g1; have r3 := cell_later hb7 g2))
        have hb7' := hide (Below.on (w1 := wr.drew) hb.drew hb7)
        clear hb7 r0 r1 r2 r3
        go_wp2
        go_roundw
        case rel => exact ⟨q + 1, by omega, by go_num, hno2.out, hb7'.out⟩
        case measure => simp [intOf]; omega
      · rw [hr] at hx
        have hx' := hide hx
        have hrt : Hid (rv = true) := hyes.out hr
        clear c0 c1 c2 hv hxm hwx htk hyes hr hx
        go_wp2
        go_region_held3 (fun X => X.cell? ⟨w.heap.size, 0, none⟩ = some (.slice A n c) ∧ X.cell? ⟨b, off + q * 3, none⟩ = some (.int .u8 ld) ∧ X.cell? ⟨b, off + q * 3 + 1, none⟩ = some (.slice PA pn pc) ∧ X.cell? ⟨b, off + q * 3 + 2, none⟩ = some (.slice KA kn kc)) (first | exact ⟨hbox, g0, g1, g2⟩ | exact ⟨r0, r1, r2, r3⟩) (first | (go_at_call 46; (with_reducible refine hx'.out.mono ?_); rintro e7 w7 ⟨rfl, hb7⟩; have r0 := cell_later hb7 hbox; have r1 := cell_later hb7 g0; have r2 := cell_later hb7 g1; have r3 := cell_later hb7 g2))
        have hb7' := hide (Below.on (w1 := wr.drew) hBw.drew hb7)
        clear hb7 r0 r1 r2 r3
        go_wp2
        go_ret
        exact ⟨ret_bool hrt.out.symm, hb7'.out⟩
    · obtain rfl : ln = q := by omega
      have hrt : Hid (rv = false) := by
        show _ = _
        rw [← hrv'.out]
        have := hno.out
        rwa [← hll, List.take_length] at this
      go_wp2
      go_ret
      exact ⟨ret_bool hrt.out.symm, hBw⟩
end
end Go.Proofs.YtljloicgjgbplaaGreat
/- Walks: whether an element matches a compound, by chapter 23's reference: what is said of each simple selector is given. Conditions: the compound is right, the element is in the tree. -/
namespace Go.Proofs.YtljloicgjgbplaaGreat
open Go.RowKit

def RSimM {X : Type} (V : Lies X) (Wf : Nat → Bool → Bool → X → Bool) (T : List ANode) (m : Int) (L : X → Int) (C : X → List Int) (R : X → List (List Bool)) : Prop :=
  ∀ (A : Option Addr) (n c i : Nat) (s : Sim) (x : SimX X) (W : World), IsTree W A n T → SimRel V W s x → (∃ d h, simB Wf d h x = true) → i < n →
    Calls Tryz.prog 118 #[.agg #[.slice A n c], .int .i64 i, .agg #[.int .u8 s.kind, .string s.name, .int .u8 s.op, .string s.val, .bool s.fold, .int .i64 s.a, .int .i64 s.b, .bool s.of, .slice s.LA s.ln s.lc], .int .i64 m] W fun e w' => e = .returned (.bool (simM T m L C R x i)) ∧ Below W.heap.size W w'
def RCompM {X : Type} (V : Lies X) (Wf : Nat → Bool → Bool → X → Bool) (T : List ANode) (m : Int) (L : X → Int) (C : X → List Int) (R : X → List (List Bool)) : Prop :=
  ∀ (A : Option Addr) (n c i : Nat) (SA : Option Addr) (sn sc : Nat) (cc : CompX X) (W : World), IsTree W A n T → IsSimL V W SA sn cc.sims → (∃ d h, compB Wf d h cc = true) → i < n →
    Calls Tryz.prog 81 #[.agg #[.slice A n c], .int .i64 i, .agg #[.string cc.tag, .slice SA sn sc], .int .i64 m] W fun e w' => e = .returned (.bool (compM T m L C R cc i)) ∧ Below W.heap.size W w'
theorem take_allX {X : Type} {p : X → Bool} {l : List X} {q : Nat} (h : q < l.length) : (l.take (q + 1)).all p = ((l.take q).all p && p (l[q]'h)) := by
  rw [List.take_succ_eq_append_getElem h, List.all_append]
  simp
theorem sy_at {X : Type} {l : List (SimX X)} {q : Nat} (h : q < l.length) : l[q]'h = sy l q := by
  unfold sy; rw [List.getD_eq_getElem?_getD, List.getElem?_eq_getElem h]; rfl
section
variable {X : Type} {V : Lies X} {Wf : Nat → Bool → Bool → X → Bool} {T : List ANode} {m : Int} {L : X → Int} {C : X → List Int} {R : X → List (List Bool)}
set_option maxRecDepth 100000 in
set_option maxHeartbeats 1000000 in
theorem rcompM_ok (hV : Stays V) (hS : RSimM V Wf T m L C R) : RCompM V Wf T m L C R := by
  intro A n c i SA sn sc cc w h hL hal hi
  obtain ⟨d0, h0, hB⟩ := hal
  have hsims := (compB_iff.1 hB).2.2.2
  obtain ⟨hcl, S, hIS, hsr⟩ := hL
  have hT := hide h
  have hIS' := hide hIS
  have hsr' := hide hsr
  have hsims' := hide hsims
  have hcl' := hide hcl
  have hV' := hide hV
  have hS' := hide hS
  have hsn := hIS.2.1
  have hB0 := below_alloc (below_alloc (Below.refl w.heap.size w) (.cells #[.slice A n c] 24)) (.cells #[.string cc.tag, .slice SA sn sc] 70)
  have hX : ((w.alloc (.cells #[.slice A n c] 24)).alloc (.cells #[.string cc.tag, .slice SA sn sc] 70)).heap[w.heap.size + 1]? = some (.cells #[.string cc.tag, .slice SA sn sc] 70 (0, 0)) := blk_at _ _ _ _ (by simp)
  have hbox0 : ((w.alloc (.cells #[.slice A n c] 24)).alloc (.cells #[.string cc.tag, .slice SA sn sc] 70)).cell? ⟨w.heap.size, 0, none⟩ = some (.slice A n c) := blk_cell (blk_alloc (blk_new _ _ _) _) 0
  have q0 := blk_cell hX 0
  have q1 := blk_cell hX 1
  simp only [List.getElem?_toArray, List.getElem?_cons_succ, List.getElem?_cons_zero] at q0 q1
  have htg := hide (rtagged_ok A n c T i cc.tag _ (h.below hB0) hi)
  obtain ⟨rv, hrv⟩ : ∃ rv, compM T m L C R cc i = rv := ⟨_, rfl⟩
  rw [hrv]
  have hrv' := hide (show (tagF T i cc.tag && cc.sims.all fun s => simM T m L C R s i) = rv from hrv)
  clear h hB hsims hIS hsr hcl hV hS hX hrv
  generalize cc.tag = tg at *
  go_enter Tryz.func81, Tryz.ntmps81
  go_wp2_with fail
  (with_reducible refine htg.out.mono ?_)
  rintro e w1 ⟨rfl, hb1⟩
  have hB1 := Below.on hB0 hb1
  have hbox1 := cell_later hb1 hbox0
  have p1 := cell_later hb1 q1
  cases ht : tagF T i tg
  · have hr : Hid (rv = false) := by show _ = _; rw [← hrv'.out, ht]; rfl
    clear ht
    go_wp2
    go_ret
    exact ⟨ret_bool hr.out.symm, hB1⟩
  · have hr : Hid ((cc.sims.all fun s => simM T m L C R s i) = rv) := by show _ = _; rw [← hrv'.out, ht]; rfl
    clear ht hb1 hB0 hbox0 q0 q1 htg
    go_wp2
    go_loopw [9] (fun s wr => ∃ q : Nat, q ≤ sn ∧ s = .int .i64 q ∧ Hid ((cc.sims.take q).all (fun s => simM T m L C R s i) = true) ∧ Below w1.heap.size w1 wr) (fun s _ => sn - (intOf s).toNat)
    case atStart => exact ⟨0, Nat.zero_le _, rfl, rfl, Below.refl _ _⟩
    case round =>
      obtain ⟨q, hq, rfl, hall, hb⟩ := hrel
      have hBw := Below.on hB1 hb
      have b0 := cell_later hb hbox1
      have b1 := cell_later hb p1
      by_cases hlt : q < sn
      · obtain ⟨b3, o3, rfl, hb3l, hc3⟩ := hIS'.out.2.2 (by omega)
        obtain ⟨s0, s1, s2, s3, s4, s5, s6, s7, s8⟩ := (hc3 q hlt).later hBw
        have hql : q < cc.sims.length := by rw [hcl'.out]; exact hlt
        have htk : Hid ((cc.sims.take (q + 1)).all (fun s => simM T m L C R s i) = ((cc.sims.take q).all (fun s => simM T m L C R s i) && simM T m L C R (sy cc.sims q) i)) := by show _ = _; rw [take_allX hql, sy_at hql]
        have hno : Hid (simM T m L C R (sy cc.sims q) i = false → rv = false) := fun h => by
          rw [← hr.out]
          refine Bool.eq_false_iff.2 fun h2 => ?_
          have := List.all_eq_true.1 h2 _ (sy_mem hql)
          rw [h] at this
          cases this
        have hk1 := hS'.out A n c i (sm S q) (sy cc.sims q) wr.drew (hT.out.below hBw.drew) ((hsr'.out q hlt).below hV'.out hBw.drew) ⟨d0, h0, hsims'.out _ (sy_mem hql)⟩ hi
        have hrl := hsr'.out q hlt
        have x0 : (0 : Int) ≤ (q : Int) := by omega
        have x1 : (q : Int) < (sn : Int) := by omega
        generalize sm S q = s at *
        generalize sy cc.sims q = x at *
        clear hc3 hrl
        have hS9 := hide (fun (W : World) (hW : Below wr.heap.size wr W) => (show W.cell? ⟨w.heap.size, 0, none⟩ = some (.slice A n c) ∧ W.cell? ⟨w.heap.size + 1, 1, none⟩ = some (.slice (some ⟨b3, o3, none⟩) sn sc) ∧ W.cell? ⟨b3, o3 + q * 9, none⟩ = some (.int .u8 s.kind) ∧ W.cell? ⟨b3, o3 + q * 9 + 1, none⟩ = some (.string s.name) ∧ W.cell? ⟨b3, o3 + q * 9 + 2, none⟩ = some (.int .u8 s.op) ∧ W.cell? ⟨b3, o3 + q * 9 + 3, none⟩ = some (.string s.val) ∧ W.cell? ⟨b3, o3 + q * 9 + 4, none⟩ = some (.bool s.fold) ∧ W.cell? ⟨b3, o3 + q * 9 + 5, none⟩ = some (.int .i64 s.a) ∧ W.cell? ⟨b3, o3 + q * 9 + 6, none⟩ = some (.int .i64 s.b) ∧ W.cell? ⟨b3, o3 + q * 9 + 7, none⟩ = some (.bool s.of) ∧ W.cell? ⟨b3, o3 + q * 9 + 8, none⟩ = some (.slice s.LA s.ln s.lc) from
          ⟨cell_later hW b0, cell_later hW b1, cell_later hW s0, cell_later hW s1, cell_later hW s2, cell_later hW s3, cell_later hW s4, cell_later hW s5, cell_later hW s6, cell_later hW s7, cell_later hW s8⟩))
        cases hv : simM T m L C R x i
        · rw [hv] at hk1
          have hk1' := hide hk1
          have hrt : Hid (rv = false) := hno.out hv
          clear hk1 htk hno hv
          go_wp2
          go_region_held3 (fun X => X.cell? ⟨w.heap.size, 0, none⟩ = some (.slice A n c) ∧ X.cell? ⟨w.heap.size + 1, 1, none⟩ = some (.slice (some ⟨b3, o3, none⟩) sn sc) ∧ X.cell? ⟨b3, o3 + q * 9, none⟩ = some (.int .u8 s.kind) ∧ X.cell? ⟨b3, o3 + q * 9 + 1, none⟩ = some (.string s.name) ∧ X.cell? ⟨b3, o3 + q * 9 + 2, none⟩ = some (.int .u8 s.op) ∧ X.cell? ⟨b3, o3 + q * 9 + 3, none⟩ = some (.string s.val) ∧ X.cell? ⟨b3, o3 + q * 9 + 4, none⟩ = some (.bool s.fold) ∧ X.cell? ⟨b3, o3 + q * 9 + 5, none⟩ = some (.int .i64 s.a) ∧ X.cell? ⟨b3, o3 + q * 9 + 6, none⟩ = some (.int .i64 s.b) ∧ X.cell? ⟨b3, o3 + q * 9 + 7, none⟩ = some (.bool s.of) ∧ X.cell? ⟨b3, o3 + q * 9 + 8, none⟩ = some (.slice s.LA s.ln s.lc)) (first | exact ⟨b0, b1, s0, s1, s2, s3, s4, s5, s6, s7, s8⟩ | exact hS9.out _ (Below.on (w1 := wr.drew) (Below.refl _ _).drew hb7)) (first | (go_at_call 118; (with_reducible refine hk1'.out.mono ?_); rintro e7 w7 ⟨rfl, hb7⟩))
          have hb7' := hide (Below.on (w1 := wr.drew) hBw.drew hb7)
          clear hb7
          go_wp2
          go_ret
          exact ⟨ret_bool hrt.out.symm, hb7'.out⟩
        · rw [hv] at hk1
          have hk1' := hide hk1
          have hall2 : Hid ((cc.sims.take (q + 1)).all (fun s => simM T m L C R s i) = true) := by show _ = _; rw [htk.out, hall.out, hv]; rfl
          clear hk1 htk hno hv
          go_wp2
          go_region_held3 (fun X => X.cell? ⟨w.heap.size, 0, none⟩ = some (.slice A n c) ∧ X.cell? ⟨w.heap.size + 1, 1, none⟩ = some (.slice (some ⟨b3, o3, none⟩) sn sc) ∧ X.cell? ⟨b3, o3 + q * 9, none⟩ = some (.int .u8 s.kind) ∧ X.cell? ⟨b3, o3 + q * 9 + 1, none⟩ = some (.string s.name) ∧ X.cell? ⟨b3, o3 + q * 9 + 2, none⟩ = some (.int .u8 s.op) ∧ X.cell? ⟨b3, o3 + q * 9 + 3, none⟩ = some (.string s.val) ∧ X.cell? ⟨b3, o3 + q * 9 + 4, none⟩ = some (.bool s.fold) ∧ X.cell? ⟨b3, o3 + q * 9 + 5, none⟩ = some (.int .i64 s.a) ∧ X.cell? ⟨b3, o3 + q * 9 + 6, none⟩ = some (.int .i64 s.b) ∧ X.cell? ⟨b3, o3 + q * 9 + 7, none⟩ = some (.bool s.of) ∧ X.cell? ⟨b3, o3 + q * 9 + 8, none⟩ = some (.slice s.LA s.ln s.lc)) (first | exact ⟨b0, b1, s0, s1, s2, s3, s4, s5, s6, s7, s8⟩ | exact hS9.out _ (Below.on (w1 := wr.drew) (Below.refl _ _).drew hb7)) (first | (go_at_call 118; (with_reducible refine hk1'.out.mono ?_); rintro e7 w7 ⟨rfl, hb7⟩))
          have hb7' := hide (Below.on (w1 := wr.drew) hb.drew hb7)
          clear hb7
          go_wp2
          go_roundw
          case rel => exact ⟨q + 1, by omega, by go_num, hall2.out, hb7'.out⟩
          case measure => simp [intOf]; omega
      · obtain rfl : sn = q := by omega
        have hrt : Hid (rv = true) := by
          show _ = _
          have h2 := hall.out
          rw [← hcl'.out, List.take_length] at h2
          rw [← hr.out]; exact h2
        go_wp2
        go_ret
        exact ⟨ret_bool hrt.out.symm, hBw⟩
end
end Go.Proofs.YtljloicgjgbplaaGreat
