/- Walks: whether a list is right, by the reference, at every level. Condition: a list has at most 1000000 selectors in all. -/
import Derived.Test.YtljloicgjgbplaaGreatG37
namespace Go.Proofs.YtljloicgjgbplaaGreat
open Go.RowKit

theorem rwholeV_ok : ∀ n, RWholeT (IsV n) (wholeV n)
  | 0 => fun _ _ _ _ _ _ _ _ _ _ _ _ _ h => h.elim
  | n + 1 => fun d h r ld PA pn pc KA kn kc x W hd hx => rwholeT_ok (isV_stays n) (rsimT_ok (isV_stays n) (rwholeV_ok n)) d h r ld PA pn pc KA kn kc x W hd ((IsCpx.lead (X := SelL n) hx) ▸ hx)
/-- The reference counts complex selectors. -/
def RNumT {X : Type} (V : Lies X) (N : List X → Nat) : Prop := ∀ (A : Option Addr) (n c : Nat) (l : List X) (W : World), IsRow V W A n l → N l ≤ 1000000 →
  Calls Tryz.prog 38 #[.slice A n c] W fun e w' => e = .returned (.int .i64 (N l : Nat)) ∧ Below W.heap.size W w'
section
variable {X : Type} {V : Lies X} (hV : Stays V) {N : List X → Nat} (hN : RNumT V N)
include hV hN
set_option maxRecDepth 100000 in
set_option maxHeartbeats 4000000 in
theorem rnumT_ok : RNumT (IsCpx V) (numL N) := by
  intro A n c l w hrow0 hb0
  have hll := hrow0.1
  have hn63 := hrow0.2.1
  have hrow := hide hrow0
  have hN' := hide hN
  have hV' := hide hV
  clear hrow0 hN hV
  go_enter Tryz.func38, Tryz.ntmps38
  go_wp2
  go_loopw [3, 4] (fun a i wr => ∃ k : Nat, k ≤ n ∧ i = .int .i64 k ∧ a = .int .i64 ((n + ((l.take k).map fun c => numParts N c.parts).sum : Nat) : Int) ∧ Below w.heap.size w wr) (fun _ i _ => n - (intOf i).toNat)
  case atStart => exact ⟨0, Nat.zero_le _, rfl, by simp, Below.refl _ _⟩
  case round =>
    obtain ⟨q, hq, rfl, rfl, hb⟩ := hrel
    by_cases hlt : q < n
    · obtain ⟨b, off, ld, PA, pn, pc, KA, kn, kc, rfl, hbl, c0, c1, c2, hv⟩ := hrow.out.at hlt hll
      have g0 := cell_later hb c0
      have g1 := cell_later hb c1
      have g2 := cell_later hb c2
      have hle := sum_get_le (fun c => numParts N c.parts) l (k := q) (by omega)
      have htot : numL N l = n + (l.map fun c => numParts N c.parts).sum := by unfold numL; rw [hll]
      have hsucc := sum_take_succ (fun c => numParts N c.parts) l (k := q) (by omega)
      obtain ⟨rfl, hl8, rfl, rfl, hP, -, ⟨hpc, hpc2⟩, -⟩ := hv
      generalize l[q] = x at *
      obtain ⟨m, hm⟩ : ∃ m, m = x.parts.length := ⟨_, rfl⟩
      rw [← hm] at g1 hP hpc
      have hpl := hP.2.1
      have hP' := hide hP
      have hm' := hide hm
      generalize hS : ((l.take q).map fun c => numParts N c.parts).sum = S at *
      have hle' := hide hle
      have htot' := hide htot
      have hsucc' := hide hsucc
      clear c0 c1 c2 hle htot hsucc hP hm hS
      generalize wr = w1 at *
      go_wp2_with fail
      go_loopw [3, 5] (fun a i wr => ∃ k : Nat, k ≤ m ∧ i = .int .i64 k ∧ a = .int .i64 ((n + S + ((x.parts.take k).map fun p => numSims N p.sims).sum : Nat) : Int) ∧ Below w1.heap.size w1 wr) (fun _ i _ => m - (intOf i).toNat)
      case atStart => exact ⟨0, Nat.zero_le _, rfl, by simp, Below.refl _ _⟩
      case round =>
        obtain ⟨j, hj, rfl, rfl, hb1⟩ := hrel
        have g1j := cell_later hb1 g1
        by_cases hjm : j < m
        · have hB1 := Below.on hb hb1
          obtain ⟨b1, off1, SA, SC, rfl, hbl1, d0, d1, d2⟩ := hP'.out.2.2 (by omega)
          have e0 := cell_later hB1 (d0 j hjm)
          have e1 := cell_later hB1 (d1 j hjm)
          obtain ⟨hsl, hsc, hsc2, -⟩ := d2 j hjm
          clear d0 d1 d2
          have hjl : j < x.parts.length := by rw [← hm'.out]; exact hjm
          have hle1 := sum_get_le (fun p : CompX X => numSims N p.sims) x.parts hjl
          have hsucc1 := sum_take_succ (fun p : CompX X => numSims N p.sims) x.parts hjl
          have htot1 : numParts N x.parts = (x.parts.map fun p => numSims N p.sims).sum := rfl
          have hpe : x.parts[j] = px x.parts j := by unfold px; rw [List.getD_eq_getElem?_getD, List.getElem?_eq_getElem hjl]; rfl
          rw [hpe] at hle1 hsucc1
          generalize px x.parts j = y at *
          obtain ⟨t, ht⟩ : ∃ t, t = y.sims.length := ⟨_, rfl⟩
          rw [← ht] at e1 hsl hsc
          generalize hS1 : ((x.parts.take j).map fun p => numSims N p.sims).sum = S1 at *
          have hle1' := hide hle1
          have hsucc1' := hide hsucc1
          have htot1' := hide htot1
          obtain ⟨-, SS, hSS, hrel⟩ := hsl
          have hS' := hide (show IsSims w _ t SS ∧ ∀ i, i < t → SimRel V w (sm SS i) (sy y.sims i) from ⟨hSS, hrel⟩)
          have ht' := hide ht
          generalize SA j = AS at *
          generalize SC j = CS at *
          have ht63 := hSS.2.1
          clear hle1 hsucc1 htot1 hSS hrel ht hS1 hpe
          generalize wr = w2 at *
          go_wp2_with fail
          go_loopw [3, 7] (fun a i wr => ∃ k : Nat, k ≤ t ∧ i = .int .i64 k ∧ a = .int .i64 ((n + S + S1 + ((y.sims.take k).map fun s => N s.list).sum : Nat) : Int) ∧ Below w2.heap.size w2 wr) (fun _ i _ => t - (intOf i).toNat)
          case atStart => exact ⟨0, Nat.zero_le _, rfl, by simp, Below.refl _ _⟩
          case round =>
            obtain ⟨i, hi, rfl, rfl, hb2⟩ := hrel
            by_cases hit : i < t
            · have hB2 := Below.on hB1 hb2
              obtain ⟨b2, off2, rfl, hbl2, hcc⟩ := hS'.out.1.2.2 (by omega)
              obtain ⟨k0, k1, k2, k3, k4, k5, k6, k7, k8⟩ := (hcc i hit).later hB2
              have hrl := hS'.out.2 i hit
              have hil : i < y.sims.length := by rw [← ht'.out]; exact hit
              have hle2 := sum_get_le (fun s : SimX X => N s.list) y.sims hil
              have hsucc2 := sum_take_succ (fun s : SimX X => N s.list) y.sims hil
              have hpe : y.sims[i] = sy y.sims i := by unfold sy; rw [List.getD_eq_getElem?_getD, List.getElem?_eq_getElem hil]; rfl
              rw [hpe] at hle2 hsucc2
              have htot2 : numSims N y.sims = (y.sims.map fun s => N s.list).sum := rfl
              have hbd : N (sy y.sims i).list ≤ 1000000 := by have := hle'.out; have := htot'.out; have := hle1'.out; have := htot1'.out; omega
              have hbd2 : n + S + S1 + ((y.sims.take i).map fun s => N s.list).sum ≤ 1000000 := by have := hle'.out; have := htot'.out; have := hle1'.out; have := htot1'.out; omega
              have hk := hide (fun (W : World) (hW : Below wr.heap.size wr W) => hN'.out (sm SS i).LA (sm SS i).ln (sm SS i).lc (sy y.sims i).list W (hrl.row.below hV'.out (Below.on hB2 hW)) hbd)
              have hsucc2' := hide hsucc2
              clear hcc hle2 hsucc2 htot2 hpe hrl
              generalize hS2 : ((y.sims.take i).map fun s => N s.list).sum = S2 at *
              generalize hz : N (sy y.sims i).list = z at *
              go_wp2_with (go_at_call 38; (with_reducible refine (hk.out _ (Below.refl _ _)).mono ?_); rintro e w3 ⟨rfl, hb3⟩)
              go_roundw
              case rel => exact ⟨i + 1, by omega, by go_num, by rw [hsucc2'.out]; congr 1; omega, Below.on hb2 hb3⟩
              case measure => simp [intOf]; omega
            · obtain rfl : i = t := by omega
              have hall : ((y.sims.take i).map fun s => N s.list).sum = numSims N y.sims := by rw [ht'.out, List.take_length]; rfl
              rw [hall]
              have hs := hsucc1'.out
              generalize numSims N y.sims = z at *
              have hsum : n + S + S1 + z ≤ 1000000 := by have := hle'.out; have := htot'.out; have := hle1'.out; have := htot1'.out; omega
              have hs' := hide hs
              clear hs hall
              go_wp2
              go_roundw
              case rel => exact ⟨j + 1, by omega, by go_num, by rw [hs'.out]; congr 1; omega, Below.on hb1 hb2⟩
              case measure => simp [intOf]; omega
        · obtain rfl : j = m := by omega
          have hall : ((x.parts.take j).map fun p => numSims N p.sims).sum = numParts N x.parts := by rw [hm'.out, List.take_length]; rfl
          rw [hall]
          have hs := hsucc'.out
          generalize numParts N x.parts = z at *
          have hsum : n + S + z ≤ 1000000 := by have := hle'.out; have := htot'.out; omega
          have hs' := hide hs
          clear hs hall
          go_wp2
          go_roundw
          case rel => exact ⟨q + 1, by omega, by go_num, by rw [hs'.out]; congr 1; omega, Below.on hb hb1⟩
          case measure => simp [intOf]; omega
    · obtain rfl : n = q := by omega
      have hall : n + ((l.take n).map fun c => numParts N c.parts).sum = numL N l := by
        unfold numL
        rw [show l.take n = l from by rw [← hll, List.take_length], hll]
      rw [hall]
      go_wp2
      go_ret
      exact ⟨rfl, hb⟩
end
theorem rnumV_ok : ∀ n, RNumT (IsV n) (numV n)
  | 0 => fun A m c l W h _ => by
    have hl : l = [] := by cases l with | nil => rfl | cons x _ => exact x.elim
    subst hl
    obtain rfl := h.1
    show Calls Tryz.prog 38 #[.slice A ([] : List (SelL 0)).length c] W _
    simp only [List.length_nil]
    go_enter Tryz.func38, Tryz.ntmps38
    go_wp2
    go_loopw [3, 4] (fun a i wr => a = .int .i64 0 ∧ i = .int .i64 0 ∧ W = wr) (fun _ _ _ => 0)
    case atStart => exact ⟨rfl, rfl, rfl⟩
    case round =>
      obtain ⟨rfl, rfl, rfl⟩ := hrel
      go_wp2
      go_ret
      exact ⟨rfl, Below.refl _ _⟩
  | n + 1 => rnumT_ok (isV_stays n) (rnumV_ok n)
set_option maxHeartbeats 1000000 in
theorem rfine_ok (n : Nat) (A : Option Addr) (m c : Nat) (l : List (SelL n)) (w : World) (hrow0 : IsRow (IsV n) w A m l) :
    Calls Tryz.prog 37 #[.slice A m c] w fun e w' => e = .returned (.bool (fineV n l)) ∧ Below w.heap.size w w' := by
  have hll := hrow0.1
  have hn63 := hrow0.2.1
  have hrow := hide hrow0
  clear hrow0
  go_enter Tryz.func37, Tryz.ntmps37
  go_wp2
  go_loopw [3] (fun i wr => ∃ k : Nat, k ≤ m ∧ i = .int .i64 k ∧ Hid (∀ (j : Nat) (x : SelL n), j < k → l[j]? = some x → wholeV n 0 false false x = true) ∧ Below w.heap.size w wr) (fun i _ => m - (intOf i).toNat)
  case atStart => exact ⟨0, Nat.zero_le _, rfl, fun j x hj => absurd hj (by omega), Below.refl _ _⟩
  case round =>
    obtain ⟨q, hq, rfl, hall, hb⟩ := hrel
    by_cases hlt : q < m
    · obtain ⟨b, off, ld, PA, pn, pc, KA, kn, kc, rfl, hbl, c0, c1, c2, hv⟩ := hrow.out.at hlt hll
      have g0 := cell_later hb c0
      have g1 := cell_later hb c1
      have g2 := cell_later hb c2
      have hk := hide (fun W (hW : Below w.heap.size w W) => (show Calls Tryz.prog 57 #[.agg #[.int .u8 ld, .slice PA pn pc, .slice KA kn kc], .agg #[.int .i64 0, .bool false], .bool false] W fun e w' => e = .returned (.bool (wholeV n 0 false false (l[q]'(by omega)))) ∧ Below W.heap.size W w' from rwholeV_ok n 0 false false ld PA pn pc KA kn kc _ W (by omega) (isV_stays n _ _ _ _ _ _ _ _ _ _ hW hv)))
      have hx : Hid (l[q]? = some (l[q]'(by omega))) := List.getElem?_eq_getElem (by omega)
      generalize l[q] = x at *
      clear c0 c1 c2 hv
      cases hp : wholeV n 0 false false x
      · rw [hp] at hk
        have hr : Hid (fineV n l = false) := by
          show _ = _
          refine Bool.eq_false_iff.2 fun e => ?_
          unfold fineV at e
          rw [Bool.and_eq_true] at e
          rw [List.all_eq_true.1 e.2 x (List.mem_of_getElem? hx.out)] at hp
          cases hp
        clear hp hall
        go_wp2_with (go_at_call 57; (with_reducible refine (hk.out _ (by first | exact hb | exact below_alloc hb _)).mono ?_); rintro e w3 ⟨rfl, hb3⟩)
        go_ret
        exact ⟨ret_bool hr.out.symm, by first | exact Below.on hb hb3 | exact Below.on (below_alloc hb _) hb3⟩
      · rw [hp] at hk
        have hp' := hide hp
        clear hp
        go_wp2_with (go_at_call 57; (with_reducible refine (hk.out _ (by first | exact hb | exact below_alloc hb _)).mono ?_); rintro e w3 ⟨rfl, hb3⟩)
        go_roundw
        case rel => exact ⟨q + 1, by omega, by go_num, fun j y hj hy => by
          by_cases h : j = q
          · subst h
            rw [hx.out] at hy; cases hy; exact hp'.out
          · exact hall.out j y (by omega) hy, by first | exact Below.on hb hb3 | exact Below.on (below_alloc hb _) hb3⟩
        case measure => simp [intOf]; omega
    · obtain rfl : m = q := by omega
      have hr : Hid (fineV n l = decide (0 < m)) := by
        show _ = _
        unfold fineV
        rw [hll, show l.all (wholeV n 0 false false) = true from List.all_eq_true.2 fun x hx => by
          obtain ⟨j, hj, rfl⟩ := List.getElem_of_mem hx
          exact hall.out j _ (by omega) (List.getElem?_eq_getElem hj), Bool.and_true]
      clear hall
      go_wp2
      go_ret
      exact ⟨ret_bool (by rw [hr.out]), hb⟩
/-- vitrineref08.Check, at a list that is not too long. -/
theorem rsChk_ok (n : Nat) (A : Option Addr) (m c : Nat) (l : List (SelL n)) (w : World) (hrow : IsRow (IsV n) w A m l) (hnum : numV n l ≤ 1000000) :
    Calls Tryz.prog 17 #[.slice A m c] w fun e w' => e = .returned (.int .i64 (chkV n l)) ∧ Below w.heap.size w w' := by
  have hf := hide (rfine_ok n A m c l w hrow)
  have hn := hide (fun (W : World) (hW : Below w.heap.size w W) => rnumV_ok n A m c l W (hrow.below (isV_stays n) hW) hnum)
  clear hrow
  cases h0 : fineV n l
  · have hr : Hid (chkV n l = 8) := by show _ = _; unfold chkV; rw [if_neg (by rw [h0]; simp)]
    rw [h0] at hf
    clear h0 hn hnum
    go_enter Tryz.func17, Tryz.ntmps17
    go_wp2_with fail
    (with_reducible refine hf.out.mono ?_)
    rintro e w1 ⟨rfl, hb1⟩
    go_wp2
    go_ret
    exact ⟨ret_int hr.out.symm, hb1⟩
  · have hr : Hid (chkV n l = if numV n l ≤ 64 then 0 else 4) := by show _ = _; unfold chkV; rw [if_pos h0]
    rw [h0] at hf
    clear h0
    generalize numV n l = z at *
    by_cases hz : z ≤ 64
    · have hr2 : Hid (chkV n l = 0) := by show _ = _; rw [hr.out, if_pos hz]
      clear hr
      go_enter Tryz.func17, Tryz.ntmps17
      go_wp2_with fail
      (with_reducible refine hf.out.mono ?_)
      rintro e w1 ⟨rfl, hb1⟩
      go_wp2_with fail
      (with_reducible refine (hn.out _ hb1).mono ?_)
      rintro e w2 ⟨rfl, hb2⟩
      go_wp2
      go_ret
      exact ⟨ret_int hr2.out.symm, Below.on hb1 hb2⟩
    · have hr2 : Hid (chkV n l = 4) := by show _ = _; rw [hr.out, if_neg hz]
      clear hr
      go_enter Tryz.func17, Tryz.ntmps17
      go_wp2_with fail
      (with_reducible refine hf.out.mono ?_)
      rintro e w1 ⟨rfl, hb1⟩
      go_wp2_with fail
      (with_reducible refine (hn.out _ hb1).mono ?_)
      rintro e w2 ⟨rfl, hb2⟩
      go_wp2
      go_ret
      exact ⟨ret_int hr2.out.symm, Below.on hb1 hb2⟩
end Go.Proofs.YtljloicgjgbplaaGreat
