/- Walks: whether simple and complex selectors are right at every level, and whether a list is, by the program. Conditions as each states. -/
import Derived.Test.YtljloicgjgbplaaGreatG30
import Derived.Test.YtljloicgjgbplaaGreatG25
import Derived.Test.YtljloicgjgbplaaGreatG26
import Derived.Test.YtljloicgjgbplaaGreatG10
import Derived.Deep.RegionHeld3
namespace Go.Proofs.YtljloicgjgbplaaGreat
open Go.RowKit

theorem simT_ok {X : Type} {V : Lies X} (hV : Stays V) {Wf : Nat → Bool → Bool → X → Bool} (hW : WholeT V Wf) : SimT V Wf := by
  intro d h s x W hd hr
  obtain ⟨k, nm, op, vl, fo, a, b, f, LA, ln, lc⟩ := s
  obtain ⟨k', nm', op', vl', fo', a', b', f', l⟩ := x
  obtain ⟨e1, e2, e3, e4, e5, e6, e7, e8, hl, -, -, -, -, -, -, -, -, hrow⟩ := hr
  simp only at e1 e2 e3 e4 e5 e6 e7 e8 hl hrow
  subst e1 e2 e3 e4 e5 e6 e7 e8
  simp only
  by_cases h1 : k < 1 ∨ 14 < k
  · exact simTo_ok d h k nm op vl fo a b f LA ln lc l W hd hl h1
  · by_cases h2 : 4 ≤ k ∧ k ≤ 8
    · exact simTp_ok d h k nm op vl fo a b f LA ln lc l W hd hl h2.1 h2.2
    · obtain rfl | rfl | rfl | rfl | rfl | rfl | rfl | rfl | rfl : k = 1 ∨ k = 2 ∨ k = 3 ∨ k = 9 ∨ k = 10 ∨ k = 11 ∨ k = 12 ∨ k = 13 ∨ k = 14 := by omega
      · exact simT1_ok d h nm op vl fo a b f LA ln lc l W hd hl
      · exact simT2_ok d h nm op vl fo a b f LA ln lc l W hd hl
      · exact simT3_ok d h nm op vl fo a b f LA ln lc l W hd hl
      · cases f
        · exact simT9n_ok d h nm op vl fo a b LA ln lc l W hd hl
        · exact simT9_ok hV hW d h nm op vl fo a b LA ln lc l W hd hl hrow
      · cases f
        · exact simT10n_ok d h nm op vl fo a b LA ln lc l W hd hl
        · exact simT10_ok hV hW d h nm op vl fo a b LA ln lc l W hd hl hrow
      · exact simT11_ok hV hW d h nm op vl fo a b f LA ln lc l W hd hl hrow
      · exact simT12_ok hV hW d h nm op vl fo a b f LA ln lc l W hd hl hrow
      · exact simT13_ok hV hW d h nm op vl fo a b f LA ln lc l W hd hl hrow
      · exact simT14_ok hV hW d h nm op vl fo a b f LA ln lc l W hd hl hrow
theorem wholeT_all : ∀ n, WholeT (IsV n) (wholeV n)
  | 0 => fun _ _ _ _ _ _ _ _ _ _ _ _ _ h => h.elim
  | n + 1 => fun d h r ld PA pn pc KA kn kc x W hd hx => wholeT_ok (isV_stays n) (simT_ok (isV_stays n) (wholeT_all n)) d h r ld PA pn pc KA kn kc x W hd hx
theorem check1_ok (n : Nat) (ld : Int) (PA : Option Addr) (pn pc : Nat) (KA : Option Addr) (kn kc : Nat) (x : SelL n) (w : World) (hx : IsV n w ld PA pn pc KA kn kc x) :
    Calls Tryz.prog 40 #[.agg #[.int .u8 ld, .slice PA pn pc, .slice KA kn kc]] w fun e w' => e = .returned (.bool (!wholeV n 0 false false x)) ∧ Below w.heap.size w w' := by
  have hk : Hid (∀ W : World, Below w.heap.size w W → Calls Tryz.prog 41 #[.agg #[.int .u8 ld, .slice PA pn pc, .slice KA kn kc], .agg #[.int .i64 0, .bool false], .bool false] W fun e w' => e = .returned (.bool (wholeV n 0 false false x)) ∧ Below W.heap.size W w') :=
    fun W hb => wholeT_all n 0 false false ld PA pn pc KA kn kc x W (by omega) (isV_stays n _ _ _ _ _ _ _ _ _ _ hb hx)
  clear hx
  go_enter Tryz.func40, Tryz.ntmps40
  go_wp2_with (go_at_call 41; (with_reducible refine (hk.out _ (below_alloc (Below.refl _ _) _)).mono ?_); rintro e w1 ⟨rfl, hb1⟩)
  go_ret
  exact ⟨rfl, Below.on (below_alloc (Below.refl _ _) _) hb1⟩
/-- The program counts complex selectors. -/
def CountT {X : Type} (V : Lies X) (N : List X → Nat) : Prop := ∀ (A : Option Addr) (n c : Nat) (l : List X) (W : World), IsRow V W A n l → N l ≤ 1000000 →
  Calls Tryz.prog 42 #[.slice A n c] W fun e w' => e = .returned (.int .i64 (N l : Nat)) ∧ Below W.heap.size W w'
theorem sum_take_succ {α : Type} (f : α → Nat) (l : List α) {k : Nat} (h : k < l.length) : ((l.take (k + 1)).map f).sum = ((l.take k).map f).sum + f l[k] := by
  rw [List.take_succ_eq_append_getElem h, List.map_append, List.sum_append]
  simp
theorem sum_take_le {α : Type} (f : α → Nat) : ∀ (l : List α) (k : Nat), ((l.take k).map f).sum ≤ (l.map f).sum
  | [], k => by simp
  | a :: l, 0 => by simp
  | a :: l, k + 1 => by simp only [List.take_succ_cons, List.map_cons, List.sum_cons]; have := sum_take_le f l k; omega
theorem sum_get_le {α : Type} (f : α → Nat) (l : List α) {k : Nat} (h : k < l.length) : ((l.take k).map f).sum + f l[k] ≤ (l.map f).sum := by
  rw [← sum_take_succ f l h]
  exact sum_take_le f l _
/-- One complex selector of a list, as it lies. -/
theorem IsRow.at {X : Type} {V : Lies X} {w : World} {A : Option Addr} {n : Nat} {l : List X} (h : IsRow V w A n l) {q : Nat} (hq : q < n) (hl : l.length = n) : ∃ (b off : Nat) (ld : Int) (PA : Option Addr) (pn pc : Nat) (KA : Option Addr) (kn kc : Nat), A = some ⟨b, off, none⟩ ∧ b < w.heap.size ∧
    w.cell? ⟨b, off + q * 3, none⟩ = some (.int .u8 ld) ∧ w.cell? ⟨b, off + q * 3 + 1, none⟩ = some (.slice PA pn pc) ∧ w.cell? ⟨b, off + q * 3 + 2, none⟩ = some (.slice KA kn kc) ∧ V w ld PA pn pc KA kn kc (l[q]'(by omega)) := by
  obtain ⟨-, -, ho⟩ := h
  obtain ⟨b, off, rfl, hb, hc⟩ := ho (by omega)
  obtain ⟨ld, PA, pn, pc, KA, kn, kc, c0, c1, c2, hv⟩ := hc q _ (List.getElem?_eq_getElem (by omega))
  exact ⟨b, off, ld, PA, pn, pc, KA, kn, kc, rfl, hb, c0, c1, c2, hv⟩
section
variable {X : Type} {V : Lies X} (hV : Stays V) {N : List X → Nat} (hN : CountT V N)
include hV hN
set_option maxRecDepth 100000 in
set_option maxHeartbeats 4000000 in
theorem countT_ok : CountT (IsCpx V) (numL N) := by
  intro A n c l w hrow0 hb0
  have hll := hrow0.1
  have hn63 := hrow0.2.1
  have hrow := hide hrow0
  have hN' := hide hN
  have hV' := hide hV
  clear hrow0 hN hV
  go_enter Tryz.func42, Tryz.ntmps42
  go_wp2
  go_loopw [3, 14] (fun a i wr => ∃ k : Nat, k ≤ n ∧ i = .int .i64 k ∧ a = .int .i64 ((n + ((l.take k).map fun c => numParts N c.parts).sum : Nat) : Int) ∧ Below w.heap.size w wr) (fun _ i _ => n - (intOf i).toNat)
  case atStart => exact ⟨0, Nat.zero_le _, rfl, by simp, Below.refl _ _⟩
  case round =>
    obtain ⟨q, hq, rfl, rfl, hb⟩ := hrel
    by_cases hlt : q < n
    · obtain ⟨b, off, ld, PA, pn, pc, KA, kn, kc, rfl, hbl, c0, c1, c2, hv⟩ := hrow.out.at hlt hll
      have g0 := cell_later hb c0
      have g1 := cell_later hb c1
      have g2 := cell_later hb c2
      have hle := sum_get_le (fun c => numParts N c.parts) l (k := q) (by omega)
      have htot : numL N l = n + (l.map fun c => numParts N c.parts).sum := by unfold numL; rw [hll]
      have hsucc := sum_take_succ (fun c => numParts N c.parts) l (k := q) (by omega)
      obtain ⟨rfl, hl8, rfl, rfl, hP, -, ⟨hpc, hpc2⟩, -⟩ := hv
      generalize l[q] = x at *
      obtain ⟨m, hm⟩ : ∃ m, m = x.parts.length := ⟨_, rfl⟩
      rw [← hm] at g1 hP hpc
      have hpl := hP.2.1
      have hP' := hide hP
      have hm' := hide hm
      generalize hS : ((l.take q).map fun c => numParts N c.parts).sum = S at *
      have hle' := hide hle
      have htot' := hide htot
      have hsucc' := hide hsucc
      clear c0 c1 c2 hle htot hsucc hP hm hS
      generalize wr = w1 at *
      go_wp2_with fail
      go_loopw [3, 21] (fun a i wr => ∃ k : Nat, k ≤ m ∧ i = .int .i64 k ∧ a = .int .i64 ((n + S + ((x.parts.take k).map fun p => numSims N p.sims).sum : Nat) : Int) ∧ Below w1.heap.size w1 wr) (fun _ i _ => m - (intOf i).toNat)
      case atStart => exact ⟨0, Nat.zero_le _, rfl, by simp, below_alloc (Below.refl _ _) _⟩
      case round =>
        obtain ⟨j, hj, rfl, rfl, hb1⟩ := hrel
        by_cases hjm : j < m
        · have hB1 := Below.on hb hb1
          obtain ⟨b1, off1, SA, SC, rfl, hbl1, d0, d1, d2⟩ := hP'.out.2.2 (by omega)
          have e0 := cell_later hB1 (d0 j hjm)
          have e1 := cell_later hB1 (d1 j hjm)
          obtain ⟨hsl, hsc, hsc2, -⟩ := d2 j hjm
          clear d0 d1 d2
          have hjl : j < x.parts.length := by rw [← hm'.out]; exact hjm
          have hle1 := sum_get_le (fun p : CompX X => numSims N p.sims) x.parts hjl
          have hsucc1 := sum_take_succ (fun p : CompX X => numSims N p.sims) x.parts hjl
          have htot1 : numParts N x.parts = (x.parts.map fun p => numSims N p.sims).sum := rfl
          have hpe : x.parts[j] = px x.parts j := by unfold px; rw [List.getD_eq_getElem?_getD, List.getElem?_eq_getElem hjl]; rfl
          rw [hpe] at hle1 hsucc1
          generalize px x.parts j = y at *
          obtain ⟨t, ht⟩ : ∃ t, t = y.sims.length := ⟨_, rfl⟩
          rw [← ht] at e1 hsl hsc
          generalize hS1 : ((x.parts.take j).map fun p => numSims N p.sims).sum = S1 at *
          have hle1' := hide hle1
          have hsucc1' := hide hsucc1
          have htot1' := hide htot1
          obtain ⟨-, SS, hSS, hrel⟩ := hsl
          have hS' := hide (show IsSims w _ t SS ∧ ∀ i, i < t → SimRel V w (sm SS i) (sy y.sims i) from ⟨hSS, hrel⟩)
          have ht' := hide ht
          generalize SA j = AS at *
          generalize SC j = CS at *
          have ht63 := hSS.2.1
          clear hle1 hsucc1 htot1 hSS hrel ht hS1 hpe
          generalize wr = w2 at *
          go_wp2_with fail
          go_loopw [3, 28] (fun a i wr => ∃ k : Nat, k ≤ t ∧ i = .int .i64 k ∧ a = .int .i64 ((n + S + S1 + ((y.sims.take k).map fun s => N s.list).sum : Nat) : Int) ∧ Below w2.heap.size w2 wr) (fun _ i _ => t - (intOf i).toNat)
          case atStart => exact ⟨0, Nat.zero_le _, rfl, by simp, below_alloc (Below.refl _ _) _⟩
          case round =>
            obtain ⟨i, hi, rfl, rfl, hb2⟩ := hrel
            by_cases hit : i < t
            · have hB2 := Below.on hB1 hb2
              obtain ⟨b2, off2, rfl, hbl2, hcc⟩ := hS'.out.1.2.2 (by omega)
              obtain ⟨k0, k1, k2, k3, k4, k5, k6, k7, k8⟩ := (hcc i hit).later hB2
              have hrl := hS'.out.2 i hit
              have hil : i < y.sims.length := by rw [← ht'.out]; exact hit
              have hle2 := sum_get_le (fun s : SimX X => N s.list) y.sims hil
              have hsucc2 := sum_take_succ (fun s : SimX X => N s.list) y.sims hil
              have hpe : y.sims[i] = sy y.sims i := by unfold sy; rw [List.getD_eq_getElem?_getD, List.getElem?_eq_getElem hil]; rfl
              rw [hpe] at hle2 hsucc2
              have htot2 : numSims N y.sims = (y.sims.map fun s => N s.list).sum := rfl
              have hbd : N (sy y.sims i).list ≤ 1000000 := by have := hle'.out; have := htot'.out; have := hle1'.out; have := htot1'.out; omega
              have hbd2 : n + S + S1 + ((y.sims.take i).map fun s => N s.list).sum ≤ 1000000 := by have := hle'.out; have := htot'.out; have := hle1'.out; have := htot1'.out; omega
              have hk := hide (fun (W : World) (hW : Below wr.heap.size wr W) => hN'.out (sm SS i).LA (sm SS i).ln (sm SS i).lc (sy y.sims i).list W (hrl.row.below hV'.out (Below.on hB2 hW)) hbd)
              have hsucc2' := hide hsucc2
              clear hcc hle2 hsucc2 htot2 hpe hrl
              generalize hS2 : ((y.sims.take i).map fun s => N s.list).sum = S2 at *
              generalize hz : N (sy y.sims i).list = z at *
              go_wp2_with (go_at_call 42; (with_reducible refine (hk.out _ (below_alloc (Below.refl _ _) _)).mono ?_); rintro e w3 ⟨rfl, hb3⟩)
              go_roundw
              case rel => exact ⟨i + 1, by omega, by go_num, by rw [hsucc2'.out]; congr 1; omega, Below.on hb2 (Below.on (below_alloc (Below.refl _ _) _) hb3)⟩
              case measure => simp [intOf]; omega
            · obtain rfl : i = t := by omega
              have hall : ((y.sims.take i).map fun s => N s.list).sum = numSims N y.sims := by rw [ht'.out, List.take_length]; rfl
              rw [hall]
              have hs := hsucc1'.out
              generalize numSims N y.sims = z at *
              have hsum : n + S + S1 + z ≤ 1000000 := by have := hle'.out; have := htot'.out; have := hle1'.out; have := htot1'.out; omega
              have hs' := hide hs
              clear hs hall
              go_wp2
              go_roundw
              case rel => exact ⟨j + 1, by omega, by go_num, by rw [hs'.out]; congr 1; omega, Below.on hb1 hb2⟩
              case measure => simp [intOf]; omega
        · obtain rfl : j = m := by omega
          have hall : ((x.parts.take j).map fun p => numSims N p.sims).sum = numParts N x.parts := by rw [hm'.out, List.take_length]; rfl
          rw [hall]
          have hs := hsucc'.out
          generalize numParts N x.parts = z at *
          have hsum : n + S + z ≤ 1000000 := by have := hle'.out; have := htot'.out; omega
          have hs' := hide hs
          clear hs hall
          go_wp2
          go_roundw
          case rel => exact ⟨q + 1, by omega, by go_num, by rw [hs'.out]; congr 1; omega, Below.on hb hb1⟩
          case measure => simp [intOf]; omega
    · obtain rfl : n = q := by omega
      have hall : n + ((l.take n).map fun c => numParts N c.parts).sum = numL N l := by
        unfold numL
        rw [show l.take n = l from by rw [← hll, List.take_length], hll]
      rw [hall]
      go_wp2
      go_ret
      exact ⟨rfl, hb⟩
end
theorem countV_ok : ∀ n, CountT (IsV n) (numV n)
  | 0 => fun A m c l W h _ => by
    have hl : l = [] := by cases l with | nil => rfl | cons x _ => exact x.elim
    subst hl
    obtain rfl := h.1
    show Calls Tryz.prog 42 #[.slice A ([] : List (SelL 0)).length c] W _
    simp only [List.length_nil]
    go_enter Tryz.func42, Tryz.ntmps42
    go_wp2
    go_loopw [3, 14] (fun a i wr => a = .int .i64 0 ∧ i = .int .i64 0 ∧ W = wr) (fun _ _ _ => 0)
    case atStart => exact ⟨rfl, rfl, rfl⟩
    case round =>
      obtain ⟨rfl, rfl, rfl⟩ := hrel
      go_wp2
      go_ret
      exact ⟨rfl, Below.refl _ _⟩
  | n + 1 => countT_ok (isV_stays n) (countV_ok n)
set_option maxHeartbeats 1000000 in
/-- seltext.Check, at a list that is not too long. -/
theorem selCheck_ok (n : Nat) (A : Option Addr) (m c : Nat) (l : List (SelL n)) (w : World) (hrow0 : IsRow (IsV n) w A m l) (hnum : numV n l ≤ 1000000) :
    Calls Tryz.prog 18 #[.slice A m c] w fun e w' => e = .returned (.int .i64 (chkV n l)) ∧ Below w.heap.size w w' := by
  have hll := hrow0.1
  have hany := hide (check1_any (isV_stays n) A m c l (fun x => !wholeV n 0 false false x) w hrow0 (fun W ld PA pn pc KA kn kc x _ hx => check1_ok n ld PA pn pc KA kn kc x W hx))
  have hcnt := hide (fun (W : World) (hW : Below w.heap.size w W) => countV_ok n A m c l W (hrow0.below (isV_stays n) hW) hnum)
  clear hrow0
  have hfine : fineV n l = (decide (0 < m) && !(l.any fun x => !wholeV n 0 false false x)) := by
    unfold fineV
    rw [hll]
    congr 1
    cases hv : l.any (fun x => !wholeV n 0 false false x)
    · rw [Bool.not_false, List.all_eq_true]
      intro x hx
      have := List.any_eq_false.1 hv x hx
      simpa using this
    · rw [Bool.not_true, Bool.eq_false_iff]
      intro e
      obtain ⟨x, hx, hp⟩ := List.any_eq_true.1 hv
      rw [List.all_eq_true.1 e x hx] at hp
      cases hp
  by_cases h0 : m = 0
  · have hr : Hid (chkV n l = 8) := by show _ = _; unfold chkV; rw [hfine, h0]; rfl
    clear hfine hany hcnt hll hnum
    subst h0
    go_enter Tryz.func18, Tryz.ntmps18
    go_wp2
    go_ret
    exact ⟨ret_int hr.out.symm, Below.refl _ _⟩
  · cases hv : l.any (fun x => !wholeV n 0 false false x)
    · rw [hv] at hany
      have hf : fineV n l = true := by rw [hfine, hv, decide_eq_true (by omega)]; rfl
      have hr : Hid (chkV n l = if numV n l ≤ 64 then 0 else 4) := by show _ = _; unfold chkV; rw [if_pos hf]
      clear hfine hv hf hll
      generalize numV n l = z at *
      by_cases hz : z ≤ 64
      · have hr2 : Hid (chkV n l = 0) := by show _ = _; rw [hr.out, if_pos hz]
        clear hr
        go_enter Tryz.func18, Tryz.ntmps18
        go_wp2_with (first | (go_at_call 39; (with_reducible refine hany.out.mono ?_); rintro e w1 ⟨rfl, hb1⟩) | (go_at_call 42; (with_reducible refine (hcnt.out _ hb1).mono ?_); rintro e w2 ⟨rfl, hb2⟩))
        go_ret
        exact ⟨ret_int hr2.out.symm, Below.on hb1 hb2⟩
      · have hr2 : Hid (chkV n l = 4) := by show _ = _; rw [hr.out, if_neg hz]
        clear hr
        go_enter Tryz.func18, Tryz.ntmps18
        go_wp2_with (first | (go_at_call 39; (with_reducible refine hany.out.mono ?_); rintro e w1 ⟨rfl, hb1⟩) | (go_at_call 42; (with_reducible refine (hcnt.out _ hb1).mono ?_); rintro e w2 ⟨rfl, hb2⟩))
        go_ret
        exact ⟨ret_int hr2.out.symm, Below.on hb1 hb2⟩
    · rw [hv] at hany
      have hr : Hid (chkV n l = 8) := by show _ = _; unfold chkV; rw [hfine, hv]; simp
      clear hfine hv hcnt hnum hll
      go_enter Tryz.func18, Tryz.ntmps18
      go_wp2_with (go_at_call 39; (with_reducible refine hany.out.mono ?_); rintro e w1 ⟨rfl, hb1⟩)
      go_ret
      exact ⟨ret_int hr.out.symm, hb1⟩
end Go.Proofs.YtljloicgjgbplaaGreat
/- Walks: which elements match a list, by the program: what is told of the compounds of each selector is given. Conditions: the tree is good, the mode right, the list is right; the variable of the library that strings.Contains reads holds a number. -/
namespace Go.Proofs.YtljloicgjgbplaaGreat
open Go.RowKit

theorem Bs.zero (W : World) (g n : Nat) (hg : g = W.heap.size) : Bs (W.alloc (.cells (madeCells #[.bool false] n) 4)) g n n (fun _ => false) := by
  subst hg
  refine ⟨_, blk_new _ _ _, by simp [madeCells], fun j hj => ?_⟩
  rw [← Array.getElem?_toList, toList_madeCells_one]
  simp [hj]
theorem Bs.upd {wr : World} {g n k : Nat} {f f' : Nat → Bool} (h : Bs wr g n n f) {v : Bool} (hv : v = f' k) (hs : ∀ j, j < n → j ≠ k → f' j = f j) : Bs (wr.setCell ⟨g, k, none⟩ (.bool v)) g n n f' := by
  obtain ⟨cs, h1, h2, h3⟩ := h
  refine ⟨_, blk_set h1 k _, by simp [h2], fun j hj => ?_⟩
  by_cases hjk : j = k
  · subst hjk; rw [hv]; simp [h2, hj]
  · rw [Array.getElem?_setIfInBounds_ne (by omega), hs j hj hjk]; exact h3 j hj
theorem Bs.congr {wr : World} {g n : Nat} {f f' : Nat → Bool} (h : Bs wr g n n f) (hs : ∀ j, j < n → f' j = f j) : Bs wr g n n f' := by
  obtain ⟨cs, h1, h2, h3⟩ := h
  exact ⟨cs, h1, h2, fun j hj => by rw [hs j hj]; exact h3 j hj⟩
theorem Bs.far {wr : World} {g n q k : Nat} {f : Nat → Bool} (h : Bs wr g n n f) (hq : g ≠ q) (u : Value) : Bs (wr.setCell ⟨q, k, none⟩ u) g n n f := by
  obtain ⟨cs, h1, h2, h3⟩ := h
  exact ⟨cs, blk_far h1 hq u, h2, h3⟩
theorem Bs.cell {wr : World} {g n : Nat} {f : Nat → Bool} (h : Bs wr g n n f) {k : Nat} (hk : k < n) : wr.cell? ⟨g, k, none⟩ = some (.bool (f k)) := by
  obtain ⟨cs, h1, h2, h3⟩ := h
  rw [blk_cell h1, h3 k hk]
theorem Bs.free {wr : World} {g n : Nat} {f : Nat → Bool} (h : Bs wr g n n f) (k : Nat) : wr.frozen? ⟨g, k, none⟩ = false := by
  obtain ⟨cs, h1, h2, h3⟩ := h
  exact blk_frozen h1 k
theorem Bs.lt {wr : World} {g n k : Nat} {f : Nat → Bool} (h : Bs wr g n k f) : g < wr.heap.size := by
  obtain ⟨cs, h1, h2, h3⟩ := h
  exact blk_lt h1
/-- A row of truth values of the call's own. -/
def MadeRow (w : World) (n : Nat) (f : Nat → Bool) (e : Ending) (w' : World) : Prop :=
  ∃ g, e = .returned (.slice (some ⟨g, 0, none⟩) n n) ∧ w.heap.size ≤ g ∧ Bs w' g n n f ∧ Below w.heap.size w w'
theorem none23_ok (A : Option Addr) (n c : Nat) (m : Int) (w : World) (hn : n ≤ 64) :
    Calls Tryz.prog 53 #[.agg #[.slice A n c, .int .i64 m]] w (MadeRow w n (fun _ => false)) := by
  have hmk := mk_bools n (by omega)
  go_enter Tryz.func53, Tryz.ntmps53
  go_wp2
  go_ret
  exact ⟨_, rfl, by simp, Bs.zero _ _ _ (by simp), below_alloc (below_alloc (Below.refl _ _) _) _⟩
/-- The cells of a list of truth values of the call's own. -/
theorem OwnB.cells {w : World} {base : Nat} {A : Option Addr} {n c : Nat} {xs : List Bool} (h : OwnB w base (.slice A n c) xs) (hn : 0 < n) (hl : xs.length = n) : ∃ g, A = some ⟨g, 0, none⟩ ∧ base ≤ g ∧ g < w.heap.size ∧ ∀ j, j < n → w.cell? ⟨g, j, none⟩ = some (.bool (bx xs j)) := by
  subst hl
  obtain ⟨g, cap, cs, hv, h1, h2, h3, h4⟩ := own_blk h hn
  injection hv with e1 e2 e3
  subst e1
  refine ⟨g, rfl, h3, blk_lt h4, fun j hj => ?_⟩
  rw [World.ownsRow.cellAt h j (by omega), bools_get hj]
/-- A list of so many truth values of the call's own, without an error. -/
def MadeON (w : World) (n : Nat) (F : Nat → Bool) (e : Ending) (w' : World) : Prop :=
  ∃ (g c : Nat), e = .returned (.tuple #[.slice (some ⟨g, 0, none⟩) n c, .int .i64 0]) ∧ w.heap.size ≤ g ∧ g < w'.heap.size ∧ (∀ j, j < n → w'.cell? ⟨g, j, none⟩ = some (.bool (F j))) ∧ Below w.heap.size w w'
theorem MadeOB.row {w w' : World} {e : Ending} {xs : List Bool} {n : Nat} {F : Nat → Bool} (h : MadeOB w xs e w') (hn : 0 < n) (hl : xs.length = n) (hF : ∀ j, j < n → bx xs j = F j) : MadeON w n F e w' := by
  obtain ⟨A, c, rfl, hO, hb⟩ := h
  rw [hl] at hO ⊢
  obtain ⟨g, rfl, h1, h2, h3⟩ := hO.cells hn hl
  exact ⟨g, c, rfl, h1, h2, fun j hj => by rw [h3 j hj, hF j hj], hb⟩
/-- What is known of the selectors of a list: what lies in memory, and that what is told of them is right. -/
structure Knows {X : Type} (V : Lies X) (Wf : Nat → Bool → Bool → X → Bool) (T : List ANode) (L : X → Int) (C : X → List Int) (R : X → List (List Bool)) : Prop where
  stays : Stays V
  read : ∀ w ld PA pn pc KA kn kc x, V w ld PA pn pc KA kn kc x → ld = L x ∧ 0 ≤ ld ∧ IsU8 w KA kn (C x)
  told : ∀ d h r x, Wf d h r x = true → toldB T.length (C x) (R x) = true ∧ (r = true → L x ≠ 0 ∧ L x ≤ 4)
/-- The program tells of each compound of a selector which elements match it. -/
def PartsT {X : Type} (V : Lies X) (Wf : Nat → Bool → Bool → X → Bool) (T : List ANode) (m : Int) (R : X → List (List Bool)) : Prop :=
  ∀ (A : Option Addr) (n c : Nat) (ld : Int) (PA : Option Addr) (pn pc : Nat) (KA : Option Addr) (kn kc : Nat) (x : X) (W : World), IsTree W A n T → HasMax W → V W ld PA pn pc KA kn kc x → (∃ d h r, Wf d h r x = true) →
    Calls Tryz.prog 55 #[.agg #[.slice A n c, .int .i64 m], .agg #[.int .u8 ld, .slice PA pn pc, .slice KA kn kc]] W (MadeBB W (R x).length (R x))
def ListT {X : Type} (V : Lies X) (Wf : Nat → Bool → Bool → X → Bool) (T : List ANode) (m : Int) (C : X → List Int) (R : X → List (List Bool)) : Prop :=
  ∀ (A : Option Addr) (n c : Nat) (LA : Option Addr) (ln lc : Nat) (l : List X) (W : World), IsTree W A n T → HasMax W → IsRow V W LA ln l → (∃ d h r, l.all (Wf d h r) = true) →
    Calls Tryz.prog 35 #[.agg #[.slice A n c, .int .i64 m], .slice LA ln lc] W (MadeRow W n (anyI T C R l))
theorem take_any {X : Type} {p : X → Bool} {l : List X} {q : Nat} (h : q < l.length) : (l.take (q + 1)).any p = ((l.take q).any p || p (l[q]'h)) := by
  rw [List.take_succ_eq_append_getElem h, List.any_append]
  simp
section
variable {X : Type} {V : Lies X} {Wf : Nat → Bool → Bool → X → Bool} {T : List ANode} {m : Int} {L : X → Int} {C : X → List Int} {R : X → List (List Bool)} (hK : Knows V Wf T L C R) (hP : PartsT V Wf T m R) (hg : goodB T = true)
include hK hP hg
set_option maxRecDepth 100000 in
set_option maxHeartbeats 2000000 in
theorem listT_ok : ListT V Wf T m C R := by
  intro A n c LA ln lc l w h hmx0 hrow0 hal
  obtain ⟨d0, h0, r0, hall⟩ := hal
  have hT := hide h
  have hl := h.1
  have hmx := hide hmx0
  have hrow := hide hrow0
  have hll := hrow0.1
  have hln := hrow0.2.1
  have hn64 : n ≤ 64 := by have := ((goodB_iff T).1 hg).2.1; omega
  have hn1 : 1 ≤ n := by have := ((goodB_iff T).1 hg).1; omega
  have hg' := hide hg
  have hK' := hide hK
  have hP' := hide hP
  have hall' := hide hall
  clear h hmx0 hrow0 hall hg hK hP
  have e0 : (w.alloc (.cells #[.slice A n c, .int .i64 m] 77)).cell? ⟨w.heap.size, 0, none⟩ = some (.slice A n c) := by go_simp
  have e1 : (w.alloc (.cells #[.slice A n c, .int .i64 m] 77)).cell? ⟨w.heap.size, 1, none⟩ = some (.int .i64 m) := by clear e0; go_simp
  have hB0 := below_alloc (Below.refl w.heap.size w) (.cells #[.slice A n c, .int .i64 m] 77)
  go_enter Tryz.func35, Tryz.ntmps35
  go_wp2_with fail
  refine (none23_ok A n c m _ hn64).mono ?_
  rintro e w1 ⟨g, rfl, hg0, hBs, hb1⟩
  have e0' := cell_later hb1 e0
  have e1' := cell_later hb1 e1
  have hB1 := Below.on hB0 hb1
  have hgw : w.heap.size < g := by simp at hg0; omega
  clear e0 e1 hb1 hg0 hB0
  go_wp2
  go_loopw [16] (fun i wr => ∃ k : Nat, k ≤ ln ∧ i = .int .i64 k ∧ Bs wr g n n (anyI T C R (l.take k)) ∧ Below w.heap.size w wr ∧ wr.cell? ⟨w.heap.size, 0, none⟩ = some (.slice A n c) ∧ wr.cell? ⟨w.heap.size, 1, none⟩ = some (.int .i64 m)) (fun i _ => ln - (intOf i).toNat)
  case atStart => exact ⟨0, Nat.zero_le _, rfl, hBs.congr fun j _ => by simp [anyI], hB1, e0', e1'⟩
  case round =>
    clear e0' e1' hB1 hBs
    obtain ⟨q, hq, rfl, hBs, hb, e0, e1⟩ := hrel
    by_cases hlt : q < ln
    · obtain ⟨b, off, ld, PA, pn, pc, KA, kn, kc, rfl, hbl, c0, c1, c2, hv⟩ := hrow.out.at hlt hll
      have g0 := cell_later hb c0
      have g1 := cell_later hb c1
      have g2 := cell_later hb c2
      have hxm : l[q]'(by omega) ∈ l := List.getElem_mem _
      have htk : Hid (∀ i, anyI T C R (l.take (q + 1)) i = (anyI T C R (l.take q) i || isI T C R (l[q]'(by omega)) i)) := fun i => take_any (by omega)
      have hv' := hide hv
      generalize l[q] = x at *
      have hwx := List.all_eq_true.1 hall'.out x hxm
      obtain ⟨ht, -⟩ := hK'.out.told d0 h0 r0 x hwx
      obtain ⟨rfl, hl8, hU⟩ := hK'.out.read _ _ _ _ _ _ _ _ _ hv'.out
      have hba := below_alloc (Below.refl wr.heap.size wr) (.cells #[.int .u8 (L x), .slice PA pn pc, .slice KA kn kc] 62)
      have hBa := Below.on hb hba
      have p0 := cell_later hba e0
      have p1 := cell_later hba e1
      have x0 : (wr.alloc (.cells #[.int .u8 (L x), .slice PA pn pc, .slice KA kn kc] 62)).cell? ⟨wr.heap.size, 0, none⟩ = some (.int .u8 (L x)) := blk_cell (blk_new _ _ _) 0
      have x1 : (wr.alloc (.cells #[.int .u8 (L x), .slice PA pn pc, .slice KA kn kc] 62)).cell? ⟨wr.heap.size, 1, none⟩ = some (.slice PA pn pc) := blk_cell (blk_new _ _ _) 1
      have x2 : (wr.alloc (.cells #[.int .u8 (L x), .slice PA pn pc, .slice KA kn kc] 62)).cell? ⟨wr.heap.size, 2, none⟩ = some (.slice KA kn kc) := blk_cell (blk_new _ _ _) 2
      have hpt := hide (fun (W : World) (hW : Below w.heap.size w W) => hP'.out A n c (L x) PA pn pc KA kn kc x W (hT.out.below hW) (hmx.out.below hW) (hK'.out.stays _ _ _ _ _ _ _ _ _ _ hW hv'.out) ⟨d0, h0, r0, hwx⟩)
      obtain ⟨t1, t2, t3, -, t5⟩ := (toldB_iff _ _ _).1 ht
      have hco := hide (fun (W : World) (BA : Option Addr) (BC : Nat) (hW : Below w.heap.size w W) (hBB : IsBB W BA (R x).length (R x)) => (callO_ok A KA BA n c kn kc (R x).length BC T (C x) (R x) W (hT.out.below hW) (hU.below hW) hBB (cchk_zero.2 ⟨hg'.out, ht⟩)).mono fun e' W' h' => MadeOB.row (F := isI T C R x) h' hn1 (by rw [rchL_len, hl]) (fun j hj => rchL_bx _ _ _ _ (by omega)))
      have hRl : Hid (1 ≤ (R x).length ∧ (R x).length ≤ 1000000 ∧ ∀ j, j < (R x).length → (rowB (R x) j).length ≤ 1000000) := ⟨t1, by omega, fun j hj => by rw [t5 j hj]; omega⟩
      have hsz : w.heap.size ≤ wr.heap.size := hb.size
      clear hxm hwx ht hU t1 t2 t3 t5 c0 c1 c2 hv
      have hba' := hide hba
      have hBa' := hide hBa
      have hBs' := hide hBs
      clear hba hBa
      generalize isI T C R x = G at *
      obtain ⟨F, hF⟩ : ∃ F, anyI T C R (l.take q) = F := ⟨_, rfl⟩
      rw [hF] at hBs' htk hBs
      clear hF hBs
      go_wp2
      go_region_held3 (fun X => X.cell? ⟨w.heap.size, 0, none⟩ = some (.slice A n c) ∧ X.cell? ⟨w.heap.size, 1, none⟩ = some (.int .i64 m) ∧ X.cell? ⟨wr.heap.size, 0, none⟩ = some (.int .u8 (L x)) ∧ X.cell? ⟨wr.heap.size, 1, none⟩ = some (.slice PA pn pc) ∧ X.cell? ⟨wr.heap.size, 2, none⟩ = some (.slice KA kn kc)) (first | exact ⟨p0, p1, x0, x1, x2⟩ | exact ⟨q0, q1, y0, y1, y2⟩ | exact ⟨u0, u1, z0, z1, z2⟩) (first | (go_at_call 55; (with_reducible refine (hpt.out _ hBa'.out.drew).mono ?_); rintro e2 w2 ⟨BA, BC, rfl, hO, hb2⟩; have q0 := cell_later hb2 p0; have q1 := cell_later hb2 p1; have y0 := cell_later hb2 x0; have y1 := cell_later hb2 x1; have y2 := cell_later hb2 x2; have hB2 := hide (Below.on hBa'.out.drew hb2); have hBB := hide (hO.isBB rfl hRl.out.2.1 hRl.out.2.2); clear hO) | (go_at_call 54; obtain ⟨BA', BC', hbv, -, -, hBI⟩ := hBB.out; injection hbv with hv1 hv2 hv3; subst hv1 hv3; (with_reducible refine (hco.out _ _ _ hB2.out hBI).mono ?_); rintro e3 w3 ⟨gh, HC, rfl, hg1, hg2, hG0, hb3⟩; have u0 := cell_later hb3 q0; have u1 := cell_later hb3 q1; have z0 := cell_later hb3 y0; have z1 := cell_later hb3 y1; have z2 := cell_later hb3 y2))
      have hG := hide hG0
      have hC3 := Below.on (Below.on hba'.out.drew hb2) hb3
      have hB3 := Below.on hB2.out hb3
      have hBs3 := hBs'.out.below hC3
      have hgo := hBs'.out.lt
      have hgh : g ≠ gh := by have h1 := hba'.out.size; have h2 := hb2.size; simp at h2; omega
      clear hC3 hG0 hg1 p0 p1 x0 x1 x2 q0 q1 y0 y1 y2 z0 z1 z2 hb2 hb3 hB2 hBB hBI hpt hco hba' hBa' hBs' g0 g1 g2 e0 e1 hgo
      generalize wr = wo at *
      go_wp2
      go_loopw [33] (fun i wr => ∃ k : Nat, k ≤ n ∧ i = .int .i64 k ∧ Bs wr g n n (fun j => F j || (decide (j < k) && G j)) ∧ Below w.heap.size w wr ∧ wr.cell? ⟨w.heap.size, 0, none⟩ = some (.slice A n c) ∧ wr.cell? ⟨w.heap.size, 1, none⟩ = some (.int .i64 m) ∧ Hid (∀ j, j < n → wr.cell? ⟨gh, j, none⟩ = some (.bool (G j))) ∧ gh < wr.heap.size) (fun i _ => n - (intOf i).toNat)
      case atStart => exact ⟨0, Nat.zero_le _, rfl, hBs3.congr fun j _ => by simp, hB3, u0, u1, hG, hg2⟩
      case round =>
        clear hBs3 hB3 u0 u1 hG hg2
        obtain ⟨k, hk, rfl, hBs, hb4, e0, e1, hG, hg2⟩ := hrel
        by_cases hlk : k < n
        · have c0 : wr.cell? ⟨g, k, none⟩ = some (.bool (F k)) := by have := hBs.cell hlk; simpa using this
          have ch := hG.out k hlk
          have f0 := hBs.free k
          have hlg := hBs.lt
          have hu := hide (fun (v : Bool) (hv : v = (F k || G k)) => hBs.upd (k := k) (v := v) (f' := fun j => F j || (decide (j < k + 1) && G j)) (by simp [hv]) (fun j _ hj => by
            by_cases h1 : j < k
            · simp only [decide_eq_true h1, decide_eq_true (show j < k + 1 by omega)]
            · simp only [decide_eq_false h1, decide_eq_false (show ¬ j < k + 1 by omega)]))
          have far := hide (fun (v : Value) => And.intro ((World.cell?_setCell_far wr ⟨g, k, none⟩ ⟨w.heap.size, 0, none⟩ v (by simp; omega)).trans e0) ((World.cell?_setCell_far wr ⟨g, k, none⟩ ⟨w.heap.size, 1, none⟩ v (by simp; omega)).trans e1))
          have far2 := hide (fun (v : Value) (j : Nat) (hj : j < n) => (World.cell?_setCell_far wr ⟨g, k, none⟩ ⟨gh, j, none⟩ v hgh).trans (hG.out j hj))
          clear hBs
          generalize F k = v at *
          generalize G k = u at *
          cases v
          · go_wp2
            go_roundw
            case rel => exact ⟨k + 1, by omega, by go_num, hu.out _ (by simp), hb4.setCell (by show w.heap.size ≤ g; omega) _, (far.out _).1, (far.out _).2, far2.out _, by simpa using hg2⟩
            case measure => simp [intOf]; omega
          · go_wp2
            go_roundw
            case rel => exact ⟨k + 1, by omega, by go_num, hu.out _ (by simp), hb4.setCell (by show w.heap.size ≤ g; omega) _, (far.out _).1, (far.out _).2, far2.out _, by simpa using hg2⟩
            case measure => simp [intOf]; omega
        · obtain rfl : n = k := by omega
          have hBs5 := hide (hBs.congr (f' := anyI T C R (l.take (q + 1))) fun j hj => by rw [htk.out]; simp [hj])
          clear hBs hG
          go_wp2
          go_roundw
          case rel => exact ⟨q + 1, by omega, by go_num, hBs5.out, hb4, e0, e1⟩
          case measure => simp [intOf]; omega
    · obtain rfl : ln = q := by omega
      have hfin : Hid (∀ j, j < n → anyI T C R l j = anyI T C R (l.take ln) j) := fun j _ => by rw [← hll, List.take_length]
      go_wp2
      go_ret
      exact ⟨g, rfl, by omega, hBs.congr hfin.out, hb⟩
end
end Go.Proofs.YtljloicgjgbplaaGreat
