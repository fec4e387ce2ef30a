/- Walks: how much work a list is, and whether a tree and a list are great, by chapter 23's reference. Condition: no text and no list is larger than a machine holds. -/
import Derived.Test.YtljloicgjgbplaaGreatG39
import Derived.Test.YtljloicgjgbplaaGreatG04
namespace Go.Proofs.YtljloicgjgbplaaGreat
open Go.RowKit

def HeavyT {X : Type} (V : Lies X) : Prop := ∀ (A : Option Addr) (n c : Nat) (l : List X) (W : World), IsRow V W A n l →
  Calls Tryz.prog 33 #[.slice A n c, .int .i64 150] W fun e w' => ∃ r : Nat, e = .returned (.int .i64 (r : Int)) ∧ r ≤ 151 ∧ Below W.heap.size W w'
section
variable {X : Type} {V : Lies X} (hV : Stays V) (hN : HeavyT V)
include hV hN
set_option maxRecDepth 100000 in
set_option maxHeartbeats 4000000 in
theorem heavyT_ok : HeavyT (IsCpx V) := by
  intro A n c l w hrow0
  have hll := hrow0.1
  have hn63 := hrow0.2.1
  have hrow := hide hrow0
  have hN' := hide hN
  have hV' := hide hV
  clear hrow0 hN hV
  go_enter Tryz.func33, Tryz.ntmps33
  go_wp2
  go_loopw [5, 6] (fun a i wr => ∃ k s : Nat, k ≤ n ∧ i = .int .i64 k ∧ a = .int .i64 (s : Int) ∧ s ≤ 760 ∧ Below w.heap.size w wr) (fun _ i _ => n - (intOf i).toNat)
  case atStart => exact ⟨0, 0, Nat.zero_le _, rfl, rfl, Nat.zero_le _, Below.refl _ _⟩
  case round =>
    obtain ⟨q, s, hq, rfl, rfl, hsb, hb⟩ := hrel
    by_cases hlt : q < n
    · have u1 : decide ((q : Int) < (n : Int)) = true := decide_eq_true (by omega)
      by_cases hs : s ≤ 150
      · have u2 : decide ((s : Int) ≤ 150) = true := decide_eq_true (by omega)
        obtain ⟨b, off, ld, PA, pn, pc, KA, kn, kc, rfl, hbl, c0, c1, c2, hv⟩ := hrow.out.at hlt hll
        have g1 := cell_later hb c1
        obtain ⟨rfl, hl8, rfl, hkn, hP, -, ⟨hpc, hpc2⟩, -⟩ := hv
        generalize l[q] = x at *
        obtain ⟨m, hm⟩ : ∃ m, m = x.parts.length := ⟨_, rfl⟩
        rw [← hm] at g1 hP hpc
        have hP' := hide hP
        have hpl := hP.2.1
        clear c0 c1 c2 hP hm hkn
        generalize wr = w1 at *
        go_wp2_with fail
        go_loopw [5, 7] (fun a i wr => ∃ j t : Nat, j ≤ m ∧ i = .int .i64 j ∧ a = .int .i64 (t : Int) ∧ t ≤ 760 ∧ Below w1.heap.size w1 wr) (fun _ i _ => m - (intOf i).toNat)
        case atStart => exact ⟨0, s + 1, Nat.zero_le _, rfl, rfl, by omega, Below.refl _ _⟩
        case round =>
          obtain ⟨j, t, hj, rfl, rfl, htb, hb1⟩ := hrel
          have g1j := cell_later hb1 g1
          by_cases hjm : j < m
          · have u3 : decide ((j : Int) < (m : Int)) = true := decide_eq_true (by omega)
            by_cases ht : t ≤ 150
            · have u4 : decide ((t : Int) ≤ 150) = true := decide_eq_true (by omega)
              have hB1 := Below.on hb hb1
              obtain ⟨b1, off1, SA, SC, rfl, hbl1, d0, d1, d2⟩ := hP'.out.2.2 (by omega)
              have e0 := cell_later hB1 (d0 j hjm)
              have e1 := cell_later hB1 (d1 j hjm)
              obtain ⟨hsl, hsc, hsc2, -⟩ := d2 j hjm
              clear d0 d1 d2
              generalize px x.parts j = y at *
              obtain ⟨tt, htt⟩ : ∃ tt, tt = y.sims.length := ⟨_, rfl⟩
              rw [← htt] at e1 hsl hsc
              obtain ⟨-, SS, hSS, hrel⟩ := hsl
              have hS' := hide (show IsSims w _ tt SS ∧ ∀ i, i < tt → SimRel V w (sm SS i) (sy y.sims i) from ⟨hSS, hrel⟩)
              generalize SA j = AS at *
              generalize SC j = CS at *
              generalize y.tag = tg at *
              have ht63 := hSS.2.1
              clear hSS hrel htt
              generalize wr = w2 at *
              have hba := below_alloc (Below.refl w2.heap.size w2) (.cells #[.string tg, .slice AS tt CS] 70)
              have z1 := blk_cell (blk_new w2 #[.string tg, .slice AS tt CS] 70) 1
              simp only [List.getElem?_toArray, List.getElem?_cons_succ, List.getElem?_cons_zero] at z1
              go_wp2_with fail
              go_loopw [5, 9] (fun a i wr => ∃ k v : Nat, k ≤ tt ∧ i = .int .i64 k ∧ a = .int .i64 (v : Int) ∧ v ≤ 760 ∧ Below w2.heap.size w2 wr ∧ wr.cell? ⟨w2.heap.size, 1, none⟩ = some (.slice AS tt CS)) (fun _ i _ => tt - (intOf i).toNat)
              case atStart => exact ⟨0, t + 1, Nat.zero_le _, rfl, rfl, by omega, hba, z1⟩
              case round =>
                clear z1 hba
                obtain ⟨i, v, hi, rfl, rfl, hvb, hb2, z1⟩ := hrel
                by_cases hit : i < tt
                · have u5 : decide ((i : Int) < (tt : Int)) = true := decide_eq_true (by omega)
                  by_cases hv : v ≤ 150
                  · have u6 : decide ((v : Int) ≤ 150) = true := decide_eq_true (by omega)
                    have hB2 := Below.on hB1 hb2
                    obtain ⟨b2, off2, rfl, hbl2, hcc⟩ := hS'.out.1.2.2 (by omega)
                    obtain ⟨k0, k1, k2, k3, k4, k5, k6, k7, k8⟩ := (hcc i hit).later hB2
                    have hrl := hS'.out.2 i hit
                    have hk := hide (hN'.out (sm SS i).LA (sm SS i).ln (sm SS i).lc (sy y.sims i).list wr (hrl.row.below hV'.out hB2))
                    clear hcc hrl k0 k1 k2 k3 k4 k5 k6 k7
                    generalize sm SS i = sx at *
                    generalize sx.LA = LA at *
                    generalize sx.ln = ln at *
                    generalize sx.lc = lc at *
                    cases ln with
                    | zero =>
                      go_wp2
                      go_roundw
                      case rel => exact ⟨i + 1, v + 1, by omega, by go_num, rfl, by omega, hb2, z1⟩
                      case measure => simp [intOf]; omega
                    | succ ln =>
                      go_wp2_with fail
                      (with_reducible refine hk.out.mono ?_)
                      rintro e w3 ⟨r, rfl, hr1, hb3⟩
                      have z3 := cell_later hb3 z1
                      go_wp2
                      go_roundw
                      case rel => exact ⟨i + 1, v + 1 + 4 * r, by omega, by go_num, congrArg (Value.int .i64) (by omega), by omega, Below.on hb2 hb3, z3⟩
                      case measure => simp [intOf]; omega
                  · have u6 : decide ((v : Int) ≤ 150) = false := decide_eq_false (by omega)
                    go_wp2
                    go_roundw
                    case rel => exact ⟨j + 1, v, by omega, by go_num, rfl, hvb, Below.on hb1 hb2⟩
                    case measure => simp [intOf]; omega
                · obtain rfl : i = tt := by omega
                  have u5 : decide ((i : Int) < (i : Int)) = false := decide_eq_false (by omega)
                  go_wp2
                  go_roundw
                  case rel => exact ⟨j + 1, v, by omega, by go_num, rfl, hvb, Below.on hb1 hb2⟩
                  case measure => simp [intOf]; omega
            · have u4 : decide ((t : Int) ≤ 150) = false := decide_eq_false (by omega)
              go_wp2
              go_roundw
              case rel => exact ⟨q + 1, t, by omega, by go_num, rfl, htb, Below.on hb hb1⟩
              case measure => simp [intOf]; omega
          · obtain rfl : j = m := by omega
            have u3 : decide ((j : Int) < (j : Int)) = false := decide_eq_false (by omega)
            go_wp2
            go_roundw
            case rel => exact ⟨q + 1, t, by omega, by go_num, rfl, htb, Below.on hb hb1⟩
            case measure => simp [intOf]; omega
      · have u2 : decide ((s : Int) ≤ 150) = false := decide_eq_false (by omega)
        go_wp2
        go_ret
        exact ⟨min s 151, ret_int (by omega), Nat.min_le_right _ _, hb⟩
    · obtain rfl : q = n := by omega
      have u1 : decide ((q : Int) < (q : Int)) = false := decide_eq_false (by omega)
      go_wp2
      go_ret
      exact ⟨min s 151, ret_int (by omega), Nat.min_le_right _ _, hb⟩
end
set_option maxRecDepth 100000 in
theorem heavyV_ok : ∀ n, HeavyT (IsV n)
  | 0 => fun A m c l W h => by
    have hl : l = [] := by cases l with | nil => rfl | cons x _ => exact x.elim
    subst hl
    obtain rfl := h.1
    show Calls Tryz.prog 33 #[.slice A ([] : List (SelL 0)).length c, .int .i64 150] W _
    simp only [List.length_nil]
    go_enter Tryz.func33, Tryz.ntmps33
    go_wp2
    go_loopw [5, 6] (fun a i wr => a = .int .i64 0 ∧ i = .int .i64 0 ∧ W = wr) (fun _ _ _ => 0)
    case atStart => exact ⟨rfl, rfl, rfl⟩
    case round =>
      obtain ⟨rfl, rfl, rfl⟩ := hrel
      go_wp2
      go_ret
      exact ⟨0, rfl, Nat.zero_le _, Below.refl _ _⟩
  | n + 1 => heavyT_ok (isV_stays n) (heavyV_ok n)
set_option maxRecDepth 100000 in
/-- What is not great has at most 600 selectors. -/
theorem rgreat23_ok (N : Nat) (A : Option Addr) (n c : Nat) (T : List ANode) (LA : Option Addr) (m k : Nat) (l : List (SelL N)) (w : World) (h : IsTree w A n T) (hrow : IsRow (IsV N) w LA m l) (hz : ∀ x ∈ l, szV N x) :
    Calls Tryz.prog 10 #[.agg #[.slice A n c], .slice LA m k] w (MadeGr w (numV N l ≤ 600 ∧ smallTB T = true)) := by
  have hg8 := hide (fun W (hW : Below w.heap.size w W) => rgreat8_ok N LA m k l W (hrow.below (isV_stays N) hW) hz)
  have hhv := hide (fun W (hW : Below w.heap.size w W) => heavyV_ok N LA m k l W (hrow.below (isV_stays N) hW))
  have hck := hide (fun W (hn : numV N l ≤ 600) (hW : Below w.heap.size w W) => rsChk_ok N LA m k l W (hrow.below (isV_stays N) hW) (by omega))
  have h13 := hide (fun W (hW : Below w.heap.size w W) => great_ok A n c T W (h.below hW))
  have hc13 := hide (fun W (hW : Below w.heap.size w W) => rcheck_ok A n c T W (h.below hW))
  have hB0 := below_alloc (Below.refl w.heap.size w) (.cells #[.slice A n c] 24)
  have hbox0 : (w.alloc (.cells #[.slice A n c] 24)).cell? ⟨w.heap.size, 0, none⟩ = some (.slice A n c) := by go_simp
  clear hrow hz h
  generalize smallTB T = sb at *
  generalize chk T = ct at *
  generalize chkV N l = cv at *
  go_enter Tryz.func10, Tryz.ntmps10
  go_wp2_with fail
  (with_reducible refine (h13.out _ hB0).mono ?_)
  rintro e w1 ⟨rfl, hb1⟩
  have hB1 := Below.on hB0 hb1
  have hbox1 := cell_later hb1 hbox0
  cases sb
  · go_wp2
    go_ret
    exact ⟨true, rfl, (fun h => by cases h), hB1⟩
  · go_wp2_with fail
    · (with_reducible refine (hc13.out _ hB1).mono ?_)
      rintro e w2 ⟨rfl, hb2⟩
      have hB2 := Below.on hB1 hb2
      by_cases h0 : ct = 0
      · have hcb : (ct == 0) = true := by rw [beq_iff_eq]; exact h0
        clear h0
        go_wp2
        go_ret
        exact ⟨true, rfl, (fun h => by cases h), hB2⟩
      · have hcb : (ct == 0) = false := by rw [beq_eq_false_iff_ne]; exact h0
        clear h0
        go_wp2_with fail
        (with_reducible refine (hg8.out _ hB2).mono ?_)
        rintro e w3 ⟨g, rfl, hg, hb3⟩
        have hB3 := Below.on hB2 hb3
        have hg' := hide hg
        clear hg
        cases g
        · have hn' := hide (hg'.out rfl)
          go_wp2_with fail
          (with_reducible refine (hck.out _ hn'.out hB3).mono ?_)
          rintro e w4 ⟨rfl, hb4⟩
          have hB4 := Below.on hB3 hb4
          by_cases h0 : cv = 0
          · subst h0
            go_wp2_with fail
            (with_reducible refine (hhv.out _ hB4).mono ?_)
            rintro e w5 ⟨r, rfl, hr, hb5⟩
            go_wp2
            go_ret
            exact ⟨_, rfl, fun _ => ⟨hn'.out, trivial⟩, Below.on hB4 hb5⟩
          · have hcb : (cv == 0) = false := by rw [beq_eq_false_iff_ne]; exact h0
            clear h0
            go_wp2
            go_ret
            exact ⟨_, rfl, fun _ => ⟨hn'.out, trivial⟩, hB4⟩
        · go_wp2
          go_ret
          exact ⟨true, rfl, (fun h => by cases h), hB3⟩
    · (with_reducible refine (hg8.out _ hB1).mono ?_)
      rintro e w3 ⟨g, rfl, hg, hb3⟩
      have hB3 := Below.on hB1 hb3
      have hg' := hide hg
      clear hg
      cases g
      · have hn' := hide (hg'.out rfl)
        go_wp2_with fail
        (with_reducible refine (hck.out _ hn'.out hB3).mono ?_)
        rintro e w4 ⟨rfl, hb4⟩
        have hB4 := Below.on hB3 hb4
        by_cases h0 : cv = 0
        · subst h0
          go_wp2_with fail
          (with_reducible refine (hhv.out _ hB4).mono ?_)
          rintro e w5 ⟨r, rfl, hr, hb5⟩
          go_wp2
          go_ret
          exact ⟨_, rfl, fun _ => ⟨hn'.out, trivial⟩, Below.on hB4 hb5⟩
        · have hcb : (cv == 0) = false := by rw [beq_eq_false_iff_ne]; exact h0
          clear h0
          go_wp2
          go_ret
          exact ⟨_, rfl, fun _ => ⟨hn'.out, trivial⟩, hB4⟩
      · go_wp2
        go_ret
        exact ⟨true, rfl, (fun h => by cases h), hB3⟩
end Go.Proofs.YtljloicgjgbplaaGreat
