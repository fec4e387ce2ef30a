/- Walks: how large a list is, by the reference: what is not great has at most as many selectors. Condition: no text and no list is larger than a machine holds. -/
import Derived.Test.YtljloicgjgbplaaGreatG38
import Derived.Test.YtljloicgjgbplaaGreatG25
import Derived.Deep.RegionHeld3
namespace Go.Proofs.YtljloicgjgbplaaGreat
open Go.RowKit

/-- What is told of how large a list is, up to a number. -/
def MadeSz (w : World) (lim N : Nat) (e : Ending) (w' : World) : Prop :=
  ∃ r : Nat, e = .returned (.int .i64 (r : Int)) ∧ r ≤ (lim + 2) * 1125899906842624 ∧ (r ≤ lim → N ≤ r) ∧ Below w.heap.size w w'
def SizeT {X : Type} (V : Lies X) (Z : X → Prop) (N : List X → Nat) : Prop := ∀ (A : Option Addr) (n c : Nat) (l : List X) (lim : Nat) (W : World), IsRow V W A n l → (∀ x ∈ l, Z x) → lim ≤ 600 →
  Calls Tryz.prog 50 #[.slice A n c, .int .i64 (lim : Int)] W (MadeSz W lim (N l))
section
variable {X : Type} {V : Lies X} (hV : Stays V) {Z : X → Prop} {N : List X → Nat} (hN : SizeT V Z N)
include hV hN
set_option maxRecDepth 100000 in
set_option maxHeartbeats 4000000 in
theorem sizeT_ok : SizeT (IsCpx V) (szP Z) (numL N) := by
  intro A n c l lim w hrow0 hz0 hlim
  have hll := hrow0.1
  have hn63 := hrow0.2.1
  have hrow := hide hrow0
  have hz := hide hz0
  have hN' := hide hN
  have hV' := hide hV
  clear hrow0 hN hV hz0
  go_enter Tryz.func50, Tryz.ntmps50
  go_wp2
  go_loopw [5, 6] (fun a i wr => ∃ k s : Nat, k ≤ n ∧ i = .int .i64 k ∧ a = .int .i64 (s : Int) ∧ s ≤ (lim + 2) * 1125899906842624 ∧ (s ≤ lim → k + ((l.take k).map fun c => numParts N c.parts).sum ≤ s) ∧ Below w.heap.size w wr) (fun _ i _ => n - (intOf i).toNat)
  case atStart => exact ⟨0, 0, Nat.zero_le _, rfl, rfl, Nat.zero_le _, by simp, Below.refl _ _⟩
  case round =>
    obtain ⟨q, s, hq, rfl, rfl, hsb, hsn, hb⟩ := hrel
    have hsn' := hide hsn
    clear hsn
    by_cases hlt : q < n
    · have u1 : decide ((q : Int) < (n : Int)) = true := decide_eq_true (by omega)
      by_cases hs : s ≤ lim
      · have u2 : decide ((s : Int) ≤ (lim : Int)) = true := decide_eq_true (by omega)
        obtain ⟨b, off, ld, PA, pn, pc, KA, kn, kc, rfl, hbl, c0, c1, c2, hv⟩ := hrow.out.at hlt hll
        have g1 := cell_later hb c1
        have g2 := cell_later hb c2
        have hsucc := sum_take_succ (fun c => numParts N c.parts) l (k := q) (by omega)
        have hzx := hide (hz.out (l[q]'(by omega)) (List.getElem_mem _))
        obtain ⟨rfl, hl8, rfl, hkn, hP, -, ⟨hpc, hpc2⟩, -⟩ := hv
        generalize l[q] = x at *
        obtain ⟨m, hm⟩ : ∃ m, m = x.parts.length := ⟨_, rfl⟩
        rw [← hm] at g1 hP hpc
        have hkn47 : kn ≤ 140737488351232 := by rw [hkn]; exact hzx.out.1
        have hP' := hide hP
        have hpl := hP.2.1
        have hm' := hide hm
        obtain ⟨S, hS⟩ : ∃ S, ((l.take q).map fun c => numParts N c.parts).sum = S := ⟨_, rfl⟩
        rw [hS] at hsn' hsucc
        have hsucc' := hide hsucc
        have hs1 := hsn'.out hs
        clear c0 c1 c2 hsucc hP hm hS hkn
        generalize wr = w1 at *
        go_wp2_with fail
        go_loopw [5, 7] (fun a i wr => ∃ j t : Nat, j ≤ m ∧ i = .int .i64 j ∧ a = .int .i64 (t : Int) ∧ 1 ≤ t ∧ t ≤ (lim + 2) * 1125899906842624 ∧ (t ≤ lim → q + 1 + S + ((x.parts.take j).map fun p => numSims N p.sims).sum ≤ t) ∧ Below w1.heap.size w1 wr) (fun _ i _ => m - (intOf i).toNat)
        case atStart => exact ⟨0, s + 1 + kn, Nat.zero_le _, rfl, congrArg (Value.int .i64) (by omega), by omega, by omega, by intro _; simp; omega, Below.refl _ _⟩
        case round =>
          obtain ⟨j, t, hj, rfl, rfl, ht1, htb, htn, hb1⟩ := hrel
          have htn' := hide htn
          have g1j := cell_later hb1 g1
          clear htn
          by_cases hjm : j < m
          · have u3 : decide ((j : Int) < (m : Int)) = true := decide_eq_true (by omega)
            by_cases ht : t ≤ lim
            · have u4 : decide ((t : Int) ≤ (lim : Int)) = true := decide_eq_true (by omega)
              have hB1 := Below.on hb hb1
              obtain ⟨b1, off1, SA, SC, rfl, hbl1, d0, d1, d2⟩ := hP'.out.2.2 (by omega)
              have e0 := cell_later hB1 (d0 j hjm)
              have e1 := cell_later hB1 (d1 j hjm)
              obtain ⟨hsl, hsc, hsc2, -⟩ := d2 j hjm
              clear d0 d1 d2
              have hjl : j < x.parts.length := by rw [← hm'.out]; exact hjm
              have hsucc1 := sum_take_succ (fun p : CompX X => numSims N p.sims) x.parts hjl
              have hpe : x.parts[j] = px x.parts j := by unfold px; rw [List.getD_eq_getElem?_getD, List.getElem?_eq_getElem hjl]; rfl
              have hzy := hide (hzx.out.2 (px x.parts j) (by rw [← hpe]; exact List.getElem_mem _))
              rw [hpe] at hsucc1
              generalize px x.parts j = y at *
              obtain ⟨tt, htt⟩ : ∃ tt, tt = y.sims.length := ⟨_, rfl⟩
              rw [← htt] at e1 hsl hsc
              obtain ⟨S1, hS1⟩ : ∃ S1, ((x.parts.take j).map fun p => numSims N p.sims).sum = S1 := ⟨_, rfl⟩
              rw [hS1] at htn' hsucc1
              have hsucc1' := hide hsucc1
              obtain ⟨-, SS, hSS, hrel⟩ := hsl
              have hS' := hide (show IsSims w _ tt SS ∧ ∀ i, i < tt → SimRel V w (sm SS i) (sy y.sims i) from ⟨hSS, hrel⟩)
              have htt' := hide htt
              have ht2 := htn'.out ht
              have hts : y.tag.size ≤ 140737488351232 := hzy.out.1
              generalize SA j = AS at *
              generalize SC j = CS at *
              generalize y.tag = tg at *
              have ht63 := hSS.2.1
              clear hsucc1 hSS hrel htt hS1 hpe
              generalize wr = w2 at *
              go_wp2_with fail
              go_loopw [5, 9] (fun a i wr => ∃ k v : Nat, k ≤ tt ∧ i = .int .i64 k ∧ a = .int .i64 (v : Int) ∧ 2 ≤ v ∧ v ≤ (lim + 2) * 1125899906842624 ∧ (v ≤ lim → q + 1 + S + S1 + ((y.sims.take k).map fun s => N s.list).sum ≤ v) ∧ Below w2.heap.size w2 wr) (fun _ i _ => tt - (intOf i).toNat)
              case atStart => exact ⟨0, t + 1 + tg.size, Nat.zero_le _, rfl, congrArg (Value.int .i64) (by omega), by omega, by omega, by intro _; simp; omega, Below.refl _ _⟩
              case round =>
                obtain ⟨i, v, hi, rfl, rfl, hv2, hvb, hvn, hb2⟩ := hrel
                have hvn' := hide hvn
                clear hvn
                by_cases hit : i < tt
                · have u5 : decide ((i : Int) < (tt : Int)) = true := decide_eq_true (by omega)
                  by_cases hv : v ≤ lim
                  · have u6 : decide ((v : Int) ≤ (lim : Int)) = true := decide_eq_true (by omega)
                    have hB2 := Below.on hB1 hb2
                    obtain ⟨b2, off2, rfl, hbl2, hcc⟩ := hS'.out.1.2.2 (by omega)
                    obtain ⟨k0, k1, k2, k3, k4, k5, k6, k7, k8⟩ := (hcc i hit).later hB2
                    have hrl := hS'.out.2 i hit
                    have hil : i < y.sims.length := by rw [← htt'.out]; exact hit
                    have hsucc2 := sum_take_succ (fun s : SimX X => N s.list) y.sims hil
                    have hpe : y.sims[i] = sy y.sims i := by unfold sy; rw [List.getD_eq_getElem?_getD, List.getElem?_eq_getElem hil]; rfl
                    rw [hpe] at hsucc2
                    obtain ⟨hz1, hz2, hz3⟩ := hzy.out.2 (sy y.sims i) (by rw [← hpe]; exact List.getElem_mem _)
                    rw [← hrl.name] at hz1
                    rw [← hrl.val] at hz2
                    have hk := hide (fun (W : World) (hW : Below wr.heap.size wr W) => (show Calls Tryz.prog 50 #[.slice (sm SS i).LA (sm SS i).ln (sm SS i).lc, .int .i64 ((lim : Int) - (v : Int))] W (MadeSz W (lim - v) (N (sy y.sims i).list)) from by
                      rw [show (lim : Int) - (v : Int) = ((lim - v : Nat) : Int) by omega]
                      exact hN'.out (sm SS i).LA (sm SS i).ln (sm SS i).lc (sy y.sims i).list (lim - v) W (hrl.row.below hV'.out (Below.on hB2 hW)) hz3 (by omega)))
                    have hsucc2' := hide hsucc2
                    have hv3 := hvn'.out hv
                    clear hcc hsucc2 hpe hrl k0 k2 k4 k5 k6 k7 hz3
                    obtain ⟨S2, hS2⟩ : ∃ S2, ((y.sims.take i).map fun s => N s.list).sum = S2 := ⟨_, rfl⟩
                    rw [hS2] at hv3 hsucc2'
                    generalize hz : N (sy y.sims i).list = z at *
                    generalize sm SS i = sx at *
                    generalize sx.name = nm at *
                    generalize sx.val = vl at *
                    generalize sx.LA = LA at *
                    generalize sx.ln = ln at *
                    generalize sx.lc = lc at *
                    have i0 : (0 : Int) ≤ (i : Int) := by omega
                    have i1 : (i : Int) < (tt : Int) := by omega
                    have z0 : IntKind.i64.wrap ((lim : Int) - (v : Int)) = (lim : Int) - (v : Int) := IntWalk.i64_in _ (by omega)
                    have z1 : IntKind.i64.wrap (1 + (nm.size : Int)) = 1 + (nm.size : Int) := IntWalk.i64_in _ (by omega)
                    have z2 : IntKind.i64.wrap (1 + (nm.size : Int) + (vl.size : Int)) = 1 + (nm.size : Int) + (vl.size : Int) := IntWalk.i64_in _ (by omega)
                    clear hS2 hz
                    go_wp2_with fail
                    go_region_held3 (fun X => X.cell? ⟨b2, off2 + i * 9 + 1, none⟩ = some (.string nm) ∧ X.cell? ⟨b2, off2 + i * 9 + 3, none⟩ = some (.string vl) ∧ X.cell? ⟨b2, off2 + i * 9 + 8, none⟩ = some (.slice LA ln lc)) (first | exact ⟨k1, k3, k8⟩ | exact ⟨r1, r3, r8⟩) (first | (go_at_call 50; (with_reducible refine (hk.out _ (Below.refl _ _).drew).mono ?_); rintro e w3 ⟨r, rfl, hr1, hr2, hb3⟩; have z3 : IntKind.i64.wrap (1 + (nm.size : Int) + (vl.size : Int) + (r : Int)) = 1 + (nm.size : Int) + (vl.size : Int) + (r : Int) := IntWalk.i64_in _ (by omega); have z4 : IntKind.i64.wrap ((v : Int) + (1 + (nm.size : Int) + (vl.size : Int) + (r : Int))) = (v : Int) + (1 + (nm.size : Int) + (vl.size : Int) + (r : Int)) := IntWalk.i64_in _ (by omega); have r1 := cell_later hb3 k1; have r3 := cell_later hb3 k3; have r8 := cell_later hb3 k8))
                    have hb4 := Below.on (w1 := wr.drew) hb2.drew hb3
                    go_wp2
                    go_roundw
                    case rel => exact ⟨i + 1, v + 1 + nm.size + vl.size + r, by omega, by go_num, congrArg (Value.int .i64) (by omega), by omega, by omega, fun h => by rw [hsucc2'.out]; have := hr2 (by omega); omega, hb4⟩
                    case measure => simp [intOf]; omega
                  · have u6 : decide ((v : Int) ≤ (lim : Int)) = false := decide_eq_false (by omega)
                    clear hvn'
                    go_wp2
                    go_roundw
                    case rel => exact ⟨j + 1, v, by omega, by go_num, rfl, by omega, hvb, fun h => absurd h hv, Below.on hb1 hb2⟩
                    case measure => simp [intOf]; omega
                · obtain rfl : i = tt := by omega
                  have u5 : decide ((i : Int) < (i : Int)) = false := decide_eq_false (by omega)
                  have hall : ((y.sims.take i).map fun s => N s.list).sum = numSims N y.sims := by rw [htt'.out, List.take_length]; rfl
                  have hfin : Hid (v ≤ lim → q + 1 + S + ((x.parts.take (j + 1)).map fun p => numSims N p.sims).sum ≤ v) := fun h => by
                    have h1 := hvn'.out h
                    rw [hsucc1'.out]
                    rw [hall] at h1
                    omega
                  clear hvn' hall
                  go_wp2
                  go_roundw
                  case rel => exact ⟨j + 1, v, by omega, by go_num, rfl, by omega, hvb, hfin.out, Below.on hb1 hb2⟩
                  case measure => simp [intOf]; omega
            · have u4 : decide ((t : Int) ≤ (lim : Int)) = false := decide_eq_false (by omega)
              clear htn'
              go_wp2
              go_roundw
              case rel => exact ⟨q + 1, t, by omega, by go_num, rfl, htb, fun h => absurd h ht, Below.on hb hb1⟩
              case measure => simp [intOf]; omega
          · obtain rfl : j = m := by omega
            have u3 : decide ((j : Int) < (j : Int)) = false := decide_eq_false (by omega)
            have hall : ((x.parts.take j).map fun p => numSims N p.sims).sum = numParts N x.parts := by rw [hm'.out, List.take_length]; rfl
            have hfin : Hid (t ≤ lim → q + 1 + ((l.take (q + 1)).map fun c => numParts N c.parts).sum ≤ t) := fun h => by
              have h1 := htn'.out h
              rw [hsucc'.out]
              rw [hall] at h1
              omega
            clear htn' hall
            go_wp2
            go_roundw
            case rel => exact ⟨q + 1, t, by omega, by go_num, rfl, htb, hfin.out, Below.on hb hb1⟩
            case measure => simp [intOf]; omega
      · have u2 : decide ((s : Int) ≤ (lim : Int)) = false := decide_eq_false (by omega)
        clear hsn'
        go_wp2
        go_ret
        exact ⟨s, rfl, hsb, fun h => absurd h hs, hb⟩
    · obtain rfl : q = n := by omega
      have u1 : decide ((q : Int) < (q : Int)) = false := decide_eq_false (by omega)
      have hfin : Hid (s ≤ lim → numL N l ≤ s) := fun h => by
        have h1 := hsn'.out h
        rw [← hll, List.take_length] at h1
        unfold numL
        exact h1
      clear hsn'
      go_wp2
      go_ret
      exact ⟨s, rfl, hsb, hfin.out, hb⟩
end
set_option maxRecDepth 100000 in
theorem sizeV_ok : ∀ n, SizeT (IsV n) (szV n) (numV n)
  | 0 => fun A m c l lim W h _ _ => by
    have hl : l = [] := by cases l with | nil => rfl | cons x _ => exact x.elim
    subst hl
    obtain rfl := h.1
    show Calls Tryz.prog 50 #[.slice A ([] : List (SelL 0)).length c, .int .i64 (lim : Int)] W _
    simp only [List.length_nil]
    go_enter Tryz.func50, Tryz.ntmps50
    go_wp2
    go_loopw [5, 6] (fun a i wr => a = .int .i64 0 ∧ i = .int .i64 0 ∧ W = wr) (fun _ _ _ => 0)
    case atStart => exact ⟨rfl, rfl, rfl⟩
    case round =>
      obtain ⟨rfl, rfl, rfl⟩ := hrel
      go_wp2
      go_ret
      exact ⟨0, rfl, Nat.zero_le _, fun _ => Nat.le_refl _, Below.refl _ _⟩
  | n + 1 => sizeT_ok (isV_stays n) (sizeV_ok n)
/-- A truth value that comes back: if it is false, so and so. -/
def MadeGr (w : World) (P : Prop) (e : Ending) (w' : World) : Prop := ∃ g : Bool, e = .returned (.bool g) ∧ (g = false → P) ∧ Below w.heap.size w w'
/-- What is not great has at most 600 selectors. -/
theorem rgreat8_ok (n : Nat) (A : Option Addr) (m c : Nat) (l : List (SelL n)) (w : World) (hrow : IsRow (IsV n) w A m l) (hz : ∀ x ∈ l, szV n x) :
    Calls Tryz.prog 32 #[.slice A m c] w (MadeGr w (numV n l ≤ 600)) := by
  have hs := hide (show Calls Tryz.prog 50 #[.slice A m c, .int .i64 600] w (MadeSz w 600 (numV n l)) from sizeV_ok n A m c l 600 w hrow hz (by omega))
  clear hrow hz
  go_enter Tryz.func32, Tryz.ntmps32
  go_wp2_with fail
  (with_reducible refine hs.out.mono ?_)
  rintro e w1 ⟨r, rfl, hr1, hr2, hb1⟩
  have hr2' := hide hr2
  clear hr2
  go_wp2
  go_ret
  refine ⟨_, rfl, fun h => ?_, hb1⟩
  have h1 : ¬ (600 : Int) < (r : Int) := by simpa using h
  have := hr2'.out (by omega)
  omega
end Go.Proofs.YtljloicgjgbplaaGreat
