/- Walks: two trees that read alike are the same. No condition. -/
import Derived.Test.YtkimjpcmcfnmkaaWb
import Derived.Test.YtkimjpcmcfnmkaaWh
namespace Go.Proofs.Ytkimjpcmcfnmkaa
open Go.RowKit

theorem attr_neq (a b : ByteArray) (W : World) : (binOp .neq 56 (.agg #[.string a, .string b]) (.agg #[.string a, .string b])).run Try.prog W = .ok (.bool false) W := by
  go_simp

set_option maxRecDepth 100000 in
set_option maxHeartbeats 4000000 in
theorem same_ok (A B : Option Addr) (n c d : Nat) (T : List ANode) (w : World) (h : IsTree w A n T) (h' : IsTree w B n T) :
    Calls Try.prog 14 #[.agg #[.slice A n c], .agg #[.slice B n d]] w fun e w' => e = .returned (.bool true) ∧ Below w.heap.size w w' := by
  obtain ⟨hl, hn, hs, ho⟩ := h
  obtain ⟨-, -, -, ho'⟩ := h'
  have hs' := hide hs
  have ho1 := hide ho
  have ho2 := hide ho'
  clear ho ho' hs
  go_enter Try.func14, Try.ntmps14
  go_wp2
  go_loopw [5] (fun s wr => ∃ (k : Nat), k ≤ n ∧ s = .int .i64 k ∧ Below w.heap.size w wr ∧ wr.cell? ⟨w.heap.size, 0, none⟩ = some (.slice A n c) ∧ wr.cell? ⟨w.heap.size + 1, 0, none⟩ = some (.slice B n d)) (fun s _ => n - (intOf s).toNat)
  case atStart => exact ⟨0, Nat.zero_le _, rfl, below_alloc (below_alloc (Below.refl _ _) _) _, by go_simp, by go_simp⟩
  case round =>
    obtain ⟨k, hk, rfl, hb, hbox, hbox2⟩ := hrel
    have lb : w.heap.size + 1 < wr.heap.size := cell_in hbox2
    have lb0 : w.heap.size < wr.heap.size := by omega
    by_cases hlt : k < n
    · obtain ⟨b, off, aA, cA, aC, cC, rfl, hbl, c0, c1, c2, c3, hA, hC⟩ := ho1.out (by omega)
      obtain ⟨b', off', aA', cA', aC', cC', rfl, hbl', c0', c1', c2', c3', hA', hC'⟩ := ho2.out (by omega)
      have g0 := (old hb _ _ hbl).trans (c0 k hlt)
      have g1 := (old hb _ _ hbl).trans (c1 k hlt)
      have g2 := (old hb _ _ hbl).trans (c2 k hlt)
      have g3 := (old hb _ _ hbl).trans (c3 k hlt)
      have k0 := (old hb _ _ hbl').trans (c0' k hlt)
      have k1 := (old hb _ _ hbl').trans (c1' k hlt)
      have k2 := (old hb _ _ hbl').trans (c2' k hlt)
      have k3 := (old hb _ _ hbl').trans (c3' k hlt)
      have hbr : b < wr.heap.size := Nat.lt_of_lt_of_le hbl hb.size
      have hbr' : b' < wr.heap.size := Nat.lt_of_lt_of_le hbl' hb.size
      have hgA := hide ((hA k hlt).1.below hb)
      have hgC := hide ((hC k hlt).1.below hb)
      have hgA' := hide ((hA' k hlt).1.below hb)
      have hgC' := hide ((hC' k hlt).1.below hb)
      have han : (nd T k).attrs.length ≤ 9223372036854775807 := hgA.out.2.1
      generalize aA k = AA at g1 hgA
      generalize cA k = CA at g3 hgC
      generalize aC k = ac at g1
      generalize cC k = cc at g3
      generalize aA' k = AA' at k1 hgA'
      generalize cA' k = CA' at k3 hgC'
      generalize aC' k = ac' at k1
      generalize cC' k = cc' at k3
      clear c0 c1 c2 c3 hA hC c0' c1' c2' c3' hA' hC'
      have e1 : ((nd T k).tag == (nd T k).tag) = true := by rw [beq_toListBytes]; simp
      have e2 : (par T k != par T k) = false := by simp
      have e3 : ((((nd T k).attrs.length : Nat) : Int) != (((nd T k).attrs.length : Nat) : Int)) = false := by simp
      have e4 : decide (kids T k = kids T k) = true := decide_eq_true rfl
      go_wp2
      go_region
      · go_wp2_with (go_at_call 22; refine (sameInts_ok _ _ _ _ _ _ (kids T k) (kids T k) _ (hgC.out.below (below_alloc (below_alloc (Below.refl _ _) _) _).drew) (hgC'.out.below (below_alloc (below_alloc (Below.refl _ _) _) _).drew)).mono ?_; rintro e w1 ⟨rfl, q, rfl⟩)
        go_loopw [8] (fun s wr2 => ∃ j : Nat, j ≤ (nd T k).attrs.length ∧ s = .int .i64 j ∧ Below wr.heap.size wr wr2 ∧ wr2.cell? ⟨wr.heap.size, 1, none⟩ = some (.slice AA (nd T k).attrs.length ac) ∧ wr2.cell? ⟨wr.heap.size + 1, 1, none⟩ = some (.slice AA' (nd T k).attrs.length ac')) (fun s _ => (nd T k).attrs.length - (intOf s).toNat)
        case atStart => exact ⟨0, Nat.zero_le _, rfl, below_drewN (below_alloc (below_alloc (Below.refl _ _) _) _) _, by go_simp, by go_simp⟩
        case round =>
          obtain ⟨j, hj, rfl, hb2, fx, fy⟩ := hrel
          by_cases hltj : j < (nd T k).attrs.length
          · obtain ⟨p, po, rfl, hpl, hpn, hpv⟩ := hgA.out.2.2.2 (by omega)
            obtain ⟨p', po', rfl, hpl', hpn', hpv'⟩ := hgA'.out.2.2.2 (by omega)
            have m0 := (old hb2 _ _ hpl).trans (hpn j hltj)
            have m1 := (old hb2 _ _ hpl).trans (hpv j hltj)
            have m2 := (old hb2 _ _ hpl').trans (hpn' j hltj)
            have m3 := (old hb2 _ _ hpl').trans (hpv' j hltj)
            have hq := attr_neq (nm (nd T k).attrs j) (vl (nd T k).attrs j)
            clear hpn hpv hpn' hpv' e1 e2 e3 e4
            go_wp2
            go_quiet (fail)
            go_wp2
            go_roundw
            case rel => exact ⟨j + 1, by omega, by go_num, below_drewN hb2 _, fx, fy⟩
            case measure => simp [intOf]; omega
          · have hb3 := hb.trans (hb2.mono hb.size)
            have hx1 := (old hb2 _ _ lb0).trans hbox
            have hx2 := (old hb2 _ _ lb).trans hbox2
            go_wp2
            go_roundw
            case rel => exact ⟨k + 1, by omega, by go_num, hb3, hx1, hx2⟩
            case measure => simp [intOf]; omega
      · go_wp2_with (go_at_call 22; refine (sameInts_ok _ _ _ _ _ _ (kids T k) (kids T k) _ (hgC.out.below (below_alloc (below_alloc (Below.refl _ _) _) _).drew) (hgC'.out.below (below_alloc (below_alloc (Below.refl _ _) _) _).drew)).mono ?_; rintro e w1 ⟨rfl, q, rfl⟩)
        go_loopw [8] (fun s wr2 => ∃ j : Nat, j ≤ (nd T k).attrs.length ∧ s = .int .i64 j ∧ Below wr.heap.size wr wr2 ∧ wr2.cell? ⟨wr.heap.size + 1, 1, none⟩ = some (.slice AA (nd T k).attrs.length ac) ∧ wr2.cell? ⟨wr.heap.size, 1, none⟩ = some (.slice AA' (nd T k).attrs.length ac')) (fun s _ => (nd T k).attrs.length - (intOf s).toNat)
        case atStart => exact ⟨0, Nat.zero_le _, rfl, below_drewN (below_alloc (below_alloc (Below.refl _ _) _) _) _, by go_simp, by go_simp⟩
        case round =>
          obtain ⟨j, hj, rfl, hb2, fx, fy⟩ := hrel
          by_cases hltj : j < (nd T k).attrs.length
          · obtain ⟨p, po, rfl, hpl, hpn, hpv⟩ := hgA.out.2.2.2 (by omega)
            obtain ⟨p', po', rfl, hpl', hpn', hpv'⟩ := hgA'.out.2.2.2 (by omega)
            have m0 := (old hb2 _ _ hpl).trans (hpn j hltj)
            have m1 := (old hb2 _ _ hpl).trans (hpv j hltj)
            have m2 := (old hb2 _ _ hpl').trans (hpn' j hltj)
            have m3 := (old hb2 _ _ hpl').trans (hpv' j hltj)
            have hq := attr_neq (nm (nd T k).attrs j) (vl (nd T k).attrs j)
            clear hpn hpv hpn' hpv' e1 e2 e3 e4
            go_wp2
            go_quiet (fail)
            go_wp2
            go_roundw
            case rel => exact ⟨j + 1, by omega, by go_num, below_drewN hb2 _, fx, fy⟩
            case measure => simp [intOf]; omega
          · have hb3 := hb.trans (hb2.mono hb.size)
            have hx1 := (old hb2 _ _ lb0).trans hbox
            have hx2 := (old hb2 _ _ lb).trans hbox2
            go_wp2
            go_roundw
            case rel => exact ⟨k + 1, by omega, by go_num, hb3, hx1, hx2⟩
            case measure => simp [intOf]; omega
    · go_wp2
      go_ret
      exact ⟨rfl, hb⟩
end Go.Proofs.Ytkimjpcmcfnmkaa
