/- For every tree, number, progression and list of truth values, exactly those siblings match that An+B says. No condition. -/
import Derived.Test.YtankambfobfnfaaOpenb
import Derived.Test.YtankambfobfnfaaNh
import Derived.Test.YtankambfobfnfaaEx16
import Derived.Deep.QuietTactic
import Derived.BigQuiet
namespace Go.Proofs.Ytankambfobfnfaa.nthExact
open Go.ChangeShapes Go.WideShapes Go.ChangeAt Go.RowKit

section
variable {T : List ANode} (hg : goodB T = true) {i : Nat} (hi : i < T.length) {B : List Bool} (hB : B.length = T.length) {j q : Nat} (hj : j < (sibs T i).length) (hq : ix (sibs T i) j = q)
include hg hi hB hj hq
theorem at_pos : q < T.length ∧ nmE T q B.length = 0 ∧ (bx B q = true → ∀ last, atF T q last B = if last then ((pfx B (sibs T i) (sibs T i).length : Nat) : Int) - pfx B (sibs T i) j else (pfx B (sibs T i) j : Int) + 1) := by
  obtain ⟨r, h1, h2, h3, -⟩ := sibs_mem hg hi (ix_mem hj)
  have : r = q := by omega
  subst this
  have hp := sibs_posn hg hi hj
  rw [hq] at hp
  refine ⟨h2, nmE_zero.2 ⟨askI_ok hg (by simp; omega), tolE_zero.2 ⟨hg, hB⟩⟩, fun hb last => ?_⟩
  have hb' : inb B r = true := by unfold inb; rw [Int.toNat_natCast]; exact hb
  unfold atF
  rw [if_pos hb', h3, hp, Int.toNat_natCast]
theorem plc_in (hb : bx B q = true) : nplE T q false B = 0 ∧ nplV T q false B = (pfx B (sibs T i) j : Int) + 1 := by
  obtain ⟨-, h2, h3⟩ := at_pos hg hi hB hj hq
  have h4 := h3 hb false
  unfold nplE nplV
  rw [if_pos h2, if_pos h2, Int.toNat_natCast, h4]
  exact ⟨by rw [if_neg (by simp; omega)], by simp⟩
theorem plc_last (hb : bx B q = true) : nplE T q true B = 0 ∧ nplV T q true B = ((pfx B (sibs T i) (sibs T i).length : Nat) : Int) - pfx B (sibs T i) j := by
  obtain ⟨-, h2, h3⟩ := at_pos hg hi hB hj hq
  have h4 := h3 hb true
  have h5 := pfx_succ B (sibs T i) j hj
  have hb' : inb B q = true := by unfold inb; rw [Int.toNat_natCast]; exact hb
  rw [hq, if_pos hb'] at h5
  have h6 := pfx_mono B (sibs T i) (show j + 1 ≤ (sibs T i).length by omega)
  unfold nplE nplV
  rw [if_pos h2, if_pos h2, Int.toNat_natCast, h4]
  exact ⟨by rw [if_neg (by simp; omega)], by simp⟩
theorem plc_no (hb : bx B q = false) (last : Bool) : nplE T q last B = 6 ∧ nplV T q last B = 0 := by
  obtain ⟨-, h2, -⟩ := at_pos hg hi hB hj hq
  unfold nplE nplV
  rw [if_pos h2, if_pos h2, Int.toNat_natCast, atF_no hb]
  exact ⟨rfl, rfl⟩
theorem mat_in {a b : Int} (hv : anbB a b = true) (hb : bx B q = true) : nmatE T q a b B.length = 0 ∧ nmatV T q a b false B = hasB a b ((pfx B (sibs T i) j : Int) + 1) := by
  obtain ⟨-, h2, h3⟩ := at_pos hg hi hB hj hq
  have h4 := h3 hb false
  have he : nmatE T q a b B.length = 0 := by unfold nmatE anbE; rw [if_pos h2, if_pos hv]
  refine ⟨he, ?_⟩
  unfold nmatV nmatF
  rw [if_pos he, Int.toNat_natCast, h4]
  rw [if_neg (by decide), show decide (1 ≤ (pfx B (sibs T i) j : Int) + 1) = true by simp; omega]; rfl
theorem mat_no {a b : Int} (hv : anbB a b = true) (hb : bx B q = false) : nmatE T q a b B.length = 0 ∧ nmatV T q a b false B = false := by
  obtain ⟨-, h2, -⟩ := at_pos hg hi hB hj hq
  have he : nmatE T q a b B.length = 0 := by unfold nmatE anbE; rw [if_pos h2, if_pos hv]
  refine ⟨he, ?_⟩
  unfold nmatV nmatF
  rw [if_pos he, Int.toNat_natCast, atF_no hb]
  rfl
end
theorem in_at (a b p : Int) (hv : anbB a b = true) (h1 : 1 ≤ p) (h2 : p ≤ 100) (w : World) : Calls Try.prog 46 #[.agg #[.int .i64 a, .int .i64 b], .int .i64 p] w fun e w' => e = .returned (.tuple #[.bool (hasB a b p), .int .i64 0]) ∧ Below w.heap.size w w' := by
  have := anbIn_ok a b p w (by omega) h2
  unfold inB inE at this
  rw [if_pos hv, if_pos hv, if_pos h1, if_pos h1] at this
  exact this

set_option maxRecDepth 100000 in
set_option maxHeartbeats 1000000 in
theorem walk_out (A : Option Addr) (n c : Nat) (T : List ANode) (i a b : Int) (AB : Option Addr) (m cb : Nat) (w : World) (h : IsTree w A n T)
    (hx : askI T [i] ≠ 0 ∨ (askI T [i] = 0 ∧ (tolE T m ≠ 0 ∨ (tolE T m = 0 ∧ anbE a b ≠ 0)))) :
    Calls Try.prog 14 #[.agg #[.slice A n c], .int .i64 i, .agg #[.int .i64 a, .int .i64 b], .slice AB m cb] w fun e w' => e = .returned (.bool true) ∧ Below w.heap.size w w' := by
  have hT := hide h
  have hl := h.1
  clear h
  have hB0 := below_alloc (below_alloc (Below.refl w.heap.size w) (.cells #[.slice A n c] 24)) (.cells #[.int .i64 a, .int .i64 b] 57)
  have hbox0 : ((w.alloc (.cells #[.slice A n c] 24)).alloc (.cells #[.int .i64 a, .int .i64 b] 57)).cell? ⟨w.heap.size, 0, none⟩ = some (.slice A n c) := by go_simp
  have hx0 : ((w.alloc (.cells #[.slice A n c] 24)).alloc (.cells #[.int .i64 a, .int .i64 b] 57)).cell? ⟨w.heap.size + 1, 0, none⟩ = some (.int .i64 a) := by go_simp
  have hy0 : ((w.alloc (.cells #[.slice A n c] 24)).alloc (.cells #[.int .i64 a, .int .i64 b] 57)).cell? ⟨w.heap.size + 1, 1, none⟩ = some (.int .i64 b) := by go_simp
  rcases hx with q1 | ⟨q1, q3 | ⟨q3, q4⟩⟩
  · have j1 : (askI T [i] != 0) = true := by simp [q1]
    clear q1
    go_enter Try.func14, Try.ntmps14
    go_wp2_with fail
    refine (alive20_ok _).mono ?_
    rintro e w1 ⟨rfl, hb1⟩
    have hbox1 := cell_later hb1 hbox0
    have hB1 := Below.on hB0 hb1
    have hbox1 := cell_later hb1 hbox0
    go_wp2_with fail
    refine (rasked_ok _ _ _ T _ _ (hT.out.below hB1)).mono ?_
    rintro e w2 ⟨rfl, hb2⟩
    have hbox2 := cell_later hb2 hbox1
    have hB2 := Below.on hB1 hb2
    go_wp2
    go_ret
    exact ⟨rfl, hB2⟩
  · have j1 : (tolE T m != 0) = true := by simp [q3]
    clear q3
    go_enter Try.func14, Try.ntmps14
    go_wp2_with fail
    refine (alive20_ok _).mono ?_
    rintro e w1 ⟨rfl, hb1⟩
    have hbox1 := cell_later hb1 hbox0
    have hB1 := Below.on hB0 hb1
    have hbox1 := cell_later hb1 hbox0
    go_wp2_with fail
    refine (rasked_ok _ _ _ T _ _ (hT.out.below hB1)).mono ?_
    rintro e w2 ⟨rfl, hb2⟩
    have hbox2 := cell_later hb2 hbox1
    have hB2 := Below.on hB1 hb2
    go_wp2_with fail
    refine (rntol_ok _ _ _ _ _ _ T _ (hT.out.below hB2)).mono ?_
    rintro e w3 ⟨rfl, hb3⟩
    have hbox3 := cell_later hb3 hbox2
    have hB3 := Below.on hB2 hb3
    go_wp2
    go_ret
    exact ⟨rfl, hB3⟩
  · have j1 : (anbE a b != 0) = true := by simp [q4]
    clear q4
    go_enter Try.func14, Try.ntmps14
    go_wp2_with fail
    refine (alive20_ok _).mono ?_
    rintro e w1 ⟨rfl, hb1⟩
    have hbox1 := cell_later hb1 hbox0
    have hB1 := Below.on hB0 hb1
    have hbox1 := cell_later hb1 hbox0
    have hx1 := cell_later hb1 hx0
    have hy1 := cell_later hb1 hy0
    go_wp2_with fail
    refine (rasked_ok _ _ _ T _ _ (hT.out.below hB1)).mono ?_
    rintro e w2 ⟨rfl, hb2⟩
    have hbox2 := cell_later hb2 hbox1
    have hB2 := Below.on hB1 hb2
    have hx2 := cell_later hb2 hx1
    have hy2 := cell_later hb2 hy1
    go_wp2_with fail
    refine (rntol_ok _ _ _ _ _ _ T _ (hT.out.below hB2)).mono ?_
    rintro e w3 ⟨rfl, hb3⟩
    have hbox3 := cell_later hb3 hbox2
    have hB3 := Below.on hB2 hb3
    have hx3 := cell_later hb3 hx2
    have hy3 := cell_later hb3 hy2
    go_wp2_with fail
    refine (ranbCheck_ok a b _).mono ?_
    rintro e w4 ⟨rfl, hb4⟩
    have hbox4 := cell_later hb4 hbox3
    have hB4 := Below.on hB3 hb4
    have hx4 := cell_later hb4 hx3
    have hy4 := cell_later hb4 hy3
    go_wp2
    go_ret
    exact ⟨rfl, hB4⟩

set_option maxRecDepth 100000 in
set_option maxHeartbeats 10000000 in
theorem walkIn (A : Option Addr) (n c : Nat) (T : List ANode) (i : Nat) (a b : Int) (AB : Option Addr) (cb : Nat) (B : List Bool) (w : World) (h : IsTree w A n T) (hL : IsBools w AB n B)
    (hg : goodB T = true) (hi : i < n) (hv : anbB a b = true) :
    Calls Try.prog 14 #[.agg #[.slice A n c], .int .i64 i, .agg #[.int .i64 a, .int .i64 b], .slice AB n cb] w fun e w' => e = .returned (.bool true) ∧ Below w.heap.size w w' := by
  have hT := hide h
  have hl := h.1
  clear h
  have hB0 := below_alloc (below_alloc (Below.refl w.heap.size w) (.cells #[.slice A n c] 24)) (.cells #[.int .i64 a, .int .i64 b] 57)
  have hbox0 : ((w.alloc (.cells #[.slice A n c] 24)).alloc (.cells #[.int .i64 a, .int .i64 b] 57)).cell? ⟨w.heap.size, 0, none⟩ = some (.slice A n c) := by go_simp
  have hx0 : ((w.alloc (.cells #[.slice A n c] 24)).alloc (.cells #[.int .i64 a, .int .i64 b] 57)).cell? ⟨w.heap.size + 1, 0, none⟩ = some (.int .i64 a) := by go_simp
  have hy0 : ((w.alloc (.cells #[.slice A n c] 24)).alloc (.cells #[.int .i64 a, .int .i64 b] 57)).cell? ⟨w.heap.size + 1, 1, none⟩ = some (.int .i64 b) := by go_simp
  have hn64 : n ≤ 64 := by have := ((goodB_iff T).1 hg).2.1; omega
  have hiT : i < T.length := by omega
  have q1 : askI T [(i : Int)] = 0 := askI_ok hg (by simp; omega)
  have q3 : tolE T n = 0 := tolE_zero.2 ⟨hg, by omega⟩
  have q4 : anbE a b = 0 := if_pos hv
  have hBl := hide (show B.length = T.length by have := hL.1; omega)
  have hL' := hide hL
  have hg' := hide hg
  have hv' := hide hv
  obtain ⟨bb, ob, rfl, hbb, hcb⟩ := hL.2.2 (by omega)
  have hcb' := hide hcb
  obtain ⟨p, hp, hpi, -⟩ := sibs_pos hg hiT
  have hpi' := hide hpi
  have hm64 := sibs_len hg hiT
  have hmn : (sibs T i).length ≤ n := by
    have h9 := nodup_range_le T.length (sibs T i) (sibs_nodup hg hiT) fun x hx => by
      obtain ⟨q, h1, h2, -⟩ := sibs_mem hg hiT hx; omega
    omega
  obtain ⟨m, hm⟩ : ∃ m, (sibs T i).length = m := ⟨_, rfl⟩
  have hm' := hide hm
  rw [hm] at hp hm64 hmn
  have hmem : Hid (∀ k, k < m → ∃ r : Nat, ix (sibs T i) k = r ∧ r < n) := fun k hk => by
    obtain ⟨r, h1, h2, _⟩ := sibs_mem hg'.out hiT (ix_mem (l := sibs T i) (j := k) (by omega)); exact ⟨r, h1, by omega⟩
  clear hL hg hv hcb hpi hm
  go_enter Try.func14, Try.ntmps14
  go_wp2_with fail
  refine (alive20_ok _).mono ?_
  rintro e w1 ⟨rfl, hb1⟩
  have hbox1 := cell_later hb1 hbox0
  have hB1 := Below.on hB0 hb1
  have hx1 := cell_later hb1 hx0
  have hy1 := cell_later hb1 hy0
  have hbox1 := cell_later hb1 hbox0
  have hx1 := cell_later hb1 hx0
  have hy1 := cell_later hb1 hy0
  go_wp2_with fail
  refine (rasked_ok _ _ _ T _ _ (hT.out.below hB1)).mono ?_
  rintro e w2 ⟨rfl, hb2⟩
  have hbox2 := cell_later hb2 hbox1
  have hB2 := Below.on hB1 hb2
  have hx2 := cell_later hb2 hx1
  have hy2 := cell_later hb2 hy1
  go_wp2_with fail
  refine (rntol_ok _ _ _ _ _ _ T _ (hT.out.below hB2)).mono ?_
  rintro e w3 ⟨rfl, hb3⟩
  have hbox3 := cell_later hb3 hbox2
  have hB3 := Below.on hB2 hb3
  have hx3 := cell_later hb3 hx2
  have hy3 := cell_later hb3 hy2
  go_wp2_with fail
  refine (ranbCheck_ok a b _).mono ?_
  rintro e w4 ⟨rfl, hb4⟩
  have hbox4 := cell_later hb4 hbox3
  have hB4 := Below.on hB3 hb4
  have hx4 := cell_later hb4 hx3
  have hy4 := cell_later hb4 hy3
  clear hbox0 hbox1 hbox2 hbox3 hx0 hx1 hx2 hx3 hy0 hy1 hy2 hy3 hb1 hb2 hb3 hb4 hB0 hB1 hB2 hB3
  go_wp2
  clear q1 q3 q4
  go_loopw [10, 11] (fun f s wr => ∃ k : Nat, k ≤ p ∧ s = .int .i64 k ∧ f = .int .i64 (ix (sibs T i) (p - k)) ∧ Below w4.heap.size w4 wr) (fun _ s _ => n - (intOf s).toNat)
  case atStart => exact ⟨0, Nat.zero_le _, rfl, by rw [Nat.sub_zero, hpi'.out], Below.refl _ _⟩
  case round =>
    obtain ⟨k, hk, rfl, rfl, hb⟩ := hrel
    have hBw := Below.on hB4 hb
    have hbx := cell_later hb hbox4
    obtain ⟨r, hr, hrn⟩ := hmem.out (p - k) (by omega)
    have hra := hide (askI_ok hg'.out (l := [(r : Int)]) (by simp; omega))
    by_cases hkp : k < p
    · obtain ⟨r2, hr2, hr2n⟩ := hmem.out (p - (k + 1)) (by omega)
      have n1 : Hid (besE T r (-1) = r2) := by
        show _ = _
        have h9 := bes_prev hg'.out hiT (j := p - (k + 1)) (by have := hm'.out; omega)
        rw [show p - (k + 1) + 1 = p - k by omega, hr, hr2] at h9
        exact h9
      have hne : ((r2 : Int) == (r : Int)) = false := by
        simp
        intro e
        have h9 := nodup_ix (sibs_nodup hg'.out hiT) (a := p - (k + 1)) (b := p - k) (by have := hm'.out; omega) (by have := hm'.out; omega) (by rw [hr, hr2, e])
        omega
      rw [hr]
      have hr2' := hide hr2
      clear hr hr2
      go_wp2_with fail
      refine (previous_at T r r2 0 hra.out n1.out _ _ _ _ (hT.out.below hBw)).mono ?_
      rintro e w5 ⟨rfl, hb5⟩
      have hbx5 := cell_later hb5 hbx
      go_wp2
      go_roundw
      case rel => exact ⟨k + 1, by omega, by go_num, by rw [hr2'.out], Below.on hb hb5⟩
      case measure => simp [intOf]; omega
    · obtain rfl : p = k := by omega
      rw [Nat.sub_self] at hr ⊢
      have n1 : Hid (besE T r (-1) = -1) := by
        show _ = _
        have h9 := bes_first hg'.out hiT (by have := hm'.out; omega)
        rw [hr] at h9
        exact h9
      rw [hr]
      have hr' := hide hr
      clear hr
      go_wp2_with fail
      refine (previous_at T r (-1) 0 hra.out n1.out _ _ _ _ (hT.out.below hBw)).mono ?_
      rintro e w5 ⟨rfl, hb5⟩
      have hbx5 := cell_later hb5 hbx
      have hB5 := Below.on hBw hb5
      have hx5 := cell_later hb5 (cell_later hb hx4)
      have hy5 := cell_later hb5 (cell_later hb hy4)
      clear hbx hb hb5 hBw hbox4 hx4 hy4 hB4
      go_wp2
      go_loopw [14, 15, 16] (fun x s y wr => ∃ j : Nat, j ≤ m ∧ s = .int .i64 j ∧ x = .int .i64 (pfx B (sibs T i) j : Nat) ∧ y = .int .i64 (if j < m then ix (sibs T i) j else -1) ∧ Below w5.heap.size w5 wr) (fun _ s _ _ => n + 1 - (intOf s).toNat)
      case atStart => exact ⟨0, Nat.zero_le _, rfl, by rw [pfx_zero]; rfl, by rw [if_pos (by omega), hr'.out], Below.refl _ _⟩
      case round =>
        obtain ⟨j, hj, rfl, rfl, rfl, hb⟩ := hrel
        have hB6 := Below.on hB5 hb
        have hbx6 := cell_later hb hbx5
        have hx6 := cell_later hb hx5
        have hy6 := cell_later hb hy5
        have hpl := pfx_le B (sibs T i) j
        by_cases hlt : j < m
        · obtain ⟨q, hq, hqn⟩ := hmem.out j hlt
          rw [if_pos hlt, hq]
          have hjl : j < (sibs T i).length := by have := hm'.out; omega
          have hqa := hide (askI_ok hg'.out (l := [(q : Int)]) (by simp; omega))
          have gq := (old hB6 _ _ hbb).trans (hcb'.out q hqn)
          have hsu := hide (pfx_succ B (sibs T i) j hjl)
          have hinb : Hid (inb B (ix (sibs T i) j) = bx B q) := by show _ = _; rw [hq]; unfold inb; rw [Int.toNat_natCast]
          have hnx : Hid (besE T q 1 = if j + 1 < m then ix (sibs T i) (j + 1) else -1) := by
            show _ = _
            rw [← hq, bes_next hg'.out hiT hjl, hm'.out]
          have hnv : Hid ((if j + 1 < m then ix (sibs T i) (j + 1) else -1) < n) := by
            show _ < _
            split
            · rename_i h9
              obtain ⟨q2, h1, h2⟩ := hmem.out (j + 1) h9
              rw [h1]; omega
            · omega
          obtain ⟨nx, hnxe⟩ : ∃ nx, (if j + 1 < m then ix (sibs T i) (j + 1) else -1) = nx := ⟨_, rfl⟩
          rw [hnxe] at hnx hnv
          have hnxe' := hide hnxe
          have hnv2 : nx < n := hnv.out
          have hbl' : B.length = n := by have := hBl.out; omega
          cases hbq : bx B q
          · obtain ⟨e1, e2⟩ := plc_no hg'.out hiT hBl.out hjl hq hbq false
            obtain ⟨e3, e4⟩ := mat_no hg'.out hiT hBl.out hjl hq hv'.out hbq
            rw [hbl'] at e3
            have e1' := hide e1
            have e2' := hide e2
            have e3' := hide e3
            have e4' := hide e4
            have hsu2 : Hid (pfx B (sibs T i) (j + 1) = pfx B (sibs T i) j) := by show _ = _; rw [hsu.out, hinb.out, hbq]; rfl
            rw [hbq] at gq
            clear hbq hq e1 e2 e3 e4 hbl' hnxe
            go_wp2_with fail
            refine (nplace_at T B q 0 6 false e1'.out e2'.out _ _ _ _ _ _ _ (hT.out.below hB6) (hL'.out.below hB6)).mono ?_
            rintro e w7 ⟨rfl, hb7⟩
            have hB7 := Below.on hB6 hb7
            have hbx7 := cell_later hb7 hbx6
            have hx7 := cell_later hb7 hx6
            have hy7 := cell_later hb7 hy6
            go_wp2_with fail
            refine (nmatch_at T B q a b false 0 false n e3'.out e4'.out _ _ _ _ _ _ (hT.out.below hB7) (hL'.out.below hB7)).mono ?_
            rintro e w8 ⟨rfl, hb8⟩
            have hB8 := Below.on hB7 hb8
            have hbx8 := cell_later hb8 hbx7
            have gq8 := cell_later hb8 (cell_later hb7 gq)
            go_wp2_with fail
            refine (next_at T q nx 0 hqa.out hnx.out _ _ _ _ (hT.out.below hB8)).mono ?_
            rintro e w9 ⟨rfl, hb9⟩
            have hbx9 := cell_later hb9 hbx8
            go_wp2
            go_roundw
            case rel => exact ⟨j + 1, by omega, by go_num, by rw [hsu2.out], by rw [hnxe'.out], Below.on (Below.on (Below.on hb hb7) hb8) hb9⟩
            case measure => simp [intOf]; omega
          · obtain ⟨e1, e2⟩ := plc_in hg'.out hiT hBl.out hjl hq hbq
            obtain ⟨e3, e4⟩ := mat_in hg'.out hiT hBl.out hjl hq hv'.out hbq
            rw [hbl'] at e3
            have e1' := hide e1
            have e2' := hide e2
            have e3' := hide e3
            have e4' := hide e4
            have hsu2 : Hid (pfx B (sibs T i) (j + 1) = pfx B (sibs T i) j + 1) := by show _ = _; rw [hsu.out, hinb.out, hbq]; rfl
            rw [hbq] at gq
            clear hbq hq e1 e2 e3 e4 hbl' hnxe
            generalize pfx B (sibs T i) j = pj at *
            go_wp2_with fail
            refine (nplace_at T B q ((pj : Int) + 1) 0 false e1'.out e2'.out _ _ _ _ _ _ _ (hT.out.below hB6) (hL'.out.below hB6)).mono ?_
            rintro e w7 ⟨rfl, hb7⟩
            have hB7 := Below.on hB6 hb7
            have hbx7 := cell_later hb7 hbx6
            have hx7 := cell_later hb7 hx6
            have hy7 := cell_later hb7 hy6
            go_wp2_with fail
            refine (nmatch_at T B q a b (hasB a b ((pj : Int) + 1)) 0 false n e3'.out e4'.out _ _ _ _ _ _ (hT.out.below hB7) (hL'.out.below hB7)).mono ?_
            rintro e w8 ⟨rfl, hb8⟩
            have hB8 := Below.on hB7 hb8
            have hbx8 := cell_later hb8 hbx7
            have hx8 := cell_later hb8 hx7
            have hy8 := cell_later hb8 hy7
            have gq8 := cell_later hb8 (cell_later hb7 gq)
            go_wp2_with fail
            refine (in_at a b ((pj : Int) + 1) hv'.out (by omega) (by omega) _).mono ?_
            rintro e w9 ⟨rfl, hb9⟩
            have hB9 := Below.on hB8 hb9
            have hbx9 := cell_later hb9 hbx8
            go_wp2_with fail
            refine (next_at T q nx 0 hqa.out hnx.out _ _ _ _ (hT.out.below hB9)).mono ?_
            rintro e w10 ⟨rfl, hb10⟩
            have hbx10 := cell_later hb10 hbx9
            go_wp2
            go_roundw
            case rel => exact ⟨j + 1, by omega, by go_num, by rw [hsu2.out]; go_num, by rw [hnxe'.out], Below.on (Below.on (Below.on (Below.on hb hb7) hb8) hb9) hb10⟩
            case measure => simp [intOf]; omega
        · obtain rfl : m = j := by omega
          rw [if_neg hlt]
          have gi := (old hB6 _ _ hbb).trans (hcb'.out i hi)
          have hjl : p < (sibs T i).length := by have := hm'.out; omega
          have hsu := hide (pfx_succ B (sibs T i) p hjl)
          have hpm := hide (pfx_mono B (sibs T i) (show p ≤ m by omega))
          cases hbq : bx B i
          · rw [hbq] at gi
            clear hbq
            go_wp2
            go_ret
            exact ⟨rfl, hB6⟩
          · obtain ⟨e1, e2⟩ := plc_in hg'.out hiT hBl.out hjl hpi'.out hbq
            obtain ⟨e3, e4⟩ := plc_last hg'.out hiT hBl.out hjl hpi'.out hbq
            rw [hm'.out] at e4
            have e1' := hide e1
            have e2' := hide e2
            have e3' := hide e3
            have e4' := hide e4
            rw [hbq] at gi
            have hp1 := pfx_le B (sibs T i) p
            have hpm2 := hpm.out
            clear hbq e1 e2 e3 e4
            generalize pfx B (sibs T i) m = pm at *
            generalize pfx B (sibs T i) p = pp at *
            go_wp2_with fail
            refine (nplace_at T B i ((pp : Int) + 1) 0 false e1'.out e2'.out _ _ _ _ _ _ _ (hT.out.below hB6) (hL'.out.below hB6)).mono ?_
            rintro e w7 ⟨rfl, hb7⟩
            have hB7 := Below.on hB6 hb7
            have hbx7 := cell_later hb7 hbx6
            go_wp2_with fail
            refine (nplace_at T B i ((pm : Int) - pp) 0 true e3'.out e4'.out _ _ _ _ _ _ _ (hT.out.below hB7) (hL'.out.below hB7)).mono ?_
            rintro e w8 ⟨rfl, hb8⟩
            have hs : ((pp : Int) + 1 + ((pm : Int) - pp) == (pm : Int) + 1) = true := by simp; omega
            go_wp2
            go_ret
            exact ⟨rfl, Below.on hB7 hb8⟩

theorem walk (A : Option Addr) (n c : Nat) (T : List ANode) (i a b : Int) (AB : Option Addr) (m cb : Nat) (B : List Bool) (w : World) (h : IsTree w A n T) (_ha : (-9223372036854775808 ≤ a ∧ a ≤ 9223372036854775807) ∧ (-9223372036854775808 ≤ b ∧ b ≤ 9223372036854775807)) (hL : IsBools w AB m B) :
    Calls Try.prog 14 #[.agg #[.slice A n c], .int .i64 i, .agg #[.int .i64 a, .int .i64 b], .slice AB m cb] w fun e w' => e = .returned (.bool true) ∧ Below w.heap.size w w' := by
  by_cases q1 : askI T [i] = 0
  · by_cases q3 : tolE T m = 0
    · by_cases q4 : anbE a b = 0
      · obtain ⟨hg, hi⟩ := askI_zero.1 q1
        have hi := hi i (by simp)
        have hl := h.1
        have hm := (tolE_zero.1 q3).2
        obtain ⟨i, rfl⟩ := Int.eq_ofNat_of_zero_le hi.1
        obtain rfl : m = n := by omega
        refine walkIn A m c T i a b AB cb B w h hL hg (by omega) ?_
        unfold anbE at q4
        by_cases hv : anbB a b = true
        · exact hv
        · rw [if_neg hv] at q4; omega
      · exact walk_out A n c T i a b AB m cb w h (.inr ⟨q1, .inr ⟨q3, q4⟩⟩)
    · exact walk_out A n c T i a b AB m cb w h (.inr ⟨q1, .inl q3⟩)
  · exact walk_out A n c T i a b AB m cb w h (.inl q1)

set_option maxRecDepth 100000 in
theorem lifted (os : Os) (started : os.Started) (H : Type) (enc : TypeId × Value → H) :
    ReturnsInHanded {} Try.checked os 14 .any (Rows.nthExactSpec.pre6 enc Try.prog Try.f14 Rows.nthExactRow.domain false) (Rows.nthExactSpec.post enc Try.prog Try.f14 false true false false) := by
  refine returnsInHanded_of_change (C := Try.checked) own started (by kernel_rfl) Try.func14
    (ChangeSpec.witness6 (enc := enc) (C := Try.checked) false ⟨#[], #[.agg #[.slice none 0 0], .int .i64 0, .agg #[.int .i64 0, .int .i64 0], .slice none 0 0], []⟩ 8 (by kernel_rfl) (by kernel_rfl) (by kernel_rfl) (by kernel_rfl)) ?_
  intro W base args ds gs before hval0 hW hcnd _
  have hval : ∀ (j : Nat) t v, Try.f14.params[j]? = some t → args[j]? = some v → Value.okWide Try.prog W .any base t v := hval0
  have hW' := hW
  obtain ⟨p, q, hA0, hV, rfl, hfz, hnd⟩ := hW
  have hA : DataW.TrodAll enc Try.prog W 0 (fun _ => true) true Try.f14.params.toList args.toList ds p := hA0
  rw [Try.params14] at hA hval
  obtain ⟨v0, vs0, d0, ds0, p0, q0, hargs, rfl, rfl, h0, r0⟩ := trodAll_cons hA
  obtain ⟨v1, vs1, d1, ds1, p1, q1, rfl, rfl, rfl, h1, r1⟩ := trodAll_cons r0
  obtain ⟨v2, vs2, d2, ds2, p2, q2, rfl, rfl, rfl, h2, r2⟩ := trodAll_cons r1
  obtain ⟨v3, vs3, d3, ds3, p3, q3, rfl, rfl, rfl, h3, r3⟩ := trodAll_cons r2
  obtain ⟨rfl, rfl, rfl⟩ := trodAll_nil r3
  obtain rfl : args = #[v0, v1, v2, v3] := by cases args; simp_all
  obtain ⟨rfl, rfl⟩ := trodVars_none hV
  have lt0 : ∀ x ∈ p0, x.block < W.heap.size := by obtain ⟨m, hm⟩ := h0; exact DataW.trod_lt m _ _ _ hm
  have k0 := h0
  have lt1 : ∀ x ∈ p1, x.block < W.heap.size := by obtain ⟨m, hm⟩ := h1; exact DataW.trod_lt m _ _ _ hm
  have k1 := h1
  have lt2 : ∀ x ∈ p2, x.block < W.heap.size := by obtain ⟨m, hm⟩ := h2; exact DataW.trod_lt m _ _ _ hm
  have k2 := h2
  have lt3 : ∀ x ∈ p3, x.block < W.heap.size := by obtain ⟨m, hm⟩ := h3; exact DataW.trod_lt m _ _ _ hm
  have k3 := h3
  obtain ⟨A0, n0, c0, T0, rfl, hT0⟩ := tree_open (hval 0 _ v0 rfl rfl) h0
  obtain ⟨a1, rfl, rfl, rfl, w1⟩ := open_int Try.underlying3 (hval 1 _ v1 rfl rfl) h1
  obtain ⟨a2, b2, rfl, w2⟩ := anb_open (hval 2 _ v2 rfl rfl) h2
  obtain ⟨A3, n3, c3, xs3, rfl, hL3⟩ := bools_param (hval 3 _ v3 rfl rfl) h3
  clear hA0 hval0
  refine (walk A0 n0 c0 T0 a1 a2 b2 A3 n3 c3 xs3 W hT0  w2 hL3).mono fun e W' ⟨he, bel⟩ => ?_
  subst he
  exact ⟨_, rfl, _, _, _, [], _, [], hW', trodAll_mk1 (shut_bool Try.underlying4 _), (trodAll_cons_mk (Below.trod laidOut (by kernel_rfl) (of_decide_eq_true (by kernel_rfl)) k0 bel lt0) (trodAll_cons_mk (Below.trod laidOut (by kernel_rfl) (of_decide_eq_true (by kernel_rfl)) k1 bel lt1) (trodAll_cons_mk (Below.trod laidOut (by kernel_rfl) (of_decide_eq_true (by kernel_rfl)) k2 bel lt2) (trodAll_cons_mk (Below.trod laidOut (by kernel_rfl) (of_decide_eq_true (by kernel_rfl)) k3 bel lt3) trodAll_mk0)))), rfl, bel.frame _, fun h => by cases h⟩

theorem proved : Rows.NthExactSaid :=
  OpenClaim.holds_of_wide 14 Try.f14 rfl rfl rfl rfl rfl rfl rfl ⟨rfl, rfl, rfl, rfl, rfl⟩ rfl rfl rfl rfl rfl (by kernel_rfl) Try.func14 (by kernel_rfl)
    (of_decide_eq_true (by kernel_rfl)) (by unfold Func.isWrapper; first | (rw [if_pos (by decide +kernel)]; kernel_rfl) | (rw [if_neg (by decide +kernel)]; exact ⟨rfl, rfl⟩))
    (fun os started H enc _ => lifted os started H enc)
#print axioms proved
end Go.Proofs.Ytankambfobfnfaa.nthExact
