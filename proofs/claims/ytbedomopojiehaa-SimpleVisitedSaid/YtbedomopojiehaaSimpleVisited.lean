/- In each mode at most one link is visited: the one of the mode; no element is both an unvisited and a visited link, and each link is one of both; for every valid tree and mode. No condition. -/
import Derived.Test.YtbedomopojiehaaSt
import Derived.Test.YtbedomopojiehaaSal
import Derived.Test.YtbedomopojiehaaSz18
namespace Go.Proofs.Ytbedomopojiehaa.simpleVisited
open Go.ChangeShapes Go.WideShapes Go.ChangeAt Go.RowKit

/-- A simple selector of a kind alone. -/
def simK (k : Int) : Sim := ⟨k, ⟨#[]⟩, 0, ⟨#[]⟩, false, 0, 0, false, none, 0, 0⟩
theorem sAllK (kd : Int) (T : List ANode) (m : Int) (X : List Bool) (h1 : smE T (simK kd) m = 0) (h2 : sallL T (simK kd) m = X) (A : Option Addr) (n c : Nat) (W : World) (h : IsTree W A n T) (hx : HasMax W) (hn : X.length = n) :
    Calls Try.prog 27 #[.agg #[.slice A n c], .agg #[.int .u8 kd, .string ⟨#[]⟩, .int .u8 0, .string ⟨#[]⟩, .bool false, .int .i64 0, .int .i64 0, .bool false, .slice none 0 0], .int .i64 m] W
      fun e w' => ∃ (A' : Option Addr) (c' : Nat), e = .returned (.tuple #[.slice A' n c', .int .i64 0]) ∧ IsBools w' A' n X ∧ Below W.heap.size W w' := by
  have h3 := sAll_ok A n c T kd ⟨#[]⟩ 0 ⟨#[]⟩ false 0 0 false none 0 0 m W h hx
  have e2 : smE T ⟨kd, ⟨#[]⟩, 0, ⟨#[]⟩, false, 0, 0, false, none, 0, 0⟩ m = 0 := h1
  have e1 : sallV T ⟨kd, ⟨#[]⟩, 0, ⟨#[]⟩, false, 0, 0, false, none, 0, 0⟩ m = X := by unfold sallV; rw [if_pos e2]; exact h2
  rw [e1, e2] at h3
  refine h3.mono ?_
  rintro e w' ⟨A', c', rfl, hI, -, -, hb⟩
  rw [hn] at hI
  exact ⟨A', c', by rw [hn], hI, hb⟩
set_option maxRecDepth 100000 in
set_option maxHeartbeats 4000000 in
theorem walk (A : Option Addr) (n c : Nat) (T : List ANode) (m : Int) (w : World) (h : IsTree w A n T) (hmx : HasMax w) :
    Calls Try.prog 6 #[.agg #[.slice A n c], .int .i64 m] w fun r w' => r = .returned (.bool true) ∧ Below w.heap.size w w' := by
  have hm' := hide hmx
  clear hmx
  have hT := hide h
  have hl := h.1
  clear h
  have hB0 := below_alloc (Below.refl w.heap.size w) (.cells #[.slice A n c] 43)
  have hbox0 : (w.alloc (.cells #[.slice A n c] 43)).cell? ⟨w.heap.size, 0, none⟩ = some (.slice A n c) := by go_simp
  by_cases hg : goodB T = true
  · have hc0 : chk T = 0 := chk_ok hg
    have hg' := hide hg
    cases hmd0 : modeB T m
    · have hmd := hide hmd0
      clear hg hmd0
      go_enter Try.func6, Try.ntmps6
      go_wp2_with fail
      refine (alive18_ok _ (hm'.out.below hB0)).mono ?_
      rintro e w1 ⟨rfl, hb1⟩
      have hB1 := Below.on hB0 hb1
      have hbox1 := cell_later hb1 hbox0
      clear hb1 hbox0
      go_wp2_with fail
      refine (rcheck_ok _ _ c T _ (hT.out.below hB1)).mono ?_
      rintro e w2 ⟨rfl, hb2⟩
      have hB2 := Below.on hB1 hb2
      have hbox2 := cell_later hb2 hbox1
      clear hb2 hbox1
      go_wp2_with fail
      refine (rmode_at T m false hmd.out _ _ c _ (hT.out.below hB2) hg'.out).mono ?_
      rintro e w3 ⟨rfl, hb3⟩
      have hB3 := Below.on hB2 hb3
      have hbox3 := cell_later hb3 hbox2
      clear hb3 hbox2
      go_wp2
      go_ret
      exact ⟨rfl, hB3⟩
    · have hmd := hide hmd0
      have hn64 : n ≤ 64 := by have := ((goodB_iff T).1 hg).2.1; omega
      have ez : ∀ kd : Int, kd = 4 ∨ kd = 5 ∨ kd = 6 → smE T (simK kd) m = 0 := fun kd hk => smE_zero.2 ⟨hg, hmd0, by rcases hk with rfl | rfl | rfl <;> rfl⟩
      have e6 := hide (ez 6 (by omega))
      have e4 := hide (ez 4 (by omega))
      have e5 := hide (ez 5 (by omega))
      obtain ⟨XA, hXA0⟩ : ∃ X, sallL T (simK 6) m = X := ⟨_, rfl⟩
      obtain ⟨XL, hXL0⟩ : ∃ X, sallL T (simK 4) m = X := ⟨_, rfl⟩
      obtain ⟨XV, hXV0⟩ : ∃ X, sallL T (simK 5) m = X := ⟨_, rfl⟩
      have hnXA : Hid (XA.length = n) := by show _ = _; rw [← hXA0, sallL_len, hl]
      have hnXL : Hid (XL.length = n) := by show _ = _; rw [← hXL0, sallL_len, hl]
      have hnXV : Hid (XV.length = n) := by show _ = _; rw [← hXV0, sallL_len, hl]
      have hbA := hide (show ∀ q : Nat, q < n → bx XA q = lkB T q from fun q hq => by rw [← hXA0]; simp [sallL, bx, show q < T.length by omega, matS, simK])
      have hbL := hide (show ∀ q : Nat, q < n → bx XL q = (lkB T q && !decide ((q : Int) = m)) from fun q hq => by rw [← hXL0]; simp [sallL, bx, show q < T.length by omega, matS, simK])
      have hbV := hide (show ∀ q : Nat, q < n → bx XV q = decide ((q : Int) = m) from fun q hq => by rw [← hXV0]; simp [sallL, bx, show q < T.length by omega, matS, simK])
      have hmv := hide (show ∀ q : Nat, q < n → (q : Int) = m → lkB T q = true from fun q hq he => by
        rw [← he] at hmd0
        rwa [modeB_nat (by omega)] at hmd0)
      have hmr := hide (show m = -1 ∨ (0 ≤ m ∧ m < (n : Int)) from by
        by_cases h1 : m = -1
        · exact .inl h1
        · refine .inr ?_
          by_cases h2 : 0 ≤ m ∧ m < (T.length : Int)
          · omega
          · rw [modeB_no h1 h2] at hmd0; cases hmd0)
      have hask := hide (show ∀ q : Nat, q < n → askI T [(q : Int)] = 0 ∧ isE T q = lkB T q from fun q hq => by
        have h1 : askI T [(q : Int)] = 0 := askI_ok hg (by simp; omega)
        exact ⟨h1, by unfold isE; rw [if_pos h1, Int.toNat_natCast]⟩)
      have hXA := hide hXA0
      have hXL := hide hXL0
      have hXV := hide hXV0
      clear hg hmd0 ez hXA0 hXL0 hXV0
      go_enter Try.func6, Try.ntmps6
      go_wp2_with fail
      refine (alive18_ok _ (hm'.out.below hB0)).mono ?_
      rintro e w1 ⟨rfl, hb1⟩
      have hB1 := Below.on hB0 hb1
      have hbox1 := cell_later hb1 hbox0
      clear hb1 hbox0
      go_wp2_with fail
      refine (rcheck_ok _ _ c T _ (hT.out.below hB1)).mono ?_
      rintro e w2 ⟨rfl, hb2⟩
      have hB2 := Below.on hB1 hb2
      have hbox2 := cell_later hb2 hbox1
      clear hb2 hbox1
      go_wp2_with fail
      refine (rmode_at T m true hmd.out _ _ c _ (hT.out.below hB2) hg'.out).mono ?_
      rintro e w3 ⟨rfl, hb3⟩
      have hB3 := Below.on hB2 hb3
      have hbox3 := cell_later hb3 hbox2
      clear hb3 hbox2
      go_wp2_with fail
      refine (sAllK 6 T m XA e6.out hXA.out _ n c _ (hT.out.below hB3) (hm'.out.below hB3) hnXA.out).mono ?_
      rintro e w4 ⟨A4, c4, rfl, hI4, hb4⟩
      have hB4 := Below.on hB3 hb4
      have hbox4 := cell_later hb4 hbox3
      have hJ4 := hide hI4
      clear hI4 hb4 hbox3
      go_wp2_with fail
      refine (sAllK 4 T m XL e4.out hXL.out _ n c _ (hT.out.below hB4) (hm'.out.below hB4) hnXL.out).mono ?_
      rintro e w5 ⟨A5, c5, rfl, hI5, hb5⟩
      have hB5 := Below.on hB4 hb5
      have hbox5 := cell_later hb5 hbox4
      have hJ5 := hide (hJ4.out.below hb5)
      have hK5 := hide hI5
      clear hI5 hb5 hbox4 hJ4
      go_wp2_with fail
      refine (sAllK 5 T m XV e5.out hXV.out _ n c _ (hT.out.below hB5) (hm'.out.below hB5) hnXV.out).mono ?_
      rintro e w6 ⟨A6, c6, rfl, hI6, hb6⟩
      have hB6 := Below.on hB5 hb6
      have hbox6 := cell_later hb6 hbox5
      have hJ6 := hide (hJ5.out.below hb6)
      have hK6 := hide (hK5.out.below hb6)
      have hL6 := hide hI6
      clear hI6 hb6 hbox5 hJ5 hK5 e4 e5 e6 hXA hXL hXV
      go_wp2
      go_loopw [12, 13] (fun v s wr => ∃ q : Nat, q ≤ n ∧ s = .int .i64 q ∧ v = .int .i64 (if 0 ≤ m ∧ m < (q : Int) then 1 else 0) ∧ Below w6.heap.size w6 wr) (fun _ s _ => n - (intOf s).toNat)
      case atStart => exact ⟨0, Nat.zero_le _, rfl, by rw [if_neg (by omega)], Below.refl _ _⟩
      case round =>
        obtain ⟨q, hq, rfl, rfl, hb⟩ := hrel
        have hBr := Below.on hB6 hb
        have hboxr := cell_later hb hbox6
        by_cases hlt : q < n
        · obtain ⟨ba, oa, rfl, hba, hca⟩ := hJ6.out.2.2 (by omega)
          obtain ⟨bl, ol, rfl, hbl, hcl⟩ := hK6.out.2.2 (by omega)
          obtain ⟨bv, ov, rfl, hbv, hcv⟩ := hL6.out.2.2 (by omega)
          have ga := (old hb _ _ hba).trans (hca q hlt)
          have gl := (old hb _ _ hbl).trans (hcl q hlt)
          have gv := (old hb _ _ hbv).trans (hcv q hlt)
          rw [hbA.out q hlt] at ga
          rw [hbL.out q hlt] at gl
          rw [hbV.out q hlt] at gv
          have hla := hide (hask.out q hlt).1
          have hli0 := (hask.out q hlt).2
          have hmq := hmv.out q hlt
          have q1 : (0 : Int) ≤ (q : Int) := by omega
          have q2 : (q : Int) < (n : Int) := by omega
          clear hca hcl hcv
          by_cases hqm : (q : Int) = m
          · have hlk := hmq hqm
            rw [hlk] at ga gl hli0
            have hli := hide hli0
            have e1 : ((q : Int) == m) = true := by simp [hqm]
            have e2 : (if 0 ≤ m ∧ m < (q : Int) then (1 : Int) else 0) = 0 := if_neg (by omega)
            have e3 := hide (show (if 0 ≤ m ∧ m < ((q + 1 : Nat) : Int) then (1 : Int) else 0) = 1 from if_pos (by omega))
            rw [decide_eq_true hqm] at gl gv
            have gl' : wr.cell? ⟨bl, ol + q, none⟩ = some (.bool false) := gl
            rw [e2]
            clear gl e2 hli0 hlk hmq hqm
            have gl := gl'
            clear gl'
            go_wp2_with fail
            refine (linkIs_at T q true 0 hli.out hla.out _ _ c _ (hT.out.below hBr)).mono ?_
            rintro e w7 ⟨rfl, hb7⟩
            have hz7 := Below.on hb hb7
            have gA := cell_later hb7 ga
            have gL := cell_later hb7 gl
            have gV := cell_later hb7 gv
            clear ga gl gv hb hb7 hboxr
            go_wp2
            go_quiet (fail)
            go_wp2
            go_roundw
            case rel => exact ⟨q + 1, by omega, by go_num, by rw [e3.out], below_drewN hz7 _⟩
            case measure => simp [intOf]; omega
          · have e1 : ((q : Int) == m) = false := by simp [hqm]
            have e2 : (if 0 ≤ m ∧ m < ((q + 1 : Nat) : Int) then (1 : Int) else 0) = (if 0 ≤ m ∧ m < (q : Int) then (1 : Int) else 0) := by
              by_cases h : 0 ≤ m ∧ m < (q : Int)
              · rw [if_pos h, if_pos (by omega)]
              · rw [if_neg h, if_neg (by omega)]
            have e3 := hide e2
            rw [decide_eq_false hqm] at gl gv
            clear e2 hmq hqm
            obtain ⟨lk, hlk⟩ : ∃ x, lkB T q = x := ⟨_, rfl⟩
            rw [hlk] at ga gl hli0
            have hli := hide hli0
            rw [Bool.not_false, Bool.and_true] at gl
            clear hli0 hlk
            generalize (if 0 ≤ m ∧ m < (q : Int) then (1 : Int) else 0) = cn at *
            cases lk
            · go_wp2_with fail
              refine (linkIs_at T q false 0 hli.out hla.out _ _ c _ (hT.out.below hBr)).mono ?_
              rintro e w7 ⟨rfl, hb7⟩
              have hz7 := Below.on hb hb7
              have gA := cell_later hb7 ga
              have gL := cell_later hb7 gl
              have gV := cell_later hb7 gv
              clear ga gl gv hb hb7 hboxr
              go_wp2
              go_quiet (fail)
              go_wp2
              go_roundw
              case rel => exact ⟨q + 1, by omega, by go_num, by rw [e3.out], below_drewN hz7 _⟩
              case measure => simp [intOf]; omega
            · go_wp2_with fail
              refine (linkIs_at T q true 0 hli.out hla.out _ _ c _ (hT.out.below hBr)).mono ?_
              rintro e w7 ⟨rfl, hb7⟩
              have hz7 := Below.on hb hb7
              have gA := cell_later hb7 ga
              have gL := cell_later hb7 gl
              have gV := cell_later hb7 gv
              clear ga gl gv hb hb7 hboxr
              go_wp2
              go_quiet (fail)
              go_wp2
              go_roundw
              case rel => exact ⟨q + 1, by omega, by go_num, by rw [e3.out], below_drewN hz7 _⟩
              case measure => simp [intOf]; omega
        · obtain rfl : q = n := by omega
          rcases hmr.out with h1 | h1
          · have e2 : (if 0 ≤ m ∧ m < (q : Int) then (1 : Int) else 0) = 0 := if_neg (by omega)
            rw [e2]
            subst h1
            go_wp2
            go_ret
            exact ⟨rfl, hBr⟩
          · have e2 : (if 0 ≤ m ∧ m < (q : Int) then (1 : Int) else 0) = 1 := if_pos h1
            have e3 : decide (0 ≤ m) = true := decide_eq_true h1.1
            rw [e2]
            clear h1 e2 hmr
            go_wp2
            go_ret
            exact ⟨rfl, hBr⟩
  · have hc0 : chk T = 8 := chk_bad hg
    clear hg
    go_enter Try.func6, Try.ntmps6
    go_wp2_with fail
    refine (alive18_ok _ (hm'.out.below hB0)).mono ?_
    rintro e w1 ⟨rfl, hb1⟩
    have hB1 := Below.on hB0 hb1
    have hbox1 := cell_later hb1 hbox0
    clear hb1 hbox0
    go_wp2_with fail
    refine (rcheck_ok _ _ c T _ (hT.out.below hB1)).mono ?_
    rintro e w2 ⟨rfl, hb2⟩
    have hB2 := Below.on hB1 hb2
    have hbox2 := cell_later hb2 hbox1
    clear hb2 hbox1
    go_wp2
    go_ret
    exact ⟨rfl, hB2⟩

set_option maxRecDepth 100000 in
theorem lifted (os : Os) (started : os.Started) (H : Type) (enc : TypeId × Value → H) :
    ReturnsInHanded {} Try.checked os 6 .any (Rows.simpleVisitedSpec.pre6 enc Try.prog Try.f6 Rows.simpleVisitedRow.domain false) (Rows.simpleVisitedSpec.post enc Try.prog Try.f6 false true false false) := by
  refine returnsInHanded_of_change_shaped (C := Try.checked) own started (by kernel_rfl) Try.func6
    (ChangeSpec.witness6 (enc := enc) (C := Try.checked) false ⟨#[], #[.agg #[.slice none 0 0], .int .i64 0], []⟩ 8 (by kernel_rfl) (by kernel_rfl) (by kernel_rfl) (by kernel_rfl)) ?_
  intro W base args ds gs before hval0 hW hcnd hsz hsh _
  have hval : ∀ (j : Nat) t v, Try.f6.params[j]? = some t → args[j]? = some v → Value.okWide Try.prog W .any base t v := hval0
  have hW' := hW
  obtain ⟨p, q, hA0, hV, rfl, hfz, hnd⟩ := hW
  have hA : DataW.TrodAll enc Try.prog W 0 (fun _ => true) true Try.f6.params.toList args.toList ds p := hA0
  rw [Try.params6] at hA hval hsz
  obtain ⟨v0, vs0, d0, ds0, p0, q0, hargs, rfl, rfl, h0, r0⟩ := trodAll_cons hA
  obtain ⟨v1, vs1, d1, ds1, p1, q1, rfl, rfl, rfl, h1, r1⟩ := trodAll_cons r0
  obtain ⟨rfl, rfl, rfl⟩ := trodAll_nil r1
  obtain rfl : args = #[v0, v1] := by cases args; simp_all
  obtain ⟨rfl, rfl⟩ := trodVars_none hV
  have lt0 : ∀ x ∈ p0, x.block < W.heap.size := by obtain ⟨m, hm⟩ := h0; exact DataW.trod_lt m _ _ _ hm
  have k0 := h0
  have lt1 : ∀ x ∈ p1, x.block < W.heap.size := by obtain ⟨m, hm⟩ := h1; exact DataW.trod_lt m _ _ _ hm
  have k1 := h1
  obtain ⟨A0, n0, c0, T0, rfl, hT0⟩ := tree_open (hval 0 _ v0 rfl rfl) h0
  obtain ⟨a1, rfl, rfl, rfl, w1⟩ := open_int Try.underlying3 (hval 1 _ v1 rfl rfl) h1
  clear hA0 hval0
  refine (walk A0 n0 c0 T0 a1 W hT0  (hasMax_of hsh)).mono fun e W' ⟨he, bel⟩ => ?_
  subst he
  exact ⟨_, rfl, _, _, _, [], _, [], hW', trodAll_mk1 (shut_bool Try.underlying4 _), (trodAll_cons_mk (Below.trod laidOut (by kernel_rfl) (of_decide_eq_true (by kernel_rfl)) k0 bel lt0) (trodAll_cons_mk (Below.trod laidOut (by kernel_rfl) (of_decide_eq_true (by kernel_rfl)) k1 bel lt1) trodAll_mk0)), rfl, bel.frame _, fun h => by cases h⟩

theorem proved : Rows.SimpleVisitedSaid :=
  OpenClaim.holds_of_wide 6 Try.f6 rfl rfl rfl rfl rfl rfl rfl ⟨rfl, rfl, rfl, rfl, rfl⟩ rfl rfl rfl rfl rfl (by kernel_rfl) Try.func6 (by kernel_rfl)
    (of_decide_eq_true (by kernel_rfl)) (by unfold Func.isWrapper; first | (rw [if_pos (by decide +kernel)]; kernel_rfl) | (rw [if_neg (by decide +kernel)]; exact ⟨rfl, rfl⟩))
    (fun os started H enc _ => lifted os started H enc)
#print axioms proved
end Go.Proofs.Ytbedomopojiehaa.simpleVisited
