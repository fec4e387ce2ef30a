/- For every valid tree each element is below just one top, or is one. No condition. -/
import Derived.Test.YtfidpmjjddkffaaOpen
import Derived.Test.YtfidpmjjddkffaaLaws
namespace Go.Proofs.Ytfidpmjjddkffaa.treeTops
open Go.ChangeShapes Go.WideShapes Go.ChangeAt Go.RowKit

set_option maxRecDepth 100000 in
set_option maxHeartbeats 4000000 in
theorem walk (A : Option Addr) (n c : Nat) (T : List ANode) (w : World) (h : IsTree w A n T) :
    Calls Try.prog 5 #[.agg #[.slice A n c]] w fun e w' => e = .returned (.bool true) ∧ Below w.heap.size w w' := by
  have hT := hide h
  have hl := h.1
  have ho := hide h.2.2.2
  have hn := h.2.1
  clear h
  have hB0 := below_alloc (Below.refl w.heap.size w) (.cells #[.slice A n c] 24)
  have hbox0 : (w.alloc (.cells #[.slice A n c] 24)).cell? ⟨w.heap.size, 0, none⟩ = some (.slice A n c) := by go_simp
  by_cases hg : goodB T = true
  · have hc0 : chk T = 0 := chk_ok hg
    have hg' := hide hg
    have hn64 : n ≤ 64 := by have := ((goodB_iff T).1 hg).2.1; omega
    have hn0 : 0 < n := by have := ((goodB_iff T).1 hg).1; omega
    obtain ⟨b, off, aA, cA, aC, cC, rfl, hbl, -, -, c2, -, -, -⟩ := ho.out hn0
    have c2' := hide c2
    clear c2 hg
    go_enter Try.func5, Try.ntmps5
    go_wp2_with fail
    refine (alive_ok _).mono ?_
    rintro e w1 ⟨rfl, hb1⟩
    have hbox1 := cell_later hb1 hbox0
    have hB1 := Below.on hB0 hb1
    go_wp2_with fail
    refine (rcheck_ok _ _ _ T _ (hT.out.below hB1)).mono ?_
    rintro e w2 ⟨rfl, hb2⟩
    have hbox2 := cell_later hb2 hbox1
    have hB2 := Below.on hB1 hb2
    go_wp2
    go_loopw [4] (fun s wr => ∃ i : Nat, i ≤ n ∧ s = .int .i64 i ∧ Below w.heap.size w wr ∧ wr.cell? ⟨w.heap.size, 0, none⟩ = some (.slice (some ⟨b, off, none⟩) n c)) (fun s _ => n - (intOf s).toNat)
    case atStart => exact ⟨0, Nat.zero_le _, rfl, hB2, hbox2⟩
    case round =>
      obtain ⟨i, hi, rfl, hB3, hbox3⟩ := hrel
      clear hbox0 hB0 hbox1 hB1 hb1 hb2 hB2 hbox2
      by_cases hlt : i < n
      · have q1 : askI T [(i : Int)] = 0 := askI_ok hg'.out (by simp; omega)
        have q2 := topE_eq hg'.out (by omega : i < T.length)
        obtain ⟨htr1, htr2, htr3⟩ := topF_range hg'.out (by omega : i < T.length)
        have htk : Hid (∀ k : Nat, k < T.length → par T k < 0 → ((belE T i k = true ∨ (i : Int) = k) ↔ (k : Int) = topF T i)) := fun k hk hp => bel_topk hg'.out (by omega : i < T.length) hk hp
        obtain ⟨tp, htp⟩ := Int.eq_ofNat_of_zero_le htr1
        rw [htp] at htr2 htr3 htk q2
        have htn : tp < n := by omega
        have htd0 : decide ((tp : Int) < 0) = false := decide_eq_false (by omega)
        have htd1 : decide (n ≤ tp) = false := decide_eq_false (by omega)
        simp only [Int.toNat_natCast] at htr3
        clear htr1 htr2 htp
        go_wp2_with fail
        refine (top_ok _ _ _ T _ _ (hT.out.below hB3)).mono ?_
        rintro e w4 ⟨rfl, hb4⟩
        have hbox4 := cell_later hb4 hbox3
        have hB4 := Below.on hB3 hb4
        have hgt := (old hB4 _ _ hbl).trans (c2'.out tp htn)
        go_wp2
        clear hgt
        go_loopw [7, 8] (fun m s wr => ∃ (k : Nat) (x : Int), k ≤ n ∧ s = .int .i64 k ∧ m = .int .i64 x ∧ 0 ≤ x ∧ x ≤ 1 ∧ Hid (x = if tp < k then 1 else 0) ∧ Below w.heap.size w wr ∧ wr.cell? ⟨w.heap.size, 0, none⟩ = some (.slice (some ⟨b, off, none⟩) n c)) (fun _ s _ => n - (intOf s).toNat)
        case atStart => exact ⟨0, 0, Nat.zero_le _, rfl, rfl, by omega, by omega, rfl, hB4, hbox4⟩
        case round =>
          clear hB4 hbox4 hb4 hB3 hbox3
          obtain ⟨k, x, hk, rfl, rfl, hx0, hx1, hx, hB5, hbox5⟩ := hrel
          by_cases hltk : k < n
          · have gk := (old hB5 _ _ hbl).trans (c2'.out k hltk)
            by_cases hpk : par T k = -1
            · have hpq : (par T k != -1) = false := by simp [hpk]
              have hpk' := hide hpk
              clear hpk
              have q3 : askI T [(i : Int), (k : Int)] = 0 := askI_ok hg'.out (by simp; omega)
              have hiff := hide (htk.out k (by omega) (by rw [hpk'.out]; omega))
              by_cases hkt : k = tp
              · have hkt' : ((k : Int) != (tp : Int)) = false := by simp [hkt]
                have hor := hide (hiff.out.2 (by rw [hkt]))
                have hxz : Hid (x = 0) := by rw [hx.out, if_neg (by omega)]; rfl
                have hx1' : x < 1 := by have := hxz.out; omega
                have hlt1 : Hid (tp < k + 1) := by show tp < k + 1; omega
                clear hkt
                cases hbe : belE T i k
                · have hik : ((i : Int) == (k : Int)) = true := by have := hor.out; rw [hbe] at this; simpa using this
                  go_wp2_with fail
                  refine (below_ok _ _ _ T _ _ _ (hT.out.below hB5)).mono ?_
                  rintro e w6 ⟨rfl, hb6⟩
                  have hbox6 := cell_later hb6 hbox5
                  have hB6 := Below.on hB5 hb6
                  go_wp2
                  go_roundw
                  case rel => exact ⟨k + 1, x + 1, by omega, by go_num, by go_num, by omega, by omega, by show _ = _; rw [if_pos hlt1.out, hxz.out]; rfl, hB6, hbox6⟩
                  case measure => simp [intOf]; omega
                · skip
                  go_wp2_with fail
                  refine (below_ok _ _ _ T _ _ _ (hT.out.below hB5)).mono ?_
                  rintro e w6 ⟨rfl, hb6⟩
                  have hbox6 := cell_later hb6 hbox5
                  have hB6 := Below.on hB5 hb6
                  go_wp2
                  go_roundw
                  case rel => exact ⟨k + 1, x + 1, by omega, by go_num, by go_num, by omega, by omega, by show _ = _; rw [if_pos hlt1.out, hxz.out]; rfl, hB6, hbox6⟩
                  case measure => simp [intOf]; omega
              · have hnor := hide (fun h => hkt (by have := hiff.out.1 h; omega))
                have hbe : belE T i k = false := by
                  rw [Bool.eq_false_iff]; intro h; exact hnor.out (.inl h)
                have hik : ((i : Int) == (k : Int)) = false := by
                  rw [Bool.eq_false_iff]; intro h; exact hnor.out (.inr (by simpa using h))
                have hsame : Hid ((if tp < k + 1 then (1 : Int) else 0) = if tp < k then 1 else 0) := by
                  show (if tp < k + 1 then (1 : Int) else 0) = if tp < k then 1 else 0
                  by_cases h : tp < k
                  · rw [if_pos h, if_pos (by omega)]
                  · rw [if_neg h, if_neg (by omega)]
                clear hkt
                go_wp2_with fail
                refine (below_ok _ _ _ T _ _ _ (hT.out.below hB5)).mono ?_
                rintro e w6 ⟨rfl, hb6⟩
                have hbox6 := cell_later hb6 hbox5
                have hB6 := Below.on hB5 hb6
                go_wp2
                all_goals
                  go_roundw
                  case rel => exact ⟨k + 1, x, by omega, by go_num, rfl, hx0, hx1, by show _ = _; rw [hsame.out]; exact hx.out, hB6, hbox6⟩
                  case measure => simp [intOf]; omega
            · have hpq : (par T k != -1) = true := by simp [hpk]
              have hsame : Hid ((if tp < k + 1 then (1 : Int) else 0) = if tp < k then 1 else 0) := by
                show (if tp < k + 1 then (1 : Int) else 0) = if tp < k then 1 else 0
                have hne : ¬ k = tp := fun e => by subst e; exact hpk htr3
                by_cases h : tp < k
                · rw [if_pos h, if_pos (by omega)]
                · rw [if_neg h, if_neg (by omega)]
              clear hpk
              go_wp2
              all_goals
                go_roundw
                case rel => exact ⟨k + 1, x, by omega, by go_num, rfl, hx0, hx1, by show _ = _; rw [hsame.out]; exact hx.out, hB5, hbox5⟩
                case measure => simp [intOf]; omega
          · have hx2 : (x != 1) = false := by rw [hx.out, if_pos (by omega)]; rfl
            go_wp2
            go_roundw
            case rel => exact ⟨i + 1, by omega, by go_num, hB5, hbox5⟩
            case measure => simp [intOf]; omega
      · go_wp2
        go_ret
        exact ⟨rfl, hB3⟩
  · have hc0 : chk T = 8 := chk_bad hg
    clear hg
    go_enter Try.func5, Try.ntmps5
    go_wp2_with fail
    refine (alive_ok _).mono ?_
    rintro e w1 ⟨rfl, hb1⟩
    have hbox1 := cell_later hb1 hbox0
    have hB1 := Below.on hB0 hb1
    go_wp2_with fail
    refine (rcheck_ok _ _ _ T _ (hT.out.below hB1)).mono ?_
    rintro e w2 ⟨rfl, hb2⟩
    have hbox2 := cell_later hb2 hbox1
    have hB2 := Below.on hB1 hb2
    go_wp2
    go_ret
    exact ⟨rfl, hB2⟩

set_option maxRecDepth 100000 in
theorem lifted (os : Os) (started : os.Started) (H : Type) (enc : TypeId × Value → H) :
    ReturnsInHanded {} Try.checked os 5 .any (Rows.treeTopsSpec.pre6 enc Try.prog Try.f5 Rows.treeTopsRow.domain false) (Rows.treeTopsSpec.post enc Try.prog Try.f5 false true false false) := by
  refine returnsInHanded_of_change (C := Try.checked) own started (by kernel_rfl) Try.func5
    (ChangeSpec.witness6 (enc := enc) (C := Try.checked) false ⟨#[], #[.agg #[.slice none 0 0]], []⟩ 8 (by kernel_rfl) (by kernel_rfl) (by kernel_rfl) (by kernel_rfl)) ?_
  intro W base args ds gs before hval0 hW hcnd _
  have hval : ∀ (j : Nat) t v, Try.f5.params[j]? = some t → args[j]? = some v → Value.okWide Try.prog W .any base t v := hval0
  have hW' := hW
  obtain ⟨p, q, hA0, hV, rfl, hfz, hnd⟩ := hW
  have hA : DataW.TrodAll enc Try.prog W 0 (fun _ => true) true Try.f5.params.toList args.toList ds p := hA0
  rw [Try.params5] at hA hval
  obtain ⟨v0, vs0, d0, ds0, p0, q0, hargs, rfl, rfl, h0, r0⟩ := trodAll_cons hA
  obtain ⟨rfl, rfl, rfl⟩ := trodAll_nil r0
  obtain rfl : args = #[v0] := by cases args; simp_all
  obtain ⟨rfl, rfl⟩ := trodVars_none hV
  have lt0 : ∀ x ∈ p0, x.block < W.heap.size := by obtain ⟨m, hm⟩ := h0; exact DataW.trod_lt m _ _ _ hm
  have k0 := h0
  obtain ⟨A0, n0, c0, T0, rfl, hT0⟩ := tree_open (hval 0 _ v0 rfl rfl) h0
  clear hA0 hval0
  refine (walk A0 n0 c0 T0 W hT0).mono fun e W' ⟨he, bel⟩ => ?_
  subst he
  exact ⟨_, rfl, _, _, _, [], _, [], hW', trodAll_mk1 (shut_bool Try.underlying4 _), (trodAll_cons_mk (Below.trod laidOut (by kernel_rfl) (of_decide_eq_true (by kernel_rfl)) k0 bel lt0) trodAll_mk0), rfl, bel.frame _, fun h => by cases h⟩

theorem proved : Rows.TreeTopsSaid :=
  OpenClaim.holds_of_wide 5 Try.f5 rfl rfl rfl rfl rfl rfl rfl ⟨rfl, rfl, rfl, rfl, rfl⟩ rfl rfl rfl rfl rfl (by kernel_rfl) Try.func5 (by kernel_rfl)
    (of_decide_eq_true (by kernel_rfl)) (by unfold Func.isWrapper; first | (rw [if_pos (by decide +kernel)]; kernel_rfl) | (rw [if_neg (by decide +kernel)]; exact ⟨rfl, rfl⟩))
    (fun os started H enc _ => lifted os started H enc)
#print axioms proved
end Go.Proofs.Ytfidpmjjddkffaa.treeTops
