/- An element has what is told just if some element matches it as a way from its reach on; the last element of each such way is below the element, or a sibling behind it, or below one; unless the data are greater than the statement considers. No condition. -/
import Derived.Test.YtaliekkdamghbaaHx
import Derived.Test.YtaliekkdamghbaaHe
import Derived.Test.YtaliekkdamghbaaPhr
import Derived.Test.YtaliekkdamghbaaDa
import Derived.Test.YtaliekkdamghbaaDf
import Derived.Test.YtaliekkdamghbaaOpen
import Derived.Deep.RegionHeld3
import Derived.ArgAppend
import Derived.Deep.CutRange
namespace Go.Proofs.Ytaliekkdamghbaa.hasBelow
open Go.ChangeShapes Go.WideShapes Go.ChangeAt Go.RowKit

theorem compare_at (T : List ANode) (i k v c0 : Int) (h0 : cmpE T i k = c0) (hl : cmpV T i k = v) (A : Option Addr) (n c : Nat) (w : World) (h : IsTree w A n T) :
    Calls Try.prog 42 #[.agg #[.slice A n c], .int .i64 i, .int .i64 k] w fun e w' => e = .returned (.tuple #[.int .i64 v, .int .i64 c0]) ∧ Below w.heap.size w w' := by
  have := compare_ok A n c T i k w h
  rw [h0, hl] at this
  exact this
theorem below_at (T : List ANode) (i k : Int) (v : Bool) (c0 : Int) (h0 : askI T [i, k] = c0) (hl : belE T i k = v) (A : Option Addr) (n c : Nat) (w : World) (h : IsTree w A n T) :
    Calls Try.prog 43 #[.agg #[.slice A n c], .int .i64 i, .int .i64 k] w fun e w' => e = .returned (.tuple #[.bool v, .int .i64 c0]) ∧ Below w.heap.size w w' := by
  have := below_ok A n c T i k w h
  rw [h0, hl] at this
  exact this
theorem take_true {l : List Bool} {q : Nat} (hq : q < l.length) : decide (true ∈ l.take (q + 1)) = (decide (true ∈ l.take q) || bx l q) := by
  rw [Bool.eq_iff_iff, Bool.or_eq_true, decide_eq_true_eq, decide_eq_true_eq, List.take_succ_eq_append_getElem hq, List.mem_append, List.mem_singleton, bx_get hq]
  exact ⟨fun h => h.imp id Eq.symm, fun h => h.imp id Eq.symm⟩
theorem own_one (W : World) (g base n ii : Nat) (hg : g = W.heap.size) (hb : base ≤ g) (hn : n ≤ 140737488351232) : (W.alloc (.cells ((madeCells #[.bool false] n).setIfInBounds ii (.bool true)) 4)).ownsRow base 4 1 (.slice (some ⟨g, 0, none⟩) n n) n (bools (oneB n ii)) := by
  subst hg
  have h := World.ownsRow_lit W (e := 4) (base := base) (size := 1) ((madeCells #[.bool false] n).setIfInBounds ii (.bool true)) n hb (by unfold maxLen; omega) (by rw [Array.size_setIfInBounds, ← Array.length_toList, toList_madeCells_one, List.length_replicate]; omega)
  rw [Array.toList_setIfInBounds, toList_madeCells_one] at h
  have e : bools (oneB n ii) = (List.replicate n (.bool false)).set ii (.bool true) := by unfold bools oneB; rw [List.map_set]; simp
  rw [e]; exact h
section
variable {P : Program} {w : World}
theorem run_append_zero (t ty e : TypeId) (i : TypeInfo) (ht : P.underlying t = some (.slice e)) (hi : P.info? e = some i) (g n cap : Nat) (hn : n ≤ cap) (A : Option Addr) (c : Nat) : (Builtin.append_ #[t, t] ty #[.slice (some ⟨g, 0, none⟩) n cap, .slice A 0 c]).run P w = .ok (.slice (some ⟨g, 0, none⟩) n cap) w := by
  cases A <;> simp [Builtin.append_, run_underlying ht, sizeOf, typeInfo, hi, Builtin.lenOf, Builtin.firstCells, hn, storeCells, loadCells, loadCellsFrom]
end
set_option maxRecDepth 100000 in
theorem front_u8 (W : World) (ty : TypeId) (g : Nat) (x : Int) (hx : 0 ≤ x ∧ x ≤ 255) (hcell : W.cell? ⟨g, 0, none⟩ = some (.int .u8 x)) (B : Option Addr) (m d : Nat) (cs : List Int) (hcs : IsU8 W B m cs) (hm : m ≤ 1000) :
    ∃ v' w', (Builtin.append_ #[25, 25] ty #[.slice (some ⟨g, 0, none⟩) 1 1, .slice B m d]).run Try.prog W = .ok v' w' ∧ (∃ A' c', v' = .slice A' (1 + m) c' ∧ IsU8 w' A' (1 + m) (x :: cs)) ∧ Below W.heap.size W w' := by
  obtain ⟨i0, hI, hz0, hz1, hz2⟩ := info_parts info_u8
  have hl := hcs.1
  rcases Nat.eq_zero_or_pos m with h0 | h0
  · subst h0
    obtain rfl : cs = [] := List.eq_nil_of_length_eq_zero hl
    refine ⟨_, _, run_append_zero 25 ty 5 i0 Try.underlying25 hI g 1 1 (Nat.le_refl _) B d, ⟨_, _, rfl, rfl, by omega, fun y hy => ?_, fun _ => ⟨g, 0, rfl, cell_in hcell, fun j hj => ?_⟩⟩, Below.refl _ _⟩
    · rw [List.mem_singleton.1 hy]; exact hx
    · obtain rfl : j = 0 := by omega
      exact hcell
  · have hat := u8s_at hcs
    obtain ⟨b, off, rfl, hb, -⟩ := hcs.2.2.2 h0
    obtain ⟨v', w', hrun, hown, hg⟩ := run_append_arg_grows (P := Try.prog) (w := W) 25 ty 5 i0 (.int .u8 0) 1 1 Try.underlying25 hI hz0 hz1 hz2 rfl (by decide) ⟨g, 0, none⟩ 1 1 [.int .u8 x] rfl
      (fun j u hj => by
        match j, hj with
        | 0, hj => simp at hj; subst hj; simpa [Addr.add] using hcell) ⟨b, off, none⟩ m d (u8s cs) (by rw [u8s_len]; omega) (hat _ rfl) (by omega) (by unfold maxLen; omega) (by omega)
    obtain ⟨A', c', rfl, -, -, hI'⟩ := own_isU8 (xs := x :: cs) hown (by omega) (fun y hy => by
      rcases List.mem_cons.1 hy with rfl | hy
      · exact hx
      · exact hcs.2.2.1 y hy)
    exact ⟨_, w', hrun, ⟨A', c', rfl, hI'⟩, (Below.refl _ _).grown hg (Nat.le_refl _) (fun k hk => by cases hk)⟩
set_option maxRecDepth 100000 in
theorem front_bb (W : World) (ty : TypeId) (g : Nat) (A1 : Option Addr) (n c1 : Nat) (F : List Bool) (hF : IsBools W A1 n F) (hc1 : n ≤ c1 ∧ c1 ≤ 9223372036854775807) (hcell : W.cell? ⟨g, 0, none⟩ = some (.slice A1 n c1)) (C : Option Addr) (K e : Nat) (H : List (List Bool)) (hH : IsBB W C K H) (hK : K ≤ 1000) :
    ∃ v' w', (Builtin.append_ #[26, 26] ty #[.slice (some ⟨g, 0, none⟩) 1 1, .slice C K e]).run Try.prog W = .ok v' w' ∧ (∃ A' c', v' = .slice A' (1 + K) c' ∧ 1 + K ≤ c' ∧ c' ≤ 9223372036854775807 ∧ IsBB w' A' (1 + K) (F :: H)) ∧ Below W.heap.size W w' := by
  obtain ⟨i0, hI, hz0, hz1, hz2⟩ := info_parts info_bb
  have hl := hH.1
  have hFn := hF.1
  rcases Nat.eq_zero_or_pos K with h0 | h0
  · subst h0
    obtain rfl : H = [] := List.eq_nil_of_length_eq_zero hl
    refine ⟨_, _, run_append_zero 26 ty 31 i0 Try.underlying26 hI g 1 1 (Nat.le_refl _) C e, ⟨_, _, rfl, Nat.le_refl _, by omega, rfl, by omega, fun _ => ⟨g, 0, fun _ => A1, fun _ => c1, rfl, cell_in hcell, fun j hj => ?_, fun j hj => ?_⟩⟩, Below.refl _ _⟩
    · obtain rfl : j = 0 := by omega
      show W.cell? ⟨g, 0, none⟩ = some (.slice A1 F.length c1)
      rw [hFn]; exact hcell
    · obtain rfl : j = 0 := by omega
      show IsBools W A1 F.length F ∧ F.length ≤ c1 ∧ _
      rw [hFn]; exact ⟨hF, hc1⟩
  · obtain ⟨b, off, hA, hC, rfl, hb, hc, hr⟩ := hH.2.2 h0
    obtain ⟨v', w', hrun, hown, hg⟩ := run_append_arg_grows (P := Try.prog) (w := W) 26 ty 31 i0 (.slice none 0 0) 1 24 Try.underlying26 hI hz0 hz1 hz2 rfl (by decide) ⟨g, 0, none⟩ 1 1 [.slice A1 n c1] rfl
      (fun j u hj => by
        match j, hj with
        | 0, hj => simp at hj; subst hj; simpa [Addr.add] using hcell) ⟨b, off, none⟩ K e (slicesR H hA hC K) (by rw [slicesR_len]; omega) (fun j u hj => by
        have hjn : j < K := by
          rcases Nat.lt_or_ge j K with h | h
          · exact h
          · rw [List.getElem?_eq_none (by rw [slicesR_len]; omega)] at hj; cases hj
        rw [slicesR_get _ _ _ hjn] at hj
        injection hj with hj
        subst hj
        rw [show (⟨b, off, none⟩ : Addr).add j = ⟨b, off + j, none⟩ by unfold Addr.add; split <;> simp_all]
        exact hc j hjn) (by omega) (by unfold maxLen; omega) (by omega)
    have hbl : Below W.heap.size W w' := (Below.refl _ _).grown hg (Nat.le_refl _) (fun k hk => by cases hk)
    have e0 : [Value.slice A1 n c1] ++ slicesR H hA hC K = slicesR (F :: H) (fun j => if j = 0 then A1 else hA (j - 1)) (fun j => if j = 0 then c1 else hC (j - 1)) (1 + K) := by
      refine List.ext_getElem? fun j => ?_
      by_cases hj : j < 1 + K
      · rw [slicesR_get _ _ _ hj]
        cases j with
        | zero => show some _ = some (Value.slice A1 F.length c1); rw [hFn]
        | succ j =>
          show (slicesR H hA hC K)[j]? = some (.slice (hA j) (rowB H j).length (hC j))
          rw [slicesR_get _ _ _ (by omega)]
      · rw [List.getElem?_eq_none (by simp [slicesR_len]; omega), List.getElem?_eq_none (by rw [slicesR_len]; omega)]
    rw [e0] at hown
    obtain ⟨A', c', rfl, h1, h2, hI'⟩ := isBB_of_own hown (by rw [List.length_cons]; omega) (by omega) (fun j hj => by
      cases j with
      | zero => show IsBools w' A1 F.length F ∧ F.length ≤ c1 ∧ _; rw [hFn]; exact ⟨hF.below hbl, hc1⟩
      | succ j =>
        show IsBools w' (hA j) (rowB H j).length (rowB H j) ∧ (rowB H j).length ≤ hC j ∧ hC j ≤ 9223372036854775807
        exact ⟨(hr j (by omega)).1.below hbl, (hr j (by omega)).2⟩)
    exact ⟨_, w', hrun, ⟨A', c', rfl, h1, h2, hI'⟩, hbl⟩
section
variable {P : Program} {ops : Array Oper} {o : Oper} {a : Act} {w : World} {Q : Exit → Act → World → Prop}
theorem step_append_ex {K : Act → World → Prop} {E : Prop} (hg : o.guard = none) (d x : Operand) (t t' : TypeId) (ho : o.op = .call { callee := .builtin .append, args := #[d, x], argTypes := #[t, t'] }) (v u : Value) (hd : a.eval d = v) (hx : a.eval x = u) {R : Value → World → Prop}
    (hr : ∃ v' w', (Builtin.append_ #[t, t'] o.type #[v, u]).run P w = .ok v' w' ∧ R v' w' ∧ Below w.heap.size w w') (hK : ∀ v' w', R v' w' → Below w.heap.size w w' → K (a.put o.dst v') w') : if Region.wanted o (yielded ops a.tmps) = true then Oper.wp P o a w K Q else E := by
  obtain ⟨v', w', h1, h2, h3⟩ := hr
  exact step_append_run hg d x t t' ho v u hd hx h1 (hK v' w' h2 h3)
end
set_option maxRecDepth 100000 in
set_option maxHeartbeats 4000000 in
theorem walk (A : Option Addr) (n c : Nat) (T : List ANode) (i ld : Int) (B : Option Addr) (m d : Nat) (cs : List Int) (C : Option Addr) (K e : Nat) (H : List (List Bool)) (w : World) (h : IsTree w A n T) (hcs : IsU8 w B m cs) (he : K ≤ e ∧ e ≤ 9223372036854775807) (hH : IsBB w C K H) :
    Calls Try.prog 14 #[.agg #[.slice A n c], .int .i64 i, .int .u8 ld, .slice B m d, .slice C K e] w fun e w' => e = .returned (.bool true) ∧ Below w.heap.size w w' := by
  have ho := hide h.2.2.2
  have hml := hcs.1
  have hkl := hH.1
  obtain ⟨he1, he2⟩ := he
  have hcs' := hide hcs
  have hH' := hide hH
  clear hcs hH
  have hT := hide h
  have hl := h.1
  clear h
  have hB0 := below_alloc (Below.refl w.heap.size w) (.cells #[.slice A n c] 24)
  have hbox0 : (w.alloc (.cells #[.slice A n c] 24)).cell? ⟨w.heap.size, 0, none⟩ = some (.slice A n c) := by go_simp
  cases hs : small21 T cs H
  · have hs' := hide hs
    clear hs
    go_enter Try.func14, Try.ntmps14
    go_wp2_with fail
    refine (alive22_ok _).mono ?_
    rintro e w1 ⟨rfl, hb1⟩
    have hbox1 := cell_later hb1 hbox0
    have hB1 := Below.on hB0 hb1
    go_wp2_with fail
    have hx := great21_ok _ _ _ _ c _ d _ e T cs H _ (hT.out.below hB1) (hcs'.out.below hB1) (hH'.out.below hB1)
    rw [hs'.out] at hx
    refine hx.mono ?_
    clear hx
    rintro e1 w2 ⟨rfl, hb2⟩
    have hB2 := Below.on hB1 hb2
    have hbox2 := cell_later hb2 hbox1
    clear hb2 hbox1
    go_wp2
    go_ret
    exact ⟨rfl, hB2⟩
  · have hsm := (small21_iff.1 hs).2.2.1
    have hs' := hide hs
    clear hs
    by_cases hk0 : cask T i cs H = 0
    · obtain ⟨hg, hir, ht⟩ := cask_zero.1 hk0
      obtain ⟨ii, rfl⟩ := Int.eq_ofNat_of_zero_le hir.1
      have hii : ii < n := by omega
      have hiT : ii < T.length := by omega
      have hk0' := hide hk0
      clear hk0 hir
      by_cases hld : 1 ≤ ld ∧ ld ≤ 4
      · have hldv : Hid ((decide (1 ≤ ld) && decide (ld ≤ 4)) = true) := by show _ = _; rw [decide_eq_true hld.1, decide_eq_true hld.2]; rfl
        have hn64 : n ≤ 64 := by have := ((goodB_iff T).1 hg).2.1; omega
        have ht1 := ((toldB_iff _ _ _).1 ht)
        have hK5 : K ≤ 5 := by omega
        have hm5 : m ≤ 5 := by omega
        have hK1 : K = 1 + m := by omega
        obtain ⟨XE, hXE⟩ : ∃ X, rchL T cs (hasH T ii ld H) cs.length = X := ⟨_, rfl⟩
        obtain ⟨v, hv⟩ : ∃ v, hasF T ii ld cs H = v := ⟨_, rfl⟩
        have hvX : decide (true ∈ XE) = v := by rw [← hXE, ← hv]; rfl
        have htL := lead_told (i := ii) hld.1 hld.2 ht (by omega)
        have hL0 : cchk T (ld :: cs) (oneB n ii :: H) = 0 := by rw [← hl]; exact cchk_zero.2 ⟨hg, htL⟩
        have hL1 : allE T (ld :: cs) (oneB n ii :: H) = XE := by
          unfold allE
          rw [if_pos hL0, List.length_cons, ← hl, lead_all hg hiT hld.1 hld.2, hXE]
        have hM0 : hmE T ii ld cs H = 0 := by unfold hmE; rw [if_pos (rchC_zero.2 ⟨hg, ⟨by omega, by omega⟩, hld.1, hld.2⟩)]; exact cchk_zero.2 ⟨hg, ht⟩
        have hM1 : hmV T ii ld cs H = v := by unfold hmV; rw [if_pos hM0, Int.toNat_natCast, hv]
        have hXn : XE.length = n := by rw [← hXE, rchL_len, hl]
        have hends := hide (show ∀ q, q < n → bx XE q = true → (cmpE T ii q = 0 ∧ cmpV T ii q = -1 ∧ askI T [(q : Int), (ii : Int)] = 0) ∧ (belE T q ii = true ∨ (0 ≤ par T ii ∧ belE T q (par T ii) = true)) from fun q hq hb => by
          have hqT : q < T.length := by omega
          rw [← hXE, rchL_bx _ _ _ _ hqT] at hb
          obtain ⟨⟨h1, h2⟩, h3⟩ := has_ends hg hiT ht _ q (Nat.le_refl _) hqT hb
          have h0 : cmpE T ii q = 0 := by rw [cmp_parts' hg hiT hqT, h1, if_pos rfl]
          refine ⟨⟨h0, by unfold cmpV; rw [if_pos h0]; exact h2, askI_ok hg (by simp; omega)⟩, ?_⟩
          rcases h3 with h3 | ⟨h3, h4⟩
          · exact .inl (by rw [bel_iff hg hqT hiT]; exact decide_eq_true h3)
          · obtain ⟨p, hp⟩ := Int.eq_ofNat_of_zero_le h3
            have hpl : p < T.length := by have := (good_par hg hiT).2; omega
            rw [hp] at h4 ⊢
            exact .inr ⟨by omega, by rw [bel_iff hg hqT hpl]; exact decide_eq_true h4⟩)
        have hpa := hide (show ∀ q p : Nat, q < n → par T ii = p → askI T [(q : Int), (p : Int)] = 0 from fun q p hq hp => by
          have hpl : p < T.length := by have := (good_par hg hiT).2; omega
          exact askI_ok hg (by simp; omega))
        obtain ⟨b, off, aA, cA, aC, cC, rfl, hbl, -, -, c2, -, -, -⟩ := ho.out (by omega)
        have c2' := hide (c2 ii hii)
        obtain ⟨pz, hpz0⟩ : ∃ pz, par T ii = pz := ⟨_, rfl⟩
        rw [hpz0] at c2' hends
        have hpz := hide hpz0
        have hL0' := hide hL0
        have hL1' := hide hL1
        have hM0' := hide hM0
        have hM1' := hide hM1
        have hXn' := hide hXn
        have hvX' := hide hvX
        have hld' := hide hld
        have hK1' := hide hK1
        have hmk := mk_bools n (by omega)
        clear hg ht hld ht1 hXE hv hvX htL hL0 hL1 hM0 hM1 hXn c2 ho hpz0 hsm hK1 hml hkl
        have q1 : (0 : Int) ≤ (ii : Int) := by omega
        have q2 : (ii : Int) < (n : Int) := by omega
        go_enter Try.func14, Try.ntmps14
        go_wp2_with fail
        refine (alive22_ok _).mono ?_
        rintro e w1 ⟨rfl, hb1⟩
        have hbox1 := cell_later hb1 hbox0
        have hB1 := Below.on hB0 hb1
        go_wp2_with fail
        have hx := great21_ok _ _ _ _ c _ d _ e T cs H _ (hT.out.below hB1) (hcs'.out.below hB1) (hH'.out.below hB1)
        rw [hs'.out] at hx
        refine hx.mono ?_
        clear hx
        rintro e1 w2 ⟨rfl, hb2⟩
        have hB2 := Below.on hB1 hb2
        have hbox2 := cell_later hb2 hbox1
        clear hb2 hbox1
        go_wp2_with fail
        have hx := rcask_ok _ _ _ _ c _ d _ e T ii cs H _ (hT.out.below hB2) (hcs'.out.below hB2) (hH'.out.below hB2)
        rw [hk0'.out] at hx
        refine hx.mono ?_
        clear hx
        rintro e1 w3 ⟨rfl, hb3⟩
        have hB3 := Below.on hB2 hb3
        have hbox3 := cell_later hb3 hbox2
        clear hb3 hbox2
        go_wp2_with fail
        have hx := rlead_ok ld w3
        rw [hldv.out] at hx
        refine hx.mono ?_
        clear hx
        rintro e1 w4 ⟨rfl, rfl⟩
        go_wp2_with fail
        refine (hMatch_at T ii ld cs H v 0 hM0'.out hM1'.out _ _ _ _ c _ d _ e _ (hT.out.below hB3) (hcs'.out.below hB3) (hH'.out.below hB3) he1 he2).mono ?_
        rintro e5 w5 ⟨rfl, hb5⟩
        have hB5 := Below.on hB3 hb5
        have hbox5 := cell_later hb5 hbox3
        clear hb5 hbox3
        have hmc : (madeCells #[Value.bool false] n)[ii]? = some (.bool false) := by rw [← Array.getElem?_toList, toList_madeCells_one, List.getElem?_replicate, if_pos hii]
        go_upto_region 7 with fail
        have hone0 : IsBools (w5.alloc (.cells ((madeCells #[.bool false] n).setIfInBounds ii (.bool true)) 4)) (some ⟨w5.heap.size, 0, none⟩) n (oneB n ii) := own_isBools (own_one w5 _ w5.heap.size n ii rfl (Nat.le_refl _) (by omega)) (by omega)
        have hB6 := below_alloc hB5 (.cells ((madeCells #[.bool false] n).setIfInBounds ii (.bool true)) 4)
        have hbox6 := far_alloc' hbox5 (.cells ((madeCells #[.bool false] n).setIfInBounds ii (.bool true)) 4)
        generalize w5.alloc (.cells ((madeCells #[.bool false] n).setIfInBounds ii (.bool true)) 4) = w6 at *
        have hone := hide hone0
        generalize w5.heap.size = g0 at *
        clear hone0 hB5 hbox5 hmc hmk
        have hRU := hide (fun (W : World) (g : Nat) (hb : Below w6.heap.size w6 W) (hc : W.cell? ⟨g, 0, none⟩ = some (.int .u8 ld)) => front_u8 W 25 g ld (by have := hld'.out; omega) hc B m d cs (hcs'.out.below (Below.on hB6 hb)) (by omega))
        have hRB := hide (fun (W : World) (g : Nat) (hb : Below w6.heap.size w6 W) (hc : W.cell? ⟨g, 0, none⟩ = some (.slice (some ⟨g0, 0, none⟩) n n)) => front_bb W 26 g (some ⟨g0, 0, none⟩) n n (oneB n ii) (hone.out.below hb) ⟨Nat.le_refl _, by omega⟩ hc C K e H (hH'.out.below (Below.on hB6 hb)) (by omega))
        have hk9 := hide (fun (W : World) (hb : Below w6.heap.size w6 W) (AU AB : Option Addr) (cU cB : Nat) (hU : IsU8 W AU (1 + m) (ld :: cs)) (hBB : IsBB W AB (1 + K) (oneB n ii :: H)) (h1 : 1 + K ≤ cB) (h2 : cB ≤ 9223372036854775807) => call_at T (ld :: cs) (oneB n ii :: H) XE 0 hL0'.out hL1'.out (some ⟨b, off, none⟩) AU AB n c (1 + m) cU (1 + K) cB W (hT.out.below (Below.on hB6 hb)) hU hBB)
        go_cut [15, 16] from 66 to 78 (fun v15 v16 wx => Below w6.heap.size w6 wx ∧ v16 = .int .i64 0 ∧ ∃ A9 c9, v15 = .slice A9 n c9 ∧ IsBools wx A9 n XE)
        case first =>
          go_region_held3 (fun X => X.cell? ⟨w.heap.size, 0, none⟩ = some (.slice (some ⟨b, off, none⟩) n c)) (first | exact hbox6 | exact hboxU | exact hboxB | exact far_alloc' hbox6 _ | exact far_alloc' hboxU _ | exact far_alloc' hboxB _ | exact far_alloc' (far_alloc' hbox6 _) _) (first
            | (go_at_call 19; (with_reducible refine (hk9.out _ ?_ AU AC cU cC2 ?_ ?_ j1 j2).mono ?_); (repeat (first | exact Below.refl _ _ | exact hU6 | exact hC6 | refine Below.drew ?_ | refine below_alloc ?_ _)); (focus (first | exact IU | exact IU.below hbC | exact IU.below (Below.on (below_alloc (Below.refl _ _) _) hbC))); (focus (first | exact IC | exact IC.below hbU | exact IC.below (Below.on (below_alloc (Below.refl _ _) _) hbU))); rintro e9 w9 ⟨A9, c9, rfl, hI9, -, -, hb9⟩; have hB9 : Below w6.heap.size w6 w9 := (by refine Below.on ?_ hb9; (repeat (first | exact Below.refl _ _ | exact hU6 | exact hC6 | refine Below.drew ?_ | refine below_alloc ?_ _))); have hboxU := cell_later hB9 hbox6)
            | (refine step_append_ex rfl _ _ 25 25 rfl (.slice (some ⟨w6.heap.size, 0, none⟩) 1 1) (.slice B m d) ?_ ?_ (hRU.out _ _ ?_ ?_) ?_; (focus (simp [Act.eval]; done)); (focus (simp [Act.eval]; done)); rotate_left; (focus (first | (go_simp; done) | exact cell_later hbU (by go_simp) | exact cell_later hbC (by go_simp))); rotate_left; (repeat (first | exact Below.refl _ _ | exact hU6 | exact hC6 | refine Below.drew ?_ | refine below_alloc ?_ _)); rintro _ wU ⟨AU, cU, rfl, IU⟩ hbU; have hU6 : Below w6.heap.size w6 wU := (by refine Below.on ?_ hbU; (repeat (first | exact Below.refl _ _ | exact hU6 | exact hC6 | refine Below.drew ?_ | refine below_alloc ?_ _))); have hboxU := cell_later hU6 hbox6)
            | (refine step_append_ex rfl _ _ 25 25 rfl (.slice (some ⟨w6.heap.size + 1, 0, none⟩) 1 1) (.slice B m d) ?_ ?_ (hRU.out _ _ ?_ ?_) ?_; (focus (simp [Act.eval]; done)); (focus (simp [Act.eval]; done)); rotate_left; (focus (first | (go_simp; done) | exact cell_later hbU (by go_simp) | exact cell_later hbC (by go_simp))); rotate_left; (repeat (first | exact Below.refl _ _ | exact hU6 | exact hC6 | refine Below.drew ?_ | refine below_alloc ?_ _)); rintro _ wU ⟨AU, cU, rfl, IU⟩ hbU; have hU6 : Below w6.heap.size w6 wU := (by refine Below.on ?_ hbU; (repeat (first | exact Below.refl _ _ | exact hU6 | exact hC6 | refine Below.drew ?_ | refine below_alloc ?_ _))); have hboxU := cell_later hU6 hbox6)
            | (refine step_append_ex rfl _ _ 25 25 rfl (.slice (some ⟨wC.heap.size, 0, none⟩) 1 1) (.slice B m d) ?_ ?_ (hRU.out _ _ ?_ ?_) ?_; (focus (simp [Act.eval]; done)); (focus (simp [Act.eval]; done)); rotate_left; (focus (first | (go_simp; done) | exact cell_later hbU (by go_simp) | exact cell_later hbC (by go_simp))); rotate_left; (repeat (first | exact Below.refl _ _ | exact hU6 | exact hC6 | refine Below.drew ?_ | refine below_alloc ?_ _)); rintro _ wU ⟨AU, cU, rfl, IU⟩ hbU; have hU6 : Below w6.heap.size w6 wU := (by refine Below.on ?_ hbU; (repeat (first | exact Below.refl _ _ | exact hU6 | exact hC6 | refine Below.drew ?_ | refine below_alloc ?_ _))); have hboxU := cell_later hU6 hbox6)
            | (refine step_append_ex rfl _ _ 26 26 rfl (.slice (some ⟨w6.heap.size, 0, none⟩) 1 1) (.slice C K e) ?_ ?_ (hRB.out _ _ ?_ ?_) ?_; (focus (simp [Act.eval]; done)); (focus (simp [Act.eval]; done)); rotate_left; (focus (first | (go_simp; done) | exact cell_later hbU (by go_simp) | exact cell_later hbC (by go_simp))); rotate_left; (repeat (first | exact Below.refl _ _ | exact hU6 | exact hC6 | refine Below.drew ?_ | refine below_alloc ?_ _)); rintro _ wC ⟨AC, cC2, rfl, j1, j2, IC⟩ hbC; have hC6 : Below w6.heap.size w6 wC := (by refine Below.on ?_ hbC; (repeat (first | exact Below.refl _ _ | exact hU6 | exact hC6 | refine Below.drew ?_ | refine below_alloc ?_ _))); have hboxB := cell_later hC6 hbox6)
            | (refine step_append_ex rfl _ _ 26 26 rfl (.slice (some ⟨w6.heap.size + 1, 0, none⟩) 1 1) (.slice C K e) ?_ ?_ (hRB.out _ _ ?_ ?_) ?_; (focus (simp [Act.eval]; done)); (focus (simp [Act.eval]; done)); rotate_left; (focus (first | (go_simp; done) | exact cell_later hbU (by go_simp) | exact cell_later hbC (by go_simp))); rotate_left; (repeat (first | exact Below.refl _ _ | exact hU6 | exact hC6 | refine Below.drew ?_ | refine below_alloc ?_ _)); rintro _ wC ⟨AC, cC2, rfl, j1, j2, IC⟩ hbC; have hC6 : Below w6.heap.size w6 wC := (by refine Below.on ?_ hbC; (repeat (first | exact Below.refl _ _ | exact hU6 | exact hC6 | refine Below.drew ?_ | refine below_alloc ?_ _))); have hboxB := cell_later hC6 hbox6)
            | (refine step_append_ex rfl _ _ 26 26 rfl (.slice (some ⟨wU.heap.size, 0, none⟩) 1 1) (.slice C K e) ?_ ?_ (hRB.out _ _ ?_ ?_) ?_; (focus (simp [Act.eval]; done)); (focus (simp [Act.eval]; done)); rotate_left; (focus (first | (go_simp; done) | exact cell_later hbU (by go_simp) | exact cell_later hbC (by go_simp))); rotate_left; (repeat (first | exact Below.refl _ _ | exact hU6 | exact hC6 | refine Below.drew ?_ | refine below_alloc ?_ _)); rintro _ wC ⟨AC, cC2, rfl, j1, j2, IC⟩ hbC; have hC6 : Below w6.heap.size w6 wC := (by refine Below.on ?_ hbC; (repeat (first | exact Below.refl _ _ | exact hU6 | exact hC6 | refine Below.drew ?_ | refine below_alloc ?_ _))); have hboxB := cell_later hC6 hbox6))
          all_goals
            go_wp2_with fail
            go_meet
            refine ⟨?_, rfl, A9, c9, by rw [hXn'.out], ?_⟩
            · exact hB9
            · have := hI9
              rwa [hXn'.out] at this
        case rest =>
          obtain ⟨hb9, rfl, A9, c9, rfl, hI9⟩ := hcut
          generalize wc = w9 at *
          have hB9 := Below.on hB6 hb9
          have hbox9 := cell_later hb9 hbox6
          have hI9' := hide hI9
          clear hRU hRB hk9 hone hb9 hI9 hbox6 hB6 hL0' hL1' hM0' hM1'
          go_wp2
          go_loopw [17, 18] (fun va s wr => ∃ q : Nat, q ≤ n ∧ s = .int .i64 q ∧ va = .bool (decide (true ∈ XE.take q)) ∧ Below w9.heap.size w9 wr) (fun _ s _ => n - (intOf s).toNat)
          case atStart => exact ⟨0, by omega, rfl, by simp, Below.refl _ _⟩
          case round =>
            obtain ⟨q, hq, rfl, rfl, hb⟩ := hrel
            have hBr := Below.on hB9 hb
            have hboxr := cell_later hb hbox9
            by_cases hlt : q < n
            · obtain ⟨b9, o9, rfl, hbb9, hc9⟩ := hI9'.out.2.2 (by omega)
              have ge := (old hb _ _ hbb9).trans (hc9 q hlt)
              have hstep := take_true (l := XE) (q := q) (by have := hXn'.out; omega)
              have hend := hends.out q hlt
              obtain ⟨vn, hvn⟩ : ∃ vn, decide (true ∈ XE.take (q + 1)) = vn := ⟨_, rfl⟩
              rw [hvn] at hstep
              have hvn' := hide hvn
              clear hvn hc9
              generalize decide (true ∈ XE.take q) = va at hstep ⊢
              cases hx : bx XE q
              · rw [hx] at ge hstep
                rw [Bool.or_false] at hstep
                have hstep' := hide hstep
                clear hend hx hstep
                go_wp2
                go_roundw
                case rel => exact ⟨q + 1, by omega, by go_num, by rw [hvn'.out, hstep'.out], hb⟩
                case measure => simp [intOf]; omega
              · obtain ⟨⟨k1, k2, k3⟩, k4⟩ := hend hx
                rw [hx] at ge hstep
                rw [Bool.or_true] at hstep
                subst hstep
                have k1' := hide k1
                have k2' := hide k2
                have k3' := hide k3
                obtain ⟨vb, hvb⟩ : ∃ vb, belE T q ii = vb := ⟨_, rfl⟩
                rw [hvb] at k4
                have hvb' := hide hvb
                clear k1 k2 k3 hvb hx
                go_wp2_with fail
                refine (below_at T q ii vb 0 k3'.out hvb'.out _ _ c _ (hT.out.below hBr)).mono ?_
                rintro e10 w10 ⟨rfl, hb10⟩
                have hB10 := Below.on hBr hb10
                have hbox10 := cell_later hb10 hboxr
                have hz10 := Below.on hb hb10
                clear hb10 hboxr ge hb
                go_wp2_with fail
                refine (compare_at T ii q (-1) 0 k1'.out k2'.out _ _ c _ (hT.out.below hB10)).mono ?_
                rintro e11 w11 ⟨rfl, hb11⟩
                have hB11 := Below.on hB10 hb11
                have hbox11 := cell_later hb11 hbox10
                have hz11 := Below.on hz10 hb11
                have gp := (old hB11 _ _ hbl).trans c2'.out
                clear hb11 hbox10 hz10
                by_cases hpneg : pz < 0
                · have : vb = true := k4.elim id fun h => absurd h.1 (by omega)
                  subst this
                  clear k4
                  go_wp2
                  go_roundw
                  case rel => exact ⟨q + 1, by omega, by go_num, by rw [hvn'.out], hz11⟩
                  case measure => simp [intOf]; omega
                · obtain ⟨p, rfl⟩ := Int.eq_ofNat_of_zero_le (by omega : 0 ≤ pz)
                  have k5 := hide (hpa.out q p hlt hpz.out)
                  obtain ⟨vx, hvx⟩ : ∃ vx, belE T q p = vx := ⟨_, rfl⟩
                  rw [hvx] at k4
                  have hvx' := hide hvx
                  clear hvx
                  cases vb
                  · have : vx = true := k4.elim (fun h => absurd h (by decide)) fun h => h.2
                    subst this
                    clear k4
                    go_wp2_with fail
                    refine (below_at T q p true 0 k5.out hvx'.out _ _ c _ (hT.out.below hB11)).mono ?_
                    rintro e12 w12 ⟨rfl, hb12⟩
                    have hz12 := Below.on hz11 hb12
                    go_wp2
                    go_roundw
                    case rel => exact ⟨q + 1, by omega, by go_num, by rw [hvn'.out], hz12⟩
                    case measure => simp [intOf]; omega
                  · clear k4
                    go_wp2_with fail
                    refine (below_at T q p vx 0 k5.out hvx'.out _ _ c _ (hT.out.below hB11)).mono ?_
                    rintro e12 w12 ⟨rfl, hb12⟩
                    have hz12 := Below.on hz11 hb12
                    go_wp2
                    go_roundw
                    case rel => exact ⟨q + 1, by omega, by go_num, by rw [hvn'.out], hz12⟩
                    case measure => simp [intOf]; omega
            · obtain rfl : q = n := by omega
              have e9 : decide (true ∈ XE.take q) = v := by rw [← hXn'.out, List.take_length]; exact hvX'.out
              rw [e9]
              clear e9
              cases v
              all_goals
                go_wp2
                go_ret
                exact ⟨rfl, hBr⟩
      · have hldv : Hid ((decide (1 ≤ ld) && decide (ld ≤ 4)) = false) := by
          show _ = _
          rw [Bool.and_eq_false_iff, decide_eq_false_iff_not, decide_eq_false_iff_not]
          omega
        clear hld hg ht
        go_enter Try.func14, Try.ntmps14
        go_wp2_with fail
        refine (alive22_ok _).mono ?_
        rintro e w1 ⟨rfl, hb1⟩
        have hbox1 := cell_later hb1 hbox0
        have hB1 := Below.on hB0 hb1
        go_wp2_with fail
        have hx := great21_ok _ _ _ _ c _ d _ e T cs H _ (hT.out.below hB1) (hcs'.out.below hB1) (hH'.out.below hB1)
        rw [hs'.out] at hx
        refine hx.mono ?_
        clear hx
        rintro e1 w2 ⟨rfl, hb2⟩
        have hB2 := Below.on hB1 hb2
        have hbox2 := cell_later hb2 hbox1
        clear hb2 hbox1
        go_wp2_with fail
        have hx := rcask_ok _ _ _ _ c _ d _ e T ii cs H _ (hT.out.below hB2) (hcs'.out.below hB2) (hH'.out.below hB2)
        rw [hk0'.out] at hx
        refine hx.mono ?_
        clear hx
        rintro e1 w3 ⟨rfl, hb3⟩
        have hB3 := Below.on hB2 hb3
        have hbox3 := cell_later hb3 hbox2
        clear hb3 hbox2
        go_wp2_with fail
        have hx := rlead_ok ld w3
        rw [hldv.out] at hx
        refine hx.mono ?_
        clear hx
        rintro e1 w4 ⟨rfl, rfl⟩
        go_wp2
        go_ret
        exact ⟨rfl, hB3⟩
    · have hk0' : (cask T i cs H != 0) = true := by simp [hk0]
      clear hk0
      go_enter Try.func14, Try.ntmps14
      go_wp2_with fail
      refine (alive22_ok _).mono ?_
      rintro e w1 ⟨rfl, hb1⟩
      have hbox1 := cell_later hb1 hbox0
      have hB1 := Below.on hB0 hb1
      go_wp2_with fail
      have hx := great21_ok _ _ _ _ c _ d _ e T cs H _ (hT.out.below hB1) (hcs'.out.below hB1) (hH'.out.below hB1)
      rw [hs'.out] at hx
      refine hx.mono ?_
      clear hx
      rintro e1 w2 ⟨rfl, hb2⟩
      have hB2 := Below.on hB1 hb2
      have hbox2 := cell_later hb2 hbox1
      clear hb2 hbox1
      go_wp2_with fail
      refine (rcask_ok _ _ _ _ c _ d _ e T i cs H _ (hT.out.below hB2) (hcs'.out.below hB2) (hH'.out.below hB2)).mono ?_
      rintro e1 w3 ⟨rfl, hb3⟩
      have hB3 := Below.on hB2 hb3
      go_wp2
      go_ret
      exact ⟨rfl, hB3⟩

set_option maxRecDepth 100000 in
theorem lifted (os : Os) (started : os.Started) (H : Type) (enc : TypeId × Value → H) :
    ReturnsInHanded {} Try.checked os 14 .any (Rows.hasBelowSpec.pre6 enc Try.prog Try.f14 Rows.hasBelowRow.domain false) (Rows.hasBelowSpec.post enc Try.prog Try.f14 false true false false) := by
  refine returnsInHanded_of_change (C := Try.checked) own started (by kernel_rfl) Try.func14
    (ChangeSpec.witness6 (enc := enc) (C := Try.checked) false ⟨#[], #[.agg #[.slice none 0 0], .int .i64 0, .int .u8 0, .slice none 0 0, .slice none 0 0], []⟩ 8 (by kernel_rfl) (by kernel_rfl) (by kernel_rfl) (by kernel_rfl)) ?_
  intro W base args ds gs before hval0 hW hcnd _
  have hval : ∀ (j : Nat) t v, Try.f14.params[j]? = some t → args[j]? = some v → Value.okWide Try.prog W .any base t v := hval0
  have hW' := hW
  obtain ⟨p, q, hA0, hV, rfl, hfz, hnd⟩ := hW
  have hA : DataW.TrodAll enc Try.prog W 0 (fun _ => true) true Try.f14.params.toList args.toList ds p := hA0
  rw [Try.params14] at hA hval
  obtain ⟨v0, vs0, d0, ds0, p0, q0, hargs, rfl, rfl, h0, r0⟩ := trodAll_cons hA
  obtain ⟨v1, vs1, d1, ds1, p1, q1, rfl, rfl, rfl, h1, r1⟩ := trodAll_cons r0
  obtain ⟨v2, vs2, d2, ds2, p2, q2, rfl, rfl, rfl, h2, r2⟩ := trodAll_cons r1
  obtain ⟨v3, vs3, d3, ds3, p3, q3, rfl, rfl, rfl, h3, r3⟩ := trodAll_cons r2
  obtain ⟨v4, vs4, d4, ds4, p4, q4, rfl, rfl, rfl, h4, r4⟩ := trodAll_cons r3
  obtain ⟨rfl, rfl, rfl⟩ := trodAll_nil r4
  obtain rfl : args = #[v0, v1, v2, v3, v4] := by cases args; simp_all
  obtain ⟨rfl, rfl⟩ := trodVars_none hV
  have lt0 : ∀ x ∈ p0, x.block < W.heap.size := by obtain ⟨m, hm⟩ := h0; exact DataW.trod_lt m _ _ _ hm
  have k0 := h0
  have lt1 : ∀ x ∈ p1, x.block < W.heap.size := by obtain ⟨m, hm⟩ := h1; exact DataW.trod_lt m _ _ _ hm
  have k1 := h1
  have lt2 : ∀ x ∈ p2, x.block < W.heap.size := by obtain ⟨m, hm⟩ := h2; exact DataW.trod_lt m _ _ _ hm
  have k2 := h2
  have lt3 : ∀ x ∈ p3, x.block < W.heap.size := by obtain ⟨m, hm⟩ := h3; exact DataW.trod_lt m _ _ _ hm
  have k3 := h3
  have lt4 : ∀ x ∈ p4, x.block < W.heap.size := by obtain ⟨m, hm⟩ := h4; exact DataW.trod_lt m _ _ _ hm
  have k4 := h4
  obtain ⟨A0, n0, c0, T0, rfl, hT0⟩ := tree_open (hval 0 _ v0 rfl rfl) h0
  obtain ⟨a1, rfl, rfl, rfl, w1⟩ := open_int Try.underlying3 (hval 1 _ v1 rfl rfl) h1
  obtain ⟨a2, rfl, rfl, rfl, w2⟩ := open_int Try.underlying5 (hval 2 _ v2 rfl rfl) h2
  obtain ⟨A3, n3, c3, xs3, rfl, hU3⟩ := u8s_param (hval 3 _ v3 rfl rfl) h3
  obtain ⟨A4, n4, c4, xs4, rfl, hk4, hM4⟩ := bbs_param2 (hval 4 _ v4 rfl rfl) h4
  clear hA0 hval0
  refine (walk A0 n0 c0 T0 a1 a2 A3 n3 c3 xs3 A4 n4 c4 xs4 W hT0   hU3 hk4 hM4).mono fun e W' ⟨he, bel⟩ => ?_
  subst he
  exact ⟨_, rfl, _, _, _, [], _, [], hW', trodAll_mk1 (shut_bool Try.underlying4 _), (trodAll_cons_mk (Below.trod laidOut (by kernel_rfl) (of_decide_eq_true (by kernel_rfl)) k0 bel lt0) (trodAll_cons_mk (Below.trod laidOut (by kernel_rfl) (of_decide_eq_true (by kernel_rfl)) k1 bel lt1) (trodAll_cons_mk (Below.trod laidOut (by kernel_rfl) (of_decide_eq_true (by kernel_rfl)) k2 bel lt2) (trodAll_cons_mk (Below.trod laidOut (by kernel_rfl) (of_decide_eq_true (by kernel_rfl)) k3 bel lt3) (trodAll_cons_mk (Below.trod laidOut (by kernel_rfl) (of_decide_eq_true (by kernel_rfl)) k4 bel lt4) trodAll_mk0))))), rfl, bel.frame _, fun h => by cases h⟩

theorem proved : Rows.HasBelowSaid :=
  OpenClaim.holds_of_wide 14 Try.f14 rfl rfl rfl rfl rfl rfl rfl ⟨rfl, rfl, rfl, rfl, rfl⟩ rfl rfl rfl rfl rfl (by kernel_rfl) Try.func14 (by kernel_rfl)
    (of_decide_eq_true (by kernel_rfl)) (by unfold Func.isWrapper; first | (rw [if_pos (by decide +kernel)]; kernel_rfl) | (rw [if_neg (by decide +kernel)]; exact ⟨rfl, rfl⟩))
    (fun os started H enc _ => lifted os started H enc)
#print axioms proved
end Go.Proofs.Ytaliekkdamghbaa.hasBelow
