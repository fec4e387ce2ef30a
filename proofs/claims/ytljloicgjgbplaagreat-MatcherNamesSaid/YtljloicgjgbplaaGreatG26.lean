/- Walks: what comb.All, has.All, compound.All give back is a list of the call's own. Conditions: nothing is wrong; the variable of the library that strings.Contains reads holds a number. -/
import Derived.Test.YtljloicgjgbplaaGreatG13
import Derived.Test.YtljloicgjgbplaaGreatG22
import Derived.Test.YtljloicgjgbplaaGreatG24
import Derived.Test.YtljloicgjgbplaaGreatG23
import Derived.Deep.RegionHeld3
namespace Go.Proofs.YtljloicgjgbplaaGreat
open Go.RowKit

/-- A list of truth values of the call's own, without an error. -/
def MadeOB (w : World) (xs : List Bool) (e : Ending) (w' : World) : Prop :=
  ∃ (A : Option Addr) (c : Nat), e = .returned (.tuple #[.slice A xs.length c, .int .i64 0]) ∧ OwnB w' w.heap.size (.slice A xs.length c) xs ∧ Below w.heap.size w w'
set_option maxRecDepth 100000 in
set_option maxHeartbeats 1000000 in
theorem callO_ok (A B C : Option Addr) (n c m d k e : Nat) (T : List ANode) (cs : List Int) (H : List (List Bool)) (w : World) (h : IsTree w A n T) (hcs : IsU8 w B m cs) (hH : IsBB w C k H) (h0 : cchk T cs H = 0) :
    Calls Tryz.prog 54 #[.agg #[.slice A n c], .slice B m d, .slice C k e] w (MadeOB w (rchL T cs H cs.length)) := by
  have hcs' := hide hcs
  have hH' := hide hH
  have hml := hcs.1
  have hkl := hH.1
  clear hcs hH
  have hT := hide h
  have hl := h.1
  clear h
  have hB0 := below_alloc (Below.refl w.heap.size w) (.cells #[.slice A n c] 24)
  have hbox0 : (w.alloc (.cells #[.slice A n c] 24)).cell? ⟨w.heap.size, 0, none⟩ = some (.slice A n c) := by go_simp
  have h00 := h0
  · obtain ⟨hg, ht⟩ := cchk_zero.1 h0
    obtain ⟨ht1, ht2⟩ := told_len ht
    obtain rfl : k = m + 1 := by omega
    rw [hml]
    have h0' := hide h0
    have hg' := hide hg
    have ht' := hide ht
    have hrr := hide (rchR_row T cs H (k := m) (by omega))
    have hrl := hide (rchL_len T cs H m)
    have hall := hide (fun j (hj : j < m + 1) => by rw [rchR_row T cs H (k := j) (by omega), rchL_len] : ∀ j, j < m + 1 → (rowB (rchR T cs H) j).length = T.length)
    have hn64 : T.length ≤ 64 := ((goodB_iff T).1 hg).2.1
    clear h0 h00 hg ht
    go_enter Tryz.func54, Tryz.ntmps54
    go_wp2_with fail
    have hx := ccheck_ok _ _ _ _ c _ d _ e T cs H _ (hT.out.below hB0) (hcs'.out.below hB0) (hH'.out.below hB0)
    rw [h0'.out] at hx
    refine hx.mono ?_
    clear hx
    rintro e1 w1 ⟨rfl, hb1⟩
    have hbox1 := cell_later hb1 hbox0
    have hB1 := Below.on hB0 hb1
    go_wp2_with fail
    refine (reached_ok _ _ _ _ c _ d e T cs H _ (hT.out.below hB1) (hcs'.out.below hB1) (hH'.out.below hB1) hg'.out ht'.out).mono ?_
    rintro e2 w2 ⟨A2, c2, rfl, hO2, hb2⟩
    obtain ⟨RA, RC, q1, q2⟩ := hO2
    obtain ⟨g, cap, cs2, hv, o1, o2, o3, o4⟩ := own_blk q1 (by omega)
    injection hv with v1 v2 v3
    subst v1 v3
    have r1 : w2.cell? ⟨g, 0 + m, none⟩ = some (.slice (RA m) (rowB (rchR T cs H) m).length (RC m)) := by
      rw [Nat.zero_add, World.ownsRow.cellAt q1 m (by omega), slicesR_get _ _ _ (by omega)]
    have r2 := q2 m (by omega)
    rw [hrr.out] at r1 r2
    rw [Nat.zero_add] at r1
    have r2' := hide r2
    have hrl2 : (rchL T cs H m).length ≤ 9223372036854775807 := by rw [hrl.out]; omega
    have hB2 := Below.on hB1 hb2
    have o2' : c2 ≤ 9223372036854775807 := by unfold maxLen at o2; omega
    have hle : w.heap.size ≤ w1.heap.size := Nat.le_trans hB1.size (Nat.le_refl _)
    clear q1 q2 r2 v2
    generalize RA m = ra at *
    generalize RC m = rc at *
    go_wp2
    go_ret2
    exact ⟨ra, rc, rfl, own_base r2'.out hle, hB2⟩
set_option maxRecDepth 100000 in
set_option maxHeartbeats 1000000 in
theorem hAllO_ok (A B C : Option Addr) (n c m d k e : Nat) (T : List ANode) (ld : Int) (cs : List Int) (H : List (List Bool)) (w : World) (h : IsTree w A n T) (hcs : IsU8 w B m cs) (hH : IsBB w C k H) (he1 : k ≤ e) (he2 : e ≤ 9223372036854775807) (hz : haE T ld cs H = 0) :
    Calls Tryz.prog 100 #[.agg #[.slice A n c], .int .u8 ld, .slice B m d, .slice C k e] w (MadeOB w (hasL T ld cs H)) := by
  have hn63 : n ≤ 9223372036854775807 := h.2.1
  have hcs' := hide hcs
  have hH' := hide hH
  have hml := hcs.1
  have hkl := hH.1
  clear hcs hH
  have hT := hide h
  have hl := h.1
  clear h
  have hB0 := below_alloc (Below.refl w.heap.size w) (.cells #[.slice A n c] 24)
  have hbox0 : (w.alloc (.cells #[.slice A n c] 24)).cell? ⟨w.heap.size, 0, none⟩ = some (.slice A n c) := by go_simp
  obtain ⟨z1, z2, z3⟩ := haE_zero.1 hz
  have h0 : ldE T ld = 0 := ldE_zero.2 ⟨z1, z2⟩
  · have h0' := hide h0
    have e1 : haE T ld cs H = cchk T cs H := if_pos h0
    have h1 : cchk T cs H = 0 := cchk_zero.2 ⟨z1, z3⟩
    clear z1 z2 z3 hz
    · obtain ⟨hg, hl1, hl4⟩ := ldE_zero.1 h0
      obtain ⟨-, ht⟩ := cchk_zero.1 h1
      obtain ⟨ht1, ht2⟩ := told_len ht
      obtain rfl : k = m + 1 := by omega
      have h1' := hide h1
      have hg' := hide hg
      have ht' := hide ht
      have hrl := hide (hasL_len T ld cs H)
      have hts := hide (fun q (hq : q < n) => take_hasL T ld cs H (q := q) (by omega))
      have hn64 : T.length ≤ 64 := ((goodB_iff T).1 hg).2.1
      clear h0 h1 hg ht e1
      go_enter Tryz.func100, Tryz.ntmps100
      go_wp2_with fail
      have hx := leads_ok _ _ c T ld _ (hT.out.below hB0)
      rw [h0'.out] at hx
      refine hx.mono ?_
      clear hx
      rintro e1 w1 ⟨rfl, hb1⟩
      have hbox1 := cell_later hb1 hbox0
      have hB1 := Below.on hB0 hb1
      go_wp2_with fail
      have hx := ccheck_ok _ _ _ _ c _ d _ e T cs H _ (hT.out.below hB1) (hcs'.out.below hB1) (hH'.out.below hB1)
      rw [h1'.out] at hx
      refine hx.mono ?_
      clear hx
      rintro e2 w2 ⟨rfl, hb2⟩
      have hbox2 := cell_later hb2 hbox1
      have hB2 := Below.on hB1 hb2
      go_wp2
      go_loopw [12, 30] (fun v s wr => ∃ q : Nat, q ≤ n ∧ s = .int .i64 q ∧ OwnB wr w2.heap.size v ((hasL T ld cs H).take q) ∧ Below w2.heap.size w2 wr) (fun _ s _ => n - (intOf s).toNat)
      case atStart => exact ⟨0, Nat.zero_le _, rfl, by rw [List.take_zero]; exact OwnB.nil _ _, Below.refl _ _⟩
      case round =>
        obtain ⟨q, hq, rfl, hown, hb⟩ := hrel
        have hbx := cell_later hb hbox2
        have hBw := Below.on hB2 hb
        have hlq : ((hasL T ld cs H).take q).length ≤ 64 := by rw [List.length_take, hrl.out]; omega
        by_cases hlt : q < n
        · have hx := hide (hmatch_ok A B C n c m d e T q ld cs H wr (hT.out.below hBw) (hcs'.out.below hBw) (hH'.out.below hBw) he1 he2 hg'.out ht'.out hlt hl1 hl4)
          obtain ⟨rb, hrb⟩ : ∃ rb, hasF T q ld cs H = rb := ⟨_, rfl⟩
          have hts1 := hts.out q hlt
          rw [hrb] at hx hts1
          have hts1' := hide hts1
          clear hrb hts1
          go_wp2_with fail
          (with_reducible refine hx.out.mono ?_)
          rintro e3 w3 ⟨rfl, hb3⟩
          have hown3 := hown.below hb3
          have hB3 := hide (Below.on hb hb3)
          have hsz3 : w2.heap.size ≤ w3.heap.size := hB3.out.size
          clear hown hb3
          go_wp2_with (at_builtin; refine wpList_pushB rfl _ _ rfl hown3 rb _ rfl rfl (by omega) hsz3 ?_)
          intro A5 c5 w5 hown5 hgr
          have hB5 := hide (hgr.below (Nat.le_refl _) hB3.out)
          have hown5' := hide hown5
          clear hgr hown5 hown3
          go_wp2
          go_roundw
          case rel => exact ⟨q + 1, by omega, by go_num, by rw [hts1'.out]; exact hown5'.out, hB5.out⟩
          case measure => simp [intOf]; omega
        · have he : Hid ((hasL T ld cs H).take q = hasL T ld cs H) := List.take_of_length_le (by rw [hrl.out]; omega)
          rw [he.out] at hown
          have hown6 := hide hown
          obtain ⟨A5, c5, rfl, h51, h52, hI5⟩ := hown.isBools (by rw [hrl.out]; omega)
          clear hI5 hown
          go_wp2
          go_ret2
          exact ⟨A5, c5, rfl, own_base hown6.out hB2.size, hBw⟩
set_option maxRecDepth 100000 in
set_option maxHeartbeats 4000000 in
theorem compAllO_ok (A : Option Addr) (n c : Nat) (T : List ANode) (tag : ByteArray) (SA : Option Addr) (sn sc : Nat) (S : List Sim) (m : Int) (TA : Option Addr) (tn tc : Nat) (H : List (List Bool)) (w : World) (h : IsTree w A n T) (hS0 : IsSims w SA sn S) (hH0 : IsBB w TA tn H) (hmx : HasMax w) (hz : calE T tag S m H = 0) :
    Calls Tryz.prog 74 #[.agg #[.slice A n c], .agg #[.string tag, .slice SA sn sc], .int .i64 m, .slice TA tn tc] w
      (MadeOB w (calL T tag S m H)) := by
  have hT := hide h
  have hl := h.1
  have hm' := hide hmx
  have hS := hide hS0
  have hsl := hS0.1
  have hH := hide hH0
  have hhl := hH0.1
  have hB0 := below_alloc (below_alloc (below_alloc (Below.refl w.heap.size w) (.cells #[.slice A n c] 24)) (.cells #[.string tag, .slice SA sn sc] 70)) (.cells #[.slice TA tn tc] 65)
  have hbox0 : (((w.alloc (.cells #[.slice A n c] 24)).alloc (.cells #[.string tag, .slice SA sn sc] 70)).alloc (.cells #[.slice TA tn tc] 65)).cell? ⟨w.heap.size, 0, none⟩ = some (.slice A n c) := by go_simp
  have ht0 : (((w.alloc (.cells #[.slice A n c] 24)).alloc (.cells #[.string tag, .slice SA sn sc] 70)).alloc (.cells #[.slice TA tn tc] 65)).cell? ⟨w.heap.size + 1, 0, none⟩ = some (.string tag) := by go_simp
  have htb0 : (((w.alloc (.cells #[.slice A n c] 24)).alloc (.cells #[.string tag, .slice SA sn sc] 70)).alloc (.cells #[.slice TA tn tc] 65)).cell? ⟨w.heap.size + 1, 1, none⟩ = some (.slice SA sn sc) := by go_simp
  have hp0 : (((w.alloc (.cells #[.slice A n c] 24)).alloc (.cells #[.string tag, .slice SA sn sc] 70)).alloc (.cells #[.slice TA tn tc] 65)).cell? ⟨w.heap.size + 1 + 1, 0, none⟩ = some (.slice TA tn tc) := by go_simp
  clear h hmx hS0 hH0
  obtain ⟨cc, hcc0⟩ : ∃ x, ccE T tag S m = x := ⟨_, rfl⟩
  have hcc := hide hcc0
  have hz2 : cc = 0 ∧ tn = sn ∧ rowsB n S H := by
    unfold calE at hz
    rw [hcc0] at hz
    by_cases h1 : cc = 0
    · rw [if_pos h1] at hz
      by_cases h2 : H.length = S.length ∧ rowsB T.length S H
      · exact ⟨h1, by omega, by rw [← hl]; exact h2.2⟩
      · rw [if_neg h2] at hz; cases hz
    · rw [if_neg h1] at hz; exact absurd hz h1
  obtain ⟨h1, h2, h3⟩ := hz2
  have h3' := hide h3
  clear hz h3
  · subst h1
    obtain ⟨hg, hmd, hck⟩ := ccE_zero.1 hcc0
    have hn64 : n ≤ 64 := by have := ((goodB_iff T).1 hg).2.1; omega
    have hs64 : sn ≤ 64 := by have := hck.2.1; omega
    · subst h2
      have hg' := hide hg
      have hmd' := hide hmd
      have hck' := hide hck
      clear hcc0 hg hmd hck
      go_enter Tryz.func74, Tryz.ntmps74
      go_wp2_with fail
      refine (ccheck19_at T tag S m 0 hcc.out _ _ c _ _ sc _ (hT.out.below hB0) (hS.out.below hB0) (hm'.out.below hB0)).mono ?_
      rintro e w2 ⟨rfl, hb2⟩
      have hB2 := Below.on hB0 hb2
      have hbox2 := cell_later hb2 hbox0
      have ht2 := cell_later hb2 ht0
      have htb2 := cell_later hb2 htb0
      have hp2 := cell_later hb2 hp0
      clear hb2 hbox0 ht0 htb0 hp0
      go_wp2
      go_loopw [31] (fun s wr => ∃ q : Nat, q ≤ tn ∧ s = .int .i64 q ∧ Below w2.heap.size w2 wr ∧ Hid (∀ j, j < q → lisS (sm S j) = true → (rowB H j).length = n)) (fun s _ => tn - (intOf s).toNat)
      case atStart => exact ⟨0, Nat.zero_le _, rfl, Below.refl _ _, fun j hj => absurd hj (by omega)⟩
      case round =>
        obtain ⟨q, hq, rfl, hb, hok⟩ := hrel
        have hBr := Below.on hB2 hb
        have hboxr := cell_later hb hbox2
        have hpr := cell_later hb hp2
        by_cases hlt : q < tn
        · obtain ⟨bb, off, rfl, hbl, hc⟩ := hS.out.2.2 (by omega)
          obtain ⟨bh, oh, hA, hC, rfl, hbh, hhc, hhr⟩ := hH.out.2.2 (by omega)
          have hin := (hc q hlt).later hBr
          have hrow := (old hBr _ _ hbh).trans (hhc q hlt)
          have q1 : (0 : Int) ≤ (q : Int) := by omega
          have q2 : (q : Int) < (tn : Int) := by omega
          have hbl2 := Nat.lt_of_lt_of_le hbl hBr.size
          clear hc hhc hhr
          cases hs : sm S q with
          | mk k nm op vl fo a b f LA ln lc =>
            rw [hs] at hin
            obtain ⟨s0, s1, s2, s3, s4, s5, s6, s7, s8⟩ := hin
            have hs' := hide hs
            obtain ⟨v, hv⟩ : ∃ v, lisS ⟨k, nm, op, vl, fo, a, b, f, LA, ln, lc⟩ = v := ⟨_, rfl⟩
            have hv' := hide hv
            have hz0 := below_alloc hb (.cells #[.int .u8 k, .string nm, .int .u8 op, .string vl, .bool fo, .int .i64 a, .int .i64 b, .bool f, .slice LA ln lc] 41)
            have hzr := below_alloc (Below.refl wr.heap.size wr) (.cells #[.int .u8 k, .string nm, .int .u8 op, .string vl, .bool fo, .int .i64 a, .int .i64 b, .bool f, .slice LA ln lc] 41)
            obtain ⟨t0, t1, t2, t3, t4, t5, t6, t7, t8⟩ := simAt_at wr wr.heap.size rfl k nm op vl fo a b f LA ln lc
            generalize hA q = rA at hrow
            generalize hC q = rC at hrow
            have pb := cell_later hzr hboxr
            have pp := cell_later hzr hpr
            have hok1 := hide (show v = true ∧ ¬ (rowB H q).length = n ∨ ∀ j, j < q + 1 → lisS (sm S j) = true → (rowB H j).length = n from by
              by_cases hvr : v = true ∧ ¬ (rowB H q).length = n
              · exact .inl hvr
              · refine .inr fun j hj hlj => ?_
                by_cases hjq : j = q
                · subst hjq
                  rw [hs, hv] at hlj
                  by_cases hrr : (rowB H j).length = n
                  · exact hrr
                  · exact absurd ⟨hlj, hrr⟩ hvr
                · exact hok.out j (by omega) hlj)
            clear hs hv hok
            cases v
            · have hok2 : Hid (∀ j, j < q + 1 → lisS (sm S j) = true → (rowB H j).length = n) := by
                rcases hok1.out with h | h
                · exact absurd h.1 (by simp)
                · exact h
              clear hok1
              clear pb pp hrow
              go_wp2
              refine wp_region_held_drew (S := fun X => X.cell? ⟨wr.heap.size, 0, none⟩ = some (.int .u8 k) ∧ X.cell? ⟨wr.heap.size, 1, none⟩ = some (.string nm) ∧ X.cell? ⟨wr.heap.size, 2, none⟩ = some (.int .u8 op) ∧ X.cell? ⟨wr.heap.size, 3, none⟩ = some (.string vl) ∧ X.cell? ⟨wr.heap.size, 4, none⟩ = some (.bool fo) ∧ X.cell? ⟨wr.heap.size, 5, none⟩ = some (.int .i64 a) ∧ X.cell? ⟨wr.heap.size, 6, none⟩ = some (.int .i64 b) ∧ X.cell? ⟨wr.heap.size, 7, none⟩ = some (.bool f) ∧ X.cell? ⟨wr.heap.size, 8, none⟩ = some (.slice LA ln lc)) (by kernel_rfl) ⟨t0, t1, t2, t3, t4, t5, t6, t7, t8⟩ (fun hHeld => ?_)
              refine heldTake 0 36 (.agg #[.int .u8 k, .string nm, .int .u8 op, .string vl, .bool fo, .int .i64 a, .int .i64 b, .bool f, .slice LA ln lc]) (by kernel_rfl) (by kernel_rfl) (by kernel_rfl) (by kernel_rfl) (fun _ _ _ h => h) (by rfl) ?_ (by assumption) ?_
              · intro W hW
                try dsimp only at hW
                simp only [List.getElem?_toArray, List.getElem?_cons_zero, Option.map_some, Option.some.injEq]
                go_simp
              try simp only [Act.put, List.setIfInBounds_toArray, List.set_cons_zero, List.set_cons_succ]
              refine wpAnyH_ready (rs := [1]) (by kernel_rfl) (by simp) (AllReadyH.cons rfl (fun K hK => ?_) AllReadyH.nil)
              go_simp
              go_at_call 102
              (with_reducible refine (listed_at k nm op vl fo a b f LA ln lc false hv'.out _).mono ?_)
              rintro e x1 ⟨rfl, hx1⟩
              refine hK.out _ _ ⟨cell_later hx1 t0, cell_later hx1 t1, cell_later hx1 t2, cell_later hx1 t3, cell_later hx1 t4, cell_later hx1 t5, cell_later hx1 t6, cell_later hx1 t7, cell_later hx1 t8⟩ (fun hHeld1 => ?_)
              clear hK K hHeld
              try simp only [Act.put, List.setIfInBounds_toArray, List.set_cons_zero, List.set_cons_succ]
              refine heldTake 2 38 (.bool false) (by kernel_rfl) (by kernel_rfl) (by kernel_rfl) (by kernel_rfl) (fun _ _ _ h => h) (by rfl) ?_ (by assumption) ?_
              · intro W hW
                try dsimp only at hW
                simp only [List.getElem?_toArray, List.getElem?_cons_succ, List.getElem?_cons_zero, Option.map_some, Option.some.injEq]
                go_simp
              try simp only [Act.put, List.setIfInBounds_toArray, List.set_cons_zero, List.set_cons_succ]
              refine heldSkip 3 39 (by kernel_rfl) (by kernel_rfl) (by kernel_rfl) (by kernel_rfl) (fun _ _ _ h => h) (by rfl) (by assumption) ?_
              try simp only [Act.put, List.setIfInBounds_toArray, List.set_cons_zero, List.set_cons_succ]
              refine heldSkip 4 40 (by kernel_rfl) (by kernel_rfl) (by kernel_rfl) (by kernel_rfl) (fun _ _ _ h => h) (by rfl) (by assumption) ?_
              try simp only [Act.put, List.setIfInBounds_toArray, List.set_cons_zero, List.set_cons_succ]
              refine heldSkip 5 41 (by kernel_rfl) (by kernel_rfl) (by kernel_rfl) (by kernel_rfl) (fun _ _ _ h => h) (by rfl) (by assumption) ?_
              try simp only [Act.put, List.setIfInBounds_toArray, List.set_cons_zero, List.set_cons_succ]
              refine heldSkip 6 42 (by kernel_rfl) (by kernel_rfl) (by kernel_rfl) (by kernel_rfl) (fun _ _ _ h => h) (by rfl) (by assumption) ?_
              try simp only [Act.put, List.setIfInBounds_toArray, List.set_cons_zero, List.set_cons_succ]
              refine heldSkip 7 43 (by kernel_rfl) (by kernel_rfl) (by kernel_rfl) (by kernel_rfl) (fun _ _ _ h => h) (by rfl) (by assumption) ?_
              try simp only [Act.put, List.setIfInBounds_toArray, List.set_cons_zero, List.set_cons_succ]
              refine heldSkip 8 44 (by kernel_rfl) (by kernel_rfl) (by kernel_rfl) (by kernel_rfl) (fun _ _ _ h => h) (by rfl) (by assumption) ?_
              try simp only [Act.put, List.setIfInBounds_toArray, List.set_cons_zero, List.set_cons_succ]
              refine heldSkip 9 45 (by kernel_rfl) (by kernel_rfl) (by kernel_rfl) (by kernel_rfl) (fun _ _ _ h => h) (by rfl) (by assumption) ?_
              try simp only [Act.put, List.setIfInBounds_toArray, List.set_cons_zero, List.set_cons_succ]
              refine heldSkip 10 46 (by kernel_rfl) (by kernel_rfl) (by kernel_rfl) (by kernel_rfl) (fun _ _ _ h => h) (by rfl) (by assumption) ?_
              try simp only [Act.put, List.setIfInBounds_toArray, List.set_cons_zero, List.set_cons_succ]
              refine heldSkip 11 47 (by kernel_rfl) (by kernel_rfl) (by kernel_rfl) (by kernel_rfl) (fun _ _ _ h => h) (by rfl) (by assumption) ?_
              try simp only [Act.put, List.setIfInBounds_toArray, List.set_cons_zero, List.set_cons_succ]
              refine heldTake 12 48 (.bool false) (by kernel_rfl) (by kernel_rfl) (by kernel_rfl) (by kernel_rfl) (fun _ _ _ h => h) (by rfl) ?_ (by assumption) ?_
              · intro W hW
                try dsimp only at hW
                simp only [List.getElem?_toArray, List.getElem?_cons_succ, List.getElem?_cons_zero, Option.map_some, Option.some.injEq]
                go_simp
              try simp only [Act.put, List.setIfInBounds_toArray, List.set_cons_zero, List.set_cons_succ]
              refine wpAnyH_done (by kernel_rfl) ?_ _
              go_wp2
              go_roundw
              case rel => exact ⟨q + 1, by omega, by go_num, Below.on hz0.drew hx1, hok2⟩
              case measure => simp [intOf]; omega
            · by_cases hrn : (rowB H q).length = n
              · have hok2 : Hid (∀ j, j < q + 1 → lisS (sm S j) = true → (rowB H j).length = n) := by
                  rcases hok1.out with h | h
                  · exact absurd hrn h.2
                  · exact h
                clear hok1
                rw [hrn] at hrow
                have pr := cell_later hzr hrow
                clear hrn
                go_wp2
                go_region_held3 (fun X => X.cell? ⟨w.heap.size, 0, none⟩ = some (.slice A n c) ∧ X.cell? ⟨w.heap.size + 1 + 1, 0, none⟩ = some (.slice (some ⟨bh, oh, none⟩) tn tc) ∧ X.cell? ⟨bh, oh + q, none⟩ = some (.slice rA n rC) ∧ X.cell? ⟨wr.heap.size, 0, none⟩ = some (.int .u8 k) ∧ X.cell? ⟨wr.heap.size, 1, none⟩ = some (.string nm) ∧ X.cell? ⟨wr.heap.size, 2, none⟩ = some (.int .u8 op) ∧ X.cell? ⟨wr.heap.size, 3, none⟩ = some (.string vl) ∧ X.cell? ⟨wr.heap.size, 4, none⟩ = some (.bool fo) ∧ X.cell? ⟨wr.heap.size, 5, none⟩ = some (.int .i64 a) ∧ X.cell? ⟨wr.heap.size, 6, none⟩ = some (.int .i64 b) ∧ X.cell? ⟨wr.heap.size, 7, none⟩ = some (.bool f) ∧ X.cell? ⟨wr.heap.size, 8, none⟩ = some (.slice LA ln lc)) (first | exact ⟨pb, pp, pr, t0, t1, t2, t3, t4, t5, t6, t7, t8⟩ | exact ⟨ub, up, ur, u0, u1, u2, u3, u4, u5, u6, u7, u8⟩) (first | (go_at_call 102; (with_reducible refine (listed_at k nm op vl fo a b f LA ln lc true hv'.out _).mono ?_); rintro e x1 ⟨rfl, hx1⟩; have ub := cell_later hx1 pb; have up := cell_later hx1 pp; have ur := cell_later hx1 pr; have u0 := cell_later hx1 t0; have u1 := cell_later hx1 t1; have u2 := cell_later hx1 t2; have u3 := cell_later hx1 t3; have u4 := cell_later hx1 t4; have u5 := cell_later hx1 t5; have u6 := cell_later hx1 t6; have u7 := cell_later hx1 t7; have u8 := cell_later hx1 t8))
                go_wp2
                go_roundw
                case rel => exact ⟨q + 1, by omega, by go_num, Below.on hz0.drew hx1, hok2⟩
                case measure => simp [intOf]; omega
              · exact absurd (by
                  have h5 := h3'.out q (by omega)
                  rw [hs'.out] at h5
                  exact h5 hv'.out) hrn
        · obtain rfl : q = tn := by omega
          have hrows : rowsB n S H := fun k hk hlk => hok.out k (by omega) hlk
          obtain ⟨XL, hXL⟩ : ∃ X, calL T tag S m H = X := ⟨_, rfl⟩
          have hV : Hid (calL T tag S m H = XL) := hXL
          have hrl : Hid (XL.length = n) := by show _ = _; rw [← hXL, calL_len, hl]
          have hts := hide (show ∀ j, j < n → XL.take (j + 1) = XL.take j ++ [matC T j tag S m (fun k => bx (rowB H k) j) q] from fun j hj => by rw [← hXL, ← hsl]; exact take_calL T tag S m H (by omega))
          have hrw := hide (show ∀ k, k < q → lisS (sm S k) = true → (rowB H k).length = n from fun k hk hlk => hok.out k hk hlk)
          have htr := cell_later hb ht2
          have htbr := cell_later hb htb2
          clear hXL hrows hok ht2 htb2 hbox2 hp2 hb hB2
          generalize wr = w3 at *
          go_wp2
          go_loopw [13, 53] (fun v s wr => ∃ j : Nat, j ≤ n ∧ s = .int .i64 j ∧ OwnB wr w3.heap.size v (XL.take j) ∧ Below w3.heap.size w3 wr) (fun _ s _ => n - (intOf s).toNat)
          case atStart => exact ⟨0, Nat.zero_le _, rfl, by rw [List.take_zero]; exact OwnB.nil _ _, Below.refl _ _⟩
          case round =>
            obtain ⟨j, hj, rfl, hown, hb4⟩ := hrel
            have hBw := Below.on hBr hb4
            have hlq : (XL.take j).length ≤ 64 := by rw [List.length_take, hrl.out]; omega
            by_cases hlt : j < n
            · have hw1 := below_alloc (Below.refl wr.heap.size wr) (.cells #[.int .i64 j] 3)
              have pb := cell_later hw1 (cell_later hb4 hboxr)
              have pt := cell_later hw1 (cell_later hb4 htr)
              have ptb := cell_later hw1 (cell_later hb4 htbr)
              have pp := cell_later hw1 (cell_later hb4 hpr)
              have pi : (wr.alloc (.cells #[.int .i64 j] 3)).cell? ⟨wr.heap.size, 0, none⟩ = some (.int .i64 j) := by go_simp
              have hBa := Below.on hBw hw1
              have hx := hide (compMatch2_ok A n c T j tag SA q sc S m (w.heap.size + 1 + 1) wr.heap.size (fun k => bx (rowB H k) j) _ (hT.out.below hBa) (hS.out.below hBa) hlt hg'.out hmd'.out hck'.out (hm'.out.below hBa) (fun W hW k hk hlk => by
                obtain ⟨bh, oh, hA, hC, rfl, hbh, hhc, hhr⟩ := (hH.out.below (Below.on hBa hW)).2.2 (by omega)
                have hlen : (rowB H k).length = n := hrw.out k hk hlk
                exact told2_ok _ _ _ _ _ hA hC (fun k => rowB H k) j k bh oh W (cell_later hW pp) (cell_later hW pi) hk (hhc k hk) (hhr k hk).1 (show j < (rowB H k).length by omega) rfl))
              obtain ⟨rb, hrb⟩ : ∃ rb, matC T j tag S m (fun k => bx (rowB H k) j) q = rb := ⟨_, rfl⟩
              have hts1 := hts.out j hlt
              rw [hrb] at hx hts1
              have hts1' := hide hts1
              clear hrb hts1
              go_wp2_with fail
              (with_reducible refine hx.out.mono ?_)
              rintro e5 w5 ⟨rfl, hb5⟩
              have hown5 := hown.below (Below.on hw1 hb5)
              have hB5 := hide (Below.on hb4 (Below.on hw1 hb5))
              have hsz5 : w3.heap.size ≤ w5.heap.size := hB5.out.size
              clear hown hb5 pb pt ptb pp pi hx
              go_wp2_with (at_builtin; refine wpList_pushB rfl _ _ rfl hown5 rb _ rfl rfl (by omega) hsz5 ?_)
              intro A6 c6 w6 hown6 hgr
              have hB6 := hide (hgr.below (Nat.le_refl _) hB5.out)
              have hown6' := hide hown6
              clear hgr hown6 hown5
              go_wp2
              go_roundw
              case rel => exact ⟨j + 1, by omega, by go_num, by rw [hts1'.out]; exact hown6'.out, hB6.out⟩
              case measure => simp [intOf]; omega
            · have he : Hid (XL.take j = XL) := List.take_of_length_le (by rw [hrl.out]; omega)
              rw [he.out] at hown
              have hown6 := hide hown
              obtain ⟨A5, c5, rfl, h51, h52, hI5⟩ := hown.isBools (by rw [hrl.out]; omega)
              clear hI5 hown
              go_wp2
              go_ret2
              rw [hV.out]
              exact ⟨A5, c5, rfl, own_base hown6.out hBr.size, hBw⟩
set_option maxRecDepth 100000 in
set_option maxHeartbeats 1000000 in
theorem nAllO_ok (A AB : Option Addr) (n c m cb : Nat) (T : List ANode) (B : List Bool) (a b : Int) (last : Bool) (w : World) (h : IsTree w A n T) (hL : IsBools w AB m B) (h0 : tolE T m = 0) (hv : anbB a b = true) :
    Calls Tryz.prog 99 #[.agg #[.slice A n c], .agg #[.int .i64 a, .int .i64 b], .bool last, .slice AB m cb] w (MadeOB w ((List.range T.length).map fun i => nmatF T i a b last B)) := by
  have hT := hide h
  have hl := h.1
  clear h
  have hB0 := below_alloc (below_alloc (Below.refl w.heap.size w) (.cells #[.slice A n c] 24)) (.cells #[.int .i64 a, .int .i64 b] 39)
  have hbox0 : ((w.alloc (.cells #[.slice A n c] 24)).alloc (.cells #[.int .i64 a, .int .i64 b] 39)).cell? ⟨w.heap.size, 0, none⟩ = some (.slice A n c) := by go_simp
  have hx0 : ((w.alloc (.cells #[.slice A n c] 24)).alloc (.cells #[.int .i64 a, .int .i64 b] 39)).cell? ⟨w.heap.size + 1, 0, none⟩ = some (.int .i64 a) := by go_simp
  have hy0 : ((w.alloc (.cells #[.slice A n c] 24)).alloc (.cells #[.int .i64 a, .int .i64 b] 39)).cell? ⟨w.heap.size + 1, 1, none⟩ = some (.int .i64 b) := by go_simp
  have hL' := hide hL
  obtain rfl := hL.1
  clear hL
  · obtain ⟨hg, hBn⟩ := tolE_zero.1 h0
    have hg' := hide hg
    have hL2 := hide (isBools_of hL'.out (show B.length = n by omega))
    have hn64 : n ≤ 64 := by have := ((goodB_iff T).1 hg).2.1; omega
    have hBn' : B.length = n := by omega
    rw [hBn'] at h0 ⊢
    · have he : anbE a b = 0 := if_pos hv
      have hr2 : Hid (((List.range T.length).map fun i => nmatF T i a b last B) = (List.range n).map fun i => nmatF T i a b last B) := by show _ = _; rw [hl]
      rw [hr2.out]
      have hv' := hide hv
      clear hv hg hBn hBn'
      go_enter Tryz.func99, Tryz.ntmps99
      go_wp2_with fail
      refine (ncheck_ok _ _ _ _ _ _ T _ (hT.out.below hB0)).mono ?_
      rintro e w1 ⟨rfl, hb1⟩
      have hbox1 := cell_later hb1 hbox0
      have hB1 := Below.on hB0 hb1
      have hx1 := cell_later hb1 hx0
      have hy1 := cell_later hb1 hy0
      go_wp2_with fail
      refine (anbCheck_ok a b _).mono ?_
      rintro e w2 ⟨rfl, hb2⟩
      have hbox2 := cell_later hb2 hbox1
      have hB2 := Below.on hB1 hb2
      have hx2 := cell_later hb2 hx1
      have hy2 := cell_later hb2 hy1
      go_wp2
      clear hb1 hb2 hbox0 hbox1 hx0 hx1 hy0 hy1 hB0 hB1
      have hlt2 : w.heap.size + 1 < w2.heap.size := cell_in hx2
      go_loopw [12, 28] (fun v s wr => ∃ k : Nat, k ≤ n ∧ s = .int .i64 k ∧ OwnB wr (w.heap.size + 2) v ((List.range k).map fun i => nmatF T i a b last B) ∧ Below w.heap.size w wr ∧ w.heap.size + 2 ≤ wr.heap.size ∧ wr.cell? ⟨w.heap.size, 0, none⟩ = some (.slice A n c) ∧ wr.cell? ⟨w.heap.size + 1, 0, none⟩ = some (.int .i64 a) ∧ wr.cell? ⟨w.heap.size + 1, 1, none⟩ = some (.int .i64 b)) (fun _ s _ => n - (intOf s).toNat)
      case atStart => exact ⟨0, Nat.zero_le _, rfl, OwnB.nil _ _, hB2, by omega, hbox2, hx2, hy2⟩
      case round =>
        clear hB2 hbox2 hx2 hy2 hlt2 h0 he
        obtain ⟨k, hk, rfl, hown, hB3, hsz, hbox3, hx3, hy3⟩ := hrel
        by_cases hlt : k < n
        · go_wp2_with fail
          refine (nmatch_ok _ _ _ _ _ T B k a b last _ (hT.out.below hB3) (hL2.out.below hB3) hg'.out hlt hv'.out).mono ?_
          rintro e w4 ⟨rfl, hb4⟩
          have hown4 := hown.below hb4
          have hB4 := Below.on hB3 hb4
          have hbox4 := cell_later hb4 hbox3
          have hx4 := cell_later hb4 hx3
          have hy4 := cell_later hb4 hy3
          have hsz4 : w.heap.size + 2 ≤ w4.heap.size := Nat.le_trans hsz hb4.size
          clear hown
          go_wp2_with (at_builtin; refine wpList_pushB rfl _ _ rfl hown4 (nmatF T k a b last B) _ rfl rfl (by simp; omega) hsz4 ?_)
          intro A5 c5 w5 hown5 hgr
          have hB5 := hgr.below (by omega) hB4
          have hbox5 : w5.cell? ⟨w.heap.size, 0, none⟩ = some (.slice A n c) := (World.cell?_of_block (hgr.1 w.heap.size (by omega))).trans hbox4
          have hx5 : w5.cell? ⟨w.heap.size + 1, 0, none⟩ = some (.int .i64 a) := (World.cell?_of_block (hgr.1 (w.heap.size + 1) (by omega))).trans hx4
          have hy5 : w5.cell? ⟨w.heap.size + 1, 1, none⟩ = some (.int .i64 b) := (World.cell?_of_block (hgr.1 (w.heap.size + 1) (by omega))).trans hy4
          have hs5 := hgr.lt
          have hown5' := hide hown5
          clear hgr hown4 hown5
          go_wp2
          go_roundw
          case rel => exact ⟨k + 1, by omega, by go_num, by have := hown5'.out; rw [mapr_succ]; exact this, hB5, by omega, hbox5, hx5, hy5⟩
          case measure => simp [intOf]; omega
        · obtain rfl : n = k := by omega
          have hown6 := hide hown
          obtain ⟨A', c', rfl, -, -, hI'⟩ := hown.isBools (by simp; omega)
          clear hI' hown
          go_wp2
          go_ret2
          exact ⟨A', c', rfl, own_base hown6.out (by omega), hB3⟩
end Go.Proofs.YtljloicgjgbplaaGreat
