/- Walks: which elements match a compound, by the program. Condition: the variable of the library that strings.Contains reads holds a number. -/
import Derived.Test.YtbedomopojiehaaVa
import Derived.Test.YtbedomopojiehaaCw
import Derived.Deep.RegionHeld3
namespace Go.Proofs.Ytbedomopojiehaa
open Go.RowKit

def rowsB (n : Nat) (S : List Sim) (H : List (List Bool)) : Prop := ∀ k, k < S.length → lisS (sm S k) = true → (rowB H k).length = n
instance (n : Nat) (S : List Sim) (H : List (List Bool)) : Decidable (rowsB n S H) := by unfold rowsB; infer_instance
def calE (T : List ANode) (tag : ByteArray) (S : List Sim) (m : Int) (H : List (List Bool)) : Int := if ccE T tag S m = 0 then (if H.length = S.length ∧ rowsB T.length S H then 0 else 2) else ccE T tag S m
def calF (T : List ANode) (tag : ByteArray) (S : List Sim) (m : Int) (H : List (List Bool)) (i : Nat) : Bool := matC T i tag S m (fun k => bx (rowB H k) i) S.length
def calL (T : List ANode) (tag : ByteArray) (S : List Sim) (m : Int) (H : List (List Bool)) : List Bool := (List.range T.length).map (calF T tag S m H)
def calV (T : List ANode) (tag : ByteArray) (S : List Sim) (m : Int) (H : List (List Bool)) : List Bool := if calE T tag S m H = 0 then calL T tag S m H else []
theorem calL_len (T : List ANode) (tag : ByteArray) (S : List Sim) (m : Int) (H : List (List Bool)) : (calL T tag S m H).length = T.length := by simp [calL]
theorem take_calL (T : List ANode) (tag : ByteArray) (S : List Sim) (m : Int) (H : List (List Bool)) {q : Nat} (hq : q < T.length) : (calL T tag S m H).take (q + 1) = (calL T tag S m H).take q ++ [calF T tag S m H q] := by
  rw [List.take_succ_eq_append_getElem (by rw [calL_len]; exact hq)]
  simp [calL]
section
variable {P : Program} {md : Region.Mode} {ops : Array Oper} {Q : Exit → Act → World → Prop} {S : World → Prop}
/-- An operation of a drawn region whose guard is false, taken first. -/
theorem heldSkip (i d : Nat) {fuel : Nat} {listed : Array Bool} {a : Act} {w : World} (hd : (ops[i]?).map (·.dst) = some (some d))
    (hs : Region.noSelect ops = true) (hf : Region.free md ops listed i = true) (hr : (Region.ready md ops listed).contains i = true)
    (hQ : ∀ c a w, Q (.panic c) (a.put (some d) undef) w → Q (.panic c) a w) (hw : (ops[i]?).map (fun o => Region.wanted o (yielded ops a.tmps)) = some false) (hS : S w)
    (h : wpAnyH P md ops Q S fuel (listed.setIfInBounds i true) (a.put (some d) undef) w) : wpAnyH P md ops Q S (fuel + 1) listed a w := by
  cases ho : ops[i]? with
  | none => rw [ho] at hd; cases hd
  | some o =>
    rw [ho] at hd hw
    simp only [Option.map_some, Option.some.injEq] at hd hw
    exact wpAnyH_take ho hs hf hr (by rw [hd]; exact hQ) (Or.inr ⟨hw, rfl⟩) hS (by rw [hd]; exact h)
/-- An operation of a drawn region that is wanted and yields v in every world that meets S, taken first. -/
theorem heldTake (i d : Nat) (v : Value) {fuel : Nat} {listed : Array Bool} {a : Act} {w : World} (hd : (ops[i]?).map (·.dst) = some (some d))
    (hs : Region.noSelect ops = true) (hf : Region.free md ops listed i = true) (hr : (Region.ready md ops listed).contains i = true)
    (hQ : ∀ c a w, Q (.panic c) (a.put (some d) v) w → Q (.panic c) a w) (hw : (ops[i]?).map (fun o => Region.wanted o (yielded ops a.tmps)) = some true)
    (hy : ∀ w, S w → (ops[i]?).map (fun o => (execOp a.eval o).run P w) = some (.ok (.value v) w)) (hS : S w)
    (h : wpAnyH P md ops Q S fuel (listed.setIfInBounds i true) (a.put (some d) v) w) : wpAnyH P md ops Q S (fuel + 1) listed a w := by
  cases ho : ops[i]? with
  | none => rw [ho] at hd; cases hd
  | some o =>
    rw [ho] at hd hw hy
    simp only [Option.map_some, Option.some.injEq] at hd hw hy
    exact wpAnyH_take ho hs hf hr (by rw [hd]; exact hQ) (Or.inl ⟨hw, hy⟩) hS (by rw [hd]; exact h)
end
set_option maxRecDepth 100000 in
set_option maxHeartbeats 4000000 in
theorem compAll_ok (A : Option Addr) (n c : Nat) (T : List ANode) (tag : ByteArray) (SA : Option Addr) (sn sc : Nat) (S : List Sim) (m : Int) (TA : Option Addr) (tn tc : Nat) (H : List (List Bool)) (w : World) (h : IsTree w A n T) (hS0 : IsSims w SA sn S) (hH0 : IsBB w TA tn H) (hmx : HasMax w) :
    Calls Try.prog 43 #[.agg #[.slice A n c], .agg #[.string tag, .slice SA sn sc], .int .i64 m, .slice TA tn tc] w
      (MadeB w (calV T tag S m H) (calE T tag S m H)) := by
  have hT := hide h
  have hl := h.1
  have hm' := hide hmx
  have hS := hide hS0
  have hsl := hS0.1
  have hH := hide hH0
  have hhl := hH0.1
  have hB0 := below_alloc (below_alloc (below_alloc (Below.refl w.heap.size w) (.cells #[.slice A n c] 43)) (.cells #[.string tag, .slice SA sn sc] 65)) (.cells #[.slice TA tn tc] 74)
  have hbox0 : (((w.alloc (.cells #[.slice A n c] 43)).alloc (.cells #[.string tag, .slice SA sn sc] 65)).alloc (.cells #[.slice TA tn tc] 74)).cell? ⟨w.heap.size, 0, none⟩ = some (.slice A n c) := by go_simp
  have ht0 : (((w.alloc (.cells #[.slice A n c] 43)).alloc (.cells #[.string tag, .slice SA sn sc] 65)).alloc (.cells #[.slice TA tn tc] 74)).cell? ⟨w.heap.size + 1, 0, none⟩ = some (.string tag) := by go_simp
  have htb0 : (((w.alloc (.cells #[.slice A n c] 43)).alloc (.cells #[.string tag, .slice SA sn sc] 65)).alloc (.cells #[.slice TA tn tc] 74)).cell? ⟨w.heap.size + 1, 1, none⟩ = some (.slice SA sn sc) := by go_simp
  have hp0 : (((w.alloc (.cells #[.slice A n c] 43)).alloc (.cells #[.string tag, .slice SA sn sc] 65)).alloc (.cells #[.slice TA tn tc] 74)).cell? ⟨w.heap.size + 1 + 1, 0, none⟩ = some (.slice TA tn tc) := by go_simp
  clear h hmx hS0 hH0
  obtain ⟨cc, hcc0⟩ : ∃ x, ccE T tag S m = x := ⟨_, rfl⟩
  have hcc := hide hcc0
  by_cases h1 : cc = 0
  · subst h1
    obtain ⟨hg, hmd, hck⟩ := ccE_zero.1 hcc0
    have hn64 : n ≤ 64 := by have := ((goodB_iff T).1 hg).2.1; omega
    have hs64 : sn ≤ 64 := by have := hck.2.1; omega
    by_cases h2 : tn = sn
    · subst h2
      have hE : Hid (calE T tag S m H = if rowsB n S H then 0 else 2) := by
        show _ = _
        unfold calE
        rw [if_pos hcc0, hl]
        by_cases h3 : rowsB n S H
        · rw [if_pos ⟨by omega, h3⟩, if_pos h3]
        · rw [if_neg (fun h => h3 h.2), if_neg h3]
      have hg' := hide hg
      have hmd' := hide hmd
      have hck' := hide hck
      clear hcc0 hg hmd hck
      go_enter Try.func43, Try.ntmps43
      go_wp2_with fail
      refine (ccheck19_at T tag S m 0 hcc.out _ _ c _ _ sc _ (hT.out.below hB0) (hS.out.below hB0) (hm'.out.below hB0)).mono ?_
      rintro e w2 ⟨rfl, hb2⟩
      have hB2 := Below.on hB0 hb2
      have hbox2 := cell_later hb2 hbox0
      have ht2 := cell_later hb2 ht0
      have htb2 := cell_later hb2 htb0
      have hp2 := cell_later hb2 hp0
      clear hb2 hbox0 ht0 htb0 hp0
      go_wp2
      go_loopw [31] (fun s wr => ∃ q : Nat, q ≤ tn ∧ s = .int .i64 q ∧ Below w2.heap.size w2 wr ∧ Hid (∀ j, j < q → lisS (sm S j) = true → (rowB H j).length = n)) (fun s _ => tn - (intOf s).toNat)
      case atStart => exact ⟨0, Nat.zero_le _, rfl, Below.refl _ _, fun j hj => absurd hj (by omega)⟩
      case round =>
        obtain ⟨q, hq, rfl, hb, hok⟩ := hrel
        have hBr := Below.on hB2 hb
        have hboxr := cell_later hb hbox2
        have hpr := cell_later hb hp2
        by_cases hlt : q < tn
        · obtain ⟨bb, off, rfl, hbl, hc⟩ := hS.out.2.2 (by omega)
          obtain ⟨bh, oh, hA, hC, rfl, hbh, hhc, hhr⟩ := hH.out.2.2 (by omega)
          have hin := (hc q hlt).later hBr
          have hrow := (old hBr _ _ hbh).trans (hhc q hlt)
          have q1 : (0 : Int) ≤ (q : Int) := by omega
          have q2 : (q : Int) < (tn : Int) := by omega
          have hbl2 := Nat.lt_of_lt_of_le hbl hBr.size
          clear hc hhc hhr
          cases hs : sm S q with
          | mk k nm op vl fo a b f LA ln lc =>
            rw [hs] at hin
            obtain ⟨s0, s1, s2, s3, s4, s5, s6, s7, s8⟩ := hin
            have hs' := hide hs
            obtain ⟨v, hv⟩ : ∃ v, lisS ⟨k, nm, op, vl, fo, a, b, f, LA, ln, lc⟩ = v := ⟨_, rfl⟩
            have hv' := hide hv
            have hz0 := below_alloc hb (.cells #[.int .u8 k, .string nm, .int .u8 op, .string vl, .bool fo, .int .i64 a, .int .i64 b, .bool f, .slice LA ln lc] 26)
            have hzr := below_alloc (Below.refl wr.heap.size wr) (.cells #[.int .u8 k, .string nm, .int .u8 op, .string vl, .bool fo, .int .i64 a, .int .i64 b, .bool f, .slice LA ln lc] 26)
            obtain ⟨t0, t1, t2, t3, t4, t5, t6, t7, t8⟩ := simAt_at wr wr.heap.size rfl k nm op vl fo a b f LA ln lc
            generalize hA q = rA at hrow
            generalize hC q = rC at hrow
            have pb := cell_later hzr hboxr
            have pp := cell_later hzr hpr
            have hok1 := hide (show v = true ∧ ¬ (rowB H q).length = n ∨ ∀ j, j < q + 1 → lisS (sm S j) = true → (rowB H j).length = n from by
              by_cases hvr : v = true ∧ ¬ (rowB H q).length = n
              · exact .inl hvr
              · refine .inr fun j hj hlj => ?_
                by_cases hjq : j = q
                · subst hjq
                  rw [hs, hv] at hlj
                  by_cases hrr : (rowB H j).length = n
                  · exact hrr
                  · exact absurd ⟨hlj, hrr⟩ hvr
                · exact hok.out j (by omega) hlj)
            clear hs hv hok
            cases v
            · have hok2 : Hid (∀ j, j < q + 1 → lisS (sm S j) = true → (rowB H j).length = n) := by
                rcases hok1.out with h | h
                · exact absurd h.1 (by simp)
                · exact h
              clear hok1
              clear pb pp hrow
              go_wp2
              refine wp_region_held_drew (S := fun X => X.cell? ⟨wr.heap.size, 0, none⟩ = some (.int .u8 k) ∧ X.cell? ⟨wr.heap.size, 1, none⟩ = some (.string nm) ∧ X.cell? ⟨wr.heap.size, 2, none⟩ = some (.int .u8 op) ∧ X.cell? ⟨wr.heap.size, 3, none⟩ = some (.string vl) ∧ X.cell? ⟨wr.heap.size, 4, none⟩ = some (.bool fo) ∧ X.cell? ⟨wr.heap.size, 5, none⟩ = some (.int .i64 a) ∧ X.cell? ⟨wr.heap.size, 6, none⟩ = some (.int .i64 b) ∧ X.cell? ⟨wr.heap.size, 7, none⟩ = some (.bool f) ∧ X.cell? ⟨wr.heap.size, 8, none⟩ = some (.slice LA ln lc)) (by kernel_rfl) ⟨t0, t1, t2, t3, t4, t5, t6, t7, t8⟩ (fun hHeld => ?_)
              refine heldTake 0 36 (.agg #[.int .u8 k, .string nm, .int .u8 op, .string vl, .bool fo, .int .i64 a, .int .i64 b, .bool f, .slice LA ln lc]) (by kernel_rfl) (by kernel_rfl) (by kernel_rfl) (by kernel_rfl) (fun _ _ _ h => h) (by rfl) ?_ (by assumption) ?_
              · intro W hW
                try dsimp only at hW
                simp only [List.getElem?_toArray, List.getElem?_cons_zero, Option.map_some, Option.some.injEq]
                go_simp
              try simp only [Act.put, List.setIfInBounds_toArray, List.set_cons_zero, List.set_cons_succ]
              refine wpAnyH_ready (rs := [1]) (by kernel_rfl) (by simp) (AllReadyH.cons rfl (fun K hK => ?_) AllReadyH.nil)
              go_simp
              go_at_call 71
              (with_reducible refine (listed_at k nm op vl fo a b f LA ln lc false hv'.out _).mono ?_)
              rintro e x1 ⟨rfl, hx1⟩
              refine hK.out _ _ ⟨cell_later hx1 t0, cell_later hx1 t1, cell_later hx1 t2, cell_later hx1 t3, cell_later hx1 t4, cell_later hx1 t5, cell_later hx1 t6, cell_later hx1 t7, cell_later hx1 t8⟩ (fun hHeld1 => ?_)
              clear hK K hHeld
              try simp only [Act.put, List.setIfInBounds_toArray, List.set_cons_zero, List.set_cons_succ]
              refine heldTake 2 38 (.bool false) (by kernel_rfl) (by kernel_rfl) (by kernel_rfl) (by kernel_rfl) (fun _ _ _ h => h) (by rfl) ?_ (by assumption) ?_
              · intro W hW
                try dsimp only at hW
                simp only [List.getElem?_toArray, List.getElem?_cons_succ, List.getElem?_cons_zero, Option.map_some, Option.some.injEq]
                go_simp
              try simp only [Act.put, List.setIfInBounds_toArray, List.set_cons_zero, List.set_cons_succ]
              refine heldSkip 3 39 (by kernel_rfl) (by kernel_rfl) (by kernel_rfl) (by kernel_rfl) (fun _ _ _ h => h) (by rfl) (by assumption) ?_
              try simp only [Act.put, List.setIfInBounds_toArray, List.set_cons_zero, List.set_cons_succ]
              refine heldSkip 4 40 (by kernel_rfl) (by kernel_rfl) (by kernel_rfl) (by kernel_rfl) (fun _ _ _ h => h) (by rfl) (by assumption) ?_
              try simp only [Act.put, List.setIfInBounds_toArray, List.set_cons_zero, List.set_cons_succ]
              refine heldSkip 5 41 (by kernel_rfl) (by kernel_rfl) (by kernel_rfl) (by kernel_rfl) (fun _ _ _ h => h) (by rfl) (by assumption) ?_
              try simp only [Act.put, List.setIfInBounds_toArray, List.set_cons_zero, List.set_cons_succ]
              refine heldSkip 6 42 (by kernel_rfl) (by kernel_rfl) (by kernel_rfl) (by kernel_rfl) (fun _ _ _ h => h) (by rfl) (by assumption) ?_
              try simp only [Act.put, List.setIfInBounds_toArray, List.set_cons_zero, List.set_cons_succ]
              refine heldSkip 7 43 (by kernel_rfl) (by kernel_rfl) (by kernel_rfl) (by kernel_rfl) (fun _ _ _ h => h) (by rfl) (by assumption) ?_
              try simp only [Act.put, List.setIfInBounds_toArray, List.set_cons_zero, List.set_cons_succ]
              refine heldSkip 8 44 (by kernel_rfl) (by kernel_rfl) (by kernel_rfl) (by kernel_rfl) (fun _ _ _ h => h) (by rfl) (by assumption) ?_
              try simp only [Act.put, List.setIfInBounds_toArray, List.set_cons_zero, List.set_cons_succ]
              refine heldSkip 9 45 (by kernel_rfl) (by kernel_rfl) (by kernel_rfl) (by kernel_rfl) (fun _ _ _ h => h) (by rfl) (by assumption) ?_
              try simp only [Act.put, List.setIfInBounds_toArray, List.set_cons_zero, List.set_cons_succ]
              refine heldSkip 10 46 (by kernel_rfl) (by kernel_rfl) (by kernel_rfl) (by kernel_rfl) (fun _ _ _ h => h) (by rfl) (by assumption) ?_
              try simp only [Act.put, List.setIfInBounds_toArray, List.set_cons_zero, List.set_cons_succ]
              refine heldSkip 11 47 (by kernel_rfl) (by kernel_rfl) (by kernel_rfl) (by kernel_rfl) (fun _ _ _ h => h) (by rfl) (by assumption) ?_
              try simp only [Act.put, List.setIfInBounds_toArray, List.set_cons_zero, List.set_cons_succ]
              refine heldTake 12 48 (.bool false) (by kernel_rfl) (by kernel_rfl) (by kernel_rfl) (by kernel_rfl) (fun _ _ _ h => h) (by rfl) ?_ (by assumption) ?_
              · intro W hW
                try dsimp only at hW
                simp only [List.getElem?_toArray, List.getElem?_cons_succ, List.getElem?_cons_zero, Option.map_some, Option.some.injEq]
                go_simp
              try simp only [Act.put, List.setIfInBounds_toArray, List.set_cons_zero, List.set_cons_succ]
              refine wpAnyH_done (by kernel_rfl) ?_ _
              go_wp2
              go_roundw
              case rel => exact ⟨q + 1, by omega, by go_num, Below.on hz0.drew hx1, hok2⟩
              case measure => simp [intOf]; omega
            · by_cases hrn : (rowB H q).length = n
              · have hok2 : Hid (∀ j, j < q + 1 → lisS (sm S j) = true → (rowB H j).length = n) := by
                  rcases hok1.out with h | h
                  · exact absurd hrn h.2
                  · exact h
                clear hok1
                rw [hrn] at hrow
                have pr := cell_later hzr hrow
                clear hrn
                go_wp2
                go_region_held3 (fun X => X.cell? ⟨w.heap.size, 0, none⟩ = some (.slice A n c) ∧ X.cell? ⟨w.heap.size + 1 + 1, 0, none⟩ = some (.slice (some ⟨bh, oh, none⟩) tn tc) ∧ X.cell? ⟨bh, oh + q, none⟩ = some (.slice rA n rC) ∧ X.cell? ⟨wr.heap.size, 0, none⟩ = some (.int .u8 k) ∧ X.cell? ⟨wr.heap.size, 1, none⟩ = some (.string nm) ∧ X.cell? ⟨wr.heap.size, 2, none⟩ = some (.int .u8 op) ∧ X.cell? ⟨wr.heap.size, 3, none⟩ = some (.string vl) ∧ X.cell? ⟨wr.heap.size, 4, none⟩ = some (.bool fo) ∧ X.cell? ⟨wr.heap.size, 5, none⟩ = some (.int .i64 a) ∧ X.cell? ⟨wr.heap.size, 6, none⟩ = some (.int .i64 b) ∧ X.cell? ⟨wr.heap.size, 7, none⟩ = some (.bool f) ∧ X.cell? ⟨wr.heap.size, 8, none⟩ = some (.slice LA ln lc)) (first | exact ⟨pb, pp, pr, t0, t1, t2, t3, t4, t5, t6, t7, t8⟩ | exact ⟨ub, up, ur, u0, u1, u2, u3, u4, u5, u6, u7, u8⟩) (first | (go_at_call 71; (with_reducible refine (listed_at k nm op vl fo a b f LA ln lc true hv'.out _).mono ?_); rintro e x1 ⟨rfl, hx1⟩; have ub := cell_later hx1 pb; have up := cell_later hx1 pp; have ur := cell_later hx1 pr; have u0 := cell_later hx1 t0; have u1 := cell_later hx1 t1; have u2 := cell_later hx1 t2; have u3 := cell_later hx1 t3; have u4 := cell_later hx1 t4; have u5 := cell_later hx1 t5; have u6 := cell_later hx1 t6; have u7 := cell_later hx1 t7; have u8 := cell_later hx1 t8))
                go_wp2
                go_roundw
                case rel => exact ⟨q + 1, by omega, by go_num, Below.on hz0.drew hx1, hok2⟩
                case measure => simp [intOf]; omega
              · have hq2 : Hid (calE T tag S m H = 2) := by
                  show _ = _
                  rw [hE.out]
                  exact if_neg (fun h => hrn (by
                    have h5 := h q (by omega)
                    rw [hs'.out] at h5
                    exact h5 hv'.out))
                have hV : Hid (calV T tag S m H = []) := by show _ = _; unfold calV; rw [if_neg (by rw [hq2.out]; omega)]
                obtain ⟨rl, hrl⟩ : ∃ x, (rowB H q).length = x := ⟨_, rfl⟩
                rw [hrl] at hrow hrn
                have pr := cell_later hzr hrow
                have g5 : ((rl : Int) != (n : Int)) = true := by rw [bne_iff_ne]; omega
                rw [hq2.out, hV.out]
                clear hrn hrl hok1 hE hq2 hV
                go_wp2
                go_region_held3 (fun X => X.cell? ⟨w.heap.size, 0, none⟩ = some (.slice A n c) ∧ X.cell? ⟨w.heap.size + 1 + 1, 0, none⟩ = some (.slice (some ⟨bh, oh, none⟩) tn tc) ∧ X.cell? ⟨bh, oh + q, none⟩ = some (.slice rA rl rC) ∧ X.cell? ⟨wr.heap.size, 0, none⟩ = some (.int .u8 k) ∧ X.cell? ⟨wr.heap.size, 1, none⟩ = some (.string nm) ∧ X.cell? ⟨wr.heap.size, 2, none⟩ = some (.int .u8 op) ∧ X.cell? ⟨wr.heap.size, 3, none⟩ = some (.string vl) ∧ X.cell? ⟨wr.heap.size, 4, none⟩ = some (.bool fo) ∧ X.cell? ⟨wr.heap.size, 5, none⟩ = some (.int .i64 a) ∧ X.cell? ⟨wr.heap.size, 6, none⟩ = some (.int .i64 b) ∧ X.cell? ⟨wr.heap.size, 7, none⟩ = some (.bool f) ∧ X.cell? ⟨wr.heap.size, 8, none⟩ = some (.slice LA ln lc)) (first | exact ⟨pb, pp, pr, t0, t1, t2, t3, t4, t5, t6, t7, t8⟩ | exact ⟨ub, up, ur, u0, u1, u2, u3, u4, u5, u6, u7, u8⟩) (first | (go_at_call 71; (with_reducible refine (listed_at k nm op vl fo a b f LA ln lc true hv'.out _).mono ?_); rintro e x1 ⟨rfl, hx1⟩; have ub := cell_later hx1 pb; have up := cell_later hx1 pp; have ur := cell_later hx1 pr; have u0 := cell_later hx1 t0; have u1 := cell_later hx1 t1; have u2 := cell_later hx1 t2; have u3 := cell_later hx1 t3; have u4 := cell_later hx1 t4; have u5 := cell_later hx1 t5; have u6 := cell_later hx1 t6; have u7 := cell_later hx1 t7; have u8 := cell_later hx1 t8))
                go_wp2
                go_ret2
                exact madeB_nil (Below.on (Below.on hB2 hz0).drew hx1)
        · obtain rfl : q = tn := by omega
          have hrows : rowsB n S H := fun k hk hlk => hok.out k (by omega) hlk
          have hE0 : Hid (calE T tag S m H = 0) := by show _ = _; rw [hE.out, if_pos hrows]
          obtain ⟨XL, hXL⟩ : ∃ X, calL T tag S m H = X := ⟨_, rfl⟩
          have hV : Hid (calV T tag S m H = XL) := by show _ = _; unfold calV; rw [if_pos hE0.out, hXL]
          have hrl : Hid (XL.length = n) := by show _ = _; rw [← hXL, calL_len, hl]
          have hts := hide (show ∀ j, j < n → XL.take (j + 1) = XL.take j ++ [matC T j tag S m (fun k => bx (rowB H k) j) q] from fun j hj => by rw [← hXL, ← hsl]; exact take_calL T tag S m H (by omega))
          have hrw := hide (show ∀ k, k < q → lisS (sm S k) = true → (rowB H k).length = n from fun k hk hlk => hok.out k hk hlk)
          have htr := cell_later hb ht2
          have htbr := cell_later hb htb2
          clear hXL hE hrows hok ht2 htb2 hbox2 hp2 hb hB2
          generalize wr = w3 at *
          go_wp2
          go_loopw [13, 53] (fun v s wr => ∃ j : Nat, j ≤ n ∧ s = .int .i64 j ∧ OwnB wr w3.heap.size v (XL.take j) ∧ Below w3.heap.size w3 wr) (fun _ s _ => n - (intOf s).toNat)
          case atStart => exact ⟨0, Nat.zero_le _, rfl, by rw [List.take_zero]; exact OwnB.nil _ _, Below.refl _ _⟩
          case round =>
            obtain ⟨j, hj, rfl, hown, hb4⟩ := hrel
            have hBw := Below.on hBr hb4
            have hlq : (XL.take j).length ≤ 64 := by rw [List.length_take, hrl.out]; omega
            by_cases hlt : j < n
            · have hw1 := below_alloc (Below.refl wr.heap.size wr) (.cells #[.int .i64 j] 3)
              have pb := cell_later hw1 (cell_later hb4 hboxr)
              have pt := cell_later hw1 (cell_later hb4 htr)
              have ptb := cell_later hw1 (cell_later hb4 htbr)
              have pp := cell_later hw1 (cell_later hb4 hpr)
              have pi : (wr.alloc (.cells #[.int .i64 j] 3)).cell? ⟨wr.heap.size, 0, none⟩ = some (.int .i64 j) := by go_simp
              have hBa := Below.on hBw hw1
              have hx := hide (compMatch2_ok A n c T j tag SA q sc S m (w.heap.size + 1 + 1) wr.heap.size (fun k => bx (rowB H k) j) _ (hT.out.below hBa) (hS.out.below hBa) hlt hg'.out hmd'.out hck'.out (hm'.out.below hBa) (fun W hW k hk hlk => by
                obtain ⟨bh, oh, hA, hC, rfl, hbh, hhc, hhr⟩ := (hH.out.below (Below.on hBa hW)).2.2 (by omega)
                have hlen : (rowB H k).length = n := hrw.out k hk hlk
                exact told2_ok _ _ _ _ _ hA hC (fun k => rowB H k) j k bh oh W (cell_later hW pp) (cell_later hW pi) hk (hhc k hk) (hhr k hk).1 (show j < (rowB H k).length by omega) rfl))
              obtain ⟨rb, hrb⟩ : ∃ rb, matC T j tag S m (fun k => bx (rowB H k) j) q = rb := ⟨_, rfl⟩
              have hts1 := hts.out j hlt
              rw [hrb] at hx hts1
              have hts1' := hide hts1
              clear hrb hts1
              go_wp2_with fail
              (with_reducible refine hx.out.mono ?_)
              rintro e5 w5 ⟨rfl, hb5⟩
              have hown5 := hown.below (Below.on hw1 hb5)
              have hB5 := hide (Below.on hb4 (Below.on hw1 hb5))
              have hsz5 : w3.heap.size ≤ w5.heap.size := hB5.out.size
              clear hown hb5 pb pt ptb pp pi hx
              go_wp2_with (at_builtin; refine wpList_pushB rfl _ _ rfl hown5 rb _ rfl rfl (by omega) hsz5 ?_)
              intro A6 c6 w6 hown6 hgr
              have hB6 := hide (hgr.below (Nat.le_refl _) hB5.out)
              have hown6' := hide hown6
              clear hgr hown6 hown5
              go_wp2
              go_roundw
              case rel => exact ⟨j + 1, by omega, by go_num, by rw [hts1'.out]; exact hown6'.out, hB6.out⟩
              case measure => simp [intOf]; omega
            · have he : Hid (XL.take j = XL) := List.take_of_length_le (by rw [hrl.out]; omega)
              rw [he.out] at hown
              obtain ⟨A5, c5, rfl, h51, h52, hI5⟩ := hown.isBools (by rw [hrl.out]; omega)
              have hI5' := hide hI5
              clear hI5 hown
              go_wp2
              go_ret2
              rw [hV.out, hE0.out]
              exact ⟨A5, c5, rfl, hI5'.out, h51, h52, hBw⟩
    · have hE : Hid (calE T tag S m H = 2) := by show _ = _; unfold calE; rw [if_pos hcc0, if_neg (fun h => h2 (by omega))]
      have hV : Hid (calV T tag S m H = []) := by show _ = _; unfold calV; rw [if_neg (by rw [hE.out]; omega)]
      have g1 : ((tn : Int) != (sn : Int)) = true := by rw [bne_iff_ne]; omega
      rw [hV.out, hE.out]
      clear hcc0 hg hmd hck h2
      go_enter Try.func43, Try.ntmps43
      go_wp2_with fail
      refine (ccheck19_at T tag S m 0 hcc.out _ _ c _ _ sc _ (hT.out.below hB0) (hS.out.below hB0) (hm'.out.below hB0)).mono ?_
      rintro e w2 ⟨rfl, hb2⟩
      have hB2 := Below.on hB0 hb2
      have hbox2 := cell_later hb2 hbox0
      have ht2 := cell_later hb2 ht0
      have htb2 := cell_later hb2 htb0
      have hp2 := cell_later hb2 hp0
      clear hb2 hbox0 ht0 htb0 hp0
      go_wp2
      go_ret2
      exact madeB_nil hB2
  · have hE : Hid (calE T tag S m H = cc) := by show _ = _; unfold calE; rw [if_neg (by rw [hcc0]; exact h1), hcc0]
    have hV : Hid (calV T tag S m H = []) := by show _ = _; unfold calV; rw [if_neg (by rw [hE.out]; exact h1)]
    have hcb : (cc != 0) = true := by rw [bne_iff_ne]; exact h1
    rw [hV.out, hE.out]
    clear hcc0 h1
    go_enter Try.func43, Try.ntmps43
    go_wp2_with fail
    refine (ccheck19_at T tag S m cc hcc.out _ _ c _ _ sc _ (hT.out.below hB0) (hS.out.below hB0) (hm'.out.below hB0)).mono ?_
    rintro e w2 ⟨rfl, hb2⟩
    have hB2 := Below.on hB0 hb2
    have hbox2 := cell_later hb2 hbox0
    have ht2 := cell_later hb2 ht0
    have htb2 := cell_later hb2 htb0
    have hp2 := cell_later hb2 hp0
    clear hb2 hbox0 ht0 htb0 hp0
    go_wp2
    go_ret2
    exact madeB_nil hB2
end Go.Proofs.Ytbedomopojiehaa
