/- Walks: which elements match a compound, by the reference. No condition. -/
import Derived.Test.YtbedomopojiehaaVe
import Derived.Test.YtbedomopojiehaaVf
import Derived.Deep.RegionHeld3
namespace Go.Proofs.Ytbedomopojiehaa
open Go.RowKit

theorem matC_congr {T : List ANode} {i : Nat} {tag : ByteArray} {S : List Sim} {m : Int} {tell tell' : Nat → Bool} {n : Nat} (h : ∀ k, k < n → lisS (sm S k) = true → tell k = tell' k) : matC T i tag S m tell n = matC T i tag S m tell' n := by
  induction n with
  | zero => simp [matC]
  | succ n ih =>
    rw [matC_succ, matC_succ, ih (fun k hk => h k (by omega))]
    congr 1
    unfold oneC
    by_cases hl : lisS (sm S n) = true
    · rw [if_pos hl, if_pos hl]; exact h n (by omega) hl
    · rw [if_neg hl, if_neg hl]
/-- The first k of n truth values in a block are F's. -/
def Bs (wr : World) (g n k : Nat) (F : Nat → Bool) : Prop :=
  ∃ cs : Array Value, wr.heap[g]? = some (.cells cs 4 (0, 0)) ∧ cs.size = n ∧ ∀ j, j < k → cs[j]? = some (.bool (F j))
theorem Bs.set {wr : World} {g n k : Nat} {F : Nat → Bool} (h : Bs wr g n k F) (hk : k < n) {v : Bool} (hv : v = F k) : Bs (wr.setCell ⟨g, k, none⟩ (.bool v)) g n (k + 1) F := by
  obtain ⟨cs, h1, h2, h3⟩ := h
  subst hv
  refine ⟨_, blk_set h1 k _, by simp [h2], fun j hj => ?_⟩
  by_cases hjk : j = k
  · subst hjk; simp [h2, hk]
  · rw [Array.getElem?_setIfInBounds_ne (by omega)]; exact h3 j (by omega)
theorem Bs.below {w w' : World} {g n k : Nat} {F : Nat → Bool} (h : Bs w g n k F) (hb : Below w.heap.size w w') : Bs w' g n k F := by
  obtain ⟨cs, h1, h2, h3⟩ := h
  exact ⟨cs, (hb.block g (blk_lt h1)).trans h1, h2, h3⟩
theorem Bs.isBools {w : World} {g n : Nat} {F : Nat → Bool} (h : Bs w g n n F) (hn : n ≤ 1000) : IsBools w (some ⟨g, 0, none⟩) n ((List.range n).map F) := by
  obtain ⟨cs, h1, h2, h3⟩ := h
  refine ⟨by simp, by omega, fun h0 => ⟨g, 0, rfl, blk_lt h1, fun j hj => ?_⟩⟩
  rw [Nat.zero_add, blk_cell h1, h3 j hj]
  simp [bx, hj]
theorem Bs.own {w : World} {g n base : Nat} {F : Nat → Bool} (h : Bs w g n n F) (hb : base ≤ g) (hn : n ≤ 1000) : w.ownsRow base 4 1 (.slice (some ⟨g, 0, none⟩) n n) n (bools ((List.range n).map F)) := by
  obtain ⟨cs, h1, h2, h3⟩ := h
  refine ⟨by simp [bools], .inr ⟨g, n, cs, rfl, hb, h1, Nat.le_refl _, by unfold maxLen; omega, by omega, ?_⟩⟩
  refine List.ext_getElem? fun j => ?_
  by_cases hj : j < n
  · rw [List.getElem?_take_of_lt (by omega), Array.getElem?_toList, h3 j hj]
    simp [bools, hj]
  · rw [List.getElem?_eq_none (by simp; omega), List.getElem?_eq_none (by simp [bools]; omega)]
theorem bx_map (F : Nat → Bool) {n j : Nat} (h : j < n) : bx ((List.range n).map F) j = F j := by simp [bx, h]
theorem Bs.new (W : World) (n : Nat) (F : Nat → Bool) : Bs (W.alloc (.cells (madeCells #[.bool false] n) 4)) W.heap.size n 0 F :=
  ⟨_, blk_new _ _ _, by simp [madeCells], fun j hj => absurd hj (by omega)⟩

set_option maxRecDepth 100000 in
set_option maxHeartbeats 4000000 in
theorem rcAll_ok (A : Option Addr) (n c : Nat) (T : List ANode) (tag : ByteArray) (SA : Option Addr) (sn sc : Nat) (S : List Sim) (m : Int) (TA : Option Addr) (tn tc : Nat) (H : List (List Bool)) (w : World) (h : IsTree w A n T) (hS0 : IsSims w SA sn S) (hH0 : IsBB w TA tn H) :
    Calls Try.prog 44 #[.agg #[.slice A n c], .agg #[.string tag, .slice SA sn sc], .int .i64 m, .slice TA tn tc] w
      (MadeB w (calV T tag S m H) (calE T tag S m H)) := by
  have hT := hide h
  have hl := h.1
  have hS := hide hS0
  have hsl := hS0.1
  have hH := hide hH0
  have hhl := hH0.1
  have hB0 := below_alloc (below_alloc (Below.refl w.heap.size w) (.cells #[.slice A n c] 43)) (.cells #[.string tag, .slice SA sn sc] 65)
  have hbox0 : ((w.alloc (.cells #[.slice A n c] 43)).alloc (.cells #[.string tag, .slice SA sn sc] 65)).cell? ⟨w.heap.size, 0, none⟩ = some (.slice A n c) := by go_simp
  have ht0 : ((w.alloc (.cells #[.slice A n c] 43)).alloc (.cells #[.string tag, .slice SA sn sc] 65)).cell? ⟨w.heap.size + 1, 0, none⟩ = some (.string tag) := by go_simp
  have htb0 : ((w.alloc (.cells #[.slice A n c] 43)).alloc (.cells #[.string tag, .slice SA sn sc] 65)).cell? ⟨w.heap.size + 1, 1, none⟩ = some (.slice SA sn sc) := by go_simp
  clear h hS0 hH0
  obtain ⟨cc, hcc0⟩ : ∃ x, ccE T tag S m = x := ⟨_, rfl⟩
  have hcc := hide hcc0
  by_cases h1 : cc = 0
  · subst h1
    obtain ⟨hg, hmd, hck⟩ := ccE_zero.1 hcc0
    have hn64 : n ≤ 64 := by have := ((goodB_iff T).1 hg).2.1; omega
    have hs64 : sn ≤ 64 := by have := hck.2.1; omega
    by_cases h2 : tn = sn
    · subst h2
      have hE : Hid (calE T tag S m H = if rowsB n S H then 0 else 2) := by
        show _ = _
        unfold calE
        rw [if_pos hcc0, hl]
        by_cases h3 : rowsB n S H
        · rw [if_pos ⟨by omega, h3⟩, if_pos h3]
        · rw [if_neg (fun h => h3 h.2), if_neg h3]
      have hg' := hide hg
      have hck' := hide hck
      clear hcc0 hg hmd hck
      go_enter Try.func44, Try.ntmps44
      go_wp2_with fail
      refine (rc19asked_at T tag S m 0 hcc.out _ _ c _ _ sc _ (hT.out.below hB0) (hS.out.below hB0)).mono ?_
      rintro e w1 ⟨rfl, hb1⟩
      have hB1 := Below.on hB0 hb1
      have hbox1 := cell_later hb1 hbox0
      have ht1 := cell_later hb1 ht0
      have htb1 := cell_later hb1 htb0
      clear hb1 hbox0 ht0 htb0
      go_wp2
      go_loopw [10] (fun s wr => ∃ q : Nat, q ≤ tn ∧ s = .int .i64 q ∧ Below w1.heap.size w1 wr ∧ Hid (∀ j, j < q → lisS (sm S j) = true → (rowB H j).length = n)) (fun s _ => tn - (intOf s).toNat)
      case atStart => exact ⟨0, Nat.zero_le _, rfl, Below.refl _ _, fun j hj => absurd hj (by omega)⟩
      case round =>
        obtain ⟨q, hq, rfl, hb, hok⟩ := hrel
        have hBr := Below.on hB1 hb
        have hboxr := cell_later hb hbox1
        have htbr := cell_later hb htb1
        by_cases hlt : q < tn
        · obtain ⟨bb, off, rfl, hbl, hc⟩ := hS.out.2.2 (by omega)
          obtain ⟨bh, oh, hA, hC, rfl, hbh, hhc, hhr⟩ := hH.out.2.2 (by omega)
          have hin := (hc q hlt).later hBr
          have hrow := (old hBr _ _ hbh).trans (hhc q hlt)
          have q1 : (0 : Int) ≤ (q : Int) := by omega
          have q2 : (q : Int) < (tn : Int) := by omega
          have hbl2 := Nat.lt_of_lt_of_le hbl hBr.size
          clear hc hhc hhr
          cases hs : sm S q with
          | mk k nm op vl fo a b f LA ln lc =>
            rw [hs] at hin
            obtain ⟨t0, t1, t2, t3, t4, t5, t6, t7, t8⟩ := hin
            have hs' := hide hs
            obtain ⟨v, hv⟩ : ∃ v, lisS ⟨k, nm, op, vl, fo, a, b, f, LA, ln, lc⟩ = v := ⟨_, rfl⟩
            have hv' := hide hv
            generalize hA q = rA at hrow
            generalize hC q = rC at hrow
            have hok1 := hide (show v = true ∧ ¬ (rowB H q).length = n ∨ ∀ j, j < q + 1 → lisS (sm S j) = true → (rowB H j).length = n from by
              by_cases hvr : v = true ∧ ¬ (rowB H q).length = n
              · exact .inl hvr
              · refine .inr fun j hj hlj => ?_
                by_cases hjq : j = q
                · subst hjq
                  rw [hs, hv] at hlj
                  by_cases hrr : (rowB H j).length = n
                  · exact hrr
                  · exact absurd ⟨hlj, hrr⟩ hvr
                · exact hok.out j (by omega) hlj)
            clear hs hv hok
            cases v
            · have hok2 : Hid (∀ j, j < q + 1 → lisS (sm S j) = true → (rowB H j).length = n) := by
                rcases hok1.out with h | h
                · exact absurd h.1 (by simp)
                · exact h
              clear hok1
              clear hrow
              go_wp2
              refine wp_region_held_drew (S := fun X => X.cell? ⟨w.heap.size + 1, 1, none⟩ = some (.slice (some ⟨bb, off, none⟩) tn sc) ∧ X.cell? ⟨bb, off + q * 9, none⟩ = some (.int .u8 k) ∧ X.cell? ⟨bb, off + q * 9 + 1, none⟩ = some (.string nm) ∧ X.cell? ⟨bb, off + q * 9 + 2, none⟩ = some (.int .u8 op) ∧ X.cell? ⟨bb, off + q * 9 + 3, none⟩ = some (.string vl) ∧ X.cell? ⟨bb, off + q * 9 + 4, none⟩ = some (.bool fo) ∧ X.cell? ⟨bb, off + q * 9 + 5, none⟩ = some (.int .i64 a) ∧ X.cell? ⟨bb, off + q * 9 + 6, none⟩ = some (.int .i64 b) ∧ X.cell? ⟨bb, off + q * 9 + 7, none⟩ = some (.bool f) ∧ X.cell? ⟨bb, off + q * 9 + 8, none⟩ = some (.slice LA ln lc)) (by kernel_rfl) ⟨htbr, t0, t1, t2, t3, t4, t5, t6, t7, t8⟩ (fun hHeld => ?_)
              refine heldTake 0 36 (.pointer (some ⟨w.heap.size + 1, 1, none⟩)) (by kernel_rfl) (by kernel_rfl) (by kernel_rfl) (by kernel_rfl) (fun _ _ _ h => h) (by rfl) ?_ (by assumption) ?_
              · intro W hW
                try dsimp only at hW
                simp only [List.getElem?_toArray, List.getElem?_cons_zero, Option.map_some, Option.some.injEq]
                go_simp
              try simp only [Act.put, List.setIfInBounds_toArray, List.set_cons_zero, List.set_cons_succ]
              refine heldTake 1 37 (.slice (some ⟨bb, off, none⟩) tn sc) (by kernel_rfl) (by kernel_rfl) (by kernel_rfl) (by kernel_rfl) (fun _ _ _ h => h) (by rfl) ?_ (by assumption) ?_
              · intro W hW
                try dsimp only at hW
                simp only [List.getElem?_toArray, List.getElem?_cons_succ, List.getElem?_cons_zero, Option.map_some, Option.some.injEq]
                go_simp
              try simp only [Act.put, List.setIfInBounds_toArray, List.set_cons_zero, List.set_cons_succ]
              refine heldTake 2 38 (.int .i64 q) (by kernel_rfl) (by kernel_rfl) (by kernel_rfl) (by kernel_rfl) (fun _ _ _ h => h) (by rfl) ?_ (by assumption) ?_
              · intro W hW
                try dsimp only at hW
                simp only [List.getElem?_toArray, List.getElem?_cons_succ, List.getElem?_cons_zero, Option.map_some, Option.some.injEq]
                go_simp
              try simp only [Act.put, List.setIfInBounds_toArray, List.set_cons_zero, List.set_cons_succ]
              refine heldTake 3 39 (.pointer (some ⟨bb, off + q * 9, none⟩)) (by kernel_rfl) (by kernel_rfl) (by kernel_rfl) (by kernel_rfl) (fun _ _ _ h => h) (by rfl) ?_ (by assumption) ?_
              · intro W hW
                try dsimp only at hW
                simp only [List.getElem?_toArray, List.getElem?_cons_succ, List.getElem?_cons_zero, Option.map_some, Option.some.injEq]
                go_simp
              try simp only [Act.put, List.setIfInBounds_toArray, List.set_cons_zero, List.set_cons_succ]
              refine heldTake 4 40 (.agg #[.int .u8 k, .string nm, .int .u8 op, .string vl, .bool fo, .int .i64 a, .int .i64 b, .bool f, .slice LA ln lc]) (by kernel_rfl) (by kernel_rfl) (by kernel_rfl) (by kernel_rfl) (fun _ _ _ h => h) (by rfl) ?_ (by assumption) ?_
              · intro W hW
                try dsimp only at hW
                simp only [List.getElem?_toArray, List.getElem?_cons_succ, List.getElem?_cons_zero, Option.map_some, Option.some.injEq]
                go_simp
              try simp only [Act.put, List.setIfInBounds_toArray, List.set_cons_zero, List.set_cons_succ]
              refine wpAnyH_ready (rs := [5]) (by kernel_rfl) (by simp) (AllReadyH.cons rfl (fun K hK => ?_) AllReadyH.nil)
              go_simp
              go_at_call 72
              (with_reducible refine (rlisted_at k nm op vl fo a b f LA ln lc false hv'.out _).mono ?_)
              rintro e x1 ⟨rfl, hx1⟩
              refine hK.out _ _ ⟨cell_later hx1 htbr, cell_later hx1 t0, cell_later hx1 t1, cell_later hx1 t2, cell_later hx1 t3, cell_later hx1 t4, cell_later hx1 t5, cell_later hx1 t6, cell_later hx1 t7, cell_later hx1 t8⟩ (fun hHeld1 => ?_)
              clear hK K hHeld
              try simp only [Act.put, List.setIfInBounds_toArray, List.set_cons_zero, List.set_cons_succ]
              refine heldTake 6 42 (.bool false) (by kernel_rfl) (by kernel_rfl) (by kernel_rfl) (by kernel_rfl) (fun _ _ _ h => h) (by rfl) ?_ (by assumption) ?_
              · intro W hW
                try dsimp only at hW
                simp only [List.getElem?_toArray, List.getElem?_cons_succ, List.getElem?_cons_zero, Option.map_some, Option.some.injEq]
                go_simp
              try simp only [Act.put, List.setIfInBounds_toArray, List.set_cons_zero, List.set_cons_succ]
              refine heldSkip 7 43 (by kernel_rfl) (by kernel_rfl) (by kernel_rfl) (by kernel_rfl) (fun _ _ _ h => h) (by rfl) (by assumption) ?_
              try simp only [Act.put, List.setIfInBounds_toArray, List.set_cons_zero, List.set_cons_succ]
              refine heldSkip 8 44 (by kernel_rfl) (by kernel_rfl) (by kernel_rfl) (by kernel_rfl) (fun _ _ _ h => h) (by rfl) (by assumption) ?_
              try simp only [Act.put, List.setIfInBounds_toArray, List.set_cons_zero, List.set_cons_succ]
              refine heldSkip 9 45 (by kernel_rfl) (by kernel_rfl) (by kernel_rfl) (by kernel_rfl) (fun _ _ _ h => h) (by rfl) (by assumption) ?_
              try simp only [Act.put, List.setIfInBounds_toArray, List.set_cons_zero, List.set_cons_succ]
              refine heldSkip 10 46 (by kernel_rfl) (by kernel_rfl) (by kernel_rfl) (by kernel_rfl) (fun _ _ _ h => h) (by rfl) (by assumption) ?_
              try simp only [Act.put, List.setIfInBounds_toArray, List.set_cons_zero, List.set_cons_succ]
              refine heldSkip 11 47 (by kernel_rfl) (by kernel_rfl) (by kernel_rfl) (by kernel_rfl) (fun _ _ _ h => h) (by rfl) (by assumption) ?_
              try simp only [Act.put, List.setIfInBounds_toArray, List.set_cons_zero, List.set_cons_succ]
              refine heldSkip 12 48 (by kernel_rfl) (by kernel_rfl) (by kernel_rfl) (by kernel_rfl) (fun _ _ _ h => h) (by rfl) (by assumption) ?_
              try simp only [Act.put, List.setIfInBounds_toArray, List.set_cons_zero, List.set_cons_succ]
              refine heldSkip 13 49 (by kernel_rfl) (by kernel_rfl) (by kernel_rfl) (by kernel_rfl) (fun _ _ _ h => h) (by rfl) (by assumption) ?_
              try simp only [Act.put, List.setIfInBounds_toArray, List.set_cons_zero, List.set_cons_succ]
              refine heldSkip 14 50 (by kernel_rfl) (by kernel_rfl) (by kernel_rfl) (by kernel_rfl) (fun _ _ _ h => h) (by rfl) (by assumption) ?_
              try simp only [Act.put, List.setIfInBounds_toArray, List.set_cons_zero, List.set_cons_succ]
              refine heldSkip 15 51 (by kernel_rfl) (by kernel_rfl) (by kernel_rfl) (by kernel_rfl) (fun _ _ _ h => h) (by rfl) (by assumption) ?_
              try simp only [Act.put, List.setIfInBounds_toArray, List.set_cons_zero, List.set_cons_succ]
              refine heldTake 16 52 (.bool false) (by kernel_rfl) (by kernel_rfl) (by kernel_rfl) (by kernel_rfl) (fun _ _ _ h => h) (by rfl) ?_ (by assumption) ?_
              · intro W hW
                try dsimp only at hW
                simp only [List.getElem?_toArray, List.getElem?_cons_succ, List.getElem?_cons_zero, Option.map_some, Option.some.injEq]
                go_simp
              try simp only [Act.put, List.setIfInBounds_toArray, List.set_cons_zero, List.set_cons_succ]
              refine wpAnyH_done (by kernel_rfl) ?_ _
              go_wp2
              go_roundw
              case rel => exact ⟨q + 1, by omega, by go_num, Below.on hb.drew hx1, hok2⟩
              case measure => simp [intOf]; omega
            · by_cases hrn : (rowB H q).length = n
              · have hok2 : Hid (∀ j, j < q + 1 → lisS (sm S j) = true → (rowB H j).length = n) := by
                  rcases hok1.out with h | h
                  · exact absurd hrn h.2
                  · exact h
                clear hok1
                rw [hrn] at hrow
                have pr := hrow
                clear hrn hrow
                go_wp2
                go_region_held3 (fun X => X.cell? ⟨w.heap.size, 0, none⟩ = some (.slice A n c) ∧ X.cell? ⟨w.heap.size + 1, 1, none⟩ = some (.slice (some ⟨bb, off, none⟩) tn sc) ∧ X.cell? ⟨bh, oh + q, none⟩ = some (.slice rA n rC) ∧ X.cell? ⟨bb, off + q * 9, none⟩ = some (.int .u8 k) ∧ X.cell? ⟨bb, off + q * 9 + 1, none⟩ = some (.string nm) ∧ X.cell? ⟨bb, off + q * 9 + 2, none⟩ = some (.int .u8 op) ∧ X.cell? ⟨bb, off + q * 9 + 3, none⟩ = some (.string vl) ∧ X.cell? ⟨bb, off + q * 9 + 4, none⟩ = some (.bool fo) ∧ X.cell? ⟨bb, off + q * 9 + 5, none⟩ = some (.int .i64 a) ∧ X.cell? ⟨bb, off + q * 9 + 6, none⟩ = some (.int .i64 b) ∧ X.cell? ⟨bb, off + q * 9 + 7, none⟩ = some (.bool f) ∧ X.cell? ⟨bb, off + q * 9 + 8, none⟩ = some (.slice LA ln lc)) (first | exact ⟨hboxr, htbr, pr, t0, t1, t2, t3, t4, t5, t6, t7, t8⟩ | exact ⟨ub, up, ur, u0, u1, u2, u3, u4, u5, u6, u7, u8⟩) (first | (go_at_call 72; (with_reducible refine (rlisted_at k nm op vl fo a b f LA ln lc true hv'.out _).mono ?_); rintro e x1 ⟨rfl, hx1⟩; have ub := cell_later hx1 hboxr; have up := cell_later hx1 htbr; have ur := cell_later hx1 pr; have u0 := cell_later hx1 t0; have u1 := cell_later hx1 t1; have u2 := cell_later hx1 t2; have u3 := cell_later hx1 t3; have u4 := cell_later hx1 t4; have u5 := cell_later hx1 t5; have u6 := cell_later hx1 t6; have u7 := cell_later hx1 t7; have u8 := cell_later hx1 t8))
                go_wp2
                go_roundw
                case rel => exact ⟨q + 1, by omega, by go_num, Below.on hb.drew hx1, hok2⟩
                case measure => simp [intOf]; omega
              · have hq2 : Hid (calE T tag S m H = 2) := by
                  show _ = _
                  rw [hE.out]
                  exact if_neg (fun h => hrn (by
                    have h5 := h q (by omega)
                    rw [hs'.out] at h5
                    exact h5 hv'.out))
                have hV : Hid (calV T tag S m H = []) := by show _ = _; unfold calV; rw [if_neg (by rw [hq2.out]; omega)]
                obtain ⟨rl, hrl⟩ : ∃ x, (rowB H q).length = x := ⟨_, rfl⟩
                rw [hrl] at hrow hrn
                have pr := hrow
                have g5 : ((rl : Int) != (n : Int)) = true := by rw [bne_iff_ne]; omega
                rw [hq2.out, hV.out]
                clear hrn hrl hok1 hE hq2 hV hrow
                go_wp2
                go_region_held3 (fun X => X.cell? ⟨w.heap.size, 0, none⟩ = some (.slice A n c) ∧ X.cell? ⟨w.heap.size + 1, 1, none⟩ = some (.slice (some ⟨bb, off, none⟩) tn sc) ∧ X.cell? ⟨bh, oh + q, none⟩ = some (.slice rA rl rC) ∧ X.cell? ⟨bb, off + q * 9, none⟩ = some (.int .u8 k) ∧ X.cell? ⟨bb, off + q * 9 + 1, none⟩ = some (.string nm) ∧ X.cell? ⟨bb, off + q * 9 + 2, none⟩ = some (.int .u8 op) ∧ X.cell? ⟨bb, off + q * 9 + 3, none⟩ = some (.string vl) ∧ X.cell? ⟨bb, off + q * 9 + 4, none⟩ = some (.bool fo) ∧ X.cell? ⟨bb, off + q * 9 + 5, none⟩ = some (.int .i64 a) ∧ X.cell? ⟨bb, off + q * 9 + 6, none⟩ = some (.int .i64 b) ∧ X.cell? ⟨bb, off + q * 9 + 7, none⟩ = some (.bool f) ∧ X.cell? ⟨bb, off + q * 9 + 8, none⟩ = some (.slice LA ln lc)) (first | exact ⟨hboxr, htbr, pr, t0, t1, t2, t3, t4, t5, t6, t7, t8⟩ | exact ⟨ub, up, ur, u0, u1, u2, u3, u4, u5, u6, u7, u8⟩) (first | (go_at_call 72; (with_reducible refine (rlisted_at k nm op vl fo a b f LA ln lc true hv'.out _).mono ?_); rintro e x1 ⟨rfl, hx1⟩; have ub := cell_later hx1 hboxr; have up := cell_later hx1 htbr; have ur := cell_later hx1 pr; have u0 := cell_later hx1 t0; have u1 := cell_later hx1 t1; have u2 := cell_later hx1 t2; have u3 := cell_later hx1 t3; have u4 := cell_later hx1 t4; have u5 := cell_later hx1 t5; have u6 := cell_later hx1 t6; have u7 := cell_later hx1 t7; have u8 := cell_later hx1 t8))
                go_wp2
                go_ret2
                exact madeB_nil (Below.on hBr.drew hx1)
        · obtain rfl : q = tn := by omega
          have hrows : rowsB n S H := fun k hk hlk => hok.out k (by omega) hlk
          have hE0 : Hid (calE T tag S m H = 0) := by show _ = _; rw [hE.out, if_pos hrows]
          obtain ⟨XL, hXL⟩ : ∃ X, calL T tag S m H = X := ⟨_, rfl⟩
          have hV : Hid (calV T tag S m H = XL) := by show _ = _; unfold calV; rw [if_pos hE0.out, hXL]
          have hrl : Hid (XL.length = n) := by show _ = _; rw [← hXL, calL_len, hl]
          have hts := hide (show ∀ j, j < n → XL.take (j + 1) = XL.take j ++ [matC T j tag S m (fun k => bx (rowB H k) j) q] from fun j hj => by rw [← hXL, ← hsl]; exact take_calL T tag S m H (by omega))
          have hrw := hide (show ∀ k, k < q → lisS (sm S k) = true → (rowB H k).length = n from fun k hk hlk => hok.out k hk hlk)
          have htr := cell_later hb ht1
          clear hXL hE hrows hok ht1 htb1 hbox1 hb hB1
          generalize wr = w3 at *
          go_wp2
          go_loopw [11, 12] (fun v s wr => ∃ j : Nat, j ≤ n ∧ s = .int .i64 j ∧ OwnB wr w3.heap.size v (XL.take j) ∧ Below w3.heap.size w3 wr) (fun _ s _ => n - (intOf s).toNat)
          case atStart => exact ⟨0, Nat.zero_le _, rfl, by rw [List.take_zero]; exact OwnB.nil _ _, Below.refl _ _⟩
          case round =>
            obtain ⟨j, hj, rfl, hown, hb4⟩ := hrel
            have hBw := Below.on hBr hb4
            have hbx := cell_later hb4 hboxr
            have hlq : (XL.take j).length ≤ 64 := by rw [List.length_take, hrl.out]; omega
            by_cases hlt : j < n
            · have hts1 := hide (hts.out j hlt)
              generalize wr = w4 at *
              have hmk := mk_bools q (by omega) w4
              have hN := hide (Bs.new w4 q (fun k => lisS (sm S k) && bx (rowB H k) j))
              have hw5 := below_alloc (Below.refl w4.heap.size w4) (.cells (madeCells #[.bool false] q) 4)
              have hown' := hide hown
              have hb4' := hide hb4
              have hF : Hid (matC T j tag S m (bx ((List.range q).map (fun k => lisS (sm S k) && bx (rowB H k) j))) q = matC T j tag S m (fun k => bx (rowB H k) j) q) :=
                matC_congr fun k hk hl => by rw [bx_map _ hk, hl, Bool.true_and]
              clear hown
              go_wp2
              go_loopw [14] (fun s wr => ∃ k : Nat, k ≤ q ∧ s = .int .i64 k ∧ Below w4.heap.size w4 wr ∧ Bs wr w4.heap.size q k (fun k => lisS (sm S k) && bx (rowB H k) j)) (fun s _ => q - (intOf s).toNat)
              case atStart => exact ⟨0, Nat.zero_le _, rfl, hw5, hN.out⟩
              case round =>
                obtain ⟨k0, hk0, rfl, hb5, hBs⟩ := hrel
                have hB5 := Below.on hBw hb5
                have hbox5 := cell_later (Below.on hb4'.out hb5) hboxr
                have htb5 := cell_later (Below.on hb4'.out hb5) htbr
                by_cases hlk : k0 < q
                · obtain ⟨bb, off, rfl, hbl, hc⟩ := hS.out.2.2 (by omega)
                  obtain ⟨bh, oh, hA, hC, rfl, hbh, hhc, hhr⟩ := hH.out.2.2 (by omega)
                  have hin := (hc k0 hlk).later hB5
                  have hrow := (old hB5 _ _ hbh).trans (hhc k0 hlk)
                  have hrr := hrw.out k0 hlk
                  have hIr := (hhr k0 hlk).1
                  have q1 : (0 : Int) ≤ (k0 : Int) := by omega
                  have q2 : (k0 : Int) < (q : Int) := by omega
                  have q3 : (0 : Int) ≤ (j : Int) := by omega
                  have q4 : (j : Int) < (n : Int) := by omega
                  clear hc hhc hhr
                  cases hs : sm S k0 with
                  | mk k nm op vl fo a b f LA ln lc =>
                    rw [hs] at hin hrr
                    obtain ⟨s0, s1, s2, s3, s4, s5, s6, s7, s8⟩ := hin
                    have hs' := hide hs
                    obtain ⟨v, hv⟩ : ∃ v, lisS ⟨k, nm, op, vl, fo, a, b, f, LA, ln, lc⟩ = v := ⟨_, rfl⟩
                    rw [hv] at hrr
                    have hv' := hide hv
                    generalize hA k0 = rA at hrow hIr
                    generalize hC k0 = rC at hrow
                    clear hs hv
                    cases v
                    · clear hrow hIr hrr
                      go_wp2_with fail
                      refine (rlisted_at k nm op vl fo a b f LA ln lc false hv'.out _).mono ?_
                      rintro e u1 ⟨rfl, hu1⟩
                      have hBs1 := hide (hBs.below hu1)
                      have hz1 := hide (Below.on hb5 hu1)
                      clear s0 s1 s2 s3 s4 s5 s6 s7 s8 hbox5 htb5
                      obtain ⟨cs, h1, h2, h3⟩ := id hBs1.out
                      have ec : u1.cell? ⟨w4.heap.size, k0, none⟩ = some (cs[k0]'(by omega)) := by rw [blk_cell h1]; simp
                      have ef : u1.frozen? ⟨w4.heap.size, k0, none⟩ = false := blk_frozen h1 k0
                      generalize cs[k0]'(by omega) = ov at ec
                      clear h1 h2 h3 hBs hu1
                      go_wp2
                      go_roundw
                      case rel => exact ⟨k0 + 1, by omega, by go_num, hz1.out.setCell (Nat.le_refl _) _, hBs1.out.set hlk (by rw [hs'.out, hv'.out]; rfl)⟩
                      case measure => simp [intOf]; omega
                    · have hlen := hrr rfl
                      rw [hlen] at hrow hIr
                      obtain ⟨b2, off2, hA2, hb2, hc2⟩ := hIr.2.2 (by omega)
                      subst hA2
                      have gv := (old hB5 _ _ hb2).trans (hc2 j hlt)
                      obtain ⟨bv, hbv⟩ : ∃ x, bx (rowB H k0) j = x := ⟨_, rfl⟩
                      rw [hbv] at gv
                      have hbv' := hide hbv
                      clear hc2 hIr hrr hlen hbv
                      go_wp2_with fail
                      refine (rlisted_at k nm op vl fo a b f LA ln lc true hv'.out _).mono ?_
                      rintro e u1 ⟨rfl, hu1⟩
                      have hBs1 := hide (hBs.below hu1)
                      have hz1 := hide (Below.on hb5 hu1)
                      have gv1 := cell_later hu1 gv
                      have gr1 := cell_later hu1 hrow
                      clear s0 s1 s2 s3 s4 s5 s6 s7 s8 hbox5 htb5 gv hrow
                      obtain ⟨cs, h1, h2, h3⟩ := id hBs1.out
                      have ec : u1.cell? ⟨w4.heap.size, k0, none⟩ = some (cs[k0]'(by omega)) := by rw [blk_cell h1]; simp
                      have ef : u1.frozen? ⟨w4.heap.size, k0, none⟩ = false := blk_frozen h1 k0
                      generalize cs[k0]'(by omega) = ov at ec
                      clear h1 h2 h3 hBs hu1
                      go_wp2
                      go_roundw
                      case rel => exact ⟨k0 + 1, by omega, by go_num, hz1.out.setCell (Nat.le_refl _) _, hBs1.out.set hlk (by rw [hs'.out, hv'.out, hbv'.out]; rfl)⟩
                      case measure => simp [intOf]; omega
                · obtain rfl : q = k0 := by omega
                  have hI := hBs.isBools (by omega)
                  have hx := hide (rmatC_ok A n c T j tag SA q sc S m (some ⟨w4.heap.size, 0, none⟩) q ((List.range q).map (fun k => lisS (sm S k) && bx (rowB H k) j)) wr (hT.out.below hB5) (hS.out.below hB5) hI hlt hg'.out hck'.out)
                  have hown5 := hown'.out.below hb5
                  have ht5 := cell_later (Below.on hb4'.out hb5) htr
                  rw [hF.out] at hx
                  obtain ⟨rb, hrb⟩ : ∃ rb, matC T j tag S m (fun k => bx (rowB H k) j) q = rb := ⟨_, rfl⟩
                  rw [hrb] at hx hts1
                  clear hrb hF hI hBs hN hmk
                  go_wp2_with fail
                  (with_reducible refine hx.out.mono ?_)
                  rintro e6 w6 ⟨rfl, hb6⟩
                  have hown6 := hown5.below hb6
                  have hB6 := hide (Below.on hb4'.out (Below.on hb5 hb6))
                  have hsz6 : w3.heap.size ≤ w6.heap.size := hB6.out.size
                  clear hown5 hb6 hx hbox5 htb5 ht5
                  go_wp2_with (at_builtin; refine wpList_pushB rfl _ _ rfl hown6 rb _ rfl rfl (by omega) hsz6 ?_)
                  intro A7 c7 w7 hown7 hgr
                  have hB7 := hide (hgr.below (Nat.le_refl _) hB6.out)
                  have hown7' := hide hown7
                  clear hgr hown7 hown6
                  go_wp2
                  go_roundw
                  case rel => exact ⟨j + 1, by omega, by go_num, by rw [hts1.out]; exact hown7'.out, hB7.out⟩
                  case measure => simp [intOf]; omega
            · have he : Hid (XL.take j = XL) := List.take_of_length_le (by rw [hrl.out]; omega)
              rw [he.out] at hown
              obtain ⟨A5, c5, rfl, h51, h52, hI5⟩ := hown.isBools (by rw [hrl.out]; omega)
              have hI5' := hide hI5
              clear hI5 hown
              go_wp2
              go_ret2
              rw [hV.out, hE0.out]
              exact ⟨A5, c5, rfl, hI5'.out, h51, h52, hBw⟩
    · have hE : Hid (calE T tag S m H = 2) := by show _ = _; unfold calE; rw [if_pos hcc0, if_neg (fun h => h2 (by omega))]
      have hV : Hid (calV T tag S m H = []) := by show _ = _; unfold calV; rw [if_neg (by rw [hE.out]; omega)]
      have g1 : ((tn : Int) != (sn : Int)) = true := by rw [bne_iff_ne]; omega
      rw [hV.out, hE.out]
      clear hcc0 hg hmd hck h2
      go_enter Try.func44, Try.ntmps44
      go_wp2_with fail
      refine (rc19asked_at T tag S m 0 hcc.out _ _ c _ _ sc _ (hT.out.below hB0) (hS.out.below hB0)).mono ?_
      rintro e w1 ⟨rfl, hb1⟩
      have hB1 := Below.on hB0 hb1
      have hbox1 := cell_later hb1 hbox0
      have ht1 := cell_later hb1 ht0
      have htb1 := cell_later hb1 htb0
      clear hb1 hbox0 ht0 htb0
      go_wp2
      go_ret2
      exact madeB_nil hB1
  · have hE : Hid (calE T tag S m H = cc) := by show _ = _; unfold calE; rw [if_neg (by rw [hcc0]; exact h1), hcc0]
    have hV : Hid (calV T tag S m H = []) := by show _ = _; unfold calV; rw [if_neg (by rw [hE.out]; exact h1)]
    have hcb : (cc != 0) = true := by rw [bne_iff_ne]; exact h1
    rw [hV.out, hE.out]
    clear hcc0 h1
    go_enter Try.func44, Try.ntmps44
    go_wp2_with fail
    refine (rc19asked_at T tag S m cc hcc.out _ _ c _ _ sc _ (hT.out.below hB0) (hS.out.below hB0)).mono ?_
    rintro e w1 ⟨rfl, hb1⟩
    have hB1 := Below.on hB0 hb1
    have hbox1 := cell_later hb1 hbox0
    have ht1 := cell_later hb1 ht0
    have htb1 := cell_later hb1 htb0
    clear hb1 hbox0 ht0 htb0
    go_wp2_with fail
    refine (rc19asked_at T tag S m cc hcc.out _ _ c _ _ sc _ (hT.out.below hB1) (hS.out.below hB1)).mono ?_
    rintro e w2 ⟨rfl, hb2⟩
    have hB2 := Below.on hB1 hb2
    have hbox2 := cell_later hb2 hbox1
    have ht2 := cell_later hb2 ht1
    have htb2 := cell_later hb2 htb1
    clear hb2 hbox1 ht1 htb1
    go_wp2
    go_ret2
    exact madeB_nil hB2
end Go.Proofs.Ytbedomopojiehaa
