/- Walks: chapter 23 by the program: Which. Conditions: the list has at most 1000000 selectors in all; the variable of the library that strings.Contains reads holds a number. -/
import Derived.Test.YtljloicgjgbplaaGreatG41
namespace Go.Proofs.YtljloicgjgbplaaGreat
open Go.RowKit

/-- A list of numbers and an error that come back. -/
def MadeIE (w : World) (xs : List Int) (code : Int) (e : Ending) (w' : World) : Prop :=
  ∃ (A : Option Addr) (c : Nat), e = .returned (.tuple #[.slice A xs.length c, .int .i64 code]) ∧ IsInts w' A xs.length xs ∧ Below w.heap.size w w'
theorem madeIE_nil {w w' : World} {code : Int} (hb : Below w.heap.size w w') : MadeIE w [] code (.returned (.tuple #[.slice none 0 0, .int .i64 code])) w' :=
  ⟨none, 0, rfl, isInts_nil _, hb⟩
theorem len_numV : ∀ (N : Nat) (l : List (SelL N)), l.length ≤ numV N l
  | 0, l => by cases l with | nil => exact Nat.zero_le _ | cons x _ => exact x.elim
  | N + 1, l => by show l.length ≤ numL (numV N) l; unfold numL; exact Nat.le_add_right _ _
set_option maxRecDepth 100000 in
set_option maxHeartbeats 1000000 in
theorem mWhich_ok (A : Option Addr) (n c : Nat) (T : List ANode) (i : Int) (N : Nat) (LA : Option Addr) (ln lc : Nat) (l : List (SelL N)) (m : Int) (w : World) (h : IsTree w A n T) (hmx : HasMax w) (hrow0 : IsRow (IsV N) w LA ln l) (hnum : numV N l ≤ 1000000) (hc1 : ln ≤ lc) (hc2 : lc ≤ 9223372036854775807) :
    Calls Tryz.prog 23 #[.agg #[.slice A n c], .int .i64 i, .slice LA ln lc, .int .i64 m] w (MadeIE w (whiV T i m N l) (mmatE T i m N l)) := by
  have hll := hrow0.1
  obtain ⟨E, hE⟩ : ∃ E, mmatE T i m N l = E := ⟨_, rfl⟩
  obtain ⟨M, hM⟩ : ∃ M, mmatV T i m N l = M := ⟨_, rfl⟩
  have hma := hide (fun W (hW : Below w.heap.size w W) => (show Calls Tryz.prog 20 #[.agg #[.slice A n c], .int .i64 i, .slice LA ln lc, .int .i64 m] W fun e w' => e = .returned (.tuple #[.bool M, .int .i64 E]) ∧ Below W.heap.size W w' from by rw [← hE, ← hM]; exact mMatch_ok A n c T i N LA ln lc l m W (h.below hW) (hmx.below hW) (hrow0.below (isV_stays N) hW) hnum))
  have hB0 := below_alloc (Below.refl w.heap.size w) (.cells #[.slice A n c] 24)
  have hbox0 : (w.alloc (.cells #[.slice A n c] 24)).cell? ⟨w.heap.size, 0, none⟩ = some (.slice A n c) := by go_simp
  have hl := h.1
  rw [hE]
  by_cases h0 : E = 0
  · subst h0
    obtain ⟨ha, hk⟩ := mmatE_zero.1 hE
    obtain ⟨hg, hm, hck⟩ := aksE_zero.1 hk
    have hir := (askI_zero.1 ha).2 i (by simp)
    obtain ⟨k, rfl⟩ := Int.eq_ofNat_of_zero_le hir.1
    have hkn : k < n := by omega
    have hn64 : n ≤ 64 := by have := ((goodB_iff T).1 hg).2.1; omega
    have hln64 : ln ≤ 64 := by
      have h1 := (chkV_zero.1 hck).2
      have h2 : l.length ≤ numV N l := len_numV N l
      omega
    have hV : Hid (whiV T k m N l = whiL T m N l k ln) := by show _ = _; unfold whiV; rw [if_pos hE, hll]; rfl
    rw [hV.out]
    have hrow := hide hrow0
    have hT := hide h
    have hls := hide (fun W (LA' : Option Addr) (lc' : Nat) (x : SelL N) (hx : x ∈ l) (hW : Below w.heap.size w W) (hr : IsRow (IsV N) W LA' 1 [x]) => listV_ok hg hm N A n c LA' 1 lc' [x] W (h.below hW) (hmx.below hW) hr ⟨0, false, false, by
      have := List.all_eq_true.1 (fineV_all (chkV_zero.1 hck).1) x hx
      rw [List.all_cons, this]; rfl⟩)
    clear h hmx hrow0 hnum hE hM ha hk hg hm hck hir hV
    go_enter Tryz.func23, Tryz.ntmps23
    go_wp2_with fail
    (with_reducible refine (hma.out _ hB0).mono ?_)
    rintro e w1 ⟨rfl, hb1⟩
    have hB1 := Below.on hB0 hb1
    have hbox1 := cell_later hb1 hbox0
    clear hb1 hB0 hbox0 hma
    go_wp2
    go_loopw [12, 27] (fun v s wr => ∃ q : Nat, q ≤ ln ∧ s = .int .i64 q ∧ OwnI wr w1.heap.size v (whiL T m N l k q) ∧ Below w1.heap.size w1 wr) (fun _ s _ => ln - (intOf s).toNat)
    case atStart => exact ⟨0, Nat.zero_le _, rfl, OwnI.nil _ _, Below.refl _ _⟩
    case round =>
      obtain ⟨q, hq, rfl, hown, hb⟩ := hrel
      have hBr := Below.on hB1 hb
      have hbox := cell_later hb hbox1
      by_cases hlt : q < ln
      · obtain ⟨b, off, ld, PA, pn, pc, KA, kn, kc, rfl, hbl, -, -, -, -⟩ := hrow.out.at hlt hll
        have hone := hide (IsRow.one hrow.out hlt hll)
        have hxm : l[q]'(by omega) ∈ l := List.getElem_mem _
        have hhit : Hid (hitV T m N l k q = isI T (csV N) (rwV T m N) (l[q]'(by omega)) k) := by show _ = _; unfold hitV; rw [List.getElem?_eq_getElem (by omega)]; rfl
        have hss := hide (whiL_succ T m N l k q)
        have hwl := whiL_len T m N l k q
        generalize l[q] = x at *
        have hk2 := hide (fun W (lc' : Nat) (hW : Below w.heap.size w W) => (show Calls Tryz.prog 35 #[.agg #[.slice A n c, .int .i64 m], .slice (if lc = q then some ⟨b, off, none⟩ else some ⟨b, off + q * 3, none⟩) 1 lc'] W (MadeRow W n (anyI T (csV N) (rwV T m N) [x])) from by rw [if_neg (by omega)]; exact hls.out W (some ⟨b, off + q * 3, none⟩) lc' x hxm hW (hone.out.below (isV_stays N) hW)))
        generalize whiL T m N l k q = XI at *
        have j0 : (0 : Int) ≤ (q : Int) := by omega
        have j1 : (q : Int) < (q : Int) + 1 := by omega
        have j2 : (q : Int) + 1 ≤ (lc : Int) := by omega
        have j3 : IntKind.i64.wrap ((q : Int) + 1) = (q : Int) + 1 := IntWalk.i64_in _ (by omega)
        have j4 : (0 : Int) ≤ (q : Int) + 1 := by omega
        have j5 : ((q : Int) + 1).toNat = q + 1 := by omega
        have i0 : (0 : Int) ≤ (k : Int) := by omega
        have i1 : (k : Int) < (n : Int) := by omega
        have hb1' : Hid (anyI T (csV N) (rwV T m N) [x] k = hitV T m N l k q) := by show _ = _; rw [hhit.out]; simp [anyI]
        obtain ⟨rb, hrb⟩ : ∃ rb, hitV T m N l k q = rb := ⟨_, rfl⟩
        rw [hrb] at hss hb1'
        clear hhit hrb
        generalize anyI T (csV N) (rwV T m N) [x] = F at *
        clear hls hone hxm
        cases rb
        · skip
          go_wp2
          refine wp_region_held_drew (S := fun X => X.cell? ⟨w.heap.size, 0, none⟩ = some (.slice A n c)) (by kernel_rfl) hbox (fun hHeld => ?_)
          refine heldTake 0 30 (.agg #[.slice A n c]) (by kernel_rfl) (by kernel_rfl) (by kernel_rfl) (by kernel_rfl) (fun _ _ _ h => h) (by rfl) ?_ (by assumption) ?_
          · intro W hW
            try dsimp only at hW
            simp only [List.getElem?_toArray, List.getElem?_cons_zero, Option.map_some, Option.some.injEq]
            go_simp
          try simp only [Act.put, List.setIfInBounds_toArray, List.set_cons_zero, List.set_cons_succ]
          refine heldTake 1 31 (.int .i64 m) (by kernel_rfl) (by kernel_rfl) (by kernel_rfl) (by kernel_rfl) (fun _ _ _ h => h) (by rfl) ?_ (by assumption) ?_
          · intro W hW
            try dsimp only at hW
            simp only [List.getElem?_toArray, List.getElem?_cons_succ, List.getElem?_cons_zero, Option.map_some, Option.some.injEq]
            go_simp
          try simp only [Act.put, List.setIfInBounds_toArray, List.set_cons_zero, List.set_cons_succ]
          refine heldTake 2 32 (.agg #[.slice A n c, .int .i64 m]) (by kernel_rfl) (by kernel_rfl) (by kernel_rfl) (by kernel_rfl) (fun _ _ _ h => h) (by rfl) ?_ (by assumption) ?_
          · intro W hW
            try dsimp only at hW
            simp only [List.getElem?_toArray, List.getElem?_cons_succ, List.getElem?_cons_zero, Option.map_some, Option.some.injEq]
            go_simp
          try simp only [Act.put, List.setIfInBounds_toArray, List.set_cons_zero, List.set_cons_succ]
          refine heldTake 3 33 (.slice (some ⟨b, off, none⟩) ln lc) (by kernel_rfl) (by kernel_rfl) (by kernel_rfl) (by kernel_rfl) (fun _ _ _ h => h) (by rfl) ?_ (by assumption) ?_
          · intro W hW
            try dsimp only at hW
            simp only [List.getElem?_toArray, List.getElem?_cons_succ, List.getElem?_cons_zero, Option.map_some, Option.some.injEq]
            go_simp
          try simp only [Act.put, List.setIfInBounds_toArray, List.set_cons_zero, List.set_cons_succ]
          refine heldTake 4 34 (.int .i64 q) (by kernel_rfl) (by kernel_rfl) (by kernel_rfl) (by kernel_rfl) (fun _ _ _ h => h) (by rfl) ?_ (by assumption) ?_
          · intro W hW
            try dsimp only at hW
            simp only [List.getElem?_toArray, List.getElem?_cons_succ, List.getElem?_cons_zero, Option.map_some, Option.some.injEq]
            go_simp
          try simp only [Act.put, List.setIfInBounds_toArray, List.set_cons_zero, List.set_cons_succ]
          refine heldTake 5 35 (.int .i64 q) (by kernel_rfl) (by kernel_rfl) (by kernel_rfl) (by kernel_rfl) (fun _ _ _ h => h) (by rfl) ?_ (by assumption) ?_
          · intro W hW
            try dsimp only at hW
            simp only [List.getElem?_toArray, List.getElem?_cons_succ, List.getElem?_cons_zero, Option.map_some, Option.some.injEq]
            go_simp
          try simp only [Act.put, List.setIfInBounds_toArray, List.set_cons_zero, List.set_cons_succ]
          refine heldTake 6 36 (.int .i64 (q + 1)) (by kernel_rfl) (by kernel_rfl) (by kernel_rfl) (by kernel_rfl) (fun _ _ _ h => h) (by rfl) ?_ (by assumption) ?_
          · intro W hW
            try dsimp only at hW
            simp only [List.getElem?_toArray, List.getElem?_cons_succ, List.getElem?_cons_zero, Option.map_some, Option.some.injEq]
            go_simp
          try simp only [Act.put, List.setIfInBounds_toArray, List.set_cons_zero, List.set_cons_succ]
          refine heldTake 7 37 (.slice (if lc = q then some ⟨b, off, none⟩ else some ⟨b, off + q * 3, none⟩) 1 (lc - q)) (by kernel_rfl) (by kernel_rfl) (by kernel_rfl) (by kernel_rfl) (fun _ _ _ h => h) (by rfl) ?_ (by assumption) ?_
          · intro W hW
            try dsimp only at hW
            simp only [List.getElem?_toArray, List.getElem?_cons_succ, List.getElem?_cons_zero, Option.map_some, Option.some.injEq]
            go_simp
          try simp only [Act.put, List.setIfInBounds_toArray, List.set_cons_zero, List.set_cons_succ]
          refine heldTake 9 39 (.int .i64 k) (by kernel_rfl) (by kernel_rfl) (by kernel_rfl) (by kernel_rfl) (fun _ _ _ h => h) (by rfl) ?_ (by assumption) ?_
          · intro W hW
            try dsimp only at hW
            simp only [List.getElem?_toArray, List.getElem?_cons_succ, List.getElem?_cons_zero, Option.map_some, Option.some.injEq]
            go_simp
          try simp only [Act.put, List.setIfInBounds_toArray, List.set_cons_zero, List.set_cons_succ]
          refine wpAnyH_ready (rs := [8]) (by kernel_rfl) (by simp) (AllReadyH.cons rfl (fun K hK => ?_) AllReadyH.nil)
          go_simp
          go_at_call 35
          (with_reducible refine (hk2.out _ _ hBr.drew).mono ?_)
          rintro e3 w3 ⟨g, rfl, hg0, hBs, hb3⟩
          have gk := hBs.cell hkn
          rw [hb1'.out] at gk
          refine hK.out _ _ (cell_later hb3 hbox) (fun hHeld1 => ?_)
          clear hK K hHeld
          try simp only [Act.put, List.setIfInBounds_toArray, List.set_cons_zero, List.set_cons_succ]
          refine heldTake 10 40 (.pointer (some ⟨g, k, none⟩)) (by kernel_rfl) (by kernel_rfl) (by kernel_rfl) (by kernel_rfl) (fun _ _ _ h => h) (by rfl) ?_ (by assumption) ?_
          · intro W hW
            try dsimp only at hW
            simp only [List.getElem?_toArray, List.getElem?_cons_succ, List.getElem?_cons_zero, Option.map_some, Option.some.injEq]
            go_simp
          try simp only [Act.put, List.setIfInBounds_toArray, List.set_cons_zero, List.set_cons_succ]
          refine wpAnyH_ready (rs := [11]) (by kernel_rfl) (by simp) (AllReadyH.cons rfl (fun K hK => ?_) AllReadyH.nil)
          go_simp
          refine hK.out _ _ (cell_later hb3 hbox) (fun hHeld2 => ?_)
          clear hK K hHeld1
          try simp only [Act.put, List.setIfInBounds_toArray, List.set_cons_zero, List.set_cons_succ]
          refine wpAnyH_done (by kernel_rfl) ?_ _
          have hown3 := hown.below (Below.on (Below.refl _ _).drew hb3)
          have hB3 := hide (Below.on (w1 := wr.drew) hb.drew hb3)
          have hss' : Hid (whiL T m N l k (q + 1) = XI) := by show _ = _; rw [hss.out]; simp
          clear hBs hown gk
          go_wp2
          go_roundw
          case rel => exact ⟨q + 1, by omega, by go_num, by rw [hss'.out]; exact hown3, hB3.out⟩
          case measure => simp [intOf]; omega
        · skip
          go_wp2
          refine wp_region_held_drew (S := fun X => X.cell? ⟨w.heap.size, 0, none⟩ = some (.slice A n c)) (by kernel_rfl) hbox (fun hHeld => ?_)
          refine heldTake 0 30 (.agg #[.slice A n c]) (by kernel_rfl) (by kernel_rfl) (by kernel_rfl) (by kernel_rfl) (fun _ _ _ h => h) (by rfl) ?_ (by assumption) ?_
          · intro W hW
            try dsimp only at hW
            simp only [List.getElem?_toArray, List.getElem?_cons_zero, Option.map_some, Option.some.injEq]
            go_simp
          try simp only [Act.put, List.setIfInBounds_toArray, List.set_cons_zero, List.set_cons_succ]
          refine heldTake 1 31 (.int .i64 m) (by kernel_rfl) (by kernel_rfl) (by kernel_rfl) (by kernel_rfl) (fun _ _ _ h => h) (by rfl) ?_ (by assumption) ?_
          · intro W hW
            try dsimp only at hW
            simp only [List.getElem?_toArray, List.getElem?_cons_succ, List.getElem?_cons_zero, Option.map_some, Option.some.injEq]
            go_simp
          try simp only [Act.put, List.setIfInBounds_toArray, List.set_cons_zero, List.set_cons_succ]
          refine heldTake 2 32 (.agg #[.slice A n c, .int .i64 m]) (by kernel_rfl) (by kernel_rfl) (by kernel_rfl) (by kernel_rfl) (fun _ _ _ h => h) (by rfl) ?_ (by assumption) ?_
          · intro W hW
            try dsimp only at hW
            simp only [List.getElem?_toArray, List.getElem?_cons_succ, List.getElem?_cons_zero, Option.map_some, Option.some.injEq]
            go_simp
          try simp only [Act.put, List.setIfInBounds_toArray, List.set_cons_zero, List.set_cons_succ]
          refine heldTake 3 33 (.slice (some ⟨b, off, none⟩) ln lc) (by kernel_rfl) (by kernel_rfl) (by kernel_rfl) (by kernel_rfl) (fun _ _ _ h => h) (by rfl) ?_ (by assumption) ?_
          · intro W hW
            try dsimp only at hW
            simp only [List.getElem?_toArray, List.getElem?_cons_succ, List.getElem?_cons_zero, Option.map_some, Option.some.injEq]
            go_simp
          try simp only [Act.put, List.setIfInBounds_toArray, List.set_cons_zero, List.set_cons_succ]
          refine heldTake 4 34 (.int .i64 q) (by kernel_rfl) (by kernel_rfl) (by kernel_rfl) (by kernel_rfl) (fun _ _ _ h => h) (by rfl) ?_ (by assumption) ?_
          · intro W hW
            try dsimp only at hW
            simp only [List.getElem?_toArray, List.getElem?_cons_succ, List.getElem?_cons_zero, Option.map_some, Option.some.injEq]
            go_simp
          try simp only [Act.put, List.setIfInBounds_toArray, List.set_cons_zero, List.set_cons_succ]
          refine heldTake 5 35 (.int .i64 q) (by kernel_rfl) (by kernel_rfl) (by kernel_rfl) (by kernel_rfl) (fun _ _ _ h => h) (by rfl) ?_ (by assumption) ?_
          · intro W hW
            try dsimp only at hW
            simp only [List.getElem?_toArray, List.getElem?_cons_succ, List.getElem?_cons_zero, Option.map_some, Option.some.injEq]
            go_simp
          try simp only [Act.put, List.setIfInBounds_toArray, List.set_cons_zero, List.set_cons_succ]
          refine heldTake 6 36 (.int .i64 (q + 1)) (by kernel_rfl) (by kernel_rfl) (by kernel_rfl) (by kernel_rfl) (fun _ _ _ h => h) (by rfl) ?_ (by assumption) ?_
          · intro W hW
            try dsimp only at hW
            simp only [List.getElem?_toArray, List.getElem?_cons_succ, List.getElem?_cons_zero, Option.map_some, Option.some.injEq]
            go_simp
          try simp only [Act.put, List.setIfInBounds_toArray, List.set_cons_zero, List.set_cons_succ]
          refine heldTake 7 37 (.slice (if lc = q then some ⟨b, off, none⟩ else some ⟨b, off + q * 3, none⟩) 1 (lc - q)) (by kernel_rfl) (by kernel_rfl) (by kernel_rfl) (by kernel_rfl) (fun _ _ _ h => h) (by rfl) ?_ (by assumption) ?_
          · intro W hW
            try dsimp only at hW
            simp only [List.getElem?_toArray, List.getElem?_cons_succ, List.getElem?_cons_zero, Option.map_some, Option.some.injEq]
            go_simp
          try simp only [Act.put, List.setIfInBounds_toArray, List.set_cons_zero, List.set_cons_succ]
          refine heldTake 9 39 (.int .i64 k) (by kernel_rfl) (by kernel_rfl) (by kernel_rfl) (by kernel_rfl) (fun _ _ _ h => h) (by rfl) ?_ (by assumption) ?_
          · intro W hW
            try dsimp only at hW
            simp only [List.getElem?_toArray, List.getElem?_cons_succ, List.getElem?_cons_zero, Option.map_some, Option.some.injEq]
            go_simp
          try simp only [Act.put, List.setIfInBounds_toArray, List.set_cons_zero, List.set_cons_succ]
          refine wpAnyH_ready (rs := [8]) (by kernel_rfl) (by simp) (AllReadyH.cons rfl (fun K hK => ?_) AllReadyH.nil)
          go_simp
          go_at_call 35
          (with_reducible refine (hk2.out _ _ hBr.drew).mono ?_)
          rintro e3 w3 ⟨g, rfl, hg0, hBs, hb3⟩
          have gk := hBs.cell hkn
          rw [hb1'.out] at gk
          refine hK.out _ _ (cell_later hb3 hbox) (fun hHeld1 => ?_)
          clear hK K hHeld
          try simp only [Act.put, List.setIfInBounds_toArray, List.set_cons_zero, List.set_cons_succ]
          refine heldTake 10 40 (.pointer (some ⟨g, k, none⟩)) (by kernel_rfl) (by kernel_rfl) (by kernel_rfl) (by kernel_rfl) (fun _ _ _ h => h) (by rfl) ?_ (by assumption) ?_
          · intro W hW
            try dsimp only at hW
            simp only [List.getElem?_toArray, List.getElem?_cons_succ, List.getElem?_cons_zero, Option.map_some, Option.some.injEq]
            go_simp
          try simp only [Act.put, List.setIfInBounds_toArray, List.set_cons_zero, List.set_cons_succ]
          refine wpAnyH_ready (rs := [11]) (by kernel_rfl) (by simp) (AllReadyH.cons rfl (fun K hK => ?_) AllReadyH.nil)
          go_simp
          refine hK.out _ _ (cell_later hb3 hbox) (fun hHeld2 => ?_)
          clear hK K hHeld1
          try simp only [Act.put, List.setIfInBounds_toArray, List.set_cons_zero, List.set_cons_succ]
          refine wpAnyH_done (by kernel_rfl) ?_ _
          have hown3 := hown.below (Below.on (Below.refl _ _).drew hb3)
          have hB3 := hide (Below.on (w1 := wr.drew) hb.drew hb3)
          have hsz3 : w1.heap.size ≤ w3.heap.size := hB3.out.size
          have hss' : Hid (whiL T m N l k (q + 1) = XI ++ [(q : Int)]) := by show _ = _; rw [hss.out]; simp
          clear hBs hown
          go_wp2_with (at_builtin; refine wpList_pushI rfl _ _ rfl hown3 (q : Int) _ rfl rfl (by omega) hsz3 ?_)
          intro A5 c5 w5 hown5 hgr
          have hB5 := hide (hgr.below (Nat.le_refl _) hB3.out)
          have hown5' := hide hown5
          clear hgr hown5 hown3
          go_wp2
          go_roundw
          case rel => exact ⟨q + 1, by omega, by go_num, by rw [hss'.out]; exact hown5'.out, hB5.out⟩
          case measure => simp [intOf]; omega
      · obtain rfl : ln = q := by omega
        obtain ⟨A9, c9, rfl, -, -, hI9⟩ := hown.isInts (by have := whiL_len T m N l k ln; omega)
        have hI9' := hide hI9
        generalize whiL T m N l k ln = XI at *
        clear hI9 hown
        go_wp2
        go_ret2
        exact ⟨A9, c9, rfl, hI9'.out, hBr⟩
  · have hV : Hid (whiV T i m N l = []) := by show _ = _; unfold whiV; rw [if_neg (by rw [hE]; exact h0)]
    have hcb : (E != 0) = true := by rw [bne_iff_ne]; exact h0
    rw [hV.out]
    clear hE hM h hmx hrow0 hnum h0
    go_enter Tryz.func23, Tryz.ntmps23
    go_wp2_with fail
    (with_reducible refine (hma.out _ hB0).mono ?_)
    rintro e w1 ⟨rfl, hb1⟩
    have hB1 := Below.on hB0 hb1
    go_wp2
    go_ret2
    exact madeIE_nil hB1
end Go.Proofs.YtljloicgjgbplaaGreat
