/- Compounds that are not right, limits and errors. No condition. -/
import Derived.Test.YtbedomopojiehaaSt
import Derived.Test.YtbedomopojiehaaQc
import Derived.Test.YtbedomopojiehaaMg
import Derived.Great.BuildSlice
import Derived.Deep.CutRange
import Derived.Deep.RegionHeld3
namespace Go.Proofs.Ytbedomopojiehaa.compoundNames
open Go.ChangeShapes Go.WideShapes Go.ChangeAt Go.RowKit

theorem isTree_nil (w : World) : IsTree w none 0 [] := ⟨rfl, by omega, fun x hx => by simp at hx, fun h => absurd h (by omega)⟩
theorem info_comp : (Try.prog.info? 65).map (fun i => (i.zero, i.size, i.bytes)) = some (some (.agg #[.string .empty, .slice none 0 0]), 2, 40) := by kernel_rfl
theorem cMatch_eq (T : List ANode) (i : Int) (tag : ByteArray) (S : List Sim) (m : Int) (tn : Nat) (B : List Bool) (V : Bool) (E : Int) (hV : cmV T i tag S m B tn = V) (hE : cmE T i tag S m tn = E) (A : Option Addr) (n c : Nat) (SA : Option Addr) (sn sc : Nat) (TA : Option Addr) (tc : Nat) (w : World) (h : IsTree w A n T) (hS0 : IsSims w SA sn S) (hB' : IsBools w TA tn B) (hmx : HasMax w) :
    Calls Try.prog 37 #[.agg #[.slice A n c], .int .i64 i, .agg #[.string tag, .slice SA sn sc], .int .i64 m, .slice TA tn tc] w fun r w' => r = .returned (.tuple #[.bool V, .int .i64 E]) ∧ Below w.heap.size w w' := by
  rw [← hV, ← hE]; exact compMatch_ok A n c T i tag SA sn sc S m TA tn tc B w h hS0 hB' hmx
theorem cAll_eq (T : List ANode) (tag : ByteArray) (S : List Sim) (m : Int) (H : List (List Bool)) (X : List Bool) (E : Int) (N : Nat) (hV : calV T tag S m H = X) (hE : calE T tag S m H = E) (hN : X.length = N) (A : Option Addr) (n c : Nat) (SA : Option Addr) (sn sc : Nat) (TA : Option Addr) (tn tc : Nat) (w : World) (h : IsTree w A n T) (hS0 : IsSims w SA sn S) (hH : IsBB w TA tn H) (hmx : HasMax w) :
    Calls Try.prog 43 #[.agg #[.slice A n c], .agg #[.string tag, .slice SA sn sc], .int .i64 m, .slice TA tn tc] w
      fun e w' => ∃ (A' : Option Addr) (c' : Nat), e = .returned (.tuple #[.slice A' N c', .int .i64 E]) ∧ IsBools w' A' N X ∧ Below w.heap.size w w' := by
  have hx := compAll_ok A n c T tag SA sn sc S m TA tn tc H w h hS0 hH hmx
  rw [hV, hE] at hx
  refine hx.mono ?_
  rintro e w' ⟨A', c', rfl, hI, -, -, hb⟩
  rw [hN] at hI
  exact ⟨A', c', by rw [hN], hI, hb⟩
theorem bad_errs (tag : ByteArray) (S : List Sim) (h : ckC tag S = 12) : cmE ex19T 0 tag S (-1) 0 = 12 ∧ cmV ex19T 0 tag S (-1) [] 0 = false ∧ calE ex19T tag S (-1) [] = 12 ∧ calV ex19T tag S (-1) [] = [] := by
  have h1 : ccE ex19T tag S (-1) = 12 := by unfold ccE; rw [if_pos goodB_ex19, if_pos (show modeB ex19T (-1) = true from rfl), h]
  have h2 : cmE ex19T 0 tag S (-1) 0 = 12 := by unfold cmE; rw [if_pos (show askI ex19T [0] = 0 by kernel_rfl), if_neg (by rw [h1]; omega)]; exact h1
  have h3 : calE ex19T tag S (-1) [] = 12 := by unfold calE; rw [if_neg (by rw [h1]; omega)]; exact h1
  exact ⟨h2, by unfold cmV; rw [if_neg (by rw [h2]; omega)], h3, by unfold calV; rw [if_neg (by rw [h3]; omega)]⟩
theorem ck_comp (tag : ByteArray) (S : List Sim) (c0 : Int) (h0 : ckC tag S = c0) (SA : Option Addr) (n c : Nat) (w : World) (h : IsSims w SA n S) :
    Calls Try.prog 41 #[.agg #[.string tag, .slice SA n c]] w fun r w' => r = .returned (.int .i64 c0) ∧ Below w.heap.size w w' := by
  rw [← h0]; exact compCheck_ok tag SA n c S w h
theorem isB_1 (W : World) (g : Nat) (t : TypeId) (hg : g = W.heap.size) : IsBools (W.alloc (.cells (madeCells #[.bool false] 1) t)) (some ⟨g, 0, none⟩) 1 [false] := by
  have e : madeCells #[.bool false] 1 = (bools [false]).toArray := by kernel_rfl
  rw [e]
  exact isBools_lt W g t [false] (by decide) hg
theorem mk_bbs (n : Nat) (hn : n ≤ 1000) (W : World) : (Instr.makeSlice 74 (.int .i64 n) (.int .i64 n)).run Try.prog W = .ok (.slice (some ⟨W.heap.size, 0, none⟩) n n) (W.alloc (.cells (madeCells #[.slice none 0 0] n) 47)) := by
  obtain ⟨i, hi, hz0, hz1, hz2⟩ := info_parts info_bb19
  have hr := run_make (P := Try.prog) W 74 47 i (.slice none 0 0) Try.underlying74 hi hz0 .i64 .i64 (n : Int) (n : Int) (by omega) (by omega) (by rw [hz2]; omega) (by omega)
  rw [hz1, show (Value.slice none 0 0).cells = #[.slice none 0 0] from rfl] at hr
  simpa using hr
theorem isBB_3 (W : World) (g : Nat) (t : TypeId) (hg : g = W.heap.size) : IsBB (W.alloc (.cells (madeCells #[.slice none 0 0] 3) t)) (some ⟨g, 0, none⟩) 3 [[], [], []] := by
  refine isBB_lt W g t [[], [], []] (fun _ => none) (fun _ => 0) _ (by decide) hg (fun j hj => ?_) (fun j hj => ?_)
  · rcases (show j = 0 ∨ j = 1 ∨ j = 2 by have : j < 3 := hj; omega) with rfl | rfl | rfl <;> (simp [madeCells]; rfl)
  · rcases (show j = 0 ∨ j = 1 ∨ j = 2 by have : j < 3 := hj; omega) with rfl | rfl | rfl <;> exact ⟨isBools_nil _, by decide, by decide⟩
theorem isBB_1 (W : World) (g : Nat) (t : TypeId) (hg : g = W.heap.size) : IsBB (W.alloc (.cells (madeCells #[.slice none 0 0] 1) t)) (some ⟨g, 0, none⟩) 1 [[]] := by
  refine isBB_lt W g t [[]] (fun _ => none) (fun _ => 0) _ (by decide) hg (fun j hj => ?_) (fun j hj => ?_)
  · obtain rfl : j = 0 := by have : j < 1 := hj; omega
    simp [madeCells]; rfl
  · obtain rfl : j = 0 := by have : j < 1 := hj; omega
    exact ⟨isBools_nil _, by decide, by decide⟩
set_option maxRecDepth 100000 in
set_option maxHeartbeats 16000000 in
theorem walk (w : World) (hmx : HasMax w) : Calls Try.prog 11 #[] w fun e w' => e = .returned (.bool true) ∧ Below w.heap.size w w' := by
  have hm' := hide hmx
  clear hmx
  go_enter Try.func11, Try.ntmps11
  go_wp2_with fail
  refine (example19_ok _).mono ?_
  rintro e w1 ⟨A3, c3, rfl, hT1, hb1⟩
  have hz1 := below_alloc hb1 (.cells #[.slice A3 3 c3] 43)
  have hT := hide (hT1.below (below_alloc (Below.refl _ _) (.cells #[.slice A3 3 c3] 43)))
  have hbox : (w1.alloc (.cells #[.slice A3 3 c3] 43)).cell? ⟨w1.heap.size, 0, none⟩ = some (.slice A3 3 c3) := by go_simp
  have hm := hide (hm'.out.below hz1)
  clear hT1 hb1
  have hmk1 : ∀ W : World, (Instr.makeSlice 58 (.int .i64 1) (.int .i64 1)).run Try.prog W = .ok (.slice (some ⟨W.heap.size, 0, none⟩) 1 1) (W.alloc (.cells (madeCells zC 9) 26)) := fun W => mk_sims 1 (by omega) W
  have hmk65 : ∀ W : World, (Instr.makeSlice 58 (.int .i64 65) (.int .i64 65)).run Try.prog W = .ok (.slice (some ⟨W.heap.size, 0, none⟩) 65 65) (W.alloc (.cells (madeCells zC 585) 26)) := fun W => mk_sims 65 (by omega) W
  go_upto_region 2 with fail
  generalize hw1 : w1.alloc (.cells #[.slice A3 3 c3] 43) = v0 at *
  go_cut [2] from 45 to 58 (fun v wx => Below v0.heap.size v0 wx ∧ ∃ gB g3 g5 g7 g9 : Nat, v = .slice (some ⟨gB, 0, none⟩) 6 6 ∧ wx.heap[gB]? = some (.cells #[.string ⟨#[]⟩, .slice none 0 0, .string (longS 65), .slice none 0 0, .string ⟨#[]⟩, .slice (some ⟨g3, 0, none⟩) 1 1, .string ⟨#[97]⟩, .slice (some ⟨g5, 0, none⟩) 1 1, .string ⟨#[97]⟩, .slice (some ⟨g7, 0, none⟩) 1 1, .string ⟨#[]⟩, .slice (some ⟨g9, 0, none⟩) 65 65] 65 (0, 0)) ∧ wx.heap[g3]? = some (.cells (madeCells zC 9) 26 (0, 0)) ∧ wx.heap[g5]? = some (.cells (simC (kS 15)) 26 (0, 0)) ∧ wx.heap[g7]? = some (.cells (simC (kS 1)) 26 (0, 0)) ∧ wx.heap[g9]? = some (.cells (madeCells zC 585) 26 (0, 0)) ∧ v0.heap.size ≤ g9)
  case first =>
    refine wp_region_held_drew (S := fun _ => True) (by kernel_rfl) trivial (fun hHeld => ?_)
    refine mgTake 0 45 (.agg #[.string ⟨#[]⟩, .slice none 0 0]) (by kernel_rfl) (by kernel_rfl) (by kernel_rfl) (by kernel_rfl) (fun _ _ _ h => h) (by rfl) ?_ (by assumption) ?_
    · intro W hW
      try dsimp only at hW
      simp only [List.getElem?_toArray, List.getElem?_cons_zero, Option.map_some, Option.some.injEq]
      go_simp
    try simp only [Act.put, List.setIfInBounds_toArray, List.set_cons_zero, List.set_cons_succ]
    refine mgTake 5 50 (.agg #[.int .u8 15, .string ⟨#[]⟩, .int .u8 0, .string ⟨#[]⟩, .bool false, .int .i64 0, .int .i64 0, .bool false, .slice none 0 0]) (by kernel_rfl) (by kernel_rfl) (by kernel_rfl) (by kernel_rfl) (fun _ _ _ h => h) (by rfl) ?_ (by assumption) ?_
    · intro W hW
      try dsimp only at hW
      simp only [List.getElem?_toArray, List.getElem?_cons_succ, List.getElem?_cons_zero, Option.map_some, Option.some.injEq]
      go_simp
    try simp only [Act.put, List.setIfInBounds_toArray, List.set_cons_zero, List.set_cons_succ]
    refine mgTake 8 53 (.agg #[.int .u8 1, .string ⟨#[]⟩, .int .u8 0, .string ⟨#[]⟩, .bool false, .int .i64 0, .int .i64 0, .bool false, .slice none 0 0]) (by kernel_rfl) (by kernel_rfl) (by kernel_rfl) (by kernel_rfl) (fun _ _ _ h => h) (by rfl) ?_ (by assumption) ?_
    · intro W hW
      try dsimp only at hW
      simp only [List.getElem?_toArray, List.getElem?_cons_succ, List.getElem?_cons_zero, Option.map_some, Option.some.injEq]
      go_simp
    try simp only [Act.put, List.setIfInBounds_toArray, List.set_cons_zero, List.set_cons_succ]
    refine merge10 (S := fun _ => True) (f := 2) (i1 := 1) (i2 := 2) (i3 := 3) (i4 := 4) (i5 := 6) (i6 := 7) (i7 := 9) (i8 := 10) (i9 := 11) (i10 := 12) (t1 := 46) (t2 := 47) (t3 := 48) (t4 := 49) (t5 := 51) (t6 := 52) (t7 := 54) (t8 := 55) (t9 := 56) (t10 := 57) (c1 := fun _ _ _ _ _ _ _ _ _ _ => true) (c2 := fun d1 _ _ _ _ _ _ _ _ _ => d1) (c3 := fun _ _ _ _ _ _ _ _ _ _ => true) (c4 := fun _ _ d3 _ _ _ _ _ _ _ => d3) (c5 := fun _ _ _ _ _ _ _ _ _ _ => true) (c6 := fun _ _ _ _ d5 _ _ _ _ _ => d5) (c7 := fun _ _ _ _ _ _ _ _ _ _ => true) (c8 := fun _ _ _ _ _ _ d7 _ _ _ => d7) (c9 := fun _ _ _ _ _ _ _ _ _ _ => true) (c10 := fun _ _ _ _ _ _ _ _ d9 _ => d9) (L := fun d1 d2 d3 d4 d5 d6 d7 d8 d9 d10 => #[true, d1, d2, d3, d4, true, d5, d6, true, d7, d8, d9, d10, false, false]) (F := fun (d1 : Bool) (d2 : Bool) (d3 : Bool) (d4 : Bool) (d5 : Bool) (d6 : Bool) (d7 : Bool) (d8 : Bool) (d9 : Bool) (d10 : Bool) (v1 : Value) (v2 : Value) (v3 : Value) (v4 : Value) (v5 : Value) (v6 : Value) (v7 : Value) (v8 : Value) (v9 : Value) (v10 : Value) W => Below v0.heap.size v0 W ∧ (d1 = true → v1 = .string (longS 65)) ∧ (d2 = true → d1 = true ∧ v2 = .agg #[v1, .slice none 0 0]) ∧ (d3 = true → ∃ g, v3 = .slice (some ⟨g, 0, none⟩) 1 1 ∧ W.heap[g]? = some (.cells (madeCells zC 9) 26 (0, 0))) ∧ (d4 = true → d3 = true ∧ v4 = .agg #[.string ⟨#[]⟩, v3]) ∧ (d5 = true → ∃ g, v5 = .slice (some ⟨g, 0, none⟩) 1 1 ∧ W.heap[g]? = some (.cells (simC (kS 15)) 26 (0, 0))) ∧ (d6 = true → d5 = true ∧ v6 = .agg #[.string ⟨#[97]⟩, v5]) ∧ (d7 = true → ∃ g, v7 = .slice (some ⟨g, 0, none⟩) 1 1 ∧ W.heap[g]? = some (.cells (simC (kS 1)) 26 (0, 0))) ∧ (d8 = true → d7 = true ∧ v8 = .agg #[.string ⟨#[97]⟩, v7]) ∧ (d9 = true → ∃ g, v9 = .slice (some ⟨g, 0, none⟩) 65 65 ∧ W.heap[g]? = some (.cells (madeCells zC 585) 26 (0, 0)) ∧ v0.heap.size ≤ g) ∧ (d10 = true → d9 = true ∧ v10 = .agg #[.string ⟨#[]⟩, v9])) (hready := by decide +kernel) (hne := by decide +kernel) (hok1 := by decide +kernel) (hok2 := by decide +kernel) (hok3 := by decide +kernel) (hok4 := by decide +kernel) (hok5 := by decide +kernel) (hok6 := by decide +kernel) (hok7 := by decide +kernel) (hok8 := by decide +kernel) (hok9 := by decide +kernel) (hok10 := by decide +kernel) (hset1 := fun _ _ _ _ _ _ _ _ _ => rfl) (hstep1 := ?s1) (hset2 := fun _ _ _ _ _ _ _ _ _ => rfl) (hstep2 := ?s2) (hset3 := fun _ _ _ _ _ _ _ _ _ => rfl) (hstep3 := ?s3) (hset4 := fun _ _ _ _ _ _ _ _ _ => rfl) (hstep4 := ?s4) (hset5 := fun _ _ _ _ _ _ _ _ _ => rfl) (hstep5 := ?s5) (hset6 := fun _ _ _ _ _ _ _ _ _ => rfl) (hstep6 := ?s6) (hset7 := fun _ _ _ _ _ _ _ _ _ => rfl) (hstep7 := ?s7) (hset8 := fun _ _ _ _ _ _ _ _ _ => rfl) (hstep8 := ?s8) (hset9 := fun _ _ _ _ _ _ _ _ _ => rfl) (hstep9 := ?s9) (hset10 := fun _ _ _ _ _ _ _ _ _ => rfl) (hstep10 := ?s10) (hend := ?fin) (x1 := undef) (x2 := undef) (x3 := undef) (x4 := undef) (x5 := undef) (x6 := undef) (x7 := undef) (x8 := undef) (x9 := undef) (x10 := undef) rfl rfl (by simp only [Act.put, List.setIfInBounds_toArray, List.set_cons_zero, List.set_cons_succ]) ?beg
    case s1 =>
      intro d2 d3 d4 d5 d6 d7 d8 d9 d10 v1 v2 v3 v4 v5 v6 v7 v8 v9 v10 W hc hF K hK
      obtain ⟨hb, f1, f2, f3, f4, f5, f6, f7, f8, f9, f10⟩ := hF
      simp only [Act.put, List.setIfInBounds_toArray, List.set_cons_zero, List.set_cons_succ] at hK ⊢
      refine wpOp_one rfl rfl ?_
      go_simp
      go_at_call 46
      refine (long19_ok 65 (by decide) _).mono ?_
      rintro e wa ⟨rfl, hba⟩
      exact hK _ _ trivial ⟨Below.on hb hba, (fun _ => rfl), (fun h => absurd (f2 h).1 (by simp)), (fun h => (f3 h).imp fun g h => ⟨h.1, (hba.block g (blk_lt h.2)).trans h.2⟩), f4, (fun h => (f5 h).imp fun g h => ⟨h.1, (hba.block g (blk_lt h.2)).trans h.2⟩), f6, (fun h => (f7 h).imp fun g h => ⟨h.1, (hba.block g (blk_lt h.2)).trans h.2⟩), f8, (fun h => (f9 h).imp fun g h => ⟨h.1, (hba.block g (blk_lt h.2.1)).trans h.2.1, h.2.2⟩), f10⟩
    case s2 =>
      intro d1 d3 d4 d5 d6 d7 d8 d9 d10 v1 v2 v3 v4 v5 v6 v7 v8 v9 v10 W hc hF K hK
      obtain ⟨hb, f1, f2, f3, f4, f5, f6, f7, f8, f9, f10⟩ := hF
      simp only [Act.put, List.setIfInBounds_toArray, List.set_cons_zero, List.set_cons_succ] at hK ⊢
      have hd1 : d1 = true := hc
      have e := f1 hd1
      subst e
      subst hd1
      refine wpOp_one rfl rfl ?_
      go_simp
      try simp only [Act.put, List.setIfInBounds_toArray, List.set_cons_zero, List.set_cons_succ]
      exact hK _ _ trivial ⟨hb, (fun _ => rfl), (fun _ => ⟨rfl, rfl⟩), f3, f4, f5, f6, f7, f8, f9, f10⟩
    case s3 =>
      intro d1 d2 d4 d5 d6 d7 d8 d9 d10 v1 v2 v3 v4 v5 v6 v7 v8 v9 v10 W hc hF K hK
      obtain ⟨hb, f1, f2, f3, f4, f5, f6, f7, f8, f9, f10⟩ := hF
      simp only [Act.put, List.setIfInBounds_toArray, List.set_cons_zero, List.set_cons_succ] at hK ⊢
      have hx := below_alloc (Below.refl W.heap.size W) (.cells (madeCells zC 9) 26)
      refine wpOp_one rfl rfl ?_
      go_simp
      try simp only [Act.put, List.setIfInBounds_toArray, List.set_cons_zero, List.set_cons_succ]
      exact hK _ _ trivial ⟨below_alloc hb _, f1, f2, (fun _ => ⟨_, rfl, blk_new _ _ _⟩), (fun h => absurd (f4 h).1 (by simp)), (fun h => (f5 h).imp fun g h => ⟨h.1, (hx.block g (blk_lt h.2)).trans h.2⟩), f6, (fun h => (f7 h).imp fun g h => ⟨h.1, (hx.block g (blk_lt h.2)).trans h.2⟩), f8, (fun h => (f9 h).imp fun g h => ⟨h.1, (hx.block g (blk_lt h.2.1)).trans h.2.1, h.2.2⟩), f10⟩
    case s4 =>
      intro d1 d2 d3 d5 d6 d7 d8 d9 d10 v1 v2 v3 v4 v5 v6 v7 v8 v9 v10 W hc hF K hK
      obtain ⟨hb, f1, f2, f3, f4, f5, f6, f7, f8, f9, f10⟩ := hF
      simp only [Act.put, List.setIfInBounds_toArray, List.set_cons_zero, List.set_cons_succ] at hK ⊢
      have hd3 : d3 = true := hc
      have hf := f3
      obtain ⟨g, e, hg⟩ := f3 hd3
      subst e
      subst hd3
      refine wpOp_one rfl rfl ?_
      clear hf
      go_simp
      try simp only [Act.put, List.setIfInBounds_toArray, List.set_cons_zero, List.set_cons_succ]
      exact hK _ _ trivial ⟨hb, f1, f2, (fun _ => ⟨g, rfl, hg⟩), (fun _ => ⟨rfl, rfl⟩), f5, f6, f7, f8, f9, f10⟩
    case s5 =>
      intro d1 d2 d3 d4 d6 d7 d8 d9 d10 v1 v2 v3 v4 v5 v6 v7 v8 v9 v10 W hc hF K hK
      obtain ⟨hb, f1, f2, f3, f4, f5, f6, f7, f8, f9, f10⟩ := hF
      simp only [Act.put, List.setIfInBounds_toArray, List.set_cons_zero, List.set_cons_succ] at hK ⊢
      have hx := below_alloc (Below.refl W.heap.size W) (.cells (simC (kS 15)) 26)
      refine wpOp_one rfl rfl ?_
      go_simp
      try simp only [Act.put, List.setIfInBounds_toArray, List.set_cons_zero, List.set_cons_succ]
      exact hK _ _ trivial ⟨below_alloc hb _, f1, f2, (fun h => (f3 h).imp fun g h => ⟨h.1, (hx.block g (blk_lt h.2)).trans h.2⟩), f4, (fun _ => ⟨_, rfl, blk_new _ _ _⟩), (fun h => absurd (f6 h).1 (by simp)), (fun h => (f7 h).imp fun g h => ⟨h.1, (hx.block g (blk_lt h.2)).trans h.2⟩), f8, (fun h => (f9 h).imp fun g h => ⟨h.1, (hx.block g (blk_lt h.2.1)).trans h.2.1, h.2.2⟩), f10⟩
    case s6 =>
      intro d1 d2 d3 d4 d5 d7 d8 d9 d10 v1 v2 v3 v4 v5 v6 v7 v8 v9 v10 W hc hF K hK
      obtain ⟨hb, f1, f2, f3, f4, f5, f6, f7, f8, f9, f10⟩ := hF
      simp only [Act.put, List.setIfInBounds_toArray, List.set_cons_zero, List.set_cons_succ] at hK ⊢
      have hd5 : d5 = true := hc
      have hf := f5
      obtain ⟨g, e, hg⟩ := f5 hd5
      subst e
      subst hd5
      refine wpOp_one rfl rfl ?_
      clear hf
      go_simp
      try simp only [Act.put, List.setIfInBounds_toArray, List.set_cons_zero, List.set_cons_succ]
      exact hK _ _ trivial ⟨hb, f1, f2, f3, f4, (fun _ => ⟨g, rfl, hg⟩), (fun _ => ⟨rfl, rfl⟩), f7, f8, f9, f10⟩
    case s7 =>
      intro d1 d2 d3 d4 d5 d6 d8 d9 d10 v1 v2 v3 v4 v5 v6 v7 v8 v9 v10 W hc hF K hK
      obtain ⟨hb, f1, f2, f3, f4, f5, f6, f7, f8, f9, f10⟩ := hF
      simp only [Act.put, List.setIfInBounds_toArray, List.set_cons_zero, List.set_cons_succ] at hK ⊢
      have hx := below_alloc (Below.refl W.heap.size W) (.cells (simC (kS 1)) 26)
      refine wpOp_one rfl rfl ?_
      go_simp
      try simp only [Act.put, List.setIfInBounds_toArray, List.set_cons_zero, List.set_cons_succ]
      exact hK _ _ trivial ⟨below_alloc hb _, f1, f2, (fun h => (f3 h).imp fun g h => ⟨h.1, (hx.block g (blk_lt h.2)).trans h.2⟩), f4, (fun h => (f5 h).imp fun g h => ⟨h.1, (hx.block g (blk_lt h.2)).trans h.2⟩), f6, (fun _ => ⟨_, rfl, blk_new _ _ _⟩), (fun h => absurd (f8 h).1 (by simp)), (fun h => (f9 h).imp fun g h => ⟨h.1, (hx.block g (blk_lt h.2.1)).trans h.2.1, h.2.2⟩), f10⟩
    case s8 =>
      intro d1 d2 d3 d4 d5 d6 d7 d9 d10 v1 v2 v3 v4 v5 v6 v7 v8 v9 v10 W hc hF K hK
      obtain ⟨hb, f1, f2, f3, f4, f5, f6, f7, f8, f9, f10⟩ := hF
      simp only [Act.put, List.setIfInBounds_toArray, List.set_cons_zero, List.set_cons_succ] at hK ⊢
      have hd7 : d7 = true := hc
      have hf := f7
      obtain ⟨g, e, hg⟩ := f7 hd7
      subst e
      subst hd7
      refine wpOp_one rfl rfl ?_
      clear hf
      go_simp
      try simp only [Act.put, List.setIfInBounds_toArray, List.set_cons_zero, List.set_cons_succ]
      exact hK _ _ trivial ⟨hb, f1, f2, f3, f4, f5, f6, (fun _ => ⟨g, rfl, hg⟩), (fun _ => ⟨rfl, rfl⟩), f9, f10⟩
    case s9 =>
      intro d1 d2 d3 d4 d5 d6 d7 d8 d10 v1 v2 v3 v4 v5 v6 v7 v8 v9 v10 W hc hF K hK
      obtain ⟨hb, f1, f2, f3, f4, f5, f6, f7, f8, f9, f10⟩ := hF
      simp only [Act.put, List.setIfInBounds_toArray, List.set_cons_zero, List.set_cons_succ] at hK ⊢
      have hx := below_alloc (Below.refl W.heap.size W) (.cells (madeCells zC 585) 26)
      refine wpOp_one rfl rfl ?_
      go_simp
      try simp only [Act.put, List.setIfInBounds_toArray, List.set_cons_zero, List.set_cons_succ]
      exact hK _ _ trivial ⟨below_alloc hb _, f1, f2, (fun h => (f3 h).imp fun g h => ⟨h.1, (hx.block g (blk_lt h.2)).trans h.2⟩), f4, (fun h => (f5 h).imp fun g h => ⟨h.1, (hx.block g (blk_lt h.2)).trans h.2⟩), f6, (fun h => (f7 h).imp fun g h => ⟨h.1, (hx.block g (blk_lt h.2)).trans h.2⟩), f8, (fun _ => ⟨_, rfl, blk_new _ _ _, hb.size⟩), (fun h => absurd (f10 h).1 (by simp))⟩
    case s10 =>
      intro d1 d2 d3 d4 d5 d6 d7 d8 d9 v1 v2 v3 v4 v5 v6 v7 v8 v9 v10 W hc hF K hK
      obtain ⟨hb, f1, f2, f3, f4, f5, f6, f7, f8, f9, f10⟩ := hF
      simp only [Act.put, List.setIfInBounds_toArray, List.set_cons_zero, List.set_cons_succ] at hK ⊢
      have hd9 : d9 = true := hc
      have hf := f9
      obtain ⟨g, e, hg⟩ := f9 hd9
      subst e
      subst hd9
      refine wpOp_one rfl rfl ?_
      clear hf
      go_simp
      try simp only [Act.put, List.setIfInBounds_toArray, List.set_cons_zero, List.set_cons_succ]
      exact hK _ _ trivial ⟨hb, f1, f2, f3, f4, f5, f6, f7, f8, (fun _ => ⟨g, rfl, hg⟩), (fun _ => ⟨rfl, rfl⟩)⟩
    case fin =>
      intro v1 v2 v3 v4 v5 v6 v7 v8 v9 v10 W hF
      obtain ⟨hb, f1, f2, f3, f4, f5, f6, f7, f8, f9, f10⟩ := hF
      simp only [Act.put, List.setIfInBounds_toArray, List.set_cons_zero, List.set_cons_succ]
      obtain rfl := f1 rfl
      obtain rfl := (f2 rfl).2
      obtain ⟨g3, rfl, h3⟩ := f3 rfl
      obtain rfl := (f4 rfl).2
      obtain ⟨g5, rfl, h5⟩ := f5 rfl
      obtain rfl := (f6 rfl).2
      obtain ⟨g7, rfl, h7⟩ := f7 rfl
      obtain rfl := (f8 rfl).2
      obtain ⟨g9, rfl, h9, h9'⟩ := f9 rfl
      obtain rfl := (f10 rfl).2
      clear f1 f2 f3 f4 f5 f6 f7 f8 f9 f10
      refine wpAnyH_ready (rs := [13]) (by kernel_rfl) (by simp) (AllReadyH.cons (o := { dst := some 58, op := _, type := _, pos := _, after := _, guard := none }) rfl (fun K hK => ?_) AllReadyH.nil)
      rw [if_pos (by rfl)]
      obtain ⟨ie, hie, hz0, hz1, hz2⟩ := info_parts info_comp
      refine wp_buildSlice 78 65 6 _ rfl #[.string ⟨#[]⟩, .slice none 0 0, .string (longS 65), .slice none 0 0, .string ⟨#[]⟩, .slice (some ⟨g3, 0, none⟩) 1 1, .string ⟨#[97]⟩, .slice (some ⟨g5, 0, none⟩) 1 1, .string ⟨#[97]⟩, .slice (some ⟨g7, 0, none⟩) 1 1, .string ⟨#[]⟩, .slice (some ⟨g9, 0, none⟩) 65 65] ie _ Try.underlying78 hie hz0 (by rw [hz1]; omega) (by rw [hz1]; omega) (by rw [hz1]; kernel_rfl) ?_
      have hx := below_alloc (Below.refl W.heap.size W) (.cells #[.string ⟨#[]⟩, .slice none 0 0, .string (longS 65), .slice none 0 0, .string ⟨#[]⟩, .slice (some ⟨g3, 0, none⟩) 1 1, .string ⟨#[97]⟩, .slice (some ⟨g5, 0, none⟩) 1 1, .string ⟨#[97]⟩, .slice (some ⟨g7, 0, none⟩) 1 1, .string ⟨#[]⟩, .slice (some ⟨g9, 0, none⟩) 65 65] 65)
      refine hK.out _ _ trivial (fun hHeld1 => ?_)
      try simp only [Act.put, List.setIfInBounds_toArray, List.set_cons_zero, List.set_cons_succ]
      refine mgTake 14 2 (.slice (some ⟨W.heap.size, 0, none⟩) 6 6) (by kernel_rfl) (by kernel_rfl) (by kernel_rfl) (by kernel_rfl) (fun _ _ _ h => h) (by rfl) ?_ (by assumption) ?_
      · intro W hW
        try dsimp only at hW
        simp only [List.getElem?_toArray, List.getElem?_cons_succ, List.getElem?_cons_zero, Option.map_some, Option.some.injEq]
        go_simp
      try simp only [Act.put, List.setIfInBounds_toArray, List.set_cons_zero, List.set_cons_succ]
      refine wpAnyH_done (by kernel_rfl) ?_ _
      go_wp2_with fail
      go_meet
      exact ⟨below_alloc hb _, _, g3, g5, g7, g9, rfl, blk_new _ _ _, (hx.block g3 (blk_lt h3)).trans h3, (hx.block g5 (blk_lt h5)).trans h5, (hx.block g7 (blk_lt h7)).trans h7, (hx.block g9 (blk_lt h9)).trans h9, h9'⟩
    case beg => exact ⟨(Below.refl v0.heap.size v0).drew, (fun h => by cases h), (fun h => by cases h), (fun h => by cases h), (fun h => by cases h), (fun h => by cases h), (fun h => by cases h), (fun h => by cases h), (fun h => by cases h), (fun h => by cases h), (fun h => by cases h)⟩
  case rest =>
  obtain ⟨hb2, gB, g3, g5, g7, g9, rfl, hB2, h3, h5, h7, h9, hge⟩ := hcut
  generalize wc = w2 at *
  have hS2 := S7.of h9
  obtain ⟨cs9, hc9, hz9⟩ := hS2.blk
  have n3 : g3 ≠ g9 := blk_size_ne h3 h9 (by rw [size_madeCells, size_madeCells]; omega)
  have n5 : g5 ≠ g9 := blk_size_ne h5 h9 (by rw [size_madeCells]; decide)
  have n7 : g7 ≠ g9 := blk_size_ne h7 h9 (by rw [size_madeCells]; decide)
  have nB : gB ≠ g9 := blk_size_ne hB2 h9 (by rw [size_madeCells]; show (12 : Nat) ≠ 585; decide)
  clear hc9 hz9 h9 hmk1 hmk65
  have hB2' := hide hB2
  have h3' := hide h3
  have h5' := hide h5
  have h7' := hide h7
  have hS2' := hide hS2
  clear hB2 h3 h5 h7 hS2
  go_wp2
  go_loopw [3] (fun s wr => ∃ k : Nat, k ≤ 65 ∧ s = .int .i64 k ∧ Below v0.heap.size v0 wr ∧ wr.heap[gB]? = some (.cells #[.string ⟨#[]⟩, .slice none 0 0, .string (longS 65), .slice none 0 0, .string ⟨#[]⟩, .slice (some ⟨g3, 0, none⟩) 1 1, .string ⟨#[97]⟩, .slice (some ⟨g5, 0, none⟩) 1 1, .string ⟨#[97]⟩, .slice (some ⟨g7, 0, none⟩) 1 1, .string ⟨#[]⟩, .slice (some ⟨g9, 0, none⟩) 65 65] 65 (0, 0)) ∧ wr.heap[g3]? = some (.cells (madeCells zC 9) 26 (0, 0)) ∧ wr.heap[g5]? = some (.cells (simC (kS 15)) 26 (0, 0)) ∧ wr.heap[g7]? = some (.cells (simC (kS 1)) 26 (0, 0)) ∧ S7 wr g9 k) (fun s _ => 65 - (intOf s).toNat)
  case atStart => exact ⟨0, Nat.zero_le _, rfl, hb2, hB2'.out, h3'.out, h5'.out, h7'.out, hS2'.out⟩
  case round =>
    obtain ⟨k, hk, rfl, hb, pB, p3, p5, p7, pS⟩ := hrel
    by_cases hlt : k < 65
    · have q1 : (0 : Int) ≤ (k : Int) := by omega
      have q2 : (k : Int) < 65 := by omega
      have cB : wr.cell? ⟨gB, 11, none⟩ = some (.slice (some ⟨g9, 0, none⟩) 65 65) := (blk_cell pB _).trans rfl
      obtain ⟨cs, h1, h2, h3⟩ := id pS
      have ec : wr.cell? ⟨g9, k * 9, none⟩ = some (cs[k * 9]'(by omega)) := by rw [blk_cell h1]; simp
      have ef : wr.frozen? ⟨g9, k * 9, none⟩ = false := blk_frozen h1 _
      generalize cs[k * 9]'(by omega) = ov at ec
      have hpB := hide pB
      have hp3 := hide p3
      have hp5 := hide p5
      have hp7 := hide p7
      have hpS := hide pS
      clear h1 h2 h3 pB p3 p5 p7 pS hB2' h3' h5' h7' hS2'
      go_wp2
      go_roundw
      case rel => exact ⟨k + 1, by omega, by go_num, hb.setCell hge _, blk_far hpB.out nB _, blk_far hp3.out n3 _, blk_far hp5.out n5 _, blk_far hp7.out n7 _, hpS.out.set hlt⟩
      case measure => simp [intOf]; omega
    · have e65 : (k : Int) = 65 := by omega
      rw [e65]
      obtain rfl : k = 65 := by omega
      clear e65
      generalize wr = z0 at *
      have hCT0 := compTab_of pB p3 p5 p7 pS
      clear pB p3 p5 p7 pS hB2' h3' h5' h7' hS2' n3 n5 n7 nB hb2
      generalize (some ⟨gB, 0, none⟩ : Option Addr) = AB at *
      have hB := Below.on hz1 hb
      have hbx := cell_later hb hbox
      have hTz := hide (hT.out.below hb)
      have hmz := hide (hm.out.below hb)
      have hCT := hide hCT0
      clear hbox hT hm hb hz1 hge hCT0 hm'
      go_wp2
      go_loopw [4] (fun s wr => ∃ q : Nat, q ≤ 6 ∧ s = .int .i64 q ∧ Below z0.heap.size z0 wr) (fun s _ => 6 - (intOf s).toNat)
      case atStart => exact ⟨0, Nat.zero_le _, rfl, Below.refl _ _⟩
      case round =>
        clear hlt hk
        obtain ⟨q, hq, rfl, hb⟩ := hrel
        have hBr := Below.on hB hb
        have hbox := cell_later hb hbx
        have hT := hide (hTz.out.below hb)
        have hm := hide (hmz.out.below hb)
        obtain ⟨tb, tof, rfl, htl, htc⟩ := hCT.out
        by_cases hlt : q < 6
        · obtain ⟨SA, sn, sc, e0, e1, e2, e3, e4⟩ := htc q hlt
          have r0 := cell_later hb e0
          have r1 := cell_later hb e1
          have r2 := hide (e2.below hb)
          have hck0 := bad19_ck q hlt
          obtain ⟨k1, k2, k3, k4⟩ := bad_errs _ _ hck0
          have q1 : (0 : Int) ≤ (q : Int) := by omega
          have q2 : (q : Int) < 6 := by omega
          have hck := hide hck0
          clear e0 e1 e2 e3 e4 htc hck0
          generalize badTag q = tg at *
          generalize badSims q = SS at *
          have hk1 := hide (fun (W : World) (h : IsTree W A3 3 ex19T) (hS : IsSims W SA sn SS) (hx : HasMax W) => cMatch_eq ex19T 0 tg SS (-1) 0 [] false 12 k2 k1 A3 3 c3 SA sn sc none 0 W h hS (isBools_nil W) hx)
          have hk2 := hide (fun (W : World) (h : IsTree W A3 3 ex19T) (hS : IsSims W SA sn SS) (hx : HasMax W) => cAll_eq ex19T tg SS (-1) [] [] 12 0 k4 k3 rfl A3 3 c3 SA sn sc none 0 0 W h hS (isBB_nil W) hx)
          clear k1 k2 k3 k4
          go_wp2
          go_region_held3 (fun X => X.cell? ⟨w1.heap.size, 0, none⟩ = some (.slice A3 3 c3) ∧ X.cell? ⟨tb, tof + q * 2, none⟩ = some (.string tg) ∧ X.cell? ⟨tb, tof + q * 2 + 1, none⟩ = some (.slice SA sn sc)) (first | exact ⟨hbox, r0, r1⟩ | exact ⟨y0, y1, y2⟩) (first | (go_at_call 37; (with_reducible refine (hk1.out wr.drew (hT.out.below (Below.refl _ _).drew) (r2.out.below (Below.refl _ _).drew) (hm.out.below (Below.refl _ _).drew)).mono ?_); rintro e x1 ⟨rfl, hy⟩; have y0 := cell_later hy hbox; have y1 := cell_later hy r0; have y2 := cell_later hy r1))
          have hz := Below.on (w1 := wr.drew) (Below.refl _ _).drew hy
          have u2 := hide (r2.out.below hz)
          have uT := hide (hT.out.below hz)
          have um := hide (hm.out.below hz)
          have hb1 := Below.on hb hz
          clear hbox r0 r1 r2 hT hm hz hy hb
          go_wp2
          go_region_held3 (fun X => X.cell? ⟨w1.heap.size, 0, none⟩ = some (.slice A3 3 c3) ∧ X.cell? ⟨tb, tof + q * 2, none⟩ = some (.string tg) ∧ X.cell? ⟨tb, tof + q * 2 + 1, none⟩ = some (.slice SA sn sc)) (first | exact ⟨y0, y1, y2⟩ | exact ⟨r0, r1, r2⟩) (first | (go_at_call 43; (with_reducible refine (hk2.out x1.drew (uT.out.below (Below.refl _ _).drew) (u2.out.below (Below.refl _ _).drew) (um.out.below (Below.refl _ _).drew)).mono ?_); rintro e x2 ⟨A9, c9, rfl, -, hy⟩; have r0 := cell_later hy y0; have r1 := cell_later hy y1; have r2 := cell_later hy y2))
          have hz := Below.on (w1 := x1.drew) (Below.refl _ _).drew hy
          have t2 := hide (u2.out.below hz)
          have hb2 := Below.on hb1 hz
          clear y0 y1 y2 r0 u2 uT um hb1 hz hy
          go_wp2_with fail
          refine (ck_comp tg SS 12 hck.out SA sn sc _ t2.out).mono ?_
          rintro e x3 ⟨rfl, hy⟩
          have hb3 := Below.on hb2 hy
          go_wp2
          go_roundw
          case rel => exact ⟨q + 1, by omega, by go_num, hb3⟩
          case measure => simp [intOf]; omega
        · have e6 : (q : Int) = 6 := by omega
          rw [e6]
          obtain rfl : q = 6 := by omega
          clear e6
          generalize wr = z1 at *
          obtain ⟨SA0, sn0, sc0, a0, a1, a2, -, -⟩ := htc 0 (by omega)
          obtain ⟨SA5, sn5, sc5, b0, b1, b2, b3, b4⟩ := htc 5 (by omega)
          obtain rfl : (0 : Nat) = sn0 := a2.1
          obtain rfl : (65 : Nat) = sn5 := b2.1
          have c0 : z1.cell? ⟨tb, tof, none⟩ = some (.string ⟨#[]⟩) := by have := cell_later hb a0; rw [Nat.zero_mul, Nat.add_zero] at this; exact this
          have c1 : z1.cell? ⟨tb, tof + 1, none⟩ = some (.slice SA0 0 sc0) := by have := cell_later hb a1; rw [Nat.zero_mul, Nat.add_zero] at this; exact this
          have d1 : z1.cell? ⟨tb, tof + 10 + 1, none⟩ = some (.slice SA5 65 sc5) := cell_later hb b1
          have iE := hide (show IsSims z1 SA0 0 [] from a2.below hb)
          have i64 := hide (show IsSims z1 SA5 64 (List.replicate 64 s7) from (b2.below hb).take 64 (by omega))
          have g64 : (64 : Int) ≤ (sc5 : Int) := by omega
          have hB1 := hBr
          clear a0 a1 a2 b0 b1 b2 b4 htc hCT hTz hmz hbx hBr hb hB hq hlt
          go_upto_region 14 with fail
          go_cut [9] from 108 to 114 (fun v wx => Below z1.heap.size z1 wx ∧ ∃ g, v = .pointer (some ⟨g, 0, none⟩) ∧ wx.cell? ⟨g, 0, none⟩ = some (.string (longS 64)) ∧ wx.cell? ⟨g, 1, none⟩ = some (.slice SA5 64 sc5))
          case first =>
            have hdr := (Below.refl z1.heap.size z1).drew
            have hne : z1.heap.size ≠ tb := by have h1 := cell_in d1; dsimp only at h1; omega
            go_region_held3 (fun X => X.cell? ⟨tb, tof + 10 + 1, none⟩ = some (.slice SA5 65 sc5)) (first | exact d1 | exact y1 | exact far_al d1 _ | exact far_al y1 _ | (rw [World.cell?_setCell_far _ _ _ _ hne, World.cell?_setCell_far _ _ _ _ hne]; exact y1)) (first
              | (go_at_call 46; refine (long19_ok 64 (by decide) _).mono ?_; rintro e wa ⟨rfl, hba⟩; first
                | (have y1 := cell_later hba d1; have hup := Below.on hdr hba)
                | (have y1 := cell_later hba (far_al d1 _); have hbk := (hba.block z1.heap.size (by simp)).trans (blk_new z1.drew _ _); have k0 : wa.cell? ⟨z1.heap.size, 0, none⟩ = some (.string .empty) := (blk_cell hbk 0).trans rfl; have k1 : wa.cell? ⟨z1.heap.size, 1, none⟩ = some (.slice none 0 0) := (blk_cell hbk 1).trans rfl; have k2 : wa.frozen? ⟨z1.heap.size, 0, none⟩ = false := blk_frozen hbk 0; have k3 : wa.frozen? ⟨z1.heap.size, 1, none⟩ = false := blk_frozen hbk 1; have hup := Below.on (below_alloc hdr _) hba)))
            all_goals
              go_wp2_with fail
              go_meet
            · exact ⟨below_alloc hup _, _, rfl, by go_simp, by go_simp⟩
            · refine ⟨(hup.setCell (p := ⟨z1.heap.size, 0, none⟩) (Nat.le_refl _) _).setCell (p := ⟨z1.heap.size, 1, none⟩) (Nat.le_refl _) _, _, rfl, by go_simp, by go_simp⟩
          case rest =>
          obtain ⟨hb2, g9m, rfl, m0, m1⟩ := hcut
          generalize wc = z2 at *
          have hbox_n := cell_later hb2 hbox
          clear hbox
          have hbox := hbox_n
          clear hbox_n
          have c0_n := cell_later hb2 c0
          clear c0
          have c0 := c0_n
          clear c0_n
          have c1_n := cell_later hb2 c1
          clear c1
          have c1 := c1_n
          clear c1_n
          have hT_n := hide (hT.out.below hb2)
          clear hT
          have hT := hT_n
          clear hT_n
          have hm_n := hide (hm.out.below hb2)
          clear hm
          have hm := hm_n
          clear hm_n
          have iE_n := hide (iE.out.below hb2)
          clear iE
          have iE := iE_n
          clear iE_n
          have i64_n := hide (i64.out.below hb2)
          clear i64
          have i64 := i64_n
          clear i64_n
          have hB1_n := Below.on hB1 hb2
          clear hB1
          have hB1 := hB1_n
          clear hB1_n
          clear hb2 d1
          go_wp2_with fail
          refine (visited_ok _).mono ?_
          rintro e z3 ⟨AV, CV, rfl, hVA, hVB, hb3⟩
          have hx := below_alloc (below_alloc (Below.refl z3.heap.size z3) (.cells #[.string (bs [97]), .slice AV 2 2] 65)) (.cells #[.string (bs [42]), .slice CV 1 1] 65)
          have iA := hide (hVA.below hx)
          have iB := hide (hVB.below hx)
          have hy := Below.on hb3 hx
          have va0 : ((z3.alloc (.cells #[.string (bs [97]), .slice AV 2 2] 65)).alloc (.cells #[.string (bs [42]), .slice CV 1 1] 65)).cell? ⟨z3.heap.size, 0, none⟩ = some (.string (bs [97])) := by go_simp
          have va1 : ((z3.alloc (.cells #[.string (bs [97]), .slice AV 2 2] 65)).alloc (.cells #[.string (bs [42]), .slice CV 1 1] 65)).cell? ⟨z3.heap.size, 1, none⟩ = some (.slice AV 2 2) := by go_simp
          have vb0 : ((z3.alloc (.cells #[.string (bs [97]), .slice AV 2 2] 65)).alloc (.cells #[.string (bs [42]), .slice CV 1 1] 65)).cell? ⟨z3.heap.size + 1, 0, none⟩ = some (.string (bs [42])) := by go_simp
          have vb1 : ((z3.alloc (.cells #[.string (bs [97]), .slice AV 2 2] 65)).alloc (.cells #[.string (bs [42]), .slice CV 1 1] 65)).cell? ⟨z3.heap.size + 1, 1, none⟩ = some (.slice CV 1 1) := by go_simp
          clear hVA hVB hb3 hx
          go_upto_region 16 with fail
          generalize (z3.alloc (.cells #[.string (bs [97]), .slice AV 2 2] 65)).alloc (.cells #[.string (bs [42]), .slice CV 1 1] 65) = z4 at *
          have hbox_n := cell_later hy hbox
          clear hbox
          have hbox := hbox_n
          clear hbox_n
          have c0_n := cell_later hy c0
          clear c0
          have c0 := c0_n
          clear c0_n
          have c1_n := cell_later hy c1
          clear c1
          have c1 := c1_n
          clear c1_n
          have m0_n := cell_later hy m0
          clear m0
          have m0 := m0_n
          clear m0_n
          have m1_n := cell_later hy m1
          clear m1
          have m1 := m1_n
          clear m1_n
          have hT_n := hide (hT.out.below hy)
          clear hT
          have hT := hT_n
          clear hT_n
          have hm_n := hide (hm.out.below hy)
          clear hm
          have hm := hm_n
          clear hm_n
          have iE_n := hide (iE.out.below hy)
          clear iE
          have iE := iE_n
          clear iE_n
          have i64_n := hide (i64.out.below hy)
          clear i64
          have i64 := i64_n
          clear i64_n
          have hB1_n := Below.on hB1 hy
          clear hB1
          have hB1 := hB1_n
          clear hB1_n
          clear hy
          go_wp2_with fail
          refine (cMatch_eq [] (-1) ⟨#[]⟩ [] (-2) 0 [] false 8 (by kernel_rfl) (by kernel_rfl) none 0 0 SA0 0 sc0 none 0 _ (isTree_nil _) iE.out (isBools_nil _) hm.out).mono ?_
          rintro e z5 ⟨rfl, hy⟩
          have hbox_n := cell_later hy hbox
          clear hbox
          have hbox := hbox_n
          clear hbox_n
          have c0_n := cell_later hy c0
          clear c0
          have c0 := c0_n
          clear c0_n
          have c1_n := cell_later hy c1
          clear c1
          have c1 := c1_n
          clear c1_n
          have m0_n := cell_later hy m0
          clear m0
          have m0 := m0_n
          clear m0_n
          have m1_n := cell_later hy m1
          clear m1
          have m1 := m1_n
          clear m1_n
          have va0_n := cell_later hy va0
          clear va0
          have va0 := va0_n
          clear va0_n
          have va1_n := cell_later hy va1
          clear va1
          have va1 := va1_n
          clear va1_n
          have vb0_n := cell_later hy vb0
          clear vb0
          have vb0 := vb0_n
          clear vb0_n
          have vb1_n := cell_later hy vb1
          clear vb1
          have vb1 := vb1_n
          clear vb1_n
          have hT_n := hide (hT.out.below hy)
          clear hT
          have hT := hT_n
          clear hT_n
          have hm_n := hide (hm.out.below hy)
          clear hm
          have hm := hm_n
          clear hm_n
          have iE_n := hide (iE.out.below hy)
          clear iE
          have iE := iE_n
          clear iE_n
          have i64_n := hide (i64.out.below hy)
          clear i64
          have i64 := i64_n
          clear i64_n
          have iA_n := hide (iA.out.below hy)
          clear iA
          have iA := iA_n
          clear iA_n
          have iB_n := hide (iB.out.below hy)
          clear iB
          have iB := iB_n
          clear iB_n
          have hB1_n := Below.on hB1 hy
          clear hB1
          have hB1 := hB1_n
          clear hB1_n
          clear hy
          go_wp2
          go_region_held3 (fun X => X.cell? ⟨w1.heap.size, 0, none⟩ = some (.slice A3 3 c3) ∧ X.cell? ⟨tb, tof, none⟩ = some (.string ⟨#[]⟩) ∧ X.cell? ⟨tb, tof + 1, none⟩ = some (.slice SA0 0 sc0)) (first | exact ⟨hbox, c0, c1⟩ | exact ⟨hbox_b, c0_b, c1_b⟩) (first | (go_at_call 37; (with_reducible refine (cMatch_eq ex19T 3 ⟨#[]⟩ [] (-2) 0 [] false 2 (by kernel_rfl) (by kernel_rfl) A3 3 c3 SA0 0 sc0 none 0 _ (hT.out.below (Below.refl _ _).drew) (iE.out.below (Below.refl _ _).drew) (isBools_nil _) (hm.out.below (Below.refl _ _).drew)).mono ?_); rintro e z6 ⟨rfl, hy⟩; have hbox_b := cell_later hy hbox; have c0_b := cell_later hy c0; have c1_b := cell_later hy c1))
          have hz := Below.on (w1 := z5.drew) (Below.refl _ _).drew hy
          clear hbox_b c0_b c1_b hy
          have hbox_n := cell_later hz hbox
          clear hbox
          have hbox := hbox_n
          clear hbox_n
          have c0_n := cell_later hz c0
          clear c0
          have c0 := c0_n
          clear c0_n
          have c1_n := cell_later hz c1
          clear c1
          have c1 := c1_n
          clear c1_n
          have m0_n := cell_later hz m0
          clear m0
          have m0 := m0_n
          clear m0_n
          have m1_n := cell_later hz m1
          clear m1
          have m1 := m1_n
          clear m1_n
          have va0_n := cell_later hz va0
          clear va0
          have va0 := va0_n
          clear va0_n
          have va1_n := cell_later hz va1
          clear va1
          have va1 := va1_n
          clear va1_n
          have vb0_n := cell_later hz vb0
          clear vb0
          have vb0 := vb0_n
          clear vb0_n
          have vb1_n := cell_later hz vb1
          clear vb1
          have vb1 := vb1_n
          clear vb1_n
          have hT_n := hide (hT.out.below hz)
          clear hT
          have hT := hT_n
          clear hT_n
          have hm_n := hide (hm.out.below hz)
          clear hm
          have hm := hm_n
          clear hm_n
          have iE_n := hide (iE.out.below hz)
          clear iE
          have iE := iE_n
          clear iE_n
          have i64_n := hide (i64.out.below hz)
          clear i64
          have i64 := i64_n
          clear i64_n
          have iA_n := hide (iA.out.below hz)
          clear iA
          have iA := iA_n
          clear iA_n
          have iB_n := hide (iB.out.below hz)
          clear iB
          have iB := iB_n
          clear iB_n
          have hB1_n := Below.on hB1 hz
          clear hB1
          have hB1 := hB1_n
          clear hB1_n
          clear hz
          go_wp2
          go_region_held3 (fun X => X.cell? ⟨w1.heap.size, 0, none⟩ = some (.slice A3 3 c3) ∧ X.cell? ⟨tb, tof, none⟩ = some (.string ⟨#[]⟩) ∧ X.cell? ⟨tb, tof + 1, none⟩ = some (.slice SA0 0 sc0)) (first | exact ⟨hbox, c0, c1⟩ | exact ⟨hbox_b, c0_b, c1_b⟩) (first | (go_at_call 37; (with_reducible refine (cMatch_eq ex19T 0 ⟨#[]⟩ [] 0 0 [] false 2 (by kernel_rfl) (by kernel_rfl) A3 3 c3 SA0 0 sc0 none 0 _ (hT.out.below (Below.refl _ _).drew) (iE.out.below (Below.refl _ _).drew) (isBools_nil _) (hm.out.below (Below.refl _ _).drew)).mono ?_); rintro e z7 ⟨rfl, hy⟩; have hbox_b := cell_later hy hbox; have c0_b := cell_later hy c0; have c1_b := cell_later hy c1))
          have hz := Below.on (w1 := z6.drew) (Below.refl _ _).drew hy
          clear hbox_b c0_b c1_b hy
          have hbox_n := cell_later hz hbox
          clear hbox
          have hbox := hbox_n
          clear hbox_n
          have c0_n := cell_later hz c0
          clear c0
          have c0 := c0_n
          clear c0_n
          have c1_n := cell_later hz c1
          clear c1
          have c1 := c1_n
          clear c1_n
          have m0_n := cell_later hz m0
          clear m0
          have m0 := m0_n
          clear m0_n
          have m1_n := cell_later hz m1
          clear m1
          have m1 := m1_n
          clear m1_n
          have va0_n := cell_later hz va0
          clear va0
          have va0 := va0_n
          clear va0_n
          have va1_n := cell_later hz va1
          clear va1
          have va1 := va1_n
          clear va1_n
          have vb0_n := cell_later hz vb0
          clear vb0
          have vb0 := vb0_n
          clear vb0_n
          have vb1_n := cell_later hz vb1
          clear vb1
          have vb1 := vb1_n
          clear vb1_n
          have hT_n := hide (hT.out.below hz)
          clear hT
          have hT := hT_n
          clear hT_n
          have hm_n := hide (hm.out.below hz)
          clear hm
          have hm := hm_n
          clear hm_n
          have iE_n := hide (iE.out.below hz)
          clear iE
          have iE := iE_n
          clear iE_n
          have i64_n := hide (i64.out.below hz)
          clear i64
          have i64 := i64_n
          clear i64_n
          have iA_n := hide (iA.out.below hz)
          clear iA
          have iA := iA_n
          clear iA_n
          have iB_n := hide (iB.out.below hz)
          clear iB
          have iB := iB_n
          clear iB_n
          have hB1_n := Below.on hB1 hz
          clear hB1
          have hB1 := hB1_n
          clear hB1_n
          clear hz
          have hmk1 : ∀ W : World, (Instr.makeSlice 47 (.int .i64 1) (.int .i64 1)).run Try.prog W = .ok (.slice (some ⟨W.heap.size, 0, none⟩) 1 1) (W.alloc (.cells (madeCells #[.bool false] 1) 4)) := fun W => mk_bools 1 (by omega) W
          have hxm := (below_alloc (Below.refl z7.heap.size z7) (.cells (madeCells #[.bool false] 1) 4)).drew
          have hmI : IsBools (z7.alloc (.cells (madeCells #[.bool false] 1) 4)).drew (some ⟨z7.heap.size, 0, none⟩) 1 [false] := isB_1 z7 z7.heap.size 4 rfl
          go_wp2
          go_region_held3 (fun X => X.cell? ⟨w1.heap.size, 0, none⟩ = some (.slice A3 3 c3) ∧ X.cell? ⟨z3.heap.size, 0, none⟩ = some (.string (bs [97])) ∧ X.cell? ⟨z3.heap.size, 1, none⟩ = some (.slice AV 2 2)) (first | exact ⟨hbox, va0, va1⟩ | exact ⟨hbox_b, va0_b, va1_b⟩ | exact ⟨far_al hbox _, far_al va0 _, far_al va1 _⟩) (first | (go_at_call 37; (with_reducible refine (cMatch_eq ex19T 0 (bs [97]) visA (-1) 1 [false] false 2 (by kernel_rfl) (by kernel_rfl) A3 3 c3 AV 2 2 (some ⟨z7.heap.size, 0, none⟩) 1 _ (hT.out.below hxm) (iA.out.below hxm) hmI (hm.out.below hxm)).mono ?_); rintro e z8 ⟨rfl, hy⟩; have hbox_b := cell_later hy (far_al hbox _); have va0_b := cell_later hy (far_al va0 _); have va1_b := cell_later hy (far_al va1 _)))
          have hz := Below.on hxm hy
          clear hbox_b va0_b va1_b hy hxm hmI
          have hbox_n := cell_later hz hbox
          clear hbox
          have hbox := hbox_n
          clear hbox_n
          have c0_n := cell_later hz c0
          clear c0
          have c0 := c0_n
          clear c0_n
          have c1_n := cell_later hz c1
          clear c1
          have c1 := c1_n
          clear c1_n
          have m0_n := cell_later hz m0
          clear m0
          have m0 := m0_n
          clear m0_n
          have m1_n := cell_later hz m1
          clear m1
          have m1 := m1_n
          clear m1_n
          have va0_n := cell_later hz va0
          clear va0
          have va0 := va0_n
          clear va0_n
          have va1_n := cell_later hz va1
          clear va1
          have va1 := va1_n
          clear va1_n
          have vb0_n := cell_later hz vb0
          clear vb0
          have vb0 := vb0_n
          clear vb0_n
          have vb1_n := cell_later hz vb1
          clear vb1
          have vb1 := vb1_n
          clear vb1_n
          have hT_n := hide (hT.out.below hz)
          clear hT
          have hT := hT_n
          clear hT_n
          have hm_n := hide (hm.out.below hz)
          clear hm
          have hm := hm_n
          clear hm_n
          have iE_n := hide (iE.out.below hz)
          clear iE
          have iE := iE_n
          clear iE_n
          have i64_n := hide (i64.out.below hz)
          clear i64
          have i64 := i64_n
          clear i64_n
          have iA_n := hide (iA.out.below hz)
          clear iA
          have iA := iA_n
          clear iA_n
          have iB_n := hide (iB.out.below hz)
          clear iB
          have iB := iB_n
          clear iB_n
          have hB1_n := Below.on hB1 hz
          clear hB1
          have hB1 := hB1_n
          clear hB1_n
          clear hz
          clear hmk1
          go_wp2_with fail
          refine (cAll_eq [] ⟨#[]⟩ [] (-2) [] [] 8 0 (by kernel_rfl) (by kernel_rfl) rfl none 0 0 SA0 0 sc0 none 0 0 _ (isTree_nil _) iE.out (isBB_nil _) hm.out).mono ?_
          rintro e z9 ⟨A9, c9, rfl, -, hy⟩
          have hbox_n := cell_later hy hbox
          clear hbox
          have hbox := hbox_n
          clear hbox_n
          have c0_n := cell_later hy c0
          clear c0
          have c0 := c0_n
          clear c0_n
          have c1_n := cell_later hy c1
          clear c1
          have c1 := c1_n
          clear c1_n
          have m0_n := cell_later hy m0
          clear m0
          have m0 := m0_n
          clear m0_n
          have m1_n := cell_later hy m1
          clear m1
          have m1 := m1_n
          clear m1_n
          have va0_n := cell_later hy va0
          clear va0
          have va0 := va0_n
          clear va0_n
          have va1_n := cell_later hy va1
          clear va1
          have va1 := va1_n
          clear va1_n
          have vb0_n := cell_later hy vb0
          clear vb0
          have vb0 := vb0_n
          clear vb0_n
          have vb1_n := cell_later hy vb1
          clear vb1
          have vb1 := vb1_n
          clear vb1_n
          have hT_n := hide (hT.out.below hy)
          clear hT
          have hT := hT_n
          clear hT_n
          have hm_n := hide (hm.out.below hy)
          clear hm
          have hm := hm_n
          clear hm_n
          have iE_n := hide (iE.out.below hy)
          clear iE
          have iE := iE_n
          clear iE_n
          have i64_n := hide (i64.out.below hy)
          clear i64
          have i64 := i64_n
          clear i64_n
          have iA_n := hide (iA.out.below hy)
          clear iA
          have iA := iA_n
          clear iA_n
          have iB_n := hide (iB.out.below hy)
          clear iB
          have iB := iB_n
          clear iB_n
          have hB1_n := Below.on hB1 hy
          clear hB1
          have hB1 := hB1_n
          clear hB1_n
          clear hy
          go_wp2
          go_region_held3 (fun X => X.cell? ⟨w1.heap.size, 0, none⟩ = some (.slice A3 3 c3) ∧ X.cell? ⟨tb, tof, none⟩ = some (.string ⟨#[]⟩) ∧ X.cell? ⟨tb, tof + 1, none⟩ = some (.slice SA0 0 sc0)) (first | exact ⟨hbox, c0, c1⟩ | exact ⟨hbox_b, c0_b, c1_b⟩) (first | (go_at_call 43; (with_reducible refine (cAll_eq ex19T ⟨#[]⟩ [] 0 [] [] 2 0 (by kernel_rfl) (by kernel_rfl) rfl A3 3 c3 SA0 0 sc0 none 0 0 _ (hT.out.below (Below.refl _ _).drew) (iE.out.below (Below.refl _ _).drew) (isBB_nil _) (hm.out.below (Below.refl _ _).drew)).mono ?_); rintro e z10 ⟨A10, c10, rfl, -, hy⟩; have hbox_b := cell_later hy hbox; have c0_b := cell_later hy c0; have c1_b := cell_later hy c1))
          have hz := Below.on (w1 := z9.drew) (Below.refl _ _).drew hy
          clear hbox_b c0_b c1_b hy
          have hbox_n := cell_later hz hbox
          clear hbox
          have hbox := hbox_n
          clear hbox_n
          have c0_n := cell_later hz c0
          clear c0
          have c0 := c0_n
          clear c0_n
          have c1_n := cell_later hz c1
          clear c1
          have c1 := c1_n
          clear c1_n
          have m0_n := cell_later hz m0
          clear m0
          have m0 := m0_n
          clear m0_n
          have m1_n := cell_later hz m1
          clear m1
          have m1 := m1_n
          clear m1_n
          have va0_n := cell_later hz va0
          clear va0
          have va0 := va0_n
          clear va0_n
          have va1_n := cell_later hz va1
          clear va1
          have va1 := va1_n
          clear va1_n
          have vb0_n := cell_later hz vb0
          clear vb0
          have vb0 := vb0_n
          clear vb0_n
          have vb1_n := cell_later hz vb1
          clear vb1
          have vb1 := vb1_n
          clear vb1_n
          have hT_n := hide (hT.out.below hz)
          clear hT
          have hT := hT_n
          clear hT_n
          have hm_n := hide (hm.out.below hz)
          clear hm
          have hm := hm_n
          clear hm_n
          have iE_n := hide (iE.out.below hz)
          clear iE
          have iE := iE_n
          clear iE_n
          have i64_n := hide (i64.out.below hz)
          clear i64
          have i64 := i64_n
          clear i64_n
          have iA_n := hide (iA.out.below hz)
          clear iA
          have iA := iA_n
          clear iA_n
          have iB_n := hide (iB.out.below hz)
          clear iB
          have iB := iB_n
          clear iB_n
          have hB1_n := Below.on hB1 hz
          clear hB1
          have hB1 := hB1_n
          clear hB1_n
          clear hz
          have hmk3 : ∀ W : World, (Instr.makeSlice 74 (.int .i64 3) (.int .i64 3)).run Try.prog W = .ok (.slice (some ⟨W.heap.size, 0, none⟩) 3 3) (W.alloc (.cells (madeCells #[.slice none 0 0] 3) 47)) := fun W => mk_bbs 3 (by omega) W
          have hmk1 : ∀ W : World, (Instr.makeSlice 74 (.int .i64 1) (.int .i64 1)).run Try.prog W = .ok (.slice (some ⟨W.heap.size, 0, none⟩) 1 1) (W.alloc (.cells (madeCells #[.slice none 0 0] 1) 47)) := fun W => mk_bbs 1 (by omega) W
          have hxm := (below_alloc (Below.refl z10.heap.size z10) (.cells (madeCells #[.slice none 0 0] 3) 47)).drew
          have hmI : IsBB (z10.alloc (.cells (madeCells #[.slice none 0 0] 3) 47)).drew (some ⟨z10.heap.size, 0, none⟩) 3 [[], [], []] := isBB_3 z10 z10.heap.size 47 rfl
          go_wp2
          go_region_held3 (fun X => X.cell? ⟨w1.heap.size, 0, none⟩ = some (.slice A3 3 c3) ∧ X.cell? ⟨z3.heap.size, 0, none⟩ = some (.string (bs [97])) ∧ X.cell? ⟨z3.heap.size, 1, none⟩ = some (.slice AV 2 2)) (first | exact ⟨hbox, va0, va1⟩ | exact ⟨hbox_b, va0_b, va1_b⟩ | exact ⟨far_al hbox _, far_al va0 _, far_al va1 _⟩) (first | (go_at_call 43; (with_reducible refine (cAll_eq ex19T (bs [97]) visA (-1) [[], [], []] [] 2 0 (by kernel_rfl) (by kernel_rfl) rfl A3 3 c3 AV 2 2 (some ⟨z10.heap.size, 0, none⟩) 3 3 _ (hT.out.below hxm) (iA.out.below hxm) hmI (hm.out.below hxm)).mono ?_); rintro e z11 ⟨A11, c11, rfl, -, hy⟩; have hbox_b := cell_later hy (far_al hbox _); have va0_b := cell_later hy (far_al va0 _); have va1_b := cell_later hy (far_al va1 _)))
          have hz := Below.on hxm hy
          clear hbox_b va0_b va1_b hy hxm hmI
          have hbox_n := cell_later hz hbox
          clear hbox
          have hbox := hbox_n
          clear hbox_n
          have c0_n := cell_later hz c0
          clear c0
          have c0 := c0_n
          clear c0_n
          have c1_n := cell_later hz c1
          clear c1
          have c1 := c1_n
          clear c1_n
          have m0_n := cell_later hz m0
          clear m0
          have m0 := m0_n
          clear m0_n
          have m1_n := cell_later hz m1
          clear m1
          have m1 := m1_n
          clear m1_n
          have va0_n := cell_later hz va0
          clear va0
          have va0 := va0_n
          clear va0_n
          have va1_n := cell_later hz va1
          clear va1
          have va1 := va1_n
          clear va1_n
          have vb0_n := cell_later hz vb0
          clear vb0
          have vb0 := vb0_n
          clear vb0_n
          have vb1_n := cell_later hz vb1
          clear vb1
          have vb1 := vb1_n
          clear vb1_n
          have hT_n := hide (hT.out.below hz)
          clear hT
          have hT := hT_n
          clear hT_n
          have hm_n := hide (hm.out.below hz)
          clear hm
          have hm := hm_n
          clear hm_n
          have iE_n := hide (iE.out.below hz)
          clear iE
          have iE := iE_n
          clear iE_n
          have i64_n := hide (i64.out.below hz)
          clear i64
          have i64 := i64_n
          clear i64_n
          have iA_n := hide (iA.out.below hz)
          clear iA
          have iA := iA_n
          clear iA_n
          have iB_n := hide (iB.out.below hz)
          clear iB
          have iB := iB_n
          clear iB_n
          have hB1_n := Below.on hB1 hz
          clear hB1
          have hB1 := hB1_n
          clear hB1_n
          clear hz
          have hxm := (below_alloc (Below.refl z11.heap.size z11) (.cells (madeCells #[.slice none 0 0] 1) 47)).drew
          have hmI : IsBB (z11.alloc (.cells (madeCells #[.slice none 0 0] 1) 47)).drew (some ⟨z11.heap.size, 0, none⟩) 1 [[]] := isBB_1 z11 z11.heap.size 47 rfl
          go_wp2
          go_region_held3 (fun X => X.cell? ⟨w1.heap.size, 0, none⟩ = some (.slice A3 3 c3) ∧ X.cell? ⟨z3.heap.size + 1, 0, none⟩ = some (.string (bs [42])) ∧ X.cell? ⟨z3.heap.size + 1, 1, none⟩ = some (.slice CV 1 1)) (first | exact ⟨hbox, vb0, vb1⟩ | exact ⟨hbox_b, vb0_b, vb1_b⟩ | exact ⟨far_al hbox _, far_al vb0 _, far_al vb1 _⟩) (first | (go_at_call 43; (with_reducible refine (cAll_eq ex19T (bs [42]) visB (-1) [[]] [] 2 0 (by kernel_rfl) (by kernel_rfl) rfl A3 3 c3 CV 1 1 (some ⟨z11.heap.size, 0, none⟩) 1 1 _ (hT.out.below hxm) (iB.out.below hxm) hmI (hm.out.below hxm)).mono ?_); rintro e z12 ⟨A12, c12, rfl, -, hy⟩; have hbox_b := cell_later hy (far_al hbox _); have vb0_b := cell_later hy (far_al vb0 _); have vb1_b := cell_later hy (far_al vb1 _)))
          have hz := Below.on hxm hy
          clear hbox_b vb0_b vb1_b hy hxm hmI
          have hbox_n := cell_later hz hbox
          clear hbox
          have hbox := hbox_n
          clear hbox_n
          have c0_n := cell_later hz c0
          clear c0
          have c0 := c0_n
          clear c0_n
          have c1_n := cell_later hz c1
          clear c1
          have c1 := c1_n
          clear c1_n
          have m0_n := cell_later hz m0
          clear m0
          have m0 := m0_n
          clear m0_n
          have m1_n := cell_later hz m1
          clear m1
          have m1 := m1_n
          clear m1_n
          have va0_n := cell_later hz va0
          clear va0
          have va0 := va0_n
          clear va0_n
          have va1_n := cell_later hz va1
          clear va1
          have va1 := va1_n
          clear va1_n
          have vb0_n := cell_later hz vb0
          clear vb0
          have vb0 := vb0_n
          clear vb0_n
          have vb1_n := cell_later hz vb1
          clear vb1
          have vb1 := vb1_n
          clear vb1_n
          have hT_n := hide (hT.out.below hz)
          clear hT
          have hT := hT_n
          clear hT_n
          have hm_n := hide (hm.out.below hz)
          clear hm
          have hm := hm_n
          clear hm_n
          have iE_n := hide (iE.out.below hz)
          clear iE
          have iE := iE_n
          clear iE_n
          have i64_n := hide (i64.out.below hz)
          clear i64
          have i64 := i64_n
          clear i64_n
          have iA_n := hide (iA.out.below hz)
          clear iA
          have iA := iA_n
          clear iA_n
          have iB_n := hide (iB.out.below hz)
          clear iB
          have iB := iB_n
          clear iB_n
          have hB1_n := Below.on hB1 hz
          clear hB1
          have hB1 := hB1_n
          clear hB1_n
          clear hz
          clear hmk1 hmk3
          go_wp2_with fail
          refine (long19_ok 65 (by decide) _).mono ?_
          rintro e z13 ⟨rfl, hy⟩
          have hbox_n := cell_later hy hbox
          clear hbox
          have hbox := hbox_n
          clear hbox_n
          have c0_n := cell_later hy c0
          clear c0
          have c0 := c0_n
          clear c0_n
          have c1_n := cell_later hy c1
          clear c1
          have c1 := c1_n
          clear c1_n
          have m0_n := cell_later hy m0
          clear m0
          have m0 := m0_n
          clear m0_n
          have m1_n := cell_later hy m1
          clear m1
          have m1 := m1_n
          clear m1_n
          have va0_n := cell_later hy va0
          clear va0
          have va0 := va0_n
          clear va0_n
          have va1_n := cell_later hy va1
          clear va1
          have va1 := va1_n
          clear va1_n
          have vb0_n := cell_later hy vb0
          clear vb0
          have vb0 := vb0_n
          clear vb0_n
          have vb1_n := cell_later hy vb1
          clear vb1
          have vb1 := vb1_n
          clear vb1_n
          have hT_n := hide (hT.out.below hy)
          clear hT
          have hT := hT_n
          clear hT_n
          have hm_n := hide (hm.out.below hy)
          clear hm
          have hm := hm_n
          clear hm_n
          have iE_n := hide (iE.out.below hy)
          clear iE
          have iE := iE_n
          clear iE_n
          have i64_n := hide (i64.out.below hy)
          clear i64
          have i64 := i64_n
          clear i64_n
          have iA_n := hide (iA.out.below hy)
          clear iA
          have iA := iA_n
          clear iA_n
          have iB_n := hide (iB.out.below hy)
          clear iB
          have iB := iB_n
          clear iB_n
          have hB1_n := Below.on hB1 hy
          clear hB1
          have hB1 := hB1_n
          clear hB1_n
          clear hy
          go_wp2_with fail
          refine (compTag_at [] 0 (longS 65) false 8 (by kernel_rfl) (by kernel_rfl) none 0 0 _ (isTree_nil _)).mono ?_
          rintro e z14 ⟨rfl, hy⟩
          have hbox_n := cell_later hy hbox
          clear hbox
          have hbox := hbox_n
          clear hbox_n
          have c0_n := cell_later hy c0
          clear c0
          have c0 := c0_n
          clear c0_n
          have c1_n := cell_later hy c1
          clear c1
          have c1 := c1_n
          clear c1_n
          have m0_n := cell_later hy m0
          clear m0
          have m0 := m0_n
          clear m0_n
          have m1_n := cell_later hy m1
          clear m1
          have m1 := m1_n
          clear m1_n
          have va0_n := cell_later hy va0
          clear va0
          have va0 := va0_n
          clear va0_n
          have va1_n := cell_later hy va1
          clear va1
          have va1 := va1_n
          clear va1_n
          have vb0_n := cell_later hy vb0
          clear vb0
          have vb0 := vb0_n
          clear vb0_n
          have vb1_n := cell_later hy vb1
          clear vb1
          have vb1 := vb1_n
          clear vb1_n
          have hT_n := hide (hT.out.below hy)
          clear hT
          have hT := hT_n
          clear hT_n
          have hm_n := hide (hm.out.below hy)
          clear hm
          have hm := hm_n
          clear hm_n
          have iE_n := hide (iE.out.below hy)
          clear iE
          have iE := iE_n
          clear iE_n
          have i64_n := hide (i64.out.below hy)
          clear i64
          have i64 := i64_n
          clear i64_n
          have iA_n := hide (iA.out.below hy)
          clear iA
          have iA := iA_n
          clear iA_n
          have iB_n := hide (iB.out.below hy)
          clear iB
          have iB := iB_n
          clear iB_n
          have hB1_n := Below.on hB1 hy
          clear hB1
          have hB1 := hB1_n
          clear hB1_n
          clear hy
          go_wp2
          go_region_held3 (fun X => X.cell? ⟨w1.heap.size, 0, none⟩ = some (.slice A3 3 c3)) (first | exact hbox | exact y1 | exact y2) (first
            | (go_at_call 46; refine (long19_ok 65 (by decide) _).mono ?_; rintro e ya ⟨rfl, hy1⟩; have y1 := cell_later hy1 hbox)
            | (go_at_call 39; (with_reducible refine (compTag_at ex19T 3 (longS 65) false 2 (by kernel_rfl) (by kernel_rfl) A3 3 c3 _ ((hT.out.below (Below.refl _ _).drew).below hy1)).mono ?_); rintro e z15 ⟨rfl, hy2⟩; have y2 := cell_later hy2 y1))
          have hz := Below.on (w1 := z14.drew) (Below.refl _ _).drew (Below.on hy1 hy2)
          clear y1 y2 hy1 hy2
          have hbox_n := cell_later hz hbox
          clear hbox
          have hbox := hbox_n
          clear hbox_n
          have c0_n := cell_later hz c0
          clear c0
          have c0 := c0_n
          clear c0_n
          have c1_n := cell_later hz c1
          clear c1
          have c1 := c1_n
          clear c1_n
          have m0_n := cell_later hz m0
          clear m0
          have m0 := m0_n
          clear m0_n
          have m1_n := cell_later hz m1
          clear m1
          have m1 := m1_n
          clear m1_n
          have va0_n := cell_later hz va0
          clear va0
          have va0 := va0_n
          clear va0_n
          have va1_n := cell_later hz va1
          clear va1
          have va1 := va1_n
          clear va1_n
          have vb0_n := cell_later hz vb0
          clear vb0
          have vb0 := vb0_n
          clear vb0_n
          have vb1_n := cell_later hz vb1
          clear vb1
          have vb1 := vb1_n
          clear vb1_n
          have hT_n := hide (hT.out.below hz)
          clear hT
          have hT := hT_n
          clear hT_n
          have hm_n := hide (hm.out.below hz)
          clear hm
          have hm := hm_n
          clear hm_n
          have iE_n := hide (iE.out.below hz)
          clear iE
          have iE := iE_n
          clear iE_n
          have i64_n := hide (i64.out.below hz)
          clear i64
          have i64 := i64_n
          clear i64_n
          have iA_n := hide (iA.out.below hz)
          clear iA
          have iA := iA_n
          clear iA_n
          have iB_n := hide (iB.out.below hz)
          clear iB
          have iB := iB_n
          clear iB_n
          have hB1_n := Below.on hB1 hz
          clear hB1
          have hB1 := hB1_n
          clear hB1_n
          clear hz
          go_wp2
          go_region_held3 (fun X => X.cell? ⟨w1.heap.size, 0, none⟩ = some (.slice A3 3 c3)) (first | exact hbox | exact y1 | exact y2) (first
            | (go_at_call 46; refine (long19_ok 65 (by decide) _).mono ?_; rintro e ya ⟨rfl, hy1⟩; have y1 := cell_later hy1 hbox)
            | (go_at_call 39; (with_reducible refine (compTag_at ex19T 0 (longS 65) false 12 (by kernel_rfl) (by kernel_rfl) A3 3 c3 _ ((hT.out.below (Below.refl _ _).drew).below hy1)).mono ?_); rintro e z16 ⟨rfl, hy2⟩; have y2 := cell_later hy2 y1))
          have hz := Below.on (w1 := z15.drew) (Below.refl _ _).drew (Below.on hy1 hy2)
          clear y1 y2 hy1 hy2
          have hbox_n := cell_later hz hbox
          clear hbox
          have hbox := hbox_n
          clear hbox_n
          have c0_n := cell_later hz c0
          clear c0
          have c0 := c0_n
          clear c0_n
          have c1_n := cell_later hz c1
          clear c1
          have c1 := c1_n
          clear c1_n
          have m0_n := cell_later hz m0
          clear m0
          have m0 := m0_n
          clear m0_n
          have m1_n := cell_later hz m1
          clear m1
          have m1 := m1_n
          clear m1_n
          have va0_n := cell_later hz va0
          clear va0
          have va0 := va0_n
          clear va0_n
          have va1_n := cell_later hz va1
          clear va1
          have va1 := va1_n
          clear va1_n
          have vb0_n := cell_later hz vb0
          clear vb0
          have vb0 := vb0_n
          clear vb0_n
          have vb1_n := cell_later hz vb1
          clear vb1
          have vb1 := vb1_n
          clear vb1_n
          have hT_n := hide (hT.out.below hz)
          clear hT
          have hT := hT_n
          clear hT_n
          have hm_n := hide (hm.out.below hz)
          clear hm
          have hm := hm_n
          clear hm_n
          have iE_n := hide (iE.out.below hz)
          clear iE
          have iE := iE_n
          clear iE_n
          have i64_n := hide (i64.out.below hz)
          clear i64
          have i64 := i64_n
          clear i64_n
          have iA_n := hide (iA.out.below hz)
          clear iA
          have iA := iA_n
          clear iA_n
          have iB_n := hide (iB.out.below hz)
          clear iB
          have iB := iB_n
          clear iB_n
          have hB1_n := Below.on hB1 hz
          clear hB1
          have hB1 := hB1_n
          clear hB1_n
          clear hz
          go_wp2_with fail
          refine (compTag_at ex19T 0 ⟨#[72, 84, 77, 76]⟩ false 0 (by kernel_rfl) (by kernel_rfl) A3 3 c3 _ hT.out).mono ?_
          rintro e z17 ⟨rfl, hy⟩
          have hbox_n := cell_later hy hbox
          clear hbox
          have hbox := hbox_n
          clear hbox_n
          have c0_n := cell_later hy c0
          clear c0
          have c0 := c0_n
          clear c0_n
          have c1_n := cell_later hy c1
          clear c1
          have c1 := c1_n
          clear c1_n
          have m0_n := cell_later hy m0
          clear m0
          have m0 := m0_n
          clear m0_n
          have m1_n := cell_later hy m1
          clear m1
          have m1 := m1_n
          clear m1_n
          have va0_n := cell_later hy va0
          clear va0
          have va0 := va0_n
          clear va0_n
          have va1_n := cell_later hy va1
          clear va1
          have va1 := va1_n
          clear va1_n
          have vb0_n := cell_later hy vb0
          clear vb0
          have vb0 := vb0_n
          clear vb0_n
          have vb1_n := cell_later hy vb1
          clear vb1
          have vb1 := vb1_n
          clear vb1_n
          have hT_n := hide (hT.out.below hy)
          clear hT
          have hT := hT_n
          clear hT_n
          have hm_n := hide (hm.out.below hy)
          clear hm
          have hm := hm_n
          clear hm_n
          have iE_n := hide (iE.out.below hy)
          clear iE
          have iE := iE_n
          clear iE_n
          have i64_n := hide (i64.out.below hy)
          clear i64
          have i64 := i64_n
          clear i64_n
          have iA_n := hide (iA.out.below hy)
          clear iA
          have iA := iA_n
          clear iA_n
          have iB_n := hide (iB.out.below hy)
          clear iB
          have iB := iB_n
          clear iB_n
          have hB1_n := Below.on hB1 hy
          clear hB1
          have hB1 := hB1_n
          clear hB1_n
          clear hy
          go_wp2_with fail
          refine (compTag_at ex19T 0 ⟨#[42]⟩ true 0 (by kernel_rfl) (by kernel_rfl) A3 3 c3 _ hT.out).mono ?_
          rintro e z18 ⟨rfl, hy⟩
          have hbox_n := cell_later hy hbox
          clear hbox
          have hbox := hbox_n
          clear hbox_n
          have c0_n := cell_later hy c0
          clear c0
          have c0 := c0_n
          clear c0_n
          have c1_n := cell_later hy c1
          clear c1
          have c1 := c1_n
          clear c1_n
          have m0_n := cell_later hy m0
          clear m0
          have m0 := m0_n
          clear m0_n
          have m1_n := cell_later hy m1
          clear m1
          have m1 := m1_n
          clear m1_n
          have va0_n := cell_later hy va0
          clear va0
          have va0 := va0_n
          clear va0_n
          have va1_n := cell_later hy va1
          clear va1
          have va1 := va1_n
          clear va1_n
          have vb0_n := cell_later hy vb0
          clear vb0
          have vb0 := vb0_n
          clear vb0_n
          have vb1_n := cell_later hy vb1
          clear vb1
          have vb1 := vb1_n
          clear vb1_n
          have hT_n := hide (hT.out.below hy)
          clear hT
          have hT := hT_n
          clear hT_n
          have hm_n := hide (hm.out.below hy)
          clear hm
          have hm := hm_n
          clear hm_n
          have iE_n := hide (iE.out.below hy)
          clear iE
          have iE := iE_n
          clear iE_n
          have i64_n := hide (i64.out.below hy)
          clear i64
          have i64 := i64_n
          clear i64_n
          have iA_n := hide (iA.out.below hy)
          clear iA
          have iA := iA_n
          clear iA_n
          have iB_n := hide (iB.out.below hy)
          clear iB
          have iB := iB_n
          clear iB_n
          have hB1_n := Below.on hB1 hy
          clear hB1
          have hB1 := hB1_n
          clear hB1_n
          clear hy
          go_wp2_with fail
          refine (compTag_at ex19T 0 ⟨#[]⟩ true 0 (by kernel_rfl) (by kernel_rfl) A3 3 c3 _ hT.out).mono ?_
          rintro e z19 ⟨rfl, hy⟩
          have hbox_n := cell_later hy hbox
          clear hbox
          have hbox := hbox_n
          clear hbox_n
          have c0_n := cell_later hy c0
          clear c0
          have c0 := c0_n
          clear c0_n
          have c1_n := cell_later hy c1
          clear c1
          have c1 := c1_n
          clear c1_n
          have m0_n := cell_later hy m0
          clear m0
          have m0 := m0_n
          clear m0_n
          have m1_n := cell_later hy m1
          clear m1
          have m1 := m1_n
          clear m1_n
          have va0_n := cell_later hy va0
          clear va0
          have va0 := va0_n
          clear va0_n
          have va1_n := cell_later hy va1
          clear va1
          have va1 := va1_n
          clear va1_n
          have vb0_n := cell_later hy vb0
          clear vb0
          have vb0 := vb0_n
          clear vb0_n
          have vb1_n := cell_later hy vb1
          clear vb1
          have vb1 := vb1_n
          clear vb1_n
          have hT_n := hide (hT.out.below hy)
          clear hT
          have hT := hT_n
          clear hT_n
          have hm_n := hide (hm.out.below hy)
          clear hm
          have hm := hm_n
          clear hm_n
          have iE_n := hide (iE.out.below hy)
          clear iE
          have iE := iE_n
          clear iE_n
          have i64_n := hide (i64.out.below hy)
          clear i64
          have i64 := i64_n
          clear i64_n
          have iA_n := hide (iA.out.below hy)
          clear iA
          have iA := iA_n
          clear iA_n
          have iB_n := hide (iB.out.below hy)
          clear iB
          have iB := iB_n
          clear iB_n
          have hB1_n := Below.on hB1 hy
          clear hB1
          have hB1 := hB1_n
          clear hB1_n
          clear hy
          go_wp2_with fail
          refine (compTag_at ex19T 0 ⟨#[97]⟩ false 0 (by kernel_rfl) (by kernel_rfl) A3 3 c3 _ hT.out).mono ?_
          rintro e z20 ⟨rfl, hy⟩
          have hbox_n := cell_later hy hbox
          clear hbox
          have hbox := hbox_n
          clear hbox_n
          have c0_n := cell_later hy c0
          clear c0
          have c0 := c0_n
          clear c0_n
          have c1_n := cell_later hy c1
          clear c1
          have c1 := c1_n
          clear c1_n
          have m0_n := cell_later hy m0
          clear m0
          have m0 := m0_n
          clear m0_n
          have m1_n := cell_later hy m1
          clear m1
          have m1 := m1_n
          clear m1_n
          have va0_n := cell_later hy va0
          clear va0
          have va0 := va0_n
          clear va0_n
          have va1_n := cell_later hy va1
          clear va1
          have va1 := va1_n
          clear va1_n
          have vb0_n := cell_later hy vb0
          clear vb0
          have vb0 := vb0_n
          clear vb0_n
          have vb1_n := cell_later hy vb1
          clear vb1
          have vb1 := vb1_n
          clear vb1_n
          have hT_n := hide (hT.out.below hy)
          clear hT
          have hT := hT_n
          clear hT_n
          have hm_n := hide (hm.out.below hy)
          clear hm
          have hm := hm_n
          clear hm_n
          have iE_n := hide (iE.out.below hy)
          clear iE
          have iE := iE_n
          clear iE_n
          have i64_n := hide (i64.out.below hy)
          clear i64
          have i64 := i64_n
          clear i64_n
          have iA_n := hide (iA.out.below hy)
          clear iA
          have iA := iA_n
          clear iA_n
          have iB_n := hide (iB.out.below hy)
          clear iB
          have iB := iB_n
          clear iB_n
          have hB1_n := Below.on hB1 hy
          clear hB1
          have hB1 := hB1_n
          clear hB1_n
          clear hy
          go_wp2_with fail
          refine (cAll_eq ex19T ⟨#[42]⟩ [] (-1) [] [true, true, true] 0 3 (by kernel_rfl) (by kernel_rfl) rfl A3 3 c3 none 0 0 none 0 0 _ hT.out ⟨rfl, by omega, fun h => absurd h (by omega)⟩ (isBB_nil _) hm.out).mono ?_
          rintro e z21 ⟨A20, c20, rfl, hI20, hy⟩
          have hbox_n := cell_later hy hbox
          clear hbox
          have hbox := hbox_n
          clear hbox_n
          have c0_n := cell_later hy c0
          clear c0
          have c0 := c0_n
          clear c0_n
          have c1_n := cell_later hy c1
          clear c1
          have c1 := c1_n
          clear c1_n
          have m0_n := cell_later hy m0
          clear m0
          have m0 := m0_n
          clear m0_n
          have m1_n := cell_later hy m1
          clear m1
          have m1 := m1_n
          clear m1_n
          have va0_n := cell_later hy va0
          clear va0
          have va0 := va0_n
          clear va0_n
          have va1_n := cell_later hy va1
          clear va1
          have va1 := va1_n
          clear va1_n
          have vb0_n := cell_later hy vb0
          clear vb0
          have vb0 := vb0_n
          clear vb0_n
          have vb1_n := cell_later hy vb1
          clear vb1
          have vb1 := vb1_n
          clear vb1_n
          have hT_n := hide (hT.out.below hy)
          clear hT
          have hT := hT_n
          clear hT_n
          have hm_n := hide (hm.out.below hy)
          clear hm
          have hm := hm_n
          clear hm_n
          have iE_n := hide (iE.out.below hy)
          clear iE
          have iE := iE_n
          clear iE_n
          have i64_n := hide (i64.out.below hy)
          clear i64
          have i64 := i64_n
          clear i64_n
          have iA_n := hide (iA.out.below hy)
          clear iA
          have iA := iA_n
          clear iA_n
          have iB_n := hide (iB.out.below hy)
          clear iB
          have iB := iB_n
          clear iB_n
          have hB1_n := Below.on hB1 hy
          clear hB1
          have hB1 := hB1_n
          clear hB1_n
          clear hy
          have hJ := hide hI20
          clear hI20
          go_wp2_with fail
          refine (alive19_ok _ hm.out).mono ?_
          rintro e y1 ⟨rfl, hy1⟩
          have m0_n := cell_later hy1 m0
          have m1_n := cell_later hy1 m1
          have i64_n := hide (i64.out.below hy1)
          have hJ_n := hide (hJ.out.below hy1)
          have hB2 := Below.on hB1 hy1
          clear hbox c0 c1 va0 va1 vb0 vb1 hT hm iE iA iB m0 m1 i64 hJ hB1 hy1
          go_wp2_with fail
          refine (ck_comp (longS 64) (List.replicate 64 s7) 0 (by kernel_rfl) SA5 64 sc5 _ i64_n.out).mono ?_
          rintro e y2 ⟨rfl, hy2⟩
          have hJ2 := hide (hJ_n.out.below (below_alloc hy2 (.cells #[.bool true, .bool true, .bool true] 4)))
          have hL2 : IsBools (y2.alloc (.cells #[.bool true, .bool true, .bool true] 4)) (some ⟨y2.heap.size, 0, none⟩) 3 [true, true, true] := isBools_lt y2 y2.heap.size 4 [true, true, true] (by decide) rfl
          have hB3 := below_alloc (Below.on hB2 hy2) (.cells #[.bool true, .bool true, .bool true] 4)
          clear m0_n m1_n i64_n hJ_n hy2
          go_wp2_with fail
          refine (sameBools_yes A20 _ 3 3 c20 _ [true, true, true] _ hJ2.out hL2).mono ?_
          rintro e y3 ⟨rfl, hy3⟩
          go_wp2
          go_ret
          exact ⟨rfl, Below.on hB3 hy3⟩

set_option maxRecDepth 100000 in
theorem lifted (os : Os) (started : os.Started) (H : Type) (enc : TypeId × Value → H) :
    ReturnsInHanded {} Try.checked os 11 .any (Rows.compoundNamesSpec.pre6 enc Try.prog Try.f11 Rows.compoundNamesRow.domain false) (Rows.compoundNamesSpec.post enc Try.prog Try.f11 false true false false) := by
  refine returnsInHanded_of_change_shaped (C := Try.checked) own started (by kernel_rfl) Try.func11
    (ChangeSpec.witness6 (enc := enc) (C := Try.checked) false ⟨#[], #[], []⟩ 8 (by kernel_rfl) (by kernel_rfl) (by kernel_rfl) (by kernel_rfl)) ?_
  intro W base args ds gs before hval0 hW hcnd _ hsh _
  have hW' := hW
  obtain ⟨p, q, hA0, hV, rfl, hfz, hnd⟩ := hW
  have hA : DataW.TrodAll enc Try.prog W 0 (fun _ => true) true Try.f11.params.toList args.toList ds p := hA0
  rw [Try.params11] at hA
  obtain ⟨h1, rfl, rfl⟩ := trodAll_nil hA
  obtain rfl : args = #[] := by cases args; simp_all
  obtain ⟨rfl, rfl⟩ := trodVars_none hV
  clear hA0 hval0
  refine (walk W (hasMax_of hsh)).mono fun e W' ⟨he, bel⟩ => ?_
  subst he
  exact ⟨_, rfl, _, _, _, [], _, [], hW', trodAll_mk1 (shut_bool Try.underlying4 _), trodAll_mk0, rfl, bel.frame _, fun h => by cases h⟩

theorem proved : Rows.CompoundNamesSaid :=
  OpenClaim.holds_of_wide 11 Try.f11 rfl rfl rfl rfl rfl rfl rfl ⟨rfl, rfl, rfl, rfl, rfl⟩ rfl rfl rfl rfl rfl (by kernel_rfl) Try.func11 (by kernel_rfl)
    (of_decide_eq_true (by kernel_rfl)) (by unfold Func.isWrapper; first | (rw [if_pos (by decide +kernel)]; kernel_rfl) | (rw [if_neg (by decide +kernel)]; exact ⟨rfl, rfl⟩))
    (fun os started H enc _ => lifted os started H enc)
#print axioms proved
end Go.Proofs.Ytbedomopojiehaa.compoundNames
