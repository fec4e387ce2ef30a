/- Selectors that are none, all kinds, modes, and errors. No condition. -/
import Derived.Test.YtbedomopojiehaaSt
import Derived.Test.YtbedomopojiehaaSal
import Derived.Test.YtbedomopojiehaaQb
import Derived.Test.YtbedomopojiehaaSb
import Derived.Test.YtbedomopojiehaaMg
import Derived.Great.BuildSlice
import Derived.Deep.CutRange
import Derived.Deep.RegionHeld3
namespace Go.Proofs.Ytbedomopojiehaa.simpleNames
open Go.ChangeShapes Go.WideShapes Go.ChangeAt Go.RowKit

theorem isTree_nil (w : World) : IsTree w none 0 [] := ⟨rfl, by omega, fun x hx => by simp at hx, fun h => absurd h (by omega)⟩
theorem info_cx : (Try.prog.info? 158).map (fun i => (i.zero, i.size, i.bytes)) = some (some (.agg #[.int .u8 0, .slice none 0 0, .slice none 0 0]), 3, 56) := by kernel_rfl
theorem info_pair : (Try.prog.info? 60).map (fun i => (i.zero, i.size, i.bytes)) = some (some (.agg #[.slice none 0 0, .slice none 0 0]), 2, 48) := by kernel_rfl
theorem info_sim : (Try.prog.info? 26).map (fun i => (i.zero, i.size, i.bytes)) = some (some (.agg #[.int .u8 0, .string .empty, .int .u8 0, .string .empty, .bool false, .int .i64 0, .int .i64 0, .bool false, .slice none 0 0]), 9, 104) := by kernel_rfl
theorem mk_cx (W : World) : (Instr.makeSlice 24 (.int .i64 1) (.int .i64 1)).run Try.prog W = .ok (.slice (some ⟨W.heap.size, 0, none⟩) 1 1) (W.alloc (.cells (madeCells #[.int .u8 0, .slice none 0 0, .slice none 0 0] 3) 158)) := by
  obtain ⟨i, hi, hz0, hz1, hz2⟩ := info_parts info_cx
  have hr := run_make (P := Try.prog) W 24 158 i (.agg #[.int .u8 0, .slice none 0 0, .slice none 0 0]) Try.underlying24 hi hz0 .i64 .i64 1 1 (by omega) (by omega) (by rw [hz2]; omega) (by omega)
  rw [hz1, show (Value.agg #[.int .u8 0, .slice none 0 0, .slice none 0 0]).cells = #[.int .u8 0, .slice none 0 0, .slice none 0 0] from rfl] at hr
  simpa using hr
theorem sAll_eq (T : List ANode) (k : Int) (nm : ByteArray) (op : Int) (vl : ByteArray) (fo : Bool) (a b : Int) (f : Bool) (LA : Option Addr) (ln lc : Nat) (m : Int) (X : List Bool) (E : Int) (N : Nat) (hE : smE T ⟨k, nm, op, vl, fo, a, b, f, LA, ln, lc⟩ m = E) (hV : sallV T ⟨k, nm, op, vl, fo, a, b, f, LA, ln, lc⟩ m = X) (hN : X.length = N) (A : Option Addr) (n c : Nat) (w : World) (h : IsTree w A n T) (hmx : HasMax w) :
    Calls Try.prog 27 #[.agg #[.slice A n c], .agg #[.int .u8 k, .string nm, .int .u8 op, .string vl, .bool fo, .int .i64 a, .int .i64 b, .bool f, .slice LA ln lc], .int .i64 m] w
      fun e w' => ∃ (A' : Option Addr) (c' : Nat), e = .returned (.tuple #[.slice A' N c', .int .i64 E]) ∧ IsBools w' A' N X ∧ Below w.heap.size w w' := by
  have hx := sAll_ok A n c T k nm op vl fo a b f LA ln lc m w h hmx
  rw [hV, hE] at hx
  refine hx.mono ?_
  rintro e w' ⟨A', c', rfl, hI, -, -, hb⟩
  rw [hN] at hI
  exact ⟨A', c', by rw [hN], hI, hb⟩
theorem sMatch_eq (T : List ANode) (i : Int) (k : Int) (nm : ByteArray) (op : Int) (vl : ByteArray) (fo : Bool) (a b : Int) (f : Bool) (LA : Option Addr) (ln lc : Nat) (m : Int) (V : Bool) (E : Int) (h0 : smatV T i ⟨k, nm, op, vl, fo, a, b, f, LA, ln, lc⟩ m = V) (h1 : smatE T i ⟨k, nm, op, vl, fo, a, b, f, LA, ln, lc⟩ m = E) (A : Option Addr) (n c : Nat) (w : World) (h : IsTree w A n T) (hmx : HasMax w) :
    Calls Try.prog 25 #[.agg #[.slice A n c], .int .i64 i, .agg #[.int .u8 k, .string nm, .int .u8 op, .string vl, .bool fo, .int .i64 a, .int .i64 b, .bool f, .slice LA ln lc], .int .i64 m] w fun r w' => r = .returned (.tuple #[.bool V, .int .i64 E]) ∧ Below w.heap.size w w' := by
  have := sMatch_ok A n c T i k nm op vl fo a b f LA ln lc m w h hmx
  rw [h0, h1] at this
  exact this
theorem bad_errs (s : Sim) (h : chkS s = 12) : smatE ex18T 0 s (-1) = 12 ∧ smatV ex18T 0 s (-1) = false ∧ smE ex18T s (-1) = 12 ∧ sallV ex18T s (-1) = [] ∧ ∀ v, valE s v = 12 ∧ valV s v = false := by
  have h1 : smE ex18T s (-1) = 12 := by unfold smE; rw [if_pos goodB_ex18, if_pos (show modeB ex18T (-1) = true from rfl), h]
  have h2 : smatE ex18T 0 s (-1) = 12 := by unfold smatE; rw [if_pos (show askI ex18T [0] = 0 by kernel_rfl)]; exact h1
  have h3 : ∀ v, valE s v = 12 := fun v => by unfold valE; rw [if_neg (by rw [h]; omega)]
  exact ⟨h2, by unfold smatV; rw [if_neg (by rw [h2]; omega)], h1, by unfold sallV; rw [if_neg (by rw [h1]; omega)], fun v => ⟨h3 v, by unfold valV; rw [if_neg (by rw [h3 v]; omega)]⟩⟩
set_option maxRecDepth 100000 in
set_option maxHeartbeats 16000000 in
theorem walk (w : World) (hmx : HasMax w) : Calls Try.prog 7 #[] w fun e w' => e = .returned (.bool true) ∧ Below w.heap.size w w' := by
  have hm' := hide hmx
  clear hmx
  have hmk := mk_cx
  go_enter Try.func7, Try.ntmps7
  go_upto_region 1 with fail
  go_cut [1] from 37 to 61 (fun v wx => Below w.heap.size w wx ∧ ∃ A1 AL, v = .slice A1 19 19 ∧ IsSims wx A1 19 (badS AL))
  case first =>
    refine wp_region_held_drew (S := fun _ => True) (by kernel_rfl) trivial (fun hHeld => ?_)
    refine mgTake 0 37 (.agg #[.int .u8 0, .string ⟨#[]⟩, .int .u8 0, .string ⟨#[]⟩, .bool false, .int .i64 0, .int .i64 0, .bool false, .slice none 0 0]) (by kernel_rfl) (by kernel_rfl) (by kernel_rfl) (by kernel_rfl) (fun _ _ _ h => h) (by rfl) ?_ (by assumption) ?_
    · intro W hW
      try dsimp only at hW
      simp only [List.getElem?_toArray, List.getElem?_cons_zero, Option.map_some, Option.some.injEq]
      go_simp
    try simp only [Act.put, List.setIfInBounds_toArray, List.set_cons_zero, List.set_cons_succ]
    refine mgTake 1 38 (.agg #[.int .u8 9, .string ⟨#[]⟩, .int .u8 0, .string ⟨#[]⟩, .bool false, .int .i64 0, .int .i64 0, .bool false, .slice none 0 0]) (by kernel_rfl) (by kernel_rfl) (by kernel_rfl) (by kernel_rfl) (fun _ _ _ h => h) (by rfl) ?_ (by assumption) ?_
    · intro W hW
      try dsimp only at hW
      simp only [List.getElem?_toArray, List.getElem?_cons_succ, List.getElem?_cons_zero, Option.map_some, Option.some.injEq]
      go_simp
    try simp only [Act.put, List.setIfInBounds_toArray, List.set_cons_zero, List.set_cons_succ]
    refine mgTake 2 39 (.agg #[.int .u8 14, .string ⟨#[]⟩, .int .u8 0, .string ⟨#[]⟩, .bool false, .int .i64 0, .int .i64 0, .bool false, .slice none 0 0]) (by kernel_rfl) (by kernel_rfl) (by kernel_rfl) (by kernel_rfl) (fun _ _ _ h => h) (by rfl) ?_ (by assumption) ?_
    · intro W hW
      try dsimp only at hW
      simp only [List.getElem?_toArray, List.getElem?_cons_succ, List.getElem?_cons_zero, Option.map_some, Option.some.injEq]
      go_simp
    try simp only [Act.put, List.setIfInBounds_toArray, List.set_cons_zero, List.set_cons_succ]
    refine mgTake 3 40 (.agg #[.int .u8 1, .string ⟨#[]⟩, .int .u8 0, .string ⟨#[]⟩, .bool false, .int .i64 0, .int .i64 0, .bool false, .slice none 0 0]) (by kernel_rfl) (by kernel_rfl) (by kernel_rfl) (by kernel_rfl) (fun _ _ _ h => h) (by rfl) ?_ (by assumption) ?_
    · intro W hW
      try dsimp only at hW
      simp only [List.getElem?_toArray, List.getElem?_cons_succ, List.getElem?_cons_zero, Option.map_some, Option.some.injEq]
      go_simp
    try simp only [Act.put, List.setIfInBounds_toArray, List.set_cons_zero, List.set_cons_succ]
    refine mgTake 6 43 (.agg #[.int .u8 1, .string ⟨#[97]⟩, .int .u8 1, .string ⟨#[]⟩, .bool false, .int .i64 0, .int .i64 0, .bool false, .slice none 0 0]) (by kernel_rfl) (by kernel_rfl) (by kernel_rfl) (by kernel_rfl) (fun _ _ _ h => h) (by rfl) ?_ (by assumption) ?_
    · intro W hW
      try dsimp only at hW
      simp only [List.getElem?_toArray, List.getElem?_cons_succ, List.getElem?_cons_zero, Option.map_some, Option.some.injEq]
      go_simp
    try simp only [Act.put, List.setIfInBounds_toArray, List.set_cons_zero, List.set_cons_succ]
    refine mgTake 7 44 (.agg #[.int .u8 2, .string ⟨#[97]⟩, .int .u8 0, .string ⟨#[98]⟩, .bool false, .int .i64 0, .int .i64 0, .bool false, .slice none 0 0]) (by kernel_rfl) (by kernel_rfl) (by kernel_rfl) (by kernel_rfl) (fun _ _ _ h => h) (by rfl) ?_ (by assumption) ?_
    · intro W hW
      try dsimp only at hW
      simp only [List.getElem?_toArray, List.getElem?_cons_succ, List.getElem?_cons_zero, Option.map_some, Option.some.injEq]
      go_simp
    try simp only [Act.put, List.setIfInBounds_toArray, List.set_cons_zero, List.set_cons_succ]
    refine mgTake 8 45 (.agg #[.int .u8 1, .string ⟨#[97]⟩, .int .u8 0, .string ⟨#[]⟩, .bool true, .int .i64 0, .int .i64 0, .bool false, .slice none 0 0]) (by kernel_rfl) (by kernel_rfl) (by kernel_rfl) (by kernel_rfl) (fun _ _ _ h => h) (by rfl) ?_ (by assumption) ?_
    · intro W hW
      try dsimp only at hW
      simp only [List.getElem?_toArray, List.getElem?_cons_succ, List.getElem?_cons_zero, Option.map_some, Option.some.injEq]
      go_simp
    try simp only [Act.put, List.setIfInBounds_toArray, List.set_cons_zero, List.set_cons_succ]
    refine mgTake 9 46 (.agg #[.int .u8 3, .string ⟨#[]⟩, .int .u8 0, .string ⟨#[]⟩, .bool false, .int .i64 0, .int .i64 0, .bool false, .slice none 0 0]) (by kernel_rfl) (by kernel_rfl) (by kernel_rfl) (by kernel_rfl) (fun _ _ _ h => h) (by rfl) ?_ (by assumption) ?_
    · intro W hW
      try dsimp only at hW
      simp only [List.getElem?_toArray, List.getElem?_cons_succ, List.getElem?_cons_zero, Option.map_some, Option.some.injEq]
      go_simp
    try simp only [Act.put, List.setIfInBounds_toArray, List.set_cons_zero, List.set_cons_succ]
    refine mgTake 12 49 (.agg #[.int .u8 3, .string ⟨#[97]⟩, .int .u8 7, .string ⟨#[]⟩, .bool false, .int .i64 0, .int .i64 0, .bool false, .slice none 0 0]) (by kernel_rfl) (by kernel_rfl) (by kernel_rfl) (by kernel_rfl) (fun _ _ _ h => h) (by rfl) ?_ (by assumption) ?_
    · intro W hW
      try dsimp only at hW
      simp only [List.getElem?_toArray, List.getElem?_cons_succ, List.getElem?_cons_zero, Option.map_some, Option.some.injEq]
      go_simp
    try simp only [Act.put, List.setIfInBounds_toArray, List.set_cons_zero, List.set_cons_succ]
    refine mgTake 13 50 (.agg #[.int .u8 3, .string ⟨#[97]⟩, .int .u8 0, .string ⟨#[98]⟩, .bool false, .int .i64 0, .int .i64 0, .bool false, .slice none 0 0]) (by kernel_rfl) (by kernel_rfl) (by kernel_rfl) (by kernel_rfl) (fun _ _ _ h => h) (by rfl) ?_ (by assumption) ?_
    · intro W hW
      try dsimp only at hW
      simp only [List.getElem?_toArray, List.getElem?_cons_succ, List.getElem?_cons_zero, Option.map_some, Option.some.injEq]
      go_simp
    try simp only [Act.put, List.setIfInBounds_toArray, List.set_cons_zero, List.set_cons_succ]
    refine mgTake 14 51 (.agg #[.int .u8 3, .string ⟨#[97]⟩, .int .u8 0, .string ⟨#[]⟩, .bool true, .int .i64 0, .int .i64 0, .bool false, .slice none 0 0]) (by kernel_rfl) (by kernel_rfl) (by kernel_rfl) (by kernel_rfl) (fun _ _ _ h => h) (by rfl) ?_ (by assumption) ?_
    · intro W hW
      try dsimp only at hW
      simp only [List.getElem?_toArray, List.getElem?_cons_succ, List.getElem?_cons_zero, Option.map_some, Option.some.injEq]
      go_simp
    try simp only [Act.put, List.setIfInBounds_toArray, List.set_cons_zero, List.set_cons_succ]
    refine mgTake 17 54 (.agg #[.int .u8 4, .string ⟨#[97]⟩, .int .u8 0, .string ⟨#[]⟩, .bool false, .int .i64 0, .int .i64 0, .bool false, .slice none 0 0]) (by kernel_rfl) (by kernel_rfl) (by kernel_rfl) (by kernel_rfl) (fun _ _ _ h => h) (by rfl) ?_ (by assumption) ?_
    · intro W hW
      try dsimp only at hW
      simp only [List.getElem?_toArray, List.getElem?_cons_succ, List.getElem?_cons_zero, Option.map_some, Option.some.injEq]
      go_simp
    try simp only [Act.put, List.setIfInBounds_toArray, List.set_cons_zero, List.set_cons_succ]
    refine mgTake 18 55 (.agg #[.int .u8 5, .string ⟨#[]⟩, .int .u8 0, .string ⟨#[]⟩, .bool false, .int .i64 0, .int .i64 0, .bool true, .slice none 0 0]) (by kernel_rfl) (by kernel_rfl) (by kernel_rfl) (by kernel_rfl) (fun _ _ _ h => h) (by rfl) ?_ (by assumption) ?_
    · intro W hW
      try dsimp only at hW
      simp only [List.getElem?_toArray, List.getElem?_cons_succ, List.getElem?_cons_zero, Option.map_some, Option.some.injEq]
      go_simp
    try simp only [Act.put, List.setIfInBounds_toArray, List.set_cons_zero, List.set_cons_succ]
    refine mgTake 19 56 (.agg #[.int .i64 1, .int .i64 0]) (by kernel_rfl) (by kernel_rfl) (by kernel_rfl) (by kernel_rfl) (fun _ _ _ h => h) (by rfl) ?_ (by assumption) ?_
    · intro W hW
      try dsimp only at hW
      simp only [List.getElem?_toArray, List.getElem?_cons_succ, List.getElem?_cons_zero, Option.map_some, Option.some.injEq]
      go_simp
    try simp only [Act.put, List.setIfInBounds_toArray, List.set_cons_zero, List.set_cons_succ]
    refine mgTake 20 57 (.agg #[.int .u8 6, .string ⟨#[]⟩, .int .u8 0, .string ⟨#[]⟩, .bool false, .int .i64 1, .int .i64 0, .bool false, .slice none 0 0]) (by kernel_rfl) (by kernel_rfl) (by kernel_rfl) (by kernel_rfl) (fun _ _ _ h => h) (by rfl) ?_ (by assumption) ?_
    · intro W hW
      try dsimp only at hW
      simp only [List.getElem?_toArray, List.getElem?_cons_succ, List.getElem?_cons_zero, Option.map_some, Option.some.injEq]
      go_simp
    try simp only [Act.put, List.setIfInBounds_toArray, List.set_cons_zero, List.set_cons_succ]
    refine mgTake 23 60 (.agg #[.int .u8 8, .string ⟨#[]⟩, .int .u8 1, .string ⟨#[]⟩, .bool false, .int .i64 0, .int .i64 0, .bool false, .slice none 0 0]) (by kernel_rfl) (by kernel_rfl) (by kernel_rfl) (by kernel_rfl) (fun _ _ _ h => h) (by rfl) ?_ (by assumption) ?_
    · intro W hW
      try dsimp only at hW
      simp only [List.getElem?_toArray, List.getElem?_cons_succ, List.getElem?_cons_zero, Option.map_some, Option.some.injEq]
      go_simp
    try simp only [Act.put, List.setIfInBounds_toArray, List.set_cons_zero, List.set_cons_succ]
    refine merge8 (S := fun _ => True) (f := 2) (i1 := 4) (i2 := 5) (i3 := 10) (i4 := 11) (i5 := 15) (i6 := 16) (i7 := 21) (i8 := 22) (t1 := 41) (t2 := 42) (t3 := 47) (t4 := 48) (t5 := 52) (t6 := 53) (t7 := 58) (t8 := 59) (c1 := fun _ _ _ _ _ _ _ _ => true) (c2 := fun d1 _ _ _ _ _ _ _ => d1) (c3 := fun d1 _ _ _ _ _ _ _ => d1) (c4 := fun _ _ d3 _ _ _ _ _ => d3) (c5 := fun _ _ d3 _ _ _ _ _ => d3) (c6 := fun _ _ _ _ d5 _ _ _ => d5) (c7 := fun _ _ _ _ _ _ _ _ => true) (c8 := fun _ _ _ _ _ _ d7 _ => d7) (L := fun d1 d2 d3 d4 d5 d6 d7 d8 => #[true, true, true, true, d1, d2, true, true, true, true, d3, d4, true, true, true, d5, d6, true, true, true, true, d7, d8, true, false, false]) (F := fun (d1 : Bool) (d2 : Bool) (d3 : Bool) (d4 : Bool) (d5 : Bool) (d6 : Bool) (d7 : Bool) (d8 : Bool) (v1 : Value) (v2 : Value) (v3 : Value) (v4 : Value) (v5 : Value) (v6 : Value) (v7 : Value) (v8 : Value) W => Below w.heap.size w W ∧ (d1 = true → v1 = .string (longS 401)) ∧ (d2 = true → v2 = .agg #[.int .u8 2, .string (longS 401), .int .u8 0, .string ⟨#[]⟩, .bool false, .int .i64 0, .int .i64 0, .bool false, .slice none 0 0]) ∧ (d3 = true → v3 = .string (longS 401)) ∧ (d4 = true → v4 = .agg #[.int .u8 3, .string (longS 401), .int .u8 0, .string ⟨#[]⟩, .bool false, .int .i64 0, .int .i64 0, .bool false, .slice none 0 0]) ∧ (d5 = true → v5 = .string (longS 401)) ∧ (d6 = true → v6 = .agg #[.int .u8 3, .string ⟨#[97]⟩, .int .u8 1, .string (longS 401), .bool false, .int .i64 0, .int .i64 0, .bool false, .slice none 0 0]) ∧ (d7 = true → ∃ g, v7 = .slice (some ⟨g, 0, none⟩) 1 1) ∧ (d8 = true → ∃ g, v8 = .agg #[.int .u8 7, .string ⟨#[]⟩, .int .u8 0, .string ⟨#[]⟩, .bool false, .int .i64 0, .int .i64 0, .bool false, .slice (some ⟨g, 0, none⟩) 1 1])) (hready := by decide +kernel) (hne := by decide) (hok1 := by decide) (hok2 := by decide) (hok3 := by decide) (hok4 := by decide) (hok5 := by decide) (hok6 := by decide) (hok7 := by decide) (hok8 := by decide) (hset1 := fun _ _ _ _ _ _ _ => rfl) (hstep1 := ?s1) (hset2 := fun _ _ _ _ _ _ _ => rfl) (hstep2 := ?s2) (hset3 := fun _ _ _ _ _ _ _ => rfl) (hstep3 := ?s3) (hset4 := fun _ _ _ _ _ _ _ => rfl) (hstep4 := ?s4) (hset5 := fun _ _ _ _ _ _ _ => rfl) (hstep5 := ?s5) (hset6 := fun _ _ _ _ _ _ _ => rfl) (hstep6 := ?s6) (hset7 := fun _ _ _ _ _ _ _ => rfl) (hstep7 := ?s7) (hset8 := fun _ _ _ _ _ _ _ => rfl) (hstep8 := ?s8) (hend := ?fin) rfl rfl rfl ?beg
    case s1 =>
      intro d2 d3 d4 d5 d6 d7 d8 v1 v2 v3 v4 v5 v6 v7 v8 W hc hF K hK
      obtain ⟨hb, f1, f2, f3, f4, f5, f6, f7, f8⟩ := hF
      simp only [Act.put, List.setIfInBounds_toArray, List.set_cons_zero, List.set_cons_succ] at hK ⊢
      clear hc
      refine wpOp_one rfl rfl ?_
      go_simp
      go_at_call 33
      refine (long18_ok 401 (by decide) _).mono ?_
      rintro e wa ⟨rfl, hba⟩
      try simp only [Act.put, List.setIfInBounds_toArray, List.set_cons_zero, List.set_cons_succ]
      exact hK _ _ trivial ⟨Below.on hb hba, fun _ => rfl, f2, f3, f4, f5, f6, f7, f8⟩
    case s2 =>
      intro d1 d3 d4 d5 d6 d7 d8 v1 v2 v3 v4 v5 v6 v7 v8 W hc hF K hK
      obtain ⟨hb, f1, f2, f3, f4, f5, f6, f7, f8⟩ := hF
      simp only [Act.put, List.setIfInBounds_toArray, List.set_cons_zero, List.set_cons_succ] at hK ⊢
      have hd1 : d1 = true := hc
      have e := f1 hd1
      subst e
      refine wpOp_one rfl rfl ?_
      go_simp
      try simp only [Act.put, List.setIfInBounds_toArray, List.set_cons_zero, List.set_cons_succ]
      exact hK _ _ trivial ⟨hb, fun _ => rfl, fun _ => rfl, f3, f4, f5, f6, f7, f8⟩
    case s3 =>
      intro d1 d2 d4 d5 d6 d7 d8 v1 v2 v3 v4 v5 v6 v7 v8 W hc hF K hK
      obtain ⟨hb, f1, f2, f3, f4, f5, f6, f7, f8⟩ := hF
      simp only [Act.put, List.setIfInBounds_toArray, List.set_cons_zero, List.set_cons_succ] at hK ⊢
      clear hc
      refine wpOp_one rfl rfl ?_
      go_simp
      go_at_call 33
      refine (long18_ok 401 (by decide) _).mono ?_
      rintro e wa ⟨rfl, hba⟩
      try simp only [Act.put, List.setIfInBounds_toArray, List.set_cons_zero, List.set_cons_succ]
      exact hK _ _ trivial ⟨Below.on hb hba, f1, f2, fun _ => rfl, f4, f5, f6, f7, f8⟩
    case s4 =>
      intro d1 d2 d3 d5 d6 d7 d8 v1 v2 v3 v4 v5 v6 v7 v8 W hc hF K hK
      obtain ⟨hb, f1, f2, f3, f4, f5, f6, f7, f8⟩ := hF
      simp only [Act.put, List.setIfInBounds_toArray, List.set_cons_zero, List.set_cons_succ] at hK ⊢
      have hd3 : d3 = true := hc
      have e := f3 hd3
      subst e
      refine wpOp_one rfl rfl ?_
      go_simp
      try simp only [Act.put, List.setIfInBounds_toArray, List.set_cons_zero, List.set_cons_succ]
      exact hK _ _ trivial ⟨hb, f1, f2, fun _ => rfl, fun _ => rfl, f5, f6, f7, f8⟩
    case s5 =>
      intro d1 d2 d3 d4 d6 d7 d8 v1 v2 v3 v4 v5 v6 v7 v8 W hc hF K hK
      obtain ⟨hb, f1, f2, f3, f4, f5, f6, f7, f8⟩ := hF
      simp only [Act.put, List.setIfInBounds_toArray, List.set_cons_zero, List.set_cons_succ] at hK ⊢
      clear hc
      refine wpOp_one rfl rfl ?_
      go_simp
      go_at_call 33
      refine (long18_ok 401 (by decide) _).mono ?_
      rintro e wa ⟨rfl, hba⟩
      try simp only [Act.put, List.setIfInBounds_toArray, List.set_cons_zero, List.set_cons_succ]
      exact hK _ _ trivial ⟨Below.on hb hba, f1, f2, f3, f4, fun _ => rfl, f6, f7, f8⟩
    case s6 =>
      intro d1 d2 d3 d4 d5 d7 d8 v1 v2 v3 v4 v5 v6 v7 v8 W hc hF K hK
      obtain ⟨hb, f1, f2, f3, f4, f5, f6, f7, f8⟩ := hF
      simp only [Act.put, List.setIfInBounds_toArray, List.set_cons_zero, List.set_cons_succ] at hK ⊢
      have hd5 : d5 = true := hc
      have e := f5 hd5
      subst e
      refine wpOp_one rfl rfl ?_
      go_simp
      try simp only [Act.put, List.setIfInBounds_toArray, List.set_cons_zero, List.set_cons_succ]
      exact hK _ _ trivial ⟨hb, f1, f2, f3, f4, fun _ => rfl, fun _ => rfl, f7, f8⟩
    case s7 =>
      intro d1 d2 d3 d4 d5 d6 d8 v1 v2 v3 v4 v5 v6 v7 v8 W hc hF K hK
      obtain ⟨hb, f1, f2, f3, f4, f5, f6, f7, f8⟩ := hF
      simp only [Act.put, List.setIfInBounds_toArray, List.set_cons_zero, List.set_cons_succ] at hK ⊢
      refine wpOp_one rfl rfl ?_
      go_simp
      try simp only [Act.put, List.setIfInBounds_toArray, List.set_cons_zero, List.set_cons_succ]
      exact hK _ _ trivial ⟨below_alloc hb _, f1, f2, f3, f4, f5, f6, fun _ => ⟨_, rfl⟩, f8⟩
    case s8 =>
      intro d1 d2 d3 d4 d5 d6 d7 v1 v2 v3 v4 v5 v6 v7 v8 W hc hF K hK
      obtain ⟨hb, f1, f2, f3, f4, f5, f6, f7, f8⟩ := hF
      simp only [Act.put, List.setIfInBounds_toArray, List.set_cons_zero, List.set_cons_succ] at hK ⊢
      have hd7 : d7 = true := hc
      obtain ⟨g, e⟩ := f7 hd7
      subst e
      refine wpOp_one rfl rfl ?_
      go_simp
      try simp only [Act.put, List.setIfInBounds_toArray, List.set_cons_zero, List.set_cons_succ]
      exact hK _ _ trivial ⟨hb, f1, f2, f3, f4, f5, f6, fun _ => ⟨g, rfl⟩, fun _ => ⟨g, rfl⟩⟩
    case fin =>
      intro v1 v2 v3 v4 v5 v6 v7 v8 W hF
      obtain ⟨hb, f1, f2, f3, f4, f5, f6, f7, f8⟩ := hF
      simp only [Act.put, List.setIfInBounds_toArray, List.set_cons_zero, List.set_cons_succ]
      obtain rfl := f2 rfl
      obtain rfl := f4 rfl
      obtain rfl := f6 rfl
      obtain ⟨g, rfl⟩ := f8 rfl
      clear f1 f3 f5 f7 f2 f4 f6 f8
      refine wpAnyH_ready (rs := [24]) (by kernel_rfl) (by simp) (AllReadyH.cons (o := { dst := some 61, op := _, type := _, pos := _, after := _, guard := none }) rfl (fun K hK => ?_) AllReadyH.nil)
      rw [if_pos (by rfl)]
      obtain ⟨ie, hie, hz0, hz1, hz2⟩ := info_parts info_sim
      refine wp_buildSlice 58 26 19 _ rfl #[.int .u8 0, .string ⟨#[]⟩, .int .u8 0, .string ⟨#[]⟩, .bool false, .int .i64 0, .int .i64 0, .bool false, .slice none 0 0, .int .u8 9, .string ⟨#[]⟩, .int .u8 0, .string ⟨#[]⟩, .bool false, .int .i64 0, .int .i64 0, .bool false, .slice none 0 0, .int .u8 14, .string ⟨#[]⟩, .int .u8 0, .string ⟨#[]⟩, .bool false, .int .i64 0, .int .i64 0, .bool false, .slice none 0 0, .int .u8 1, .string ⟨#[]⟩, .int .u8 0, .string ⟨#[]⟩, .bool false, .int .i64 0, .int .i64 0, .bool false, .slice none 0 0, .int .u8 2, .string (longS 401), .int .u8 0, .string ⟨#[]⟩, .bool false, .int .i64 0, .int .i64 0, .bool false, .slice none 0 0, .int .u8 1, .string ⟨#[97]⟩, .int .u8 1, .string ⟨#[]⟩, .bool false, .int .i64 0, .int .i64 0, .bool false, .slice none 0 0, .int .u8 2, .string ⟨#[97]⟩, .int .u8 0, .string ⟨#[98]⟩, .bool false, .int .i64 0, .int .i64 0, .bool false, .slice none 0 0, .int .u8 1, .string ⟨#[97]⟩, .int .u8 0, .string ⟨#[]⟩, .bool true, .int .i64 0, .int .i64 0, .bool false, .slice none 0 0, .int .u8 3, .string ⟨#[]⟩, .int .u8 0, .string ⟨#[]⟩, .bool false, .int .i64 0, .int .i64 0, .bool false, .slice none 0 0, .int .u8 3, .string (longS 401), .int .u8 0, .string ⟨#[]⟩, .bool false, .int .i64 0, .int .i64 0, .bool false, .slice none 0 0, .int .u8 3, .string ⟨#[97]⟩, .int .u8 7, .string ⟨#[]⟩, .bool false, .int .i64 0, .int .i64 0, .bool false, .slice none 0 0, .int .u8 3, .string ⟨#[97]⟩, .int .u8 0, .string ⟨#[98]⟩, .bool false, .int .i64 0, .int .i64 0, .bool false, .slice none 0 0, .int .u8 3, .string ⟨#[97]⟩, .int .u8 0, .string ⟨#[]⟩, .bool true, .int .i64 0, .int .i64 0, .bool false, .slice none 0 0, .int .u8 3, .string ⟨#[97]⟩, .int .u8 1, .string (longS 401), .bool false, .int .i64 0, .int .i64 0, .bool false, .slice none 0 0, .int .u8 4, .string ⟨#[97]⟩, .int .u8 0, .string ⟨#[]⟩, .bool false, .int .i64 0, .int .i64 0, .bool false, .slice none 0 0, .int .u8 5, .string ⟨#[]⟩, .int .u8 0, .string ⟨#[]⟩, .bool false, .int .i64 0, .int .i64 0, .bool true, .slice none 0 0, .int .u8 6, .string ⟨#[]⟩, .int .u8 0, .string ⟨#[]⟩, .bool false, .int .i64 1, .int .i64 0, .bool false, .slice none 0 0, .int .u8 7, .string ⟨#[]⟩, .int .u8 0, .string ⟨#[]⟩, .bool false, .int .i64 0, .int .i64 0, .bool false, .slice (some ⟨g, 0, none⟩) 1 1, .int .u8 8, .string ⟨#[]⟩, .int .u8 1, .string ⟨#[]⟩, .bool false, .int .i64 0, .int .i64 0, .bool false, .slice none 0 0] ie _ Try.underlying58 hie hz0 (by rw [hz1]; omega) (by rw [hz1]; omega) (by rw [hz1]; kernel_rfl) ?_
      refine hK.out _ _ trivial (fun hHeld1 => ?_)
      try simp only [Act.put, List.setIfInBounds_toArray, List.set_cons_zero, List.set_cons_succ]
      refine mgTake 25 1 (.slice (some ⟨W.heap.size, 0, none⟩) 19 19) (by kernel_rfl) (by kernel_rfl) (by kernel_rfl) (by kernel_rfl) (fun _ _ _ h => h) (by rfl) ?_ (by assumption) ?_
      · intro W hW
        try dsimp only at hW
        simp only [List.getElem?_toArray, List.getElem?_cons_succ, List.getElem?_cons_zero, Option.map_some, Option.some.injEq]
        go_simp
      try simp only [Act.put, List.setIfInBounds_toArray, List.set_cons_zero, List.set_cons_succ]
      refine wpAnyH_done (by kernel_rfl) ?_ _
      trace_state
      go_wp2_with fail
      go_meet
      exact ⟨below_alloc hb _, _, _, rfl, isSims_bad _ _ _ _ rfl⟩
    case beg => exact ⟨(Below.refl w.heap.size w).drew, (fun h => by cases h), (fun h => by cases h), (fun h => by cases h), (fun h => by cases h), (fun h => by cases h), (fun h => by cases h), (fun h => by cases h), (fun h => by cases h)⟩
  case rest =>
  obtain ⟨hB1, A1, AL, rfl, hI1⟩ := hcut
  generalize wc = w1 at *
  have hI1' := hide hI1
  clear hI1 hmk
  go_wp2
  go_loopw [2] (fun s wr => ∃ q : Nat, q ≤ 19 ∧ s = .int .i64 q ∧ Below w1.heap.size w1 wr) (fun s _ => 19 - (intOf s).toNat)
  case atStart => exact ⟨0, Nat.zero_le _, rfl, Below.refl _ _⟩
  case round =>
    obtain ⟨q, hq, rfl, hb⟩ := hrel
    have hBr := Below.on hB1 hb
    by_cases hlt : q < 19
    · obtain ⟨bb, off, rfl, hbl, hc⟩ := hI1'.out.2.2 (by omega)
      have hin := (hc q hlt).later hb
      have hbad := bad_errs _ (bad_chk AL q hlt)
      have hck0 := bad_chk AL q hlt
      have q1 : (0 : Int) ≤ (q : Int) := by omega
      have q2 : (q : Int) < 19 := by omega
      cases hs : sm (badS AL) q with
      | mk k nm op vl fo a b f LA ln lc =>
        rw [hs] at hin hbad hck0
        obtain ⟨s0, s1, s2, s3, s4, s5, s6, s7, s8⟩ := hin
        obtain ⟨e1, e2, e3, e4, e5⟩ := hbad
        have hck := hide hck0
        have hk1 := hide (fun (A5 : Option Addr) (c5 : Nat) (W : World) (h : IsTree W A5 4 ex18T) (hx : HasMax W) => sMatch_eq ex18T 0 k nm op vl fo a b f LA ln lc (-1) false 12 e2 e1 A5 4 c5 W h hx)
        have hk2 := hide (fun (A5 : Option Addr) (c5 : Nat) (W : World) (h : IsTree W A5 4 ex18T) (hx : HasMax W) => sAll_eq ex18T k nm op vl fo a b f LA ln lc (-1) [] 12 0 e3 e4 rfl A5 4 c5 W h hx)
        have hk3 := hide (fun (W : World) (hx : HasMax W) => value_at k nm op vl fo a b f LA ln lc ⟨#[]⟩ false 12 (e5 _).2 (e5 _).1 W hx)
        clear hc hs e1 e2 e3 e4 e5 hck0
        have hmr := hide (hm'.out.below hBr)
        go_wp2
        go_region_held3 (fun X => X.cell? ⟨bb, off + q * 9, none⟩ = some (.int .u8 k) ∧ X.cell? ⟨bb, off + q * 9 + 1, none⟩ = some (.string nm) ∧ X.cell? ⟨bb, off + q * 9 + 2, none⟩ = some (.int .u8 op) ∧ X.cell? ⟨bb, off + q * 9 + 3, none⟩ = some (.string vl) ∧ X.cell? ⟨bb, off + q * 9 + 4, none⟩ = some (.bool fo) ∧ X.cell? ⟨bb, off + q * 9 + 5, none⟩ = some (.int .i64 a) ∧ X.cell? ⟨bb, off + q * 9 + 6, none⟩ = some (.int .i64 b) ∧ X.cell? ⟨bb, off + q * 9 + 7, none⟩ = some (.bool f) ∧ X.cell? ⟨bb, off + q * 9 + 8, none⟩ = some (.slice LA ln lc)) (first | exact ⟨s0, s1, s2, s3, s4, s5, s6, s7, s8⟩ | exact ⟨u0, u1, u2, u3, u4, u5, u6, u7, u8⟩ | exact ⟨v0, v1, v2, v3, v4, v5, v6, v7, v8⟩) (first
          | (go_at_call 34; (with_reducible refine (example18_ok _).mono ?_); rintro e x1 ⟨A5, c5, rfl, hT5, hy5⟩; have u0 := cell_later hy5 s0; have u1 := cell_later hy5 s1; have u2 := cell_later hy5 s2; have u3 := cell_later hy5 s3; have u4 := cell_later hy5 s4; have u5 := cell_later hy5 s5; have u6 := cell_later hy5 s6; have u7 := cell_later hy5 s7; have u8 := cell_later hy5 s8)
          | (go_at_call 25; (with_reducible refine (hk1.out A5 c5 _ hT5 (hmr.out.below (Below.on (w1 := wr.drew) (Below.refl _ _).drew hy5))).mono ?_); rintro e x2 ⟨rfl, hy6⟩; have v0 := cell_later hy6 u0; have v1 := cell_later hy6 u1; have v2 := cell_later hy6 u2; have v3 := cell_later hy6 u3; have v4 := cell_later hy6 u4; have v5 := cell_later hy6 u5; have v6 := cell_later hy6 u6; have v7 := cell_later hy6 u7; have v8 := cell_later hy6 u8))
        have hz := Below.on (w1 := wr.drew) (Below.refl _ _).drew (Below.on hy5 hy6)
        have hmr2 := hide (hmr.out.below hz)
        have hbz := Below.on hb hz
        clear hmr hT5 hy5 hy6 hb hz s0 s1 s2 s3 s4 s5 s6 s7 s8 u0 u1 u2 u3 u4 u5 u6 u7 u8
        have hmr := hmr2
        have hb := hbz
        clear hmr2 hbz
        have s0 := v0
        have s1 := v1
        have s2 := v2
        have s3 := v3
        have s4 := v4
        have s5 := v5
        have s6 := v6
        have s7 := v7
        have s8 := v8
        clear v0 v1 v2 v3 v4 v5 v6 v7 v8
        go_wp2
        go_region_held3 (fun X => X.cell? ⟨bb, off + q * 9, none⟩ = some (.int .u8 k) ∧ X.cell? ⟨bb, off + q * 9 + 1, none⟩ = some (.string nm) ∧ X.cell? ⟨bb, off + q * 9 + 2, none⟩ = some (.int .u8 op) ∧ X.cell? ⟨bb, off + q * 9 + 3, none⟩ = some (.string vl) ∧ X.cell? ⟨bb, off + q * 9 + 4, none⟩ = some (.bool fo) ∧ X.cell? ⟨bb, off + q * 9 + 5, none⟩ = some (.int .i64 a) ∧ X.cell? ⟨bb, off + q * 9 + 6, none⟩ = some (.int .i64 b) ∧ X.cell? ⟨bb, off + q * 9 + 7, none⟩ = some (.bool f) ∧ X.cell? ⟨bb, off + q * 9 + 8, none⟩ = some (.slice LA ln lc)) (first | exact ⟨s0, s1, s2, s3, s4, s5, s6, s7, s8⟩ | exact ⟨u0, u1, u2, u3, u4, u5, u6, u7, u8⟩ | exact ⟨v0, v1, v2, v3, v4, v5, v6, v7, v8⟩) (first
          | (go_at_call 34; (with_reducible refine (example18_ok _).mono ?_); rintro e x3 ⟨A5, c5, rfl, hT5, hy5⟩; have u0 := cell_later hy5 s0; have u1 := cell_later hy5 s1; have u2 := cell_later hy5 s2; have u3 := cell_later hy5 s3; have u4 := cell_later hy5 s4; have u5 := cell_later hy5 s5; have u6 := cell_later hy5 s6; have u7 := cell_later hy5 s7; have u8 := cell_later hy5 s8)
          | (go_at_call 27; (with_reducible refine (hk2.out A5 c5 _ hT5 (hmr.out.below (Below.on (w1 := x2.drew) (Below.refl _ _).drew hy5))).mono ?_); rintro e x4 ⟨A7, c7, rfl, -, hy6⟩; have v0 := cell_later hy6 u0; have v1 := cell_later hy6 u1; have v2 := cell_later hy6 u2; have v3 := cell_later hy6 u3; have v4 := cell_later hy6 u4; have v5 := cell_later hy6 u5; have v6 := cell_later hy6 u6; have v7 := cell_later hy6 u7; have v8 := cell_later hy6 u8))
        have hz := Below.on (w1 := x2.drew) (Below.refl _ _).drew (Below.on hy5 hy6)
        have hmr2 := hide (hmr.out.below hz)
        have hbz := Below.on hb hz
        clear hmr hT5 hy5 hy6 hb hz s0 s1 s2 s3 s4 s5 s6 s7 s8 u0 u1 u2 u3 u4 u5 u6 u7 u8
        have hmr := hmr2
        have hb := hbz
        clear hmr2 hbz
        have s0 := v0
        have s1 := v1
        have s2 := v2
        have s3 := v3
        have s4 := v4
        have s5 := v5
        have s6 := v6
        have s7 := v7
        have s8 := v8
        clear v0 v1 v2 v3 v4 v5 v6 v7 v8
        go_wp2_with fail
        refine (hk3.out _ hmr.out).mono ?_
        rintro e x5 ⟨rfl, hy7⟩
        have hb5 := Below.on hb hy7
        have v0 := cell_later hy7 s0
        have v1 := cell_later hy7 s1
        have v2 := cell_later hy7 s2
        have v3 := cell_later hy7 s3
        have v4 := cell_later hy7 s4
        have v5 := cell_later hy7 s5
        have v6 := cell_later hy7 s6
        have v7 := cell_later hy7 s7
        have v8 := cell_later hy7 s8
        clear s0 s1 s2 s3 s4 s5 s6 s7 s8 hb hy7 hmr
        go_wp2_with fail
        refine (scheck_ok_at k nm op vl fo a b f LA ln lc _ 12 hck.out).mono ?_
        rintro e x6 ⟨rfl, hy8⟩
        have hb6 := Below.on hb5 hy8
        clear v0 v1 v2 v3 v4 v5 v6 v7 v8
        go_wp2
        go_roundw
        case rel => exact ⟨q + 1, by omega, by go_num, hb6⟩
        case measure => simp [intOf]; omega
    · obtain rfl : q = 19 := by omega
      generalize wr = w2 at *
      obtain ⟨bb, off, rfl, hbl, hc⟩ := hI1'.out.2.2 (by omega)
      have hp0 := hide (show SimIn w2 bb off ⟨0, ⟨#[]⟩, 0, ⟨#[]⟩, false, 0, 0, false, none, 0, 0⟩ by have := (hc 0 (by omega)).later hb; rw [Nat.zero_mul, Nat.add_zero] at this; exact this)
      clear hc hq hlt hI1' hb hB1
      go_wp2_with fail
      refine (example18_ok _).mono ?_
      rintro e w3 ⟨A3, c3, rfl, hT3, hb3⟩
      have hz3 := below_alloc hb3 (.cells #[.slice A3 4 c3] 43)
      have hB3 := Below.on hBr hz3
      have hp3 := hide (hp0.out.later hz3)
      have hT3' := hide (hT3.below (below_alloc (Below.refl _ _) (.cells #[.slice A3 4 c3] 43)))
      have hbox3 : (w3.alloc (.cells #[.slice A3 4 c3] 43)).cell? ⟨w3.heap.size, 0, none⟩ = some (.slice A3 4 c3) := by go_simp
      clear hp0 hT3 hb3 hz3 hBr
      go_upto_region 11 with fail
      generalize hw3 : w3.alloc (.cells #[.slice A3 4 c3] 43) = u3 at *
      go_cut [10] from 113 to 123 (fun v wx => Below u3.heap.size u3 wx ∧ ∃ AG, v = .slice AG 10 10 ∧ IsSims wx AG 10 goodS)
      case first =>
        go_wp2_with fail
        go_meet
        exact ⟨below_alloc (Below.refl _ _) _, _, rfl, isSims_good _ _ _ (by simp)⟩
      case rest =>
      obtain ⟨hb4, AG, rfl, hI4⟩ := hcut
      generalize wc = w4 at *
      have hI4' := hide hI4
      clear hI4
      go_upto_region 12 with fail
      go_cut [11] from 124 to 154 (fun v wx => Below w4.heap.size w4 wx ∧ ∃ AW, v = .slice AW 10 10 ∧ WtTab wx AW)
      case first =>
        obtain ⟨ieb, hieb, hzb, hzb1, hzb2⟩ := info_parts info_bool'
        obtain ⟨iep, hiep, hzp, hzp1, hzp2⟩ := info_parts info_pair
        refine wp_region_lit ?_
        obtain ⟨b0, hb0⟩ : ∃ x, x = w4 := ⟨_, rfl⟩
        rw [← hb0]
        refine wpList_buildSlice rfl 47 4 4 _ rfl #[.bool false, .bool true, .bool true, .bool false] ieb _ Try.underlying47 hieb hzb (by rw [hzb1]; omega) (by rw [hzb1]; omega) (by rw [hzb1]; kernel_rfl) ?_
        have hI0 : IsBools (b0.alloc (.cells #[.bool false, .bool true, .bool true, .bool false] 4)) (some ⟨b0.heap.size, 0, none⟩) 4 [false, true, true, false] := isBools_lt b0 b0.heap.size 4 [false, true, true, false] (by decide) rfl
        have hs0 := below_alloc (Below.refl b0.heap.size b0) (.cells #[.bool false, .bool true, .bool true, .bool false] 4)
        generalize b0.alloc (.cells #[.bool false, .bool true, .bool true, .bool false] 4) = b1 at *
        generalize ha0 : (some ⟨b0.heap.size, 0, none⟩ : Option Addr) = a0 at hI0 ⊢
        try simp only [Act.put, List.setIfInBounds_toArray, List.set_cons_zero, List.set_cons_succ]
        refine wpList_buildSlice rfl 47 4 4 _ rfl #[.bool false, .bool true, .bool true, .bool false] ieb _ Try.underlying47 hieb hzb (by rw [hzb1]; omega) (by rw [hzb1]; omega) (by rw [hzb1]; kernel_rfl) ?_
        have hI1 : IsBools (b1.alloc (.cells #[.bool false, .bool true, .bool true, .bool false] 4)) (some ⟨b1.heap.size, 0, none⟩) 4 [false, true, true, false] := isBools_lt b1 b1.heap.size 4 [false, true, true, false] (by decide) rfl
        have hs1 := below_alloc (Below.refl b1.heap.size b1) (.cells #[.bool false, .bool true, .bool true, .bool false] 4)
        generalize b1.alloc (.cells #[.bool false, .bool true, .bool true, .bool false] 4) = b2 at *
        generalize ha1 : (some ⟨b1.heap.size, 0, none⟩ : Option Addr) = a1 at hI1 ⊢
        try simp only [Act.put, List.setIfInBounds_toArray, List.set_cons_zero, List.set_cons_succ]
        refine wpList_build rfl 60 _ rfl (by kernel_rfl) ?_
        simp only [Act.put, List.setIfInBounds_toArray, List.set_cons_zero, List.set_cons_succ]
        refine wpList_buildSlice rfl 47 4 4 _ rfl #[.bool false, .bool true, .bool true, .bool false] ieb _ Try.underlying47 hieb hzb (by rw [hzb1]; omega) (by rw [hzb1]; omega) (by rw [hzb1]; kernel_rfl) ?_
        have hI2 : IsBools (b2.alloc (.cells #[.bool false, .bool true, .bool true, .bool false] 4)) (some ⟨b2.heap.size, 0, none⟩) 4 [false, true, true, false] := isBools_lt b2 b2.heap.size 4 [false, true, true, false] (by decide) rfl
        have hs2 := below_alloc (Below.refl b2.heap.size b2) (.cells #[.bool false, .bool true, .bool true, .bool false] 4)
        generalize b2.alloc (.cells #[.bool false, .bool true, .bool true, .bool false] 4) = b3 at *
        generalize ha2 : (some ⟨b2.heap.size, 0, none⟩ : Option Addr) = a2 at hI2 ⊢
        try simp only [Act.put, List.setIfInBounds_toArray, List.set_cons_zero, List.set_cons_succ]
        refine wpList_buildSlice rfl 47 4 4 _ rfl #[.bool false, .bool true, .bool true, .bool false] ieb _ Try.underlying47 hieb hzb (by rw [hzb1]; omega) (by rw [hzb1]; omega) (by rw [hzb1]; kernel_rfl) ?_
        have hI3 : IsBools (b3.alloc (.cells #[.bool false, .bool true, .bool true, .bool false] 4)) (some ⟨b3.heap.size, 0, none⟩) 4 [false, true, true, false] := isBools_lt b3 b3.heap.size 4 [false, true, true, false] (by decide) rfl
        have hs3 := below_alloc (Below.refl b3.heap.size b3) (.cells #[.bool false, .bool true, .bool true, .bool false] 4)
        generalize b3.alloc (.cells #[.bool false, .bool true, .bool true, .bool false] 4) = b4 at *
        generalize ha3 : (some ⟨b3.heap.size, 0, none⟩ : Option Addr) = a3 at hI3 ⊢
        try simp only [Act.put, List.setIfInBounds_toArray, List.set_cons_zero, List.set_cons_succ]
        refine wpList_build rfl 60 _ rfl (by kernel_rfl) ?_
        simp only [Act.put, List.setIfInBounds_toArray, List.set_cons_zero, List.set_cons_succ]
        refine wpList_buildSlice rfl 47 4 4 _ rfl #[.bool false, .bool true, .bool true, .bool false] ieb _ Try.underlying47 hieb hzb (by rw [hzb1]; omega) (by rw [hzb1]; omega) (by rw [hzb1]; kernel_rfl) ?_
        have hI4 : IsBools (b4.alloc (.cells #[.bool false, .bool true, .bool true, .bool false] 4)) (some ⟨b4.heap.size, 0, none⟩) 4 [false, true, true, false] := isBools_lt b4 b4.heap.size 4 [false, true, true, false] (by decide) rfl
        have hs4 := below_alloc (Below.refl b4.heap.size b4) (.cells #[.bool false, .bool true, .bool true, .bool false] 4)
        generalize b4.alloc (.cells #[.bool false, .bool true, .bool true, .bool false] 4) = b5 at *
        generalize ha4 : (some ⟨b4.heap.size, 0, none⟩ : Option Addr) = a4 at hI4 ⊢
        try simp only [Act.put, List.setIfInBounds_toArray, List.set_cons_zero, List.set_cons_succ]
        refine wpList_buildSlice rfl 47 4 4 _ rfl #[.bool false, .bool true, .bool true, .bool false] ieb _ Try.underlying47 hieb hzb (by rw [hzb1]; omega) (by rw [hzb1]; omega) (by rw [hzb1]; kernel_rfl) ?_
        have hI5 : IsBools (b5.alloc (.cells #[.bool false, .bool true, .bool true, .bool false] 4)) (some ⟨b5.heap.size, 0, none⟩) 4 [false, true, true, false] := isBools_lt b5 b5.heap.size 4 [false, true, true, false] (by decide) rfl
        have hs5 := below_alloc (Below.refl b5.heap.size b5) (.cells #[.bool false, .bool true, .bool true, .bool false] 4)
        generalize b5.alloc (.cells #[.bool false, .bool true, .bool true, .bool false] 4) = b6 at *
        generalize ha5 : (some ⟨b5.heap.size, 0, none⟩ : Option Addr) = a5 at hI5 ⊢
        try simp only [Act.put, List.setIfInBounds_toArray, List.set_cons_zero, List.set_cons_succ]
        refine wpList_build rfl 60 _ rfl (by kernel_rfl) ?_
        simp only [Act.put, List.setIfInBounds_toArray, List.set_cons_zero, List.set_cons_succ]
        refine wpList_buildSlice rfl 47 4 4 _ rfl #[.bool false, .bool true, .bool true, .bool false] ieb _ Try.underlying47 hieb hzb (by rw [hzb1]; omega) (by rw [hzb1]; omega) (by rw [hzb1]; kernel_rfl) ?_
        have hI6 : IsBools (b6.alloc (.cells #[.bool false, .bool true, .bool true, .bool false] 4)) (some ⟨b6.heap.size, 0, none⟩) 4 [false, true, true, false] := isBools_lt b6 b6.heap.size 4 [false, true, true, false] (by decide) rfl
        have hs6 := below_alloc (Below.refl b6.heap.size b6) (.cells #[.bool false, .bool true, .bool true, .bool false] 4)
        generalize b6.alloc (.cells #[.bool false, .bool true, .bool true, .bool false] 4) = b7 at *
        generalize ha6 : (some ⟨b6.heap.size, 0, none⟩ : Option Addr) = a6 at hI6 ⊢
        try simp only [Act.put, List.setIfInBounds_toArray, List.set_cons_zero, List.set_cons_succ]
        refine wpList_buildSlice rfl 47 4 4 _ rfl #[.bool false, .bool true, .bool false, .bool false] ieb _ Try.underlying47 hieb hzb (by rw [hzb1]; omega) (by rw [hzb1]; omega) (by rw [hzb1]; kernel_rfl) ?_
        have hI7 : IsBools (b7.alloc (.cells #[.bool false, .bool true, .bool false, .bool false] 4)) (some ⟨b7.heap.size, 0, none⟩) 4 [false, true, false, false] := isBools_lt b7 b7.heap.size 4 [false, true, false, false] (by decide) rfl
        have hs7 := below_alloc (Below.refl b7.heap.size b7) (.cells #[.bool false, .bool true, .bool false, .bool false] 4)
        generalize b7.alloc (.cells #[.bool false, .bool true, .bool false, .bool false] 4) = b8 at *
        generalize ha7 : (some ⟨b7.heap.size, 0, none⟩ : Option Addr) = a7 at hI7 ⊢
        try simp only [Act.put, List.setIfInBounds_toArray, List.set_cons_zero, List.set_cons_succ]
        refine wpList_build rfl 60 _ rfl (by kernel_rfl) ?_
        simp only [Act.put, List.setIfInBounds_toArray, List.set_cons_zero, List.set_cons_succ]
        refine wpList_buildSlice rfl 47 4 4 _ rfl #[.bool false, .bool false, .bool false, .bool false] ieb _ Try.underlying47 hieb hzb (by rw [hzb1]; omega) (by rw [hzb1]; omega) (by rw [hzb1]; kernel_rfl) ?_
        have hI8 : IsBools (b8.alloc (.cells #[.bool false, .bool false, .bool false, .bool false] 4)) (some ⟨b8.heap.size, 0, none⟩) 4 [false, false, false, false] := isBools_lt b8 b8.heap.size 4 [false, false, false, false] (by decide) rfl
        have hs8 := below_alloc (Below.refl b8.heap.size b8) (.cells #[.bool false, .bool false, .bool false, .bool false] 4)
        generalize b8.alloc (.cells #[.bool false, .bool false, .bool false, .bool false] 4) = b9 at *
        generalize ha8 : (some ⟨b8.heap.size, 0, none⟩ : Option Addr) = a8 at hI8 ⊢
        try simp only [Act.put, List.setIfInBounds_toArray, List.set_cons_zero, List.set_cons_succ]
        refine wpList_buildSlice rfl 47 4 4 _ rfl #[.bool false, .bool false, .bool true, .bool false] ieb _ Try.underlying47 hieb hzb (by rw [hzb1]; omega) (by rw [hzb1]; omega) (by rw [hzb1]; kernel_rfl) ?_
        have hI9 : IsBools (b9.alloc (.cells #[.bool false, .bool false, .bool true, .bool false] 4)) (some ⟨b9.heap.size, 0, none⟩) 4 [false, false, true, false] := isBools_lt b9 b9.heap.size 4 [false, false, true, false] (by decide) rfl
        have hs9 := below_alloc (Below.refl b9.heap.size b9) (.cells #[.bool false, .bool false, .bool true, .bool false] 4)
        generalize b9.alloc (.cells #[.bool false, .bool false, .bool true, .bool false] 4) = b10 at *
        generalize ha9 : (some ⟨b9.heap.size, 0, none⟩ : Option Addr) = a9 at hI9 ⊢
        try simp only [Act.put, List.setIfInBounds_toArray, List.set_cons_zero, List.set_cons_succ]
        refine wpList_build rfl 60 _ rfl (by kernel_rfl) ?_
        simp only [Act.put, List.setIfInBounds_toArray, List.set_cons_zero, List.set_cons_succ]
        refine wpList_buildSlice rfl 47 4 4 _ rfl #[.bool false, .bool true, .bool true, .bool false] ieb _ Try.underlying47 hieb hzb (by rw [hzb1]; omega) (by rw [hzb1]; omega) (by rw [hzb1]; kernel_rfl) ?_
        have hI10 : IsBools (b10.alloc (.cells #[.bool false, .bool true, .bool true, .bool false] 4)) (some ⟨b10.heap.size, 0, none⟩) 4 [false, true, true, false] := isBools_lt b10 b10.heap.size 4 [false, true, true, false] (by decide) rfl
        have hs10 := below_alloc (Below.refl b10.heap.size b10) (.cells #[.bool false, .bool true, .bool true, .bool false] 4)
        generalize b10.alloc (.cells #[.bool false, .bool true, .bool true, .bool false] 4) = b11 at *
        generalize ha10 : (some ⟨b10.heap.size, 0, none⟩ : Option Addr) = a10 at hI10 ⊢
        try simp only [Act.put, List.setIfInBounds_toArray, List.set_cons_zero, List.set_cons_succ]
        refine wpList_buildSlice rfl 47 4 4 _ rfl #[.bool false, .bool true, .bool true, .bool false] ieb _ Try.underlying47 hieb hzb (by rw [hzb1]; omega) (by rw [hzb1]; omega) (by rw [hzb1]; kernel_rfl) ?_
        have hI11 : IsBools (b11.alloc (.cells #[.bool false, .bool true, .bool true, .bool false] 4)) (some ⟨b11.heap.size, 0, none⟩) 4 [false, true, true, false] := isBools_lt b11 b11.heap.size 4 [false, true, true, false] (by decide) rfl
        have hs11 := below_alloc (Below.refl b11.heap.size b11) (.cells #[.bool false, .bool true, .bool true, .bool false] 4)
        generalize b11.alloc (.cells #[.bool false, .bool true, .bool true, .bool false] 4) = b12 at *
        generalize ha11 : (some ⟨b11.heap.size, 0, none⟩ : Option Addr) = a11 at hI11 ⊢
        try simp only [Act.put, List.setIfInBounds_toArray, List.set_cons_zero, List.set_cons_succ]
        refine wpList_build rfl 60 _ rfl (by kernel_rfl) ?_
        simp only [Act.put, List.setIfInBounds_toArray, List.set_cons_zero, List.set_cons_succ]
        refine wpList_buildSlice rfl 47 4 4 _ rfl #[.bool true, .bool false, .bool false, .bool false] ieb _ Try.underlying47 hieb hzb (by rw [hzb1]; omega) (by rw [hzb1]; omega) (by rw [hzb1]; kernel_rfl) ?_
        have hI12 : IsBools (b12.alloc (.cells #[.bool true, .bool false, .bool false, .bool false] 4)) (some ⟨b12.heap.size, 0, none⟩) 4 [true, false, false, false] := isBools_lt b12 b12.heap.size 4 [true, false, false, false] (by decide) rfl
        have hs12 := below_alloc (Below.refl b12.heap.size b12) (.cells #[.bool true, .bool false, .bool false, .bool false] 4)
        generalize b12.alloc (.cells #[.bool true, .bool false, .bool false, .bool false] 4) = b13 at *
        generalize ha12 : (some ⟨b12.heap.size, 0, none⟩ : Option Addr) = a12 at hI12 ⊢
        try simp only [Act.put, List.setIfInBounds_toArray, List.set_cons_zero, List.set_cons_succ]
        refine wpList_buildSlice rfl 47 4 4 _ rfl #[.bool true, .bool false, .bool false, .bool false] ieb _ Try.underlying47 hieb hzb (by rw [hzb1]; omega) (by rw [hzb1]; omega) (by rw [hzb1]; kernel_rfl) ?_
        have hI13 : IsBools (b13.alloc (.cells #[.bool true, .bool false, .bool false, .bool false] 4)) (some ⟨b13.heap.size, 0, none⟩) 4 [true, false, false, false] := isBools_lt b13 b13.heap.size 4 [true, false, false, false] (by decide) rfl
        have hs13 := below_alloc (Below.refl b13.heap.size b13) (.cells #[.bool true, .bool false, .bool false, .bool false] 4)
        generalize b13.alloc (.cells #[.bool true, .bool false, .bool false, .bool false] 4) = b14 at *
        generalize ha13 : (some ⟨b13.heap.size, 0, none⟩ : Option Addr) = a13 at hI13 ⊢
        try simp only [Act.put, List.setIfInBounds_toArray, List.set_cons_zero, List.set_cons_succ]
        refine wpList_build rfl 60 _ rfl (by kernel_rfl) ?_
        simp only [Act.put, List.setIfInBounds_toArray, List.set_cons_zero, List.set_cons_succ]
        refine wpList_buildSlice rfl 47 4 4 _ rfl #[.bool false, .bool true, .bool false, .bool true] ieb _ Try.underlying47 hieb hzb (by rw [hzb1]; omega) (by rw [hzb1]; omega) (by rw [hzb1]; kernel_rfl) ?_
        have hI14 : IsBools (b14.alloc (.cells #[.bool false, .bool true, .bool false, .bool true] 4)) (some ⟨b14.heap.size, 0, none⟩) 4 [false, true, false, true] := isBools_lt b14 b14.heap.size 4 [false, true, false, true] (by decide) rfl
        have hs14 := below_alloc (Below.refl b14.heap.size b14) (.cells #[.bool false, .bool true, .bool false, .bool true] 4)
        generalize b14.alloc (.cells #[.bool false, .bool true, .bool false, .bool true] 4) = b15 at *
        generalize ha14 : (some ⟨b14.heap.size, 0, none⟩ : Option Addr) = a14 at hI14 ⊢
        try simp only [Act.put, List.setIfInBounds_toArray, List.set_cons_zero, List.set_cons_succ]
        refine wpList_buildSlice rfl 47 4 4 _ rfl #[.bool false, .bool true, .bool false, .bool true] ieb _ Try.underlying47 hieb hzb (by rw [hzb1]; omega) (by rw [hzb1]; omega) (by rw [hzb1]; kernel_rfl) ?_
        have hI15 : IsBools (b15.alloc (.cells #[.bool false, .bool true, .bool false, .bool true] 4)) (some ⟨b15.heap.size, 0, none⟩) 4 [false, true, false, true] := isBools_lt b15 b15.heap.size 4 [false, true, false, true] (by decide) rfl
        have hs15 := below_alloc (Below.refl b15.heap.size b15) (.cells #[.bool false, .bool true, .bool false, .bool true] 4)
        generalize b15.alloc (.cells #[.bool false, .bool true, .bool false, .bool true] 4) = b16 at *
        generalize ha15 : (some ⟨b15.heap.size, 0, none⟩ : Option Addr) = a15 at hI15 ⊢
        try simp only [Act.put, List.setIfInBounds_toArray, List.set_cons_zero, List.set_cons_succ]
        refine wpList_build rfl 60 _ rfl (by kernel_rfl) ?_
        simp only [Act.put, List.setIfInBounds_toArray, List.set_cons_zero, List.set_cons_succ]
        refine wpList_buildSlice rfl 47 4 4 _ rfl #[.bool false, .bool true, .bool true, .bool false] ieb _ Try.underlying47 hieb hzb (by rw [hzb1]; omega) (by rw [hzb1]; omega) (by rw [hzb1]; kernel_rfl) ?_
        have hI16 : IsBools (b16.alloc (.cells #[.bool false, .bool true, .bool true, .bool false] 4)) (some ⟨b16.heap.size, 0, none⟩) 4 [false, true, true, false] := isBools_lt b16 b16.heap.size 4 [false, true, true, false] (by decide) rfl
        have hs16 := below_alloc (Below.refl b16.heap.size b16) (.cells #[.bool false, .bool true, .bool true, .bool false] 4)
        generalize b16.alloc (.cells #[.bool false, .bool true, .bool true, .bool false] 4) = b17 at *
        generalize ha16 : (some ⟨b16.heap.size, 0, none⟩ : Option Addr) = a16 at hI16 ⊢
        try simp only [Act.put, List.setIfInBounds_toArray, List.set_cons_zero, List.set_cons_succ]
        refine wpList_buildSlice rfl 47 4 4 _ rfl #[.bool false, .bool true, .bool true, .bool false] ieb _ Try.underlying47 hieb hzb (by rw [hzb1]; omega) (by rw [hzb1]; omega) (by rw [hzb1]; kernel_rfl) ?_
        have hI17 : IsBools (b17.alloc (.cells #[.bool false, .bool true, .bool true, .bool false] 4)) (some ⟨b17.heap.size, 0, none⟩) 4 [false, true, true, false] := isBools_lt b17 b17.heap.size 4 [false, true, true, false] (by decide) rfl
        have hs17 := below_alloc (Below.refl b17.heap.size b17) (.cells #[.bool false, .bool true, .bool true, .bool false] 4)
        generalize b17.alloc (.cells #[.bool false, .bool true, .bool true, .bool false] 4) = b18 at *
        generalize ha17 : (some ⟨b17.heap.size, 0, none⟩ : Option Addr) = a17 at hI17 ⊢
        try simp only [Act.put, List.setIfInBounds_toArray, List.set_cons_zero, List.set_cons_succ]
        refine wpList_build rfl 60 _ rfl (by kernel_rfl) ?_
        simp only [Act.put, List.setIfInBounds_toArray, List.set_cons_zero, List.set_cons_succ]
        refine wpList_buildSlice rfl 47 4 4 _ rfl #[.bool false, .bool false, .bool false, .bool false] ieb _ Try.underlying47 hieb hzb (by rw [hzb1]; omega) (by rw [hzb1]; omega) (by rw [hzb1]; kernel_rfl) ?_
        have hI18 : IsBools (b18.alloc (.cells #[.bool false, .bool false, .bool false, .bool false] 4)) (some ⟨b18.heap.size, 0, none⟩) 4 [false, false, false, false] := isBools_lt b18 b18.heap.size 4 [false, false, false, false] (by decide) rfl
        have hs18 := below_alloc (Below.refl b18.heap.size b18) (.cells #[.bool false, .bool false, .bool false, .bool false] 4)
        generalize b18.alloc (.cells #[.bool false, .bool false, .bool false, .bool false] 4) = b19 at *
        generalize ha18 : (some ⟨b18.heap.size, 0, none⟩ : Option Addr) = a18 at hI18 ⊢
        try simp only [Act.put, List.setIfInBounds_toArray, List.set_cons_zero, List.set_cons_succ]
        refine wpList_buildSlice rfl 47 4 4 _ rfl #[.bool false, .bool false, .bool false, .bool false] ieb _ Try.underlying47 hieb hzb (by rw [hzb1]; omega) (by rw [hzb1]; omega) (by rw [hzb1]; kernel_rfl) ?_
        have hI19 : IsBools (b19.alloc (.cells #[.bool false, .bool false, .bool false, .bool false] 4)) (some ⟨b19.heap.size, 0, none⟩) 4 [false, false, false, false] := isBools_lt b19 b19.heap.size 4 [false, false, false, false] (by decide) rfl
        have hs19 := below_alloc (Below.refl b19.heap.size b19) (.cells #[.bool false, .bool false, .bool false, .bool false] 4)
        generalize b19.alloc (.cells #[.bool false, .bool false, .bool false, .bool false] 4) = b20 at *
        generalize ha19 : (some ⟨b19.heap.size, 0, none⟩ : Option Addr) = a19 at hI19 ⊢
        try simp only [Act.put, List.setIfInBounds_toArray, List.set_cons_zero, List.set_cons_succ]
        refine wpList_build rfl 60 _ rfl (by kernel_rfl) ?_
        simp only [Act.put, List.setIfInBounds_toArray, List.set_cons_zero, List.set_cons_succ]
        refine wpList_buildSlice rfl 61 60 10 _ rfl #[.slice a0 4 4, .slice a1 4 4, .slice a2 4 4, .slice a3 4 4, .slice a4 4 4, .slice a5 4 4, .slice a6 4 4, .slice a7 4 4, .slice a8 4 4, .slice a9 4 4, .slice a10 4 4, .slice a11 4 4, .slice a12 4 4, .slice a13 4 4, .slice a14 4 4, .slice a15 4 4, .slice a16 4 4, .slice a17 4 4, .slice a18 4 4, .slice a19 4 4] iep _ Try.underlying61 hiep hzp (by rw [hzp1]; omega) (by rw [hzp1]; omega) (by rw [hzp1]; kernel_rfl) ?_
        have hE20 := Below.refl b20.heap.size b20
        have hE19 := Below.on hs19 hE20
        have hE18 := Below.on hs18 hE19
        have hE17 := Below.on hs17 hE18
        have hE16 := Below.on hs16 hE17
        have hE15 := Below.on hs15 hE16
        have hE14 := Below.on hs14 hE15
        have hE13 := Below.on hs13 hE14
        have hE12 := Below.on hs12 hE13
        have hE11 := Below.on hs11 hE12
        have hE10 := Below.on hs10 hE11
        have hE9 := Below.on hs9 hE10
        have hE8 := Below.on hs8 hE9
        have hE7 := Below.on hs7 hE8
        have hE6 := Below.on hs6 hE7
        have hE5 := Below.on hs5 hE6
        have hE4 := Below.on hs4 hE5
        have hE3 := Below.on hs3 hE4
        have hE2 := Below.on hs2 hE3
        have hE1 := Below.on hs1 hE2
        have hE0 := Below.on hs0 hE1
        go_wp2_with fail
        go_meet
        subst hb0
        exact ⟨below_alloc hE0 _, _, rfl, wtTab_lit _ _ _ _ _ _ _ _ _ _ _ _ _ _ _ _ _ _ _ _ _ _ _ rfl (hI0.below hE1) (hI1.below hE2) (hI2.below hE3) (hI3.below hE4) (hI4.below hE5) (hI5.below hE6) (hI6.below hE7) (hI7.below hE8) (hI8.below hE9) (hI9.below hE10) (hI10.below hE11) (hI11.below hE12) (hI12.below hE13) (hI13.below hE14) (hI14.below hE15) (hI15.below hE16) (hI16.below hE17) (hI17.below hE18) (hI18.below hE19) (hI19.below hE20)⟩
      case rest =>
      obtain ⟨hb5, AW, rfl, hW5⟩ := hcut
      generalize wc = w5 at *
      have hB5 := Below.on (Below.on hB3 hb4) hb5
      have hbox5 := cell_later (Below.on hb4 hb5) hbox3
      have hT5 := hide (hT3'.out.below (Below.on hb4 hb5))
      have hp5 := hide (hp3.out.later (Below.on hb4 hb5))
      have hI5 := hide (hI4'.out.below hb5)
      have hW5' := hide hW5
      clear hW5 hB3 hbox3 hT3' hp3 hI4' hb4 hb5 hw3
      go_wp2
      go_loopw [12] (fun s wr => ∃ q : Nat, q ≤ 10 ∧ s = .int .i64 q ∧ Below w5.heap.size w5 wr) (fun s _ => 10 - (intOf s).toNat)
      case atStart => exact ⟨0, Nat.zero_le _, rfl, Below.refl _ _⟩
      case round =>
        obtain ⟨q, hq, rfl, hb⟩ := hrel
        have hBr := Below.on hB5 hb
        obtain ⟨gb, go, rfl, hgl, hgc⟩ := hI5.out.2.2 (by omega)
        obtain ⟨tb, tof, rfl, htl, htc⟩ := hW5'.out
        have hbox := cell_later hb hbox5
        have hTr := hide (hT5.out.below hb)
        have hmr := hide (hm'.out.below hBr)
        by_cases hlt : q < 10
        · have hin := (hgc q hlt).later hb
          obtain ⟨P0, Q0, p1, p2, p3, p4⟩ := htc q hlt
          have r1 := cell_later hb p1
          have r2 := cell_later hb p2
          have r3 := hide (p3.below hb)
          have r4 := hide (p4.below hb)
          have hg := good_chk q hlt
          have q1 : (0 : Int) ≤ (q : Int) := by omega
          have q2 : (q : Int) < 10 := by omega
          clear p1 p2 p3 p4 hgc htc
          generalize wantA q = XA at *
          generalize wantB q = XB at *
          cases hs : sm goodS q with
          | mk k nm op vl fo a b f LA ln lc =>
            rw [hs] at hin hg
            obtain ⟨s0, s1, s2, s3, s4, s5, s6, s7, s8⟩ := hin
            obtain ⟨⟨e1, e2, e3⟩, e4, e5, e6⟩ := hg
            have hk1 := hide (fun (W : World) (h : IsTree W A3 4 ex18T) (hx : HasMax W) => sAll_eq ex18T k nm op vl fo a b f LA ln lc (-1) XA 0 4 e1 e2 e3 A3 4 c3 W h hx)
            have hk2 := hide (fun (W : World) (h : IsTree W A3 4 ex18T) (hx : HasMax W) => sAll_eq ex18T k nm op vl fo a b f LA ln lc 2 XB 0 4 e4 e5 e6 A3 4 c3 W h hx)
            clear hs e1 e2 e3 e4 e5 e6
            go_wp2
            go_region_held3 (fun X => X.cell? ⟨w3.heap.size, 0, none⟩ = some (.slice A3 4 c3) ∧ X.cell? ⟨gb, go + q * 9, none⟩ = some (.int .u8 k) ∧ X.cell? ⟨gb, go + q * 9 + 1, none⟩ = some (.string nm) ∧ X.cell? ⟨gb, go + q * 9 + 2, none⟩ = some (.int .u8 op) ∧ X.cell? ⟨gb, go + q * 9 + 3, none⟩ = some (.string vl) ∧ X.cell? ⟨gb, go + q * 9 + 4, none⟩ = some (.bool fo) ∧ X.cell? ⟨gb, go + q * 9 + 5, none⟩ = some (.int .i64 a) ∧ X.cell? ⟨gb, go + q * 9 + 6, none⟩ = some (.int .i64 b) ∧ X.cell? ⟨gb, go + q * 9 + 7, none⟩ = some (.bool f) ∧ X.cell? ⟨gb, go + q * 9 + 8, none⟩ = some (.slice LA ln lc)) (first | exact ⟨hbox, s0, s1, s2, s3, s4, s5, s6, s7, s8⟩ | exact ⟨zb, v0, v1, v2, v3, v4, v5, v6, v7, v8⟩) (first
              | (go_at_call 27; (with_reducible refine (hk1.out wr.drew (hTr.out.below (Below.refl _ _).drew) (hmr.out.below (Below.refl _ _).drew)).mono ?_); rintro e x1 ⟨A7, c7, rfl, hI7, hy⟩; have zb := cell_later hy hbox; have v0 := cell_later hy s0; have v1 := cell_later hy s1; have v2 := cell_later hy s2; have v3 := cell_later hy s3; have v4 := cell_later hy s4; have v5 := cell_later hy s5; have v6 := cell_later hy s6; have v7 := cell_later hy s7; have v8 := cell_later hy s8))
            have hz := Below.on (w1 := wr.drew) (Below.refl _ _).drew hy
            clear s0 s1 s2 s3 s4 s5 s6 s7 s8 hbox hy
            have hbox := zb
            have hJ7 := hide hI7
            have t1 := cell_later hz r1
            have t2 := cell_later hz r2
            have t3 := hide (r3.out.below hz)
            have t4 := hide (r4.out.below hz)
            have tT := hide (hTr.out.below hz)
            have tm := hide (hmr.out.below hz)
            have hb1 := Below.on hb hz
            clear zb hI7 hTr hmr r1 r2 r3 r4 hz
            have s0 := v0
            have s1 := v1
            have s2 := v2
            have s3 := v3
            have s4 := v4
            have s5 := v5
            have s6 := v6
            have s7 := v7
            have s8 := v8
            clear v0 v1 v2 v3 v4 v5 v6 v7 v8
            go_wp2
            go_region_held3 (fun X => X.cell? ⟨w3.heap.size, 0, none⟩ = some (.slice A3 4 c3) ∧ X.cell? ⟨gb, go + q * 9, none⟩ = some (.int .u8 k) ∧ X.cell? ⟨gb, go + q * 9 + 1, none⟩ = some (.string nm) ∧ X.cell? ⟨gb, go + q * 9 + 2, none⟩ = some (.int .u8 op) ∧ X.cell? ⟨gb, go + q * 9 + 3, none⟩ = some (.string vl) ∧ X.cell? ⟨gb, go + q * 9 + 4, none⟩ = some (.bool fo) ∧ X.cell? ⟨gb, go + q * 9 + 5, none⟩ = some (.int .i64 a) ∧ X.cell? ⟨gb, go + q * 9 + 6, none⟩ = some (.int .i64 b) ∧ X.cell? ⟨gb, go + q * 9 + 7, none⟩ = some (.bool f) ∧ X.cell? ⟨gb, go + q * 9 + 8, none⟩ = some (.slice LA ln lc)) (first | exact ⟨hbox, s0, s1, s2, s3, s4, s5, s6, s7, s8⟩ | exact ⟨zb, v0, v1, v2, v3, v4, v5, v6, v7, v8⟩) (first
              | (go_at_call 27; (with_reducible refine (hk2.out x1.drew (tT.out.below (Below.refl _ _).drew) (tm.out.below (Below.refl _ _).drew)).mono ?_); rintro e x2 ⟨A8, c8, rfl, hI8, hy⟩; have zb := cell_later hy hbox; have v0 := cell_later hy s0; have v1 := cell_later hy s1; have v2 := cell_later hy s2; have v3 := cell_later hy s3; have v4 := cell_later hy s4; have v5 := cell_later hy s5; have v6 := cell_later hy s6; have v7 := cell_later hy s7; have v8 := cell_later hy s8))
            have hz := Below.on (w1 := x1.drew) (Below.refl _ _).drew hy
            have r1 := cell_later hz t1
            have r2 := cell_later hz t2
            have r3 := hide (t3.out.below hz)
            have r4 := hide (t4.out.below hz)
            have hJ8 := hide hI8
            have hK7 := hide (hJ7.out.below hz)
            have hb2 := Below.on hb1 hz
            clear s0 s1 s2 s3 s4 s5 s6 s7 s8 v0 v1 v2 v3 v4 v5 v6 v7 v8 hbox zb hy t1 t2 t3 t4 hI8 hJ7 hz hb1 tT tm hb
            go_wp2_with fail
            refine (sameBools_yes A7 P0 4 4 c7 4 XA _ hK7.out r3.out).mono ?_
            rintro e x3 ⟨rfl, hy3⟩
            have t2 := cell_later hy3 r2
            have t4 := hide (r4.out.below hy3)
            have hL8 := hide (hJ8.out.below hy3)
            have hb3 := Below.on hb2 hy3
            clear r1 r2 r3 r4 hJ8 hK7 hb2 hy3
            go_wp2_with fail
            refine (sameBools_yes A8 Q0 4 4 c8 4 XB _ hL8.out t4.out).mono ?_
            rintro e x4 ⟨rfl, hy4⟩
            have hb4 := Below.on hb3 hy4
            clear t2 t4 hL8
            go_wp2
            go_roundw
            case rel => exact ⟨q + 1, by omega, by go_num, hb4⟩
            case measure => simp [intOf]; omega
        · obtain rfl : q = 10 := by omega
          generalize wr = z0 at *
          have hp := hide (hp5.out.later hb)
          have hg0 := hide (show SimIn z0 gb go ⟨1, ⟨#[105]⟩, 0, ⟨#[]⟩, false, 0, 0, false, none, 0, 0⟩ by have := (hgc 0 (by omega)).later hb; rw [Nat.zero_mul, Nat.add_zero] at this; exact this)
          have hg2 := hide (show SimIn z0 gb (go + 18) ⟨3, ⟨#[104, 114, 101, 102]⟩, 0, ⟨#[]⟩, false, 0, 0, false, none, 0, 0⟩ from (hgc 2 (by omega)).later hb)
          have hB := hBr
          have hT := hTr
          have hm := hmr
          clear hTr hmr hBr hb hp5 hI5 hW5' htc hgc hq hlt hT5 hbox5
          clear hm'
          obtain ⟨s0, s1, s2, s3, s4, s5, s6, s7, s8⟩ := hp.out
          go_wp2_with fail
          refine (sMatch_eq [] (-1) 0 ⟨#[]⟩ 0 ⟨#[]⟩ false 0 0 false none 0 0 9 false 8 (by kernel_rfl) (by kernel_rfl) none 0 0 _ (isTree_nil _) hm.out).mono ?_
          rintro e z1 ⟨rfl, hy⟩
          clear s0 s1 s2 s3 s4 s5 s6 s7 s8
          have hbox_n := cell_later hy hbox
          have hp_n := hide (hp.out.later hy)
          have hg0_n := hide (hg0.out.later hy)
          have hg2_n := hide (hg2.out.later hy)
          have hT_n := hide (hT.out.below hy)
          have hm_n := hide (hm.out.below hy)
          have hB_n := Below.on hB hy
          clear hbox hp hg0 hg2 hT hm hB
          have hbox := hbox_n
          have hp := hp_n
          have hg0 := hg0_n
          have hg2 := hg2_n
          have hT := hT_n
          have hm := hm_n
          have hB := hB_n
          clear hbox_n hp_n hg0_n hg2_n hT_n hm_n hB_n
          clear hy
          obtain ⟨s0, s1, s2, s3, s4, s5, s6, s7, s8⟩ := hp.out
          go_wp2
          go_region_held3 (fun X => X.cell? ⟨w3.heap.size, 0, none⟩ = some (.slice A3 4 c3) ∧ X.cell? ⟨bb, off, none⟩ = some (.int .u8 0) ∧ X.cell? ⟨bb, off + 1, none⟩ = some (.string ⟨#[]⟩) ∧ X.cell? ⟨bb, off + 2, none⟩ = some (.int .u8 0) ∧ X.cell? ⟨bb, off + 3, none⟩ = some (.string ⟨#[]⟩) ∧ X.cell? ⟨bb, off + 4, none⟩ = some (.bool false) ∧ X.cell? ⟨bb, off + 5, none⟩ = some (.int .i64 0) ∧ X.cell? ⟨bb, off + 6, none⟩ = some (.int .i64 0) ∧ X.cell? ⟨bb, off + 7, none⟩ = some (.bool false) ∧ X.cell? ⟨bb, off + 8, none⟩ = some (.slice none 0 0)) (first | exact ⟨hbox, s0, s1, s2, s3, s4, s5, s6, s7, s8⟩ | exact ⟨zb, v0, v1, v2, v3, v4, v5, v6, v7, v8⟩) (first
            | (go_at_call 25; (with_reducible refine (sMatch_eq ex18T 4 0 ⟨#[]⟩ 0 ⟨#[]⟩ false 0 0 false none 0 0 (9) false 2 (by kernel_rfl) (by kernel_rfl) A3 4 c3 _ (hT.out.below (Below.refl _ _).drew) (hm.out.below (Below.refl _ _).drew)).mono ?_); rintro e z2 ⟨rfl, hy⟩; have zb := cell_later hy hbox; have v0 := cell_later hy s0; have v1 := cell_later hy s1; have v2 := cell_later hy s2; have v3 := cell_later hy s3; have v4 := cell_later hy s4; have v5 := cell_later hy s5; have v6 := cell_later hy s6; have v7 := cell_later hy s7; have v8 := cell_later hy s8))
          have hz := Below.on (w1 := z1.drew) (Below.refl _ _).drew hy
          clear s0 s1 s2 s3 s4 s5 s6 s7 s8 v0 v1 v2 v3 v4 v5 v6 v7 v8 zb hy
          have hbox_n := cell_later hz hbox
          have hp_n := hide (hp.out.later hz)
          have hg0_n := hide (hg0.out.later hz)
          have hg2_n := hide (hg2.out.later hz)
          have hT_n := hide (hT.out.below hz)
          have hm_n := hide (hm.out.below hz)
          have hB_n := Below.on hB hz
          clear hbox hp hg0 hg2 hT hm hB
          have hbox := hbox_n
          have hp := hp_n
          have hg0 := hg0_n
          have hg2 := hg2_n
          have hT := hT_n
          have hm := hm_n
          have hB := hB_n
          clear hbox_n hp_n hg0_n hg2_n hT_n hm_n hB_n
          clear hz
          obtain ⟨s0, s1, s2, s3, s4, s5, s6, s7, s8⟩ := hp.out
          go_wp2
          go_region_held3 (fun X => X.cell? ⟨w3.heap.size, 0, none⟩ = some (.slice A3 4 c3) ∧ X.cell? ⟨bb, off, none⟩ = some (.int .u8 0) ∧ X.cell? ⟨bb, off + 1, none⟩ = some (.string ⟨#[]⟩) ∧ X.cell? ⟨bb, off + 2, none⟩ = some (.int .u8 0) ∧ X.cell? ⟨bb, off + 3, none⟩ = some (.string ⟨#[]⟩) ∧ X.cell? ⟨bb, off + 4, none⟩ = some (.bool false) ∧ X.cell? ⟨bb, off + 5, none⟩ = some (.int .i64 0) ∧ X.cell? ⟨bb, off + 6, none⟩ = some (.int .i64 0) ∧ X.cell? ⟨bb, off + 7, none⟩ = some (.bool false) ∧ X.cell? ⟨bb, off + 8, none⟩ = some (.slice none 0 0)) (first | exact ⟨hbox, s0, s1, s2, s3, s4, s5, s6, s7, s8⟩ | exact ⟨zb, v0, v1, v2, v3, v4, v5, v6, v7, v8⟩) (first
            | (go_at_call 25; (with_reducible refine (sMatch_eq ex18T 0 0 ⟨#[]⟩ 0 ⟨#[]⟩ false 0 0 false none 0 0 (4) false 2 (by kernel_rfl) (by kernel_rfl) A3 4 c3 _ (hT.out.below (Below.refl _ _).drew) (hm.out.below (Below.refl _ _).drew)).mono ?_); rintro e z3 ⟨rfl, hy⟩; have zb := cell_later hy hbox; have v0 := cell_later hy s0; have v1 := cell_later hy s1; have v2 := cell_later hy s2; have v3 := cell_later hy s3; have v4 := cell_later hy s4; have v5 := cell_later hy s5; have v6 := cell_later hy s6; have v7 := cell_later hy s7; have v8 := cell_later hy s8))
          have hz := Below.on (w1 := z2.drew) (Below.refl _ _).drew hy
          clear s0 s1 s2 s3 s4 s5 s6 s7 s8 v0 v1 v2 v3 v4 v5 v6 v7 v8 zb hy
          have hbox_n := cell_later hz hbox
          have hp_n := hide (hp.out.later hz)
          have hg0_n := hide (hg0.out.later hz)
          have hg2_n := hide (hg2.out.later hz)
          have hT_n := hide (hT.out.below hz)
          have hm_n := hide (hm.out.below hz)
          have hB_n := Below.on hB hz
          clear hbox hp hg0 hg2 hT hm hB
          have hbox := hbox_n
          have hp := hp_n
          have hg0 := hg0_n
          have hg2 := hg2_n
          have hT := hT_n
          have hm := hm_n
          have hB := hB_n
          clear hbox_n hp_n hg0_n hg2_n hT_n hm_n hB_n
          clear hz
          obtain ⟨s0, s1, s2, s3, s4, s5, s6, s7, s8⟩ := hp.out
          go_wp2
          go_region_held3 (fun X => X.cell? ⟨w3.heap.size, 0, none⟩ = some (.slice A3 4 c3) ∧ X.cell? ⟨bb, off, none⟩ = some (.int .u8 0) ∧ X.cell? ⟨bb, off + 1, none⟩ = some (.string ⟨#[]⟩) ∧ X.cell? ⟨bb, off + 2, none⟩ = some (.int .u8 0) ∧ X.cell? ⟨bb, off + 3, none⟩ = some (.string ⟨#[]⟩) ∧ X.cell? ⟨bb, off + 4, none⟩ = some (.bool false) ∧ X.cell? ⟨bb, off + 5, none⟩ = some (.int .i64 0) ∧ X.cell? ⟨bb, off + 6, none⟩ = some (.int .i64 0) ∧ X.cell? ⟨bb, off + 7, none⟩ = some (.bool false) ∧ X.cell? ⟨bb, off + 8, none⟩ = some (.slice none 0 0)) (first | exact ⟨hbox, s0, s1, s2, s3, s4, s5, s6, s7, s8⟩ | exact ⟨zb, v0, v1, v2, v3, v4, v5, v6, v7, v8⟩) (first
            | (go_at_call 25; (with_reducible refine (sMatch_eq ex18T 0 0 ⟨#[]⟩ 0 ⟨#[]⟩ false 0 0 false none 0 0 (3) false 2 (by kernel_rfl) (by kernel_rfl) A3 4 c3 _ (hT.out.below (Below.refl _ _).drew) (hm.out.below (Below.refl _ _).drew)).mono ?_); rintro e z4 ⟨rfl, hy⟩; have zb := cell_later hy hbox; have v0 := cell_later hy s0; have v1 := cell_later hy s1; have v2 := cell_later hy s2; have v3 := cell_later hy s3; have v4 := cell_later hy s4; have v5 := cell_later hy s5; have v6 := cell_later hy s6; have v7 := cell_later hy s7; have v8 := cell_later hy s8))
          have hz := Below.on (w1 := z3.drew) (Below.refl _ _).drew hy
          clear s0 s1 s2 s3 s4 s5 s6 s7 s8 v0 v1 v2 v3 v4 v5 v6 v7 v8 zb hy
          have hbox_n := cell_later hz hbox
          have hp_n := hide (hp.out.later hz)
          have hg0_n := hide (hg0.out.later hz)
          have hg2_n := hide (hg2.out.later hz)
          have hT_n := hide (hT.out.below hz)
          have hm_n := hide (hm.out.below hz)
          have hB_n := Below.on hB hz
          clear hbox hp hg0 hg2 hT hm hB
          have hbox := hbox_n
          have hp := hp_n
          have hg0 := hg0_n
          have hg2 := hg2_n
          have hT := hT_n
          have hm := hm_n
          have hB := hB_n
          clear hbox_n hp_n hg0_n hg2_n hT_n hm_n hB_n
          clear hz
          obtain ⟨s0, s1, s2, s3, s4, s5, s6, s7, s8⟩ := hp.out
          go_wp2
          go_region_held3 (fun X => X.cell? ⟨w3.heap.size, 0, none⟩ = some (.slice A3 4 c3) ∧ X.cell? ⟨bb, off, none⟩ = some (.int .u8 0) ∧ X.cell? ⟨bb, off + 1, none⟩ = some (.string ⟨#[]⟩) ∧ X.cell? ⟨bb, off + 2, none⟩ = some (.int .u8 0) ∧ X.cell? ⟨bb, off + 3, none⟩ = some (.string ⟨#[]⟩) ∧ X.cell? ⟨bb, off + 4, none⟩ = some (.bool false) ∧ X.cell? ⟨bb, off + 5, none⟩ = some (.int .i64 0) ∧ X.cell? ⟨bb, off + 6, none⟩ = some (.int .i64 0) ∧ X.cell? ⟨bb, off + 7, none⟩ = some (.bool false) ∧ X.cell? ⟨bb, off + 8, none⟩ = some (.slice none 0 0)) (first | exact ⟨hbox, s0, s1, s2, s3, s4, s5, s6, s7, s8⟩ | exact ⟨zb, v0, v1, v2, v3, v4, v5, v6, v7, v8⟩) (first
            | (go_at_call 25; (with_reducible refine (sMatch_eq ex18T 0 0 ⟨#[]⟩ 0 ⟨#[]⟩ false 0 0 false none 0 0 (-2) false 2 (by kernel_rfl) (by kernel_rfl) A3 4 c3 _ (hT.out.below (Below.refl _ _).drew) (hm.out.below (Below.refl _ _).drew)).mono ?_); rintro e z5 ⟨rfl, hy⟩; have zb := cell_later hy hbox; have v0 := cell_later hy s0; have v1 := cell_later hy s1; have v2 := cell_later hy s2; have v3 := cell_later hy s3; have v4 := cell_later hy s4; have v5 := cell_later hy s5; have v6 := cell_later hy s6; have v7 := cell_later hy s7; have v8 := cell_later hy s8))
          have hz := Below.on (w1 := z4.drew) (Below.refl _ _).drew hy
          clear s0 s1 s2 s3 s4 s5 s6 s7 s8 v0 v1 v2 v3 v4 v5 v6 v7 v8 zb hy
          have hbox_n := cell_later hz hbox
          have hp_n := hide (hp.out.later hz)
          have hg0_n := hide (hg0.out.later hz)
          have hg2_n := hide (hg2.out.later hz)
          have hT_n := hide (hT.out.below hz)
          have hm_n := hide (hm.out.below hz)
          have hB_n := Below.on hB hz
          clear hbox hp hg0 hg2 hT hm hB
          have hbox := hbox_n
          have hp := hp_n
          have hg0 := hg0_n
          have hg2 := hg2_n
          have hT := hT_n
          have hm := hm_n
          have hB := hB_n
          clear hbox_n hp_n hg0_n hg2_n hT_n hm_n hB_n
          clear hz
          obtain ⟨s0, s1, s2, s3, s4, s5, s6, s7, s8⟩ := hp.out
          go_wp2_with fail
          refine (sAll_eq [] 0 ⟨#[]⟩ 0 ⟨#[]⟩ false 0 0 false none 0 0 9 [] 8 0 (by kernel_rfl) (by kernel_rfl) rfl none 0 0 _ (isTree_nil _) hm.out).mono ?_
          rintro e z6 ⟨A9, c9, rfl, -, hy⟩
          clear s0 s1 s2 s3 s4 s5 s6 s7 s8
          have hbox_n := cell_later hy hbox
          have hp_n := hide (hp.out.later hy)
          have hg0_n := hide (hg0.out.later hy)
          have hg2_n := hide (hg2.out.later hy)
          have hT_n := hide (hT.out.below hy)
          have hm_n := hide (hm.out.below hy)
          have hB_n := Below.on hB hy
          clear hbox hp hg0 hg2 hT hm hB
          have hbox := hbox_n
          have hp := hp_n
          have hg0 := hg0_n
          have hg2 := hg2_n
          have hT := hT_n
          have hm := hm_n
          have hB := hB_n
          clear hbox_n hp_n hg0_n hg2_n hT_n hm_n hB_n
          clear hy
          obtain ⟨s0, s1, s2, s3, s4, s5, s6, s7, s8⟩ := hp.out
          go_wp2
          go_region_held3 (fun X => X.cell? ⟨w3.heap.size, 0, none⟩ = some (.slice A3 4 c3) ∧ X.cell? ⟨bb, off, none⟩ = some (.int .u8 0) ∧ X.cell? ⟨bb, off + 1, none⟩ = some (.string ⟨#[]⟩) ∧ X.cell? ⟨bb, off + 2, none⟩ = some (.int .u8 0) ∧ X.cell? ⟨bb, off + 3, none⟩ = some (.string ⟨#[]⟩) ∧ X.cell? ⟨bb, off + 4, none⟩ = some (.bool false) ∧ X.cell? ⟨bb, off + 5, none⟩ = some (.int .i64 0) ∧ X.cell? ⟨bb, off + 6, none⟩ = some (.int .i64 0) ∧ X.cell? ⟨bb, off + 7, none⟩ = some (.bool false) ∧ X.cell? ⟨bb, off + 8, none⟩ = some (.slice none 0 0)) (first | exact ⟨hbox, s0, s1, s2, s3, s4, s5, s6, s7, s8⟩ | exact ⟨zb, v0, v1, v2, v3, v4, v5, v6, v7, v8⟩) (first
            | (go_at_call 27; (with_reducible refine (sAll_eq ex18T 0 ⟨#[]⟩ 0 ⟨#[]⟩ false 0 0 false none 0 0 0 [] 2 0 (by kernel_rfl) (by kernel_rfl) rfl A3 4 c3 _ (hT.out.below (Below.refl _ _).drew) (hm.out.below (Below.refl _ _).drew)).mono ?_); rintro e z7 ⟨A9, c9, rfl, -, hy⟩; have zb := cell_later hy hbox; have v0 := cell_later hy s0; have v1 := cell_later hy s1; have v2 := cell_later hy s2; have v3 := cell_later hy s3; have v4 := cell_later hy s4; have v5 := cell_later hy s5; have v6 := cell_later hy s6; have v7 := cell_later hy s7; have v8 := cell_later hy s8))
          have hz := Below.on (w1 := z6.drew) (Below.refl _ _).drew hy
          clear s0 s1 s2 s3 s4 s5 s6 s7 s8 v0 v1 v2 v3 v4 v5 v6 v7 v8 zb hy
          have hbox_n := cell_later hz hbox
          have hp_n := hide (hp.out.later hz)
          have hg0_n := hide (hg0.out.later hz)
          have hg2_n := hide (hg2.out.later hz)
          have hT_n := hide (hT.out.below hz)
          have hm_n := hide (hm.out.below hz)
          have hB_n := Below.on hB hz
          clear hbox hp hg0 hg2 hT hm hB
          have hbox := hbox_n
          have hp := hp_n
          have hg0 := hg0_n
          have hg2 := hg2_n
          have hT := hT_n
          have hm := hm_n
          have hB := hB_n
          clear hbox_n hp_n hg0_n hg2_n hT_n hm_n hB_n
          clear hz
          obtain ⟨s0, s1, s2, s3, s4, s5, s6, s7, s8⟩ := hg0.out
          go_wp2_with fail
          refine (value_at 1 ⟨#[105]⟩ 0 ⟨#[]⟩ false 0 0 false none 0 0 ⟨#[105]⟩ false 2 (by kernel_rfl) (by kernel_rfl) _ hm.out).mono ?_
          rintro e z8 ⟨rfl, hy⟩
          clear s0 s1 s2 s3 s4 s5 s6 s7 s8
          have hbox_n := cell_later hy hbox
          have hp_n := hide (hp.out.later hy)
          have hg0_n := hide (hg0.out.later hy)
          have hg2_n := hide (hg2.out.later hy)
          have hT_n := hide (hT.out.below hy)
          have hm_n := hide (hm.out.below hy)
          have hB_n := Below.on hB hy
          clear hbox hp hg0 hg2 hT hm hB
          have hbox := hbox_n
          have hp := hp_n
          have hg0 := hg0_n
          have hg2 := hg2_n
          have hT := hT_n
          have hm := hm_n
          have hB := hB_n
          clear hbox_n hp_n hg0_n hg2_n hT_n hm_n hB_n
          clear hy
          obtain ⟨s0, s1, s2, s3, s4, s5, s6, s7, s8⟩ := hg2.out
          go_wp2
          go_region_held3 (fun X => X.cell? ⟨gb, go + 18, none⟩ = some (.int .u8 3) ∧ X.cell? ⟨gb, go + 18 + 1, none⟩ = some (.string ⟨#[104, 114, 101, 102]⟩) ∧ X.cell? ⟨gb, go + 18 + 2, none⟩ = some (.int .u8 0) ∧ X.cell? ⟨gb, go + 18 + 3, none⟩ = some (.string ⟨#[]⟩) ∧ X.cell? ⟨gb, go + 18 + 4, none⟩ = some (.bool false) ∧ X.cell? ⟨gb, go + 18 + 5, none⟩ = some (.int .i64 0) ∧ X.cell? ⟨gb, go + 18 + 6, none⟩ = some (.int .i64 0) ∧ X.cell? ⟨gb, go + 18 + 7, none⟩ = some (.bool false) ∧ X.cell? ⟨gb, go + 18 + 8, none⟩ = some (.slice none 0 0)) (first | exact ⟨s0, s1, s2, s3, s4, s5, s6, s7, s8⟩ | exact ⟨u0, u1, u2, u3, u4, u5, u6, u7, u8⟩ | exact ⟨v0, v1, v2, v3, v4, v5, v6, v7, v8⟩) (first
            | (go_at_call 33; refine (long18_ok 401 (by decide) _).mono ?_; rintro e y1 ⟨rfl, hy1⟩; have u0 := cell_later hy1 s0; have u1 := cell_later hy1 s1; have u2 := cell_later hy1 s2; have u3 := cell_later hy1 s3; have u4 := cell_later hy1 s4; have u5 := cell_later hy1 s5; have u6 := cell_later hy1 s6; have u7 := cell_later hy1 s7; have u8 := cell_later hy1 s8)
            | (go_at_call 17; (with_reducible refine (value_at 3 ⟨#[104, 114, 101, 102]⟩ 0 ⟨#[]⟩ false 0 0 false none 0 0 (longS 401) false 28 (by kernel_rfl) (by kernel_rfl) _ ((hm.out.below (Below.refl _ _).drew).below hy1)).mono ?_); rintro e z9 ⟨rfl, hy2⟩; have v0 := cell_later hy2 u0; have v1 := cell_later hy2 u1; have v2 := cell_later hy2 u2; have v3 := cell_later hy2 u3; have v4 := cell_later hy2 u4; have v5 := cell_later hy2 u5; have v6 := cell_later hy2 u6; have v7 := cell_later hy2 u7; have v8 := cell_later hy2 u8))
          have hz := Below.on (w1 := z8.drew) (Below.refl _ _).drew (Below.on hy1 hy2)
          clear s0 s1 s2 s3 s4 s5 s6 s7 s8 u0 u1 u2 u3 u4 u5 u6 u7 u8 v0 v1 v2 v3 v4 v5 v6 v7 v8 hy1 hy2
          have hbox_n := cell_later hz hbox
          have hp_n := hide (hp.out.later hz)
          have hg0_n := hide (hg0.out.later hz)
          have hg2_n := hide (hg2.out.later hz)
          have hT_n := hide (hT.out.below hz)
          have hm_n := hide (hm.out.below hz)
          have hB_n := Below.on hB hz
          clear hbox hp hg0 hg2 hT hm hB
          have hbox := hbox_n
          have hp := hp_n
          have hg0 := hg0_n
          have hg2 := hg2_n
          have hT := hT_n
          have hm := hm_n
          have hB := hB_n
          clear hbox_n hp_n hg0_n hg2_n hT_n hm_n hB_n
          clear hz
          obtain ⟨s0, s1, s2, s3, s4, s5, s6, s7, s8⟩ := hg2.out
          go_wp2
          go_region_held3 (fun X => X.cell? ⟨gb, go + 18, none⟩ = some (.int .u8 3) ∧ X.cell? ⟨gb, go + 18 + 1, none⟩ = some (.string ⟨#[104, 114, 101, 102]⟩) ∧ X.cell? ⟨gb, go + 18 + 2, none⟩ = some (.int .u8 0) ∧ X.cell? ⟨gb, go + 18 + 3, none⟩ = some (.string ⟨#[]⟩) ∧ X.cell? ⟨gb, go + 18 + 4, none⟩ = some (.bool false) ∧ X.cell? ⟨gb, go + 18 + 5, none⟩ = some (.int .i64 0) ∧ X.cell? ⟨gb, go + 18 + 6, none⟩ = some (.int .i64 0) ∧ X.cell? ⟨gb, go + 18 + 7, none⟩ = some (.bool false) ∧ X.cell? ⟨gb, go + 18 + 8, none⟩ = some (.slice none 0 0)) (first | exact ⟨s0, s1, s2, s3, s4, s5, s6, s7, s8⟩ | exact ⟨u0, u1, u2, u3, u4, u5, u6, u7, u8⟩ | exact ⟨v0, v1, v2, v3, v4, v5, v6, v7, v8⟩) (first
            | (go_at_call 33; refine (long18_ok 400 (by decide) _).mono ?_; rintro e y1 ⟨rfl, hy1⟩; have u0 := cell_later hy1 s0; have u1 := cell_later hy1 s1; have u2 := cell_later hy1 s2; have u3 := cell_later hy1 s3; have u4 := cell_later hy1 s4; have u5 := cell_later hy1 s5; have u6 := cell_later hy1 s6; have u7 := cell_later hy1 s7; have u8 := cell_later hy1 s8)
            | (go_at_call 17; (with_reducible refine (value_at 3 ⟨#[104, 114, 101, 102]⟩ 0 ⟨#[]⟩ false 0 0 false none 0 0 (longS 400) true 0 (by kernel_rfl) (by kernel_rfl) _ ((hm.out.below (Below.refl _ _).drew).below hy1)).mono ?_); rintro e z10 ⟨rfl, hy2⟩; have v0 := cell_later hy2 u0; have v1 := cell_later hy2 u1; have v2 := cell_later hy2 u2; have v3 := cell_later hy2 u3; have v4 := cell_later hy2 u4; have v5 := cell_later hy2 u5; have v6 := cell_later hy2 u6; have v7 := cell_later hy2 u7; have v8 := cell_later hy2 u8))
          have hz := Below.on (w1 := z9.drew) (Below.refl _ _).drew (Below.on hy1 hy2)
          clear s0 s1 s2 s3 s4 s5 s6 s7 s8 u0 u1 u2 u3 u4 u5 u6 u7 u8 v0 v1 v2 v3 v4 v5 v6 v7 v8 hy1 hy2
          have hbox_n := cell_later hz hbox
          have hp_n := hide (hp.out.later hz)
          have hg0_n := hide (hg0.out.later hz)
          have hg2_n := hide (hg2.out.later hz)
          have hT_n := hide (hT.out.below hz)
          have hm_n := hide (hm.out.below hz)
          have hB_n := Below.on hB hz
          clear hbox hp hg0 hg2 hT hm hB
          have hbox := hbox_n
          have hp := hp_n
          have hg0 := hg0_n
          have hg2 := hg2_n
          have hT := hT_n
          have hm := hm_n
          have hB := hB_n
          clear hbox_n hp_n hg0_n hg2_n hT_n hm_n hB_n
          clear hz
          have l1 : ¬ (longS 400).toList = [] := by rw [ByteArray.toList_eq]; decide
          have l2 : (longS 400).toList.isEmpty = false := by rw [List.isEmpty_eq_false_iff]; exact l1
          go_wp2_with fail
          refine (alive18_ok _ hm.out).mono ?_
          rintro e y1 ⟨rfl, hy1⟩
          have hB1 := Below.on hB hy1
          clear hbox hp hg0 hg2 hT hm hy1
          go_wp2_with fail
          refine (long18_ok 400 (by decide) _).mono ?_
          rintro e y2 ⟨rfl, hy2⟩
          have hB2 := Below.on hB1 hy2
          go_wp2_with fail
          refine (long18_ok 400 (by decide) _).mono ?_
          rintro e y3 ⟨rfl, hy3⟩
          have hB3 := Below.on hB2 hy3
          go_wp2_with fail
          refine (long18_ok 400 (by decide) _).mono ?_
          rintro e y4 ⟨rfl, hy4⟩
          have hB4 := Below.on hB3 hy4
          go_wp2_with fail
          refine (scheck_ok_at 3 (longS 400) 6 (longS 400) true 0 0 false none 0 0 _ 0 (by kernel_rfl)).mono ?_
          rintro e y5 ⟨rfl, hy5⟩
          have hB5' := Below.on hB4 hy5
          go_wp2
          go_ret
          exact ⟨rfl, hB5'⟩

set_option maxRecDepth 100000 in
theorem lifted (os : Os) (started : os.Started) (H : Type) (enc : TypeId × Value → H) :
    ReturnsInHanded {} Try.checked os 7 .any (Rows.simpleNamesSpec.pre6 enc Try.prog Try.f7 Rows.simpleNamesRow.domain false) (Rows.simpleNamesSpec.post enc Try.prog Try.f7 false true false false) := by
  refine returnsInHanded_of_change_shaped (C := Try.checked) own started (by kernel_rfl) Try.func7
    (ChangeSpec.witness6 (enc := enc) (C := Try.checked) false ⟨#[], #[], []⟩ 8 (by kernel_rfl) (by kernel_rfl) (by kernel_rfl) (by kernel_rfl)) ?_
  intro W base args ds gs before hval0 hW hcnd _ hsh _
  have hW' := hW
  obtain ⟨p, q, hA0, hV, rfl, hfz, hnd⟩ := hW
  have hA : DataW.TrodAll enc Try.prog W 0 (fun _ => true) true Try.f7.params.toList args.toList ds p := hA0
  rw [Try.params7] at hA
  obtain ⟨h1, rfl, rfl⟩ := trodAll_nil hA
  obtain rfl : args = #[] := by cases args; simp_all
  obtain ⟨rfl, rfl⟩ := trodVars_none hV
  clear hA0 hval0
  refine (walk W (hasMax_of hsh)).mono fun e W' ⟨he, bel⟩ => ?_
  subst he
  exact ⟨_, rfl, _, _, _, [], _, [], hW', trodAll_mk1 (shut_bool Try.underlying4 _), trodAll_mk0, rfl, bel.frame _, fun h => by cases h⟩

theorem proved : Rows.SimpleNamesSaid :=
  OpenClaim.holds_of_wide 7 Try.f7 rfl rfl rfl rfl rfl rfl rfl ⟨rfl, rfl, rfl, rfl, rfl⟩ rfl rfl rfl rfl rfl (by kernel_rfl) Try.func7 (by kernel_rfl)
    (of_decide_eq_true (by kernel_rfl)) (by unfold Func.isWrapper; first | (rw [if_pos (by decide +kernel)]; kernel_rfl) | (rw [if_neg (by decide +kernel)]; exact ⟨rfl, rfl⟩))
    (fun os started H enc _ => lifted os started H enc)
#print axioms proved
end Go.Proofs.Ytbedomopojiehaa.simpleNames
