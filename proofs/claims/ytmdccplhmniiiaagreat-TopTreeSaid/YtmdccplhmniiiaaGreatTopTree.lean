/- For every list of changes: the packages of trees, attributes, changes, order, links and selectors answer as the references, and agree on the tree that the changes make. No condition. -/
import Derived.Test.YtmdccplhmniiiaaGreatSt
import Derived.Test.YtmdccplhmniiiaaGreatTq
import Derived.Test.YtmdccplhmniiiaaGreatTr
import Derived.Deep.CutRange
import Derived.Deep.RegionHeld3
namespace Go.Proofs.YtmdccplhmniiiaaGreat.topTree
open Go.ChangeShapes Go.WideShapes Go.ChangeAt Go.RowKit Go.Deep

section
variable {H : Type} {enc : TypeId × Value → H} {w : World} {base : Nat} {spare : Nat → Bool} {held : Bool}
set_option maxRecDepth 100000 in
/-- A parameter that is a list of numbers, with their bounds. -/
theorem ints_param {r : Reach} {b0 : Nat} {v : Value} {d : DataW H} {p : List MemPlace} (hv : Value.okWide Tryz.prog w r b0 22 v) (h : DataW.Trod enc Tryz.prog w base spare held 22 v d p) :
    ∃ (A : Option Addr) (len cap : Nat) (xs : List Int), v = .slice A len cap ∧ IsInts w A len xs ∧ ∀ j, j < len → ix xs j ≤ 9223372036854775807 := by
  obtain ⟨A, len, cap, rfl⟩ := okWide_slice Tryz.underlying22 hv
  obtain ⟨fuel, hf⟩ := h
  obtain ⟨A', len', cap', hv', hl, hm, hi⟩ := cells_open Tryz.underlying22 int_cells (v := .slice A len cap) hf
  have hc : ∀ i, i < len' → ∃ z : Int, z ≤ 9223372036854775807 ∧ ∃ a : Addr, A' = some a ∧ w.cell? (a.add i) = some (.int .i64 z) := fun i hil => by
    obtain ⟨a, m, u, y, ha, hcell, htr⟩ := hi i hil
    obtain ⟨z, hz, _, hwf⟩ := DataW.trod_int Tryz.underlying3 htr
    simp at hz
    exact ⟨z, (wf_bounds hwf).2, a, ha, by rw [hcell, hz]⟩
  obtain ⟨f, hf'⟩ := choose_lt hc
  refine ⟨A', len', cap', (List.range len').map f, hv', ⟨by simp, by unfold maxLen at hm; omega, fun h0 => ?_⟩, fun j hj => ?_⟩
  · obtain ⟨_, a0, ha0, hc0⟩ := hf' 0 h0
    obtain ⟨b, off, hae, hb⟩ := add_zero' rfl hc0
    have hA : A' = some ⟨b, off, none⟩ := by rw [ha0, hae]
    refine ⟨b, off, hA, hb, fun j hj => ?_⟩
    obtain ⟨_, a, ha, hcj⟩ := hf' j hj
    rw [add_at hA ha hcj]
    simp [ix, hj]
  · rw [show ix ((List.range len').map f) j = f j from by simp [ix, hj]]
    exact (hf' j hj).1
end
theorem far1 {w : World} {a : Addr} {u : Value} (h : w.cell? a = some u) (o : Obj) : (w.alloc o).cell? a = some u := cell_later (below_alloc (Below.refl _ _) _) h
theorem info_b : (Tryz.prog.info? 4).map (fun i => (i.zero, i.size, i.bytes)) = some (some (.bool false), 1, 1) := by kernel_rfl
theorem mk_bl (n : Nat) (hn : n ≤ 1000) (W : World) : (Instr.makeSlice 35 (.int .i64 n) (.int .i64 n)).run Tryz.prog W = .ok (.slice (some ⟨W.heap.size, 0, none⟩) n n) (W.alloc (.cells (madeCells #[.bool false] n) 4)) := by
  obtain ⟨i, hi, hz0, hz1, hz2⟩ := info_parts info_b
  have hr := run_make (P := Tryz.prog) W 35 4 i (.bool false) Tryz.underlying35 hi hz0 .i64 .i64 (n : Int) (n : Int) (by omega) (by omega) (by rw [hz2]; omega) (by omega)
  rw [hz1, show (Value.bool false).cells = #[.bool false] from rfl] at hr
  simpa using hr
theorem made_bl (W : World) (n : Nat) (hn : n ≤ 1000) : IsBools (W.alloc (.cells (madeCells #[.bool false] n) 4)) (some ⟨W.heap.size, 0, none⟩) n (List.replicate n false) := by
  refine ⟨by simp, by omega, fun h0 => ⟨_, 0, rfl, by simp, fun j hj => ?_⟩⟩
  rw [Nat.zero_add, (blk_cell (blk_new W _ _) j)]
  rw [show (madeCells #[.bool false] n)[j]? = some (.bool false) from by simp [madeCells, hj, Nat.mod_one]]
  simp [bx, hj]
theorem bx_rep {n j : Nat} (hj : j < n) : bx (List.replicate n false) j = false := by simp [bx, hj]
/-- What the first two boxes of a round hold. -/
def Two (wr : World) (p7 p8 v9 : Value) (wx : World) : Prop :=
  ∃ (g7 g8 : Nat) (A1 : Option Addr) (c1 : Nat) (U : List ANode) (B1 : Option Addr) (d1 : Nat) (V : List ANode) (bb : Bool), p7 = .pointer (some ⟨g7, 0, none⟩) ∧ p8 = .pointer (some ⟨g8, 0, none⟩) ∧ v9 = .bool bb ∧ wx.cell? ⟨g7, 0, none⟩ = some (.slice A1 U.length c1) ∧ wx.cell? ⟨g8, 0, none⟩ = some (.slice B1 V.length d1) ∧ IsTree wx A1 U.length U ∧ IsTree wx B1 V.length V ∧ (bb = true → V = U ∧ goodB U = true) ∧ Below wr.heap.size wr wx
theorem two_set {wr w0 : World} {g7 g8 : Nat} {A1 : Option Addr} {c1 : Nat} {U : List ANode} {B1 : Option Addr} {d1 : Nat} {V : List ANode} {bb : Bool} (h7 : w0.heap[g7]? = some (.cells #[.slice none 0 0] 26 (0, 0))) (h8 : w0.heap[g8]? = some (.cells #[.slice none 0 0] 26 (0, 0))) (hne : g7 ≠ g8) (hT1 : IsTree w0 A1 U.length U) (hT2 : IsTree w0 B1 V.length V) (hy : bb = true → V = U ∧ goodB U = true) (hB : Below wr.heap.size wr w0) (l7 : wr.heap.size ≤ g7) (l8 : wr.heap.size ≤ g8) :
    Two wr (.pointer (some ⟨g7, 0, none⟩)) (.pointer (some ⟨g8, 0, none⟩)) (.bool bb) ((w0.setCell ⟨g7, 0, none⟩ (.slice A1 U.length c1)).setCell ⟨g8, 0, none⟩ (.slice B1 V.length d1)) := by
  have f8 := blk_far (p := ⟨g7, 0, none⟩) h8 hne.symm (.slice A1 U.length c1)
  have f7 := blk_set h7 0 (.slice A1 U.length c1)
  refine ⟨g7, g8, A1, c1, U, B1, d1, V, bb, rfl, rfl, rfl, ?_, ?_, ?_, ?_, hy, ?_⟩
  · exact (blk_cell (blk_far (p := ⟨g8, 0, none⟩) f7 hne (.slice B1 V.length d1)) 0).trans rfl
  · exact (blk_cell (blk_set f8 0 (.slice B1 V.length d1)) 0).trans rfl
  · exact isTree_box (isTree_box hT1 h7 _) f8 _
  · exact isTree_box (isTree_box hT2 h7 _) f8 _
  · exact (hB.setCell (p := ⟨g7, 0, none⟩) l7 _).setCell (p := ⟨g8, 0, none⟩) l8 _
set_option maxRecDepth 100000 in
set_option maxHeartbeats 8000000 in
theorem walk (A : Option Addr) (n c : Nat) (xs : List Int) (w : World) (hI : IsInts w A n xs) (hW : ∀ j, j < n → ix xs j ≤ 9223372036854775807) (hm : HasMax w) :
    Calls Tryz.prog 3 #[.slice A n c] w fun e w' => e = .returned (.bool true) ∧ Below w.heap.size w w' := by
  have hmk := fun (n : Nat) (hn : n ≤ 1000) => mk_bl n hn
  have hmk := hide hmk
  have hI' := hide hI
  have hW' := hide hW
  have hm' := hide hm
  have hn63 := hI.2.1
  clear hI hW hm
  go_enter Tryz.func3, Tryz.ntmps3
  go_wp2_with fail
  refine (alive18_ok _).mono ?_
  rintro e w1 ⟨rfl, hb1⟩
  by_cases hn : n ≤ 40
  case neg =>
    have hnn : (40 : Int) < (n : Int) := by omega
    go_wp2
    go_ret
    exact ⟨rfl, hb1⟩
  have hnn : ¬ (40 : Int) < (n : Int) := by omega
  go_wp2_with fail
  refine ((new_ok ⟨#[104, 116, 109, 108]⟩ _ (by decide)).mono fun _ _ h => h.at (show _ = htmlT by kernel_rfl) (n := 1) rfl (c0 := 0) (by kernel_rfl)).mono ?_
  rintro e w2 ⟨A2, c2, rfl, hT2, hb2⟩
  have z2 := below_alloc (Below.on hb1 hb2) (.cells #[.slice A2 1 c2] 26)
  have t2 := hide (hT2.below (below_alloc (Below.refl _ _) (.cells #[.slice A2 1 c2] 26)))
  have x2 := blk_new w2 #[.slice A2 1 c2] 26
  have hbk2 : w.heap.size ≤ w2.heap.size := by have h1 := hb1.size; have h2 := hb2.size; omega
  clear hT2 hb1 hb2
  go_wp2
  go_loopw [6] (fun v wr => ∃ (k : Nat) (T : List ANode) (A4 : Option Addr) (c4 : Nat), k ≤ n ∧ v = .int .i64 k ∧ goodB T = true ∧ Hid (IsTree wr A4 T.length T) ∧ wr.heap[w2.heap.size]? = some (.cells #[.slice A4 T.length c4] 26 (0, 0)) ∧ Below w.heap.size w wr) (fun v _ => n - (intOf v).toNat)
  case atStart => exact ⟨0, htmlT, A2, c2, Nat.zero_le _, rfl, by kernel_rfl, t2, x2, z2⟩
  case round =>
    obtain ⟨k, T, A4, c4, hk, rfl, hg, hT, hx, hb⟩ := hrel
    have bx := (blk_cell hx 0).trans rfl
    have hg' := hide hg
    by_cases hlt : k < n
    · obtain ⟨b, off, rfl, hbl, hc⟩ := hI'.out.2.2 (by omega)
      have cx := (old hb _ _ hbl).trans (hc k hlt)
      have hxm := hW'.out k hlt
      generalize ix xs k = x at *
      by_cases hx0 : x < 0
      · go_wp2
        go_ret
        exact ⟨rfl, hb⟩
      · have hdr := (Below.refl wr.heap.size wr).drew
        have hlx := blk_lt hx
        have hlb : b < wr.heap.size := cell_in cx
        go_upto_region 12 with fail
        go_cut [7, 8, 9] from 41 to 50 (fun p q v wx => Two wr p q v wx)
        case first =>
          go_region_held3 (fun X => X.cell? ⟨w2.heap.size, 0, none⟩ = some (.slice A4 T.length c4) ∧ X.cell? ⟨b, off + k, none⟩ = some (.int .i64 x)) (first | exact ⟨bx, cx⟩ | exact ⟨far1 bx _, far1 cx _⟩ | exact ⟨far1 (far1 bx _) _, far1 (far1 cx _) _⟩ | exact ⟨r0, r1⟩ | exact ⟨far1 r0 _, far1 r1 _⟩ | exact ⟨far1 (far1 r0 _) _, far1 (far1 r1 _) _⟩ | (refine ⟨?_, ?_⟩ <;> repeat' first | exact r0 | exact r1 | refine far1 ?_ _ | (refine (World.cell?_setCell_far _ _ _ _ ?_).trans ?_; (first | (have := hsd; simp; omega) | (have := hsd; omega))))) (first | (go_at_call 6; refine (does18_ok A4 T.length c4 T x _ ?_ hg'.out (by omega) hxm).mono ?_; (first | exact hT.out.below hdr | exact hT.out.below (below_alloc hdr _) | exact hT.out.below (below_alloc (below_alloc hdr _) _)); rintro e wd ⟨A1, c1, U, B1, d1, V, bb, rfl, hT1, hT2, hy, hbd⟩; have hT1 := hide hT1; have hT2 := hide hT2; have hy := hide hy; (first | (have hup := Below.on hdr hbd; have hsd := hup.size) | (have hup := Below.on (below_alloc hdr (.cells #[.slice none 0 0] 26)) hbd; have hsd := hup.size; have hx7 := (hbd.block wr.heap.size (by simp)).trans (blk_new wr.drew _ _); have rb7 : wd.cell? ⟨wr.heap.size, 0, none⟩ = some (.slice none 0 0) := (blk_cell hx7 0).trans rfl; have rf7 : wd.frozen? ⟨wr.heap.size, 0, none⟩ = false := blk_frozen hx7 0; have rb7a : ∀ o : Obj, (wd.alloc o).cell? ⟨wr.heap.size, 0, none⟩ = some (.slice none 0 0) := (fun o => far1 rb7 o); have rf7a : ∀ o : Obj, (wd.alloc o).frozen? ⟨wr.heap.size, 0, none⟩ = false := (fun o => blk_frozen (blk_alloc hx7 o) 0); have hn7 : wr.heap.size ≠ wd.heap.size := (by have h1 := blk_lt hx7; omega); have hn7' : wd.heap.size ≠ wr.heap.size := hn7.symm) | (have hup := Below.on (below_alloc (below_alloc hdr (.cells #[.slice none 0 0] 26)) (.cells #[.slice none 0 0] 26)) hbd; have hsd := hup.size; have hx7 := (hbd.block wr.heap.size (by simp <;> omega)).trans (blk_alloc (blk_new wr.drew _ _) _); have rb7 : wd.cell? ⟨wr.heap.size, 0, none⟩ = some (.slice none 0 0) := (blk_cell hx7 0).trans rfl; have rf7 : wd.frozen? ⟨wr.heap.size, 0, none⟩ = false := blk_frozen hx7 0; have hx8 := (hbd.block (wr.heap.size + 1) (by simp)).trans (blk_at (wr.drew.alloc (.cells #[.slice none 0 0] 26)) _ _ (wr.heap.size + 1) (by simp)); have rb8 : wd.cell? ⟨wr.heap.size + 1, 0, none⟩ = some (.slice none 0 0) := (blk_cell hx8 0).trans rfl; have rf8 : wd.frozen? ⟨wr.heap.size + 1, 0, none⟩ = false   := blk_frozen hx8 0)); have r0 := cell_later hup bx; have r1 := cell_later hup cx))
          all_goals
            go_wp2_with fail
            go_meet
            first
              | exact ⟨_, _, A1, c1, U, B1, d1, V, bb, rfl, rfl, rfl, (blk_cell (blk_alloc (blk_new wd _ _) _) 0).trans rfl, (blk_cell (blk_at (wd.alloc _) _ _ (wd.heap.size + 1) (by simp)) 0).trans rfl, hT1.out.below (below_alloc (below_alloc (Below.refl _ _) _) _), hT2.out.below (below_alloc (below_alloc (Below.refl _ _) _) _), hy.out, below_alloc (below_alloc hup _) _⟩
              | exact ⟨_, _, A1, c1, U, B1, d1, V, bb, rfl, rfl, rfl, (blk_cell (blk_at (wd.alloc _) _ _ (wd.heap.size + 1) (by simp)) 0).trans rfl, (blk_cell (blk_alloc (blk_new wd _ _) _) 0).trans rfl, hT1.out.below (below_alloc (below_alloc (Below.refl _ _) _) _), hT2.out.below (below_alloc (below_alloc (Below.refl _ _) _) _), hy.out, below_alloc (below_alloc hup _) _⟩
              | exact two_set (blk_alloc hx7 _) (blk_new wd _ _) hn7 (hT1.out.below (below_alloc (Below.refl _ _) _)) (hT2.out.below (below_alloc (Below.refl _ _) _)) hy.out (below_alloc hup _) (Nat.le_refl _) hsd
              | exact two_set hx7 hx8 (by omega) hT1.out hT2.out hy.out hup (Nat.le_refl _) (Nat.le_succ _)
              | exact two_set hx8 hx7 (by omega) hT1.out hT2.out hy.out hup (Nat.le_succ _) (Nat.le_refl _)
              | exact ⟨_, _, A1, c1, U, B1, d1, V, bb, rfl, rfl, rfl, (blk_cell (blk_far (p := ⟨wr.heap.size, 0, none⟩) (blk_new wd _ _) hn7' _) 0).trans rfl, (blk_cell (blk_set (blk_alloc hx7 _) 0 _) 0).trans rfl, isTree_box (hT1.out.below (below_alloc (Below.refl _ _) _)) (blk_alloc hx7 _) _, isTree_box (hT2.out.below (below_alloc (Below.refl _ _) _)) (blk_alloc hx7 _) _, hy.out, (below_alloc hup _).setCell (p := ⟨wr.heap.size, 0, none⟩) (Nat.le_refl _) _⟩
        case rest =>
          obtain ⟨g7, g8, A1, c1, U, B1, d1, V, bb, rfl, rfl, rfl, k7, k8, hU, hV, hy, hb5⟩ := hcut
          have hU := hide hU
          have hV := hide hV
          generalize wc = w5 at *
          have hx5 := (hb5.block _ hlx).trans hx
          have hB5 := Below.on hb hb5
          have hT5 := hide (hT.out.below hb5)
          clear hx hb hT hb5 bx cx hc
          cases bb
          · go_wp2
            go_roundw
            case rel => exact ⟨k + 1, T, A4, c4, by omega, by go_num, hg'.out, hT5, hx5, hB5⟩
            case measure => simp [intOf]; omega
          · obtain ⟨rfl, hgU⟩ := hy rfl
            have hq := show chk V = 0 from if_pos hgU
            have hgU := hide hgU
            have hp := check_ok A1 V.length c1 V _ hU.out
            rw [hq] at hp
            go_wp2_with fail
            refine hp.mono ?_
            clear hp
            rintro e w6 ⟨rfl, hb6⟩
            have hp := rcheck_ok A1 V.length c1 V _ (hU.out.below hb6)
            rw [hq] at hp
            have k76 := cell_later hb6 k7
            have k86 := cell_later hb6 k8
            go_wp2_with fail
            refine hp.mono ?_
            clear hp hq
            rintro e w7 ⟨rfl, hb7⟩
            have hz7 := Below.on hb6 hb7
            have k77 := cell_later hb7 k76
            have k87 := cell_later hb7 k86
            go_wp2_with fail
            refine (same_ok A1 B1 V.length c1 d1 V _ (hU.out.below hz7) (hV.out.below hz7)).mono ?_
            rintro e w8 ⟨rfl, hb8⟩
            have hz8 := Below.on hz7 hb8
            have k78 := cell_later hb8 k77
            have hx8 := (hz8.block _ (blk_lt hx5)).trans hx5
            have hU8 := hide (hU.out.below hz8)
            have hB8 := Below.on hB5 hz8
            have m1 := blk_cell hx8 0
            have m2 := blk_frozen hx8 0
            clear hb6 hb7 hb8 hz7 hz8 k7 k8 k76 k86 k77 k87 hx5 hT5 hB5
            go_wp2
            go_roundw
            case rel => exact ⟨k + 1, V, A1, c1, by omega, by go_num, hgU.out, hide (isTree_box hU8.out hx8 _), blk_set hx8 0 _, hB8.setCell (p := ⟨w2.heap.size, 0, none⟩) hbk2 _⟩
            case measure => simp [intOf]; omega
    · have hl64 : T.length ≤ 64 := ((goodB_iff T).1 hg).2.1
      have hm0 := hide (hm'.out.below hb)
      have hlx := blk_lt hx
      go_wp2_with fail
      refine (all18 5 T.length T hg'.out (by kernel_rfl) A4 c4 _ hT.out hm0.out (fun _ => false) (fun j => by show decide ((j : Int) = -1) = false; rw [decide_eq_false_iff_not]; omega)).mono ?_
      rintro e w5 ⟨bM, oM, dM, rfl, hlM, hcM, hb5⟩
      have bx5 := cell_later hb5 bx
      have hz5 := below_alloc (Below.refl w5.heap.size w5) (.cells (madeCells #[.bool false] T.length) 4)
      have hM := hide (show IsBools (w5.alloc (.cells (madeCells #[.bool false] T.length) 4)) (some ⟨bM, oM, none⟩) T.length (List.replicate T.length false) from ⟨by simp, by omega, fun _ => ⟨bM, oM, rfl, Nat.lt_of_lt_of_le hlM hz5.size, fun j hj => by rw [far1 (hcM j hj) _, bx_rep hj]⟩⟩)
      have hN := hide (made_bl w5 T.length (by omega))
      have hmk1 := hmk.out T.length (by omega)
      clear hcM
      go_wp2_with fail
      refine (sameBools_yes _ _ T.length T.length _ _ (List.replicate T.length false) _ hM.out hN.out).mono ?_
      rintro e w6 ⟨rfl, hb6⟩
      have hz6 := Below.on hb5 (Below.on hz5 hb6)
      have hB6 := Below.on hb hz6
      have bx6 := cell_later hz6 bx
      have hT6 := hide (hT.out.below hz6)
      have hm6 := hide (hm0.out.below hz6)
      clear hb5 hb6 hz5 hz6 bx5 bx hb hT hx hmk1 hM hN
      go_wp2
      go_loopw [11] (fun v wr => ∃ i : Nat, i ≤ T.length ∧ v = .int .i64 i ∧ Below w6.heap.size w6 wr) (fun v _ => T.length - (intOf v).toNat)
      case atStart => exact ⟨0, Nat.zero_le _, rfl, Below.refl _ _⟩
      case round =>
        obtain ⟨i, hi, rfl, hbi⟩ := hrel
        have bxi := cell_later hbi bx6
        by_cases hil : i < T.length
        · cases hlk : lkB T i
          all_goals
            have hlk := hide hlk
            go_wp2_with fail
            refine (is18 hg'.out hil A4 T.length c4 _ (hT6.out.below hbi) hlk.out).mono ?_
            rintro e w7 ⟨rfl, hb7⟩
            have hz7 := Below.on hbi hb7
            have bx7 := cell_later hb7 bxi
            have hp := rlk_ok A4 T.length c4 T i _ (hT6.out.below hz7) hil hg'.out
            rw [hlk.out] at hp
            go_wp2_with fail
            refine hp.mono ?_
            clear hp
            rintro e w8 ⟨rfl, hb8⟩
            go_wp2
            go_roundw
            case rel => exact ⟨i + 1, by omega, by go_num, Below.on hz7 hb8⟩
            case measure => simp [intOf]; omega
        · go_wp2_with fail
          refine (agrees18_ok A4 T.length c4 T _ (hT6.out.below hbi) hg'.out (hm6.out.below hbi)).mono ?_
          rintro e w7 ⟨rfl, hb7⟩
          go_wp2
          go_ret
          exact ⟨rfl, Below.on hB6 (Below.on hbi hb7)⟩


set_option maxRecDepth 100000 in
theorem lifted (os : Os) (started : os.Started) (H : Type) (enc : TypeId × Value → H) :
    ReturnsInHanded {} Tryz.checked os 3 .any (Rows.topTreeSpec.pre6 enc Tryz.prog Tryz.f3 Rows.topTreeRow.domain false) (Rows.topTreeSpec.post enc Tryz.prog Tryz.f3 false true false false) := by
  refine returnsInHanded_of_change_shaped (C := Tryz.checked) own started (by kernel_rfl) Tryz.func3
    (ChangeSpec.witness6 (enc := enc) (C := Tryz.checked) false ⟨#[], #[.slice none 0 0], []⟩ 8 (by kernel_rfl) (by kernel_rfl) (by kernel_rfl) (by kernel_rfl)) ?_
  intro W base args ds gs before hval0 hW hcnd hsz hsh _
  have hval : ∀ (j : Nat) t v, Tryz.f3.params[j]? = some t → args[j]? = some v → Value.okWide Tryz.prog W .any base t v := hval0
  have hW' := hW
  obtain ⟨p, q, hA0, hV, rfl, hfz, hnd⟩ := hW
  have hA : DataW.TrodAll enc Tryz.prog W 0 (fun _ => true) true Tryz.f3.params.toList args.toList ds p := hA0
  rw [Tryz.params3] at hA hval hsz
  obtain ⟨v0, vs0, d0, ds0, p0, q0, hargs, rfl, rfl, h0, r0⟩ := trodAll_cons hA
  obtain ⟨rfl, rfl, rfl⟩ := trodAll_nil r0
  obtain rfl : args = #[v0] := by cases args; simp_all
  obtain ⟨rfl, rfl⟩ := trodVars_none hV
  have lt0 : ∀ x ∈ p0, x.block < W.heap.size := by obtain ⟨m, hm⟩ := h0; exact DataW.trod_lt m _ _ _ hm
  have k0 := h0
  obtain ⟨A0, n0, c0, xs0, rfl, hI0, hW0⟩ := ints_param (hval 0 _ v0 rfl rfl) h0
  clear hA0 hval0
  refine (walk A0 n0 c0 xs0 W hI0 hW0 (hasMax_of hsh)).mono fun e W' ⟨he, bel⟩ => ?_
  subst he
  exact ⟨_, rfl, _, _, _, [], _, [], hW', trodAll_mk1 (shut_bool Tryz.underlying4 _), (trodAll_cons_mk (Below.trod laidOut (by kernel_rfl) (of_decide_eq_true (by kernel_rfl)) k0 bel lt0) trodAll_mk0), rfl, bel.frame _, fun h => by cases h⟩

theorem proved : Rows.TopTreeSaid :=
  OpenClaim.holds_of_wide 3 Tryz.f3 rfl rfl rfl rfl rfl rfl rfl ⟨rfl, rfl, rfl, rfl, rfl⟩ rfl rfl rfl rfl rfl (by kernel_rfl) Tryz.func3 (by kernel_rfl)
    (of_decide_eq_true (by kernel_rfl)) (by unfold Func.isWrapper; first | (rw [if_pos (by decide +kernel)]; kernel_rfl) | (rw [if_neg (by decide +kernel)]; exact ⟨rfl, rfl⟩))
    (fun os started H enc _ => lifted os started H enc)
#print axioms proved
end Go.Proofs.YtmdccplhmniiiaaGreat.topTree
