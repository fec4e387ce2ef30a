/- Walks: the chapter's tree, with an element that has too many attributes. No condition. -/
import Derived.Test.YtfidpmjjddkffaaSpc
namespace Go.Proofs.Ytfidpmjjddkffaa
open Go.RowKit

theorem mk_attrs (n : Nat) (hn : n ≤ 4000000000000) (W : World) :
    (Instr.makeSlice 50 (.int .i64 (n : Int)) (.int .i64 (n : Int))).run Try.prog W = .ok (.slice (some ⟨W.heap.size, 0, none⟩) n n) (W.alloc (.cells (madeCells #[.string .empty, .string .empty] (n * 2)) 62)) := by
  obtain ⟨i, hi, hz0, hz1, hz2⟩ := info_parts info_attr
  have hr := run_make (P := Try.prog) W 50 62 i (.agg #[.string .empty, .string .empty]) Try.underlying50 hi hz0 .i64 .i64 (n : Int) (n : Int) (by omega) (by omega) (by rw [hz2]; omega) (by omega)
  rw [hz1, show (Value.agg #[.string .empty, .string .empty]).cells = #[.string .empty, .string .empty] from rfl] at hr
  simpa using hr
/-- The 17 attributes of which the first k have their names. -/
def at17 (k : Nat) : List (ByteArray × ByteArray) := (List.range 17).map fun j => (if j < k then bs [97, 97 + UInt8.ofNat j] else .empty, .empty)
theorem at17_len (k : Nat) : (at17 k).length = 17 := by simp [at17]
theorem at17_zero : (atts (at17 0)).toArray = madeCells #[.string .empty, .string .empty] (17 * 2) := by kernel_rfl
theorem at17_set {k : Nat} (hk : k < 17) : (atts (at17 k)).set (k * 2) (.string (bs [97, 97 + UInt8.ofNat k])) = atts (at17 (k + 1)) := by
  have : k = 0 ∨ k = 1 ∨ k = 2 ∨ k = 3 ∨ k = 4 ∨ k = 5 ∨ k = 6 ∨ k = 7 ∨ k = 8 ∨ k = 9 ∨ k = 10 ∨ k = 11 ∨ k = 12 ∨ k = 13 ∨ k = 14 ∨ k = 15 ∨ k = 16 := by omega
  rcases this with rfl | rfl | rfl | rfl | rfl | rfl | rfl | rfl | rfl | rfl | rfl | rfl | rfl | rfl | rfl | rfl | rfl <;> rfl
theorem one_byte (W : World) (c8 : UInt8) {j : Nat} (hj : j < [c8].length) : (W.alloc (.cells #[.int .u8 (c8.toNat : Int)] 5)).cell? ((⟨W.heap.size, 0, none⟩ : Addr).add j) = some (.int .u8 ([c8][j].toNat : Int)) := by
  match j, hj with
  | 0, _ => simp [Addr.add]
theorem setA_setA (T : List ANode) (i : Nat) (hi : i < T.length) (l l' : List (ByteArray × ByteArray)) : setA (setA T i l) i l' = setA T i l' := by
  unfold setA
  rw [nd_set hi]
  simp

set_option maxRecDepth 100000 in
set_option maxHeartbeats 2000000 in
theorem spoilt16 (w : World) : Calls Try.prog 27 #[.int .i64 16] w (MadeSp w 5 (setA exT 1 (at17 17))) := by
  have hmk : ∀ W : World, (Instr.makeSlice 50 (.int .i64 17) (.int .i64 17)).run Try.prog W = .ok (.slice (some ⟨W.heap.size, 0, none⟩) 17 17) (W.alloc (.cells (madeCells #[.string .empty, .string .empty] 34) 62)) := mk_attrs 17 (by omega)
  go_enter Try.func27, Try.ntmps27
  go_wp2_with fail
  refine (example_own _).mono ?_
  rintro e w1 ⟨g, rfl, hbg, hgl, hO1, hb1⟩
  have hB2 := below_alloc (Below.on (below_alloc (Below.refl w.heap.size w) (.cells #[.slice none 0 0] 24)) hb1) (.cells #[.slice (some ⟨g, 0, none⟩) 5 5] 24)
  have k1 := (hb1.block w.heap.size (by simp)).trans (blk_new w #[.slice none 0 0] 24)
  have k2 := blk_alloc k1 (.cells #[.slice (some ⟨g, 0, none⟩) 5 5] 24)
  have hw1 : w.heap.size < w1.heap.size := blk_lt k1
  have hbg' : w.heap.size + 1 ≤ g := by simpa using hbg
  have hO2 : OwnTree (w1.alloc (.cells #[.slice (some ⟨g, 0, none⟩) 5 5] 24)) (w.heap.size + 1) (.slice (some ⟨g, 0, none⟩) 5 5) 5 exT := by
    have := hO1.below (below_alloc (Below.refl _ _) (.cells #[.slice (some ⟨g, 0, none⟩) 5 5] 24))
    simpa using this
  have n1 : ¬ g = w1.heap.size := by omega
  have n2 : ¬ w1.heap.size = g := by omega
  have n3 : ¬ g = w.heap.size := by omega
  have n4 : ¬ w.heap.size = g := by omega
  have n5 : ¬ w.heap.size = w1.heap.size := by omega
  have n6 : ¬ w1.heap.size = w.heap.size := by omega
  have p1 := bx_cell k1
  have p2 : w1.frozen? ⟨w.heap.size, 0, none⟩ = false := blk_frozen k1 0
  have hB1 := Below.on (below_alloc (Below.refl w.heap.size w) (.cells #[.slice none 0 0] 24)) hb1
  have hO1' : Hid (OwnTree w1 (w.heap.size + 1) (.slice (some ⟨g, 0, none⟩) 5 5) 5 exT) := by
    have := hO1
    show OwnTree _ _ _ _ _
    simpa using this
  have hO2' := hide hO2
  have kb : w.heap.size + 1 ≤ (w.alloc (.cells #[.slice none 0 0] 24)).heap.size := by simp
  clear hbg hb1 k1 hO1 hO2
  obtain ⟨A1, ac1, C1, cc1, hN1⟩ := hO1'.out.at (i := 1) (by omega) rfl
  have q0 : w1.cell? ⟨g, 5, none⟩ = _ := hN1.c1
  have f0 := hN1.fz 5
  clear hN1
  go_wp2_with fail
  go_region
  go_wp2
  go_loopw [4] (fun i wr => ∃ k : Nat, k ≤ 17 ∧ i = .int .i64 k ∧ Below w.heap.size w wr ∧ wr.heap[w1.heap.size]? = some (.cells #[.slice (some ⟨g, 0, none⟩) 5 5] 24 (0, 0)) ∧ wr.heap[w.heap.size]? = some (.cells #[.slice none 0 0] 24 (0, 0)) ∧ OwnTree wr (w.heap.size + 1) (.slice (some ⟨g, 0, none⟩) 5 5) 5 (setA exT 1 (at17 k))) (fun i _ => 17 - (intOf i).toNat)
  case atStart =>
    have hz := (hO2'.out.newA (i := 1) (by omega) rfl (by simp; omega) (at17 0) (m := 17) (at17_len 0) (by omega)).drew'
    rw [at17_zero] at hz
    simp (disch := (first | omega | (simp; omega))) only [World.setCell_alloc_past] at hz
    simp only [size_one] at hz
    refine ⟨0, by omega, rfl, (below_alloc (below_alloc (hB1.setCell (p := ⟨g, 5, none⟩) (by show w.heap.size ≤ g; omega) _) _) _).drew, blk_alloc (blk_at _ _ _ _ (by simp)) _, ?_, hz⟩
    have k2' := blk_alloc (blk_far k2 (p := ⟨g, 5, none⟩) (fun e => n4 e) (.slice (some ⟨w1.heap.size + 1, 0, none⟩) 17 17)) (.cells (madeCells #[.string .empty, .string .empty] 34) 62)
    rw [World.setCell_alloc_past _ _ _ _ hgl] at k2'
    exact k2'
  case round =>
    obtain ⟨k, hk, rfl, hb, hx1, hx2, hO⟩ := hrel
    have hnd : nd (setA exT 1 (at17 k)) 1 = { nd exT 1 with attrs := at17 k } := by rw [setA, nd_set (by decide)]; rfl
    have hxb := bx_cell hx1
    have hxf : wr.frozen? ⟨w1.heap.size, 0, none⟩ = false := blk_frozen hx1 0
    have hyb := bx_cell hx2
    have hyf : wr.frozen? ⟨w.heap.size, 0, none⟩ = false := blk_frozen hx2 0
    clear hmk hO1' hO2' hB2 k2 p1 p2 q0 f0
    by_cases hlt : k < 17
    · obtain ⟨A, ac, C, cc, hN⟩ := hO.at (i := 1) (by omega) (setA_len _ _ _)
      have hr := hN.rowA
      have c1 := hN.c1
      rw [hnd] at hr c1
      simp only [at17_len] at hr c1
      obtain ⟨ga, cap, cs, hv, h1, h2, h3, h4⟩ := own_block hr (by omega)
      injection hv with e1 e2 e3
      subst e1 e3
      have hga : ga < wr.heap.size := blk_lt h4
      have c1' : wr.cell? ⟨g, 5, none⟩ = some (.slice (some ⟨ga, 0, none⟩) 17 ac) := c1
      have hgg : ¬ ga = g := fun e => hN.isA (by rw [e]; rfl)
      obtain ⟨old, hold⟩ : ∃ u, wr.cell? ⟨ga, k * 2, none⟩ = some u := by
        rw [hr.cellAt (k * 2) (by omega)]
        exact ⟨_, List.getElem?_eq_getElem (by rw [atts_len, at17_len]; omega)⟩
      have hfr : wr.frozen? ⟨ga, k * 2, none⟩ = false := blk_frozen h4 _
      have h8 : ((97 + UInt8.ofNat k).toNat : Int) = 97 + (k : Int) := by
        have : (97 + UInt8.ofNat k).toNat = 97 + k := by simp [UInt8.toNat_add]; omega
        omega
      have hone : (convert 72 9 (.slice (some ⟨wr.heap.size, 0, none⟩) 1 1)).run Try.prog (wr.alloc (.cells #[.int .u8 (97 + (k : Int))] 5)).drew = .ok (.string ⟨#[97 + UInt8.ofNat k]⟩) (wr.alloc (.cells #[.int .u8 (97 + (k : Int))] 5)).drew := by
        rw [← h8]
        exact run_convert_bytes_back _ 72 9 5 ⟨wr.heap.size, 0, none⟩ 1 [97 + UInt8.ofNat k] Try.underlying72 Try.underlying5 Try.underlying9 (fun j hj => one_byte wr _ hj)
      have hrow' := own_setCell hr (o := k * 2) (by omega) (.string (bs [97, 97 + UInt8.ofNat k]))
      rw [at17_set hlt] at hrow'
      have hO' := hide (hN.inA (wr.setCell ⟨ga, k * 2, none⟩ (.string (bs [97, 97 + UInt8.ofNat k]))) (at17 (k + 1)) (by rw [hnd, at17_len, at17_len]) (fun q hq hne => Below.heap_setCell _ _ _ _ (fun e => hne (congrArg some e.symm))) (by rw [at17_len]; exact hrow'))
      have hn := hide hnd
      have lx : w1.heap.size < wr.heap.size := blk_lt hx1
      have ly : w.heap.size < wr.heap.size := blk_lt hx2
      have lg : g < wr.heap.size := hN.lt
      have hx : ¬ w.heap.size = ga ∧ ¬ w1.heap.size = ga := ⟨by omega, fun e => by rw [← e, hx1] at h4; injection h4 with h4; injection h4 with _ e4; exact absurd e4 (by decide)⟩
      have v1 : IntKind.i64.wrap (97 + (k : Int)) = 97 + (k : Int) := by rw [IntKind.wrap_i64]; omega
      have v2 : IntKind.u8.wrap (97 + (k : Int)) = 97 + (k : Int) := by rw [IntKind.wrap_u8]; omega
      clear hN hr c1 hO h4 hrow' hnd
      go_wp2_with fail
      go_region
      go_wp2
      go_roundw
      case rel =>
        rw [show ((⟨#[97]⟩ : ByteArray) ++ ⟨#[97 + UInt8.ofNat k]⟩) = bs [97, 97 + UInt8.ofNat k] by apply Go.WideShapes.bytes_inj; simp [bs]]
        have hz := hO'.out
        rw [setA_setA _ _ (by decide)] at hz
        exact ⟨k + 1, by omega, by go_num, (below_alloc (hb.setCell (by show w.heap.size ≤ ga; omega) _) _).drew, blk_alloc (blk_far hx1 (p := ⟨ga, k * 2, none⟩) (fun e => hx.2 e) _) _, blk_alloc (blk_far hx2 (p := ⟨ga, k * 2, none⟩) (fun e => hx.1 e) _) _, (hz.below (below_alloc (Below.refl _ _) _)).drew'⟩
      case measure => simp [intOf]; omega
    · obtain rfl : 17 = k := by omega
      go_wp2
      refine bodyPost_ret (v := .agg #[.slice (some ⟨g, 0, none⟩) 5 5]) (by simp only [results, Try.results27]; go_simp) rfl ⟨_, _, rfl, ?_, ?_⟩
      · exact hO.set (by simp) _
      · exact hb.setCell (by simp) _
end Go.Proofs.Ytfidpmjjddkffaa
