/- Walks: what chapter 18's laws check of its examples. Condition: the variable of the library that strings.Contains reads holds a number. -/
import Derived.Test.YtbedomopojiehaaSr
import Derived.Deep.RegionHeld3
namespace Go.Proofs.Ytbedomopojiehaa
open Go.RowKit

def lang : ByteArray := ⟨#[108, 97, 110, 103]⟩
theorem by_ok (op : Int) (vl : ByteArray) (w : World) :
    Calls Try.prog 22 #[.int .u8 op, .string vl] w fun r w' => r = .returned (.agg #[.int .u8 3, .string lang, .int .u8 op, .string vl, .bool false, .int .i64 0, .int .i64 0, .bool false, .slice none 0 0]) ∧ Below w.heap.size w w' := by
  go_enter Try.func22, Try.ntmps22
  go_wp2
  refine bodyPost_ret (v := .agg #[.int .u8 3, .string lang, .int .u8 op, .string vl, .bool false, .int .i64 0, .int .i64 0, .bool false, .slice none 0 0]) ?_ rfl ⟨rfl, below_alloc (Below.refl _ _) _⟩
  simp [results, Try.results22, go_sem]
  rfl
theorem value_at (k : Int) (nm : ByteArray) (op : Int) (vl : ByteArray) (fo : Bool) (a b : Int) (f : Bool) (LA : Option Addr) (ln lc : Nat) (v : ByteArray) (V : Bool) (E : Int) (h0 : valV ⟨k, nm, op, vl, fo, a, b, f, LA, ln, lc⟩ v = V) (h1 : valE ⟨k, nm, op, vl, fo, a, b, f, LA, ln, lc⟩ v = E) (w : World) (hm : HasMax w) :
    Calls Try.prog 17 #[.agg #[.int .u8 k, .string nm, .int .u8 op, .string vl, .bool fo, .int .i64 a, .int .i64 b, .bool f, .slice LA ln lc], .string v] w fun r w' => r = .returned (.tuple #[.bool V, .int .i64 E]) ∧ Below w.heap.size w w' := by
  have := value_ok k nm op vl fo a b f LA ln lc v w hm
  rw [h0, h1] at this
  exact this
set_option maxRecDepth 100000 in
set_option maxHeartbeats 4000000 in
theorem alive18_ok (w : World) (hm0 : HasMax w) : Calls Try.prog 21 #[] w fun e w' => e = .returned (.bool true) ∧ Below w.heap.size w w' := by
  have hm := hide hm0
  clear hm0
  go_enter Try.func21, Try.ntmps21
  go_wp2
  have hB0 := below_alloc (below_alloc (below_alloc (Below.refl w.heap.size w) (.cells #[.int .u8 3, .int .u8 4, .int .u8 2, .int .u8 2, .int .u8 5, .int .u8 6, .int .u8 4] 5)) (.cells #[.string ⟨#[101, 110]⟩, .string ⟨#[101, 110]⟩, .string ⟨#[101, 110]⟩, .string ⟨#[98]⟩, .string ⟨#[98]⟩, .string ⟨#[98]⟩, .string ⟨#[]⟩] 9)) (.cells #[.string ⟨#[101, 110, 45, 71, 66]⟩, .string ⟨#[101, 110, 45, 71, 66]⟩, .string ⟨#[101, 110, 45, 71, 66]⟩, .string ⟨#[97, 32, 98]⟩, .string ⟨#[97, 32, 98]⟩, .string ⟨#[97, 32, 98]⟩, .string ⟨#[97]⟩] 9)
  go_loopw [4] (fun s wr => ∃ q : Nat, q ≤ 7 ∧ s = .int .i64 q ∧ Below (((w.alloc (.cells #[.int .u8 3, .int .u8 4, .int .u8 2, .int .u8 2, .int .u8 5, .int .u8 6, .int .u8 4] 5)).alloc (.cells #[.string ⟨#[101, 110]⟩, .string ⟨#[101, 110]⟩, .string ⟨#[101, 110]⟩, .string ⟨#[98]⟩, .string ⟨#[98]⟩, .string ⟨#[98]⟩, .string ⟨#[]⟩] 9)).alloc (.cells #[.string ⟨#[101, 110, 45, 71, 66]⟩, .string ⟨#[101, 110, 45, 71, 66]⟩, .string ⟨#[101, 110, 45, 71, 66]⟩, .string ⟨#[97, 32, 98]⟩, .string ⟨#[97, 32, 98]⟩, .string ⟨#[97, 32, 98]⟩, .string ⟨#[97]⟩] 9)).heap.size (((w.alloc (.cells #[.int .u8 3, .int .u8 4, .int .u8 2, .int .u8 2, .int .u8 5, .int .u8 6, .int .u8 4] 5)).alloc (.cells #[.string ⟨#[101, 110]⟩, .string ⟨#[101, 110]⟩, .string ⟨#[101, 110]⟩, .string ⟨#[98]⟩, .string ⟨#[98]⟩, .string ⟨#[98]⟩, .string ⟨#[]⟩] 9)).alloc (.cells #[.string ⟨#[101, 110, 45, 71, 66]⟩, .string ⟨#[101, 110, 45, 71, 66]⟩, .string ⟨#[101, 110, 45, 71, 66]⟩, .string ⟨#[97, 32, 98]⟩, .string ⟨#[97, 32, 98]⟩, .string ⟨#[97, 32, 98]⟩, .string ⟨#[97]⟩] 9)) wr) (fun s _ => 7 - (intOf s).toNat)
  case atStart => exact ⟨0, Nat.zero_le _, rfl, Below.refl _ _⟩
  case round =>
    obtain ⟨q, hq, rfl, hb⟩ := hrel
    have hBr := Below.on hB0 hb
    have hbk := hide hb
    rcases (by omega : q = 0 ∨ q = 1 ∨ q = 2 ∨ q = 3 ∨ q = 4 ∨ q = 5 ∨ q = 6 ∨ q = 7) with rfl | rfl | rfl | rfl | rfl | rfl | rfl | rfl
    · have c1 := cell_later hb (show (((w.alloc (.cells #[.int .u8 3, .int .u8 4, .int .u8 2, .int .u8 2, .int .u8 5, .int .u8 6, .int .u8 4] 5)).alloc (.cells #[.string ⟨#[101, 110]⟩, .string ⟨#[101, 110]⟩, .string ⟨#[101, 110]⟩, .string ⟨#[98]⟩, .string ⟨#[98]⟩, .string ⟨#[98]⟩, .string ⟨#[]⟩] 9)).alloc (.cells #[.string ⟨#[101, 110, 45, 71, 66]⟩, .string ⟨#[101, 110, 45, 71, 66]⟩, .string ⟨#[101, 110, 45, 71, 66]⟩, .string ⟨#[97, 32, 98]⟩, .string ⟨#[97, 32, 98]⟩, .string ⟨#[97, 32, 98]⟩, .string ⟨#[97]⟩] 9)).cell? ⟨w.heap.size, 0, none⟩ = some (.int .u8 3) by go_simp)
      have c2 := cell_later hb (show (((w.alloc (.cells #[.int .u8 3, .int .u8 4, .int .u8 2, .int .u8 2, .int .u8 5, .int .u8 6, .int .u8 4] 5)).alloc (.cells #[.string ⟨#[101, 110]⟩, .string ⟨#[101, 110]⟩, .string ⟨#[101, 110]⟩, .string ⟨#[98]⟩, .string ⟨#[98]⟩, .string ⟨#[98]⟩, .string ⟨#[]⟩] 9)).alloc (.cells #[.string ⟨#[101, 110, 45, 71, 66]⟩, .string ⟨#[101, 110, 45, 71, 66]⟩, .string ⟨#[101, 110, 45, 71, 66]⟩, .string ⟨#[97, 32, 98]⟩, .string ⟨#[97, 32, 98]⟩, .string ⟨#[97, 32, 98]⟩, .string ⟨#[97]⟩] 9)).cell? ⟨w.heap.size + 1, 0, none⟩ = some (.string ⟨#[101, 110]⟩) by go_simp)
      have c3 := cell_later hb (show (((w.alloc (.cells #[.int .u8 3, .int .u8 4, .int .u8 2, .int .u8 2, .int .u8 5, .int .u8 6, .int .u8 4] 5)).alloc (.cells #[.string ⟨#[101, 110]⟩, .string ⟨#[101, 110]⟩, .string ⟨#[101, 110]⟩, .string ⟨#[98]⟩, .string ⟨#[98]⟩, .string ⟨#[98]⟩, .string ⟨#[]⟩] 9)).alloc (.cells #[.string ⟨#[101, 110, 45, 71, 66]⟩, .string ⟨#[101, 110, 45, 71, 66]⟩, .string ⟨#[101, 110, 45, 71, 66]⟩, .string ⟨#[97, 32, 98]⟩, .string ⟨#[97, 32, 98]⟩, .string ⟨#[97, 32, 98]⟩, .string ⟨#[97]⟩] 9)).cell? ⟨w.heap.size + 1 + 1, 0, none⟩ = some (.string ⟨#[101, 110, 45, 71, 66]⟩) by go_simp)
      have hv := hide (fun (W : World) (hx : HasMax W) => value_at 3 lang 3 ⟨#[101, 110]⟩ false 0 0 false none 0 0 ⟨#[101, 110, 45, 71, 66]⟩ true 0 (by kernel_rfl) (by kernel_rfl) W hx)
      have hmr := hide (hm.out.below hBr)
      clear hb
      go_wp2
      go_region_held3 (fun X => X.cell? ⟨w.heap.size, 0, none⟩ = some (.int .u8 3) ∧ X.cell? ⟨w.heap.size + 1, 0, none⟩ = some (.string ⟨#[101, 110]⟩) ∧ X.cell? ⟨w.heap.size + 1 + 1, 0, none⟩ = some (.string ⟨#[101, 110, 45, 71, 66]⟩)) (first | exact ⟨c1, c2, c3⟩ | exact ⟨d1, d2, d3⟩ | exact ⟨e1, e2, e3⟩) (first
        | (go_at_call 22; (with_reducible refine (by_ok _ _ _).mono ?_); rintro e u1 ⟨rfl, hu1⟩; have d1 := cell_later hu1 c1; have d2 := cell_later hu1 c2; have d3 := cell_later hu1 c3; have hz1 := Below.on (Below.refl wr.heap.size wr).drew hu1)
        | (go_at_call 17; (with_reducible refine (hv.out _ (hmr.out.below hz1)).mono ?_); rintro e u2 ⟨rfl, hu2⟩; have e1 := cell_later hu2 d1; have e2 := cell_later hu2 d2; have e3 := cell_later hu2 d3; have hz2 := Below.on hz1 hu2))
      go_wp2
      go_roundw
      case rel => exact ⟨0 + 1, by omega, by go_num, Below.on hbk.out hz2⟩
      case measure => simp [intOf]
    · have c1 := cell_later hb (show (((w.alloc (.cells #[.int .u8 3, .int .u8 4, .int .u8 2, .int .u8 2, .int .u8 5, .int .u8 6, .int .u8 4] 5)).alloc (.cells #[.string ⟨#[101, 110]⟩, .string ⟨#[101, 110]⟩, .string ⟨#[101, 110]⟩, .string ⟨#[98]⟩, .string ⟨#[98]⟩, .string ⟨#[98]⟩, .string ⟨#[]⟩] 9)).alloc (.cells #[.string ⟨#[101, 110, 45, 71, 66]⟩, .string ⟨#[101, 110, 45, 71, 66]⟩, .string ⟨#[101, 110, 45, 71, 66]⟩, .string ⟨#[97, 32, 98]⟩, .string ⟨#[97, 32, 98]⟩, .string ⟨#[97, 32, 98]⟩, .string ⟨#[97]⟩] 9)).cell? ⟨w.heap.size, 1, none⟩ = some (.int .u8 4) by go_simp)
      have c2 := cell_later hb (show (((w.alloc (.cells #[.int .u8 3, .int .u8 4, .int .u8 2, .int .u8 2, .int .u8 5, .int .u8 6, .int .u8 4] 5)).alloc (.cells #[.string ⟨#[101, 110]⟩, .string ⟨#[101, 110]⟩, .string ⟨#[101, 110]⟩, .string ⟨#[98]⟩, .string ⟨#[98]⟩, .string ⟨#[98]⟩, .string ⟨#[]⟩] 9)).alloc (.cells #[.string ⟨#[101, 110, 45, 71, 66]⟩, .string ⟨#[101, 110, 45, 71, 66]⟩, .string ⟨#[101, 110, 45, 71, 66]⟩, .string ⟨#[97, 32, 98]⟩, .string ⟨#[97, 32, 98]⟩, .string ⟨#[97, 32, 98]⟩, .string ⟨#[97]⟩] 9)).cell? ⟨w.heap.size + 1, 1, none⟩ = some (.string ⟨#[101, 110]⟩) by go_simp)
      have c3 := cell_later hb (show (((w.alloc (.cells #[.int .u8 3, .int .u8 4, .int .u8 2, .int .u8 2, .int .u8 5, .int .u8 6, .int .u8 4] 5)).alloc (.cells #[.string ⟨#[101, 110]⟩, .string ⟨#[101, 110]⟩, .string ⟨#[101, 110]⟩, .string ⟨#[98]⟩, .string ⟨#[98]⟩, .string ⟨#[98]⟩, .string ⟨#[]⟩] 9)).alloc (.cells #[.string ⟨#[101, 110, 45, 71, 66]⟩, .string ⟨#[101, 110, 45, 71, 66]⟩, .string ⟨#[101, 110, 45, 71, 66]⟩, .string ⟨#[97, 32, 98]⟩, .string ⟨#[97, 32, 98]⟩, .string ⟨#[97, 32, 98]⟩, .string ⟨#[97]⟩] 9)).cell? ⟨w.heap.size + 1 + 1, 1, none⟩ = some (.string ⟨#[101, 110, 45, 71, 66]⟩) by go_simp)
      have hv := hide (fun (W : World) (hx : HasMax W) => value_at 3 lang 4 ⟨#[101, 110]⟩ false 0 0 false none 0 0 ⟨#[101, 110, 45, 71, 66]⟩ true 0 (by kernel_rfl) (by kernel_rfl) W hx)
      have hmr := hide (hm.out.below hBr)
      clear hb
      go_wp2
      go_region_held3 (fun X => X.cell? ⟨w.heap.size, 1, none⟩ = some (.int .u8 4) ∧ X.cell? ⟨w.heap.size + 1, 1, none⟩ = some (.string ⟨#[101, 110]⟩) ∧ X.cell? ⟨w.heap.size + 1 + 1, 1, none⟩ = some (.string ⟨#[101, 110, 45, 71, 66]⟩)) (first | exact ⟨c1, c2, c3⟩ | exact ⟨d1, d2, d3⟩ | exact ⟨e1, e2, e3⟩) (first
        | (go_at_call 22; (with_reducible refine (by_ok _ _ _).mono ?_); rintro e u1 ⟨rfl, hu1⟩; have d1 := cell_later hu1 c1; have d2 := cell_later hu1 c2; have d3 := cell_later hu1 c3; have hz1 := Below.on (Below.refl wr.heap.size wr).drew hu1)
        | (go_at_call 17; (with_reducible refine (hv.out _ (hmr.out.below hz1)).mono ?_); rintro e u2 ⟨rfl, hu2⟩; have e1 := cell_later hu2 d1; have e2 := cell_later hu2 d2; have e3 := cell_later hu2 d3; have hz2 := Below.on hz1 hu2))
      go_wp2
      go_roundw
      case rel => exact ⟨1 + 1, by omega, by go_num, Below.on hbk.out hz2⟩
      case measure => simp [intOf]
    · have c1 := cell_later hb (show (((w.alloc (.cells #[.int .u8 3, .int .u8 4, .int .u8 2, .int .u8 2, .int .u8 5, .int .u8 6, .int .u8 4] 5)).alloc (.cells #[.string ⟨#[101, 110]⟩, .string ⟨#[101, 110]⟩, .string ⟨#[101, 110]⟩, .string ⟨#[98]⟩, .string ⟨#[98]⟩, .string ⟨#[98]⟩, .string ⟨#[]⟩] 9)).alloc (.cells #[.string ⟨#[101, 110, 45, 71, 66]⟩, .string ⟨#[101, 110, 45, 71, 66]⟩, .string ⟨#[101, 110, 45, 71, 66]⟩, .string ⟨#[97, 32, 98]⟩, .string ⟨#[97, 32, 98]⟩, .string ⟨#[97, 32, 98]⟩, .string ⟨#[97]⟩] 9)).cell? ⟨w.heap.size, 2, none⟩ = some (.int .u8 2) by go_simp)
      have c2 := cell_later hb (show (((w.alloc (.cells #[.int .u8 3, .int .u8 4, .int .u8 2, .int .u8 2, .int .u8 5, .int .u8 6, .int .u8 4] 5)).alloc (.cells #[.string ⟨#[101, 110]⟩, .string ⟨#[101, 110]⟩, .string ⟨#[101, 110]⟩, .string ⟨#[98]⟩, .string ⟨#[98]⟩, .string ⟨#[98]⟩, .string ⟨#[]⟩] 9)).alloc (.cells #[.string ⟨#[101, 110, 45, 71, 66]⟩, .string ⟨#[101, 110, 45, 71, 66]⟩, .string ⟨#[101, 110, 45, 71, 66]⟩, .string ⟨#[97, 32, 98]⟩, .string ⟨#[97, 32, 98]⟩, .string ⟨#[97, 32, 98]⟩, .string ⟨#[97]⟩] 9)).cell? ⟨w.heap.size + 1, 2, none⟩ = some (.string ⟨#[101, 110]⟩) by go_simp)
      have c3 := cell_later hb (show (((w.alloc (.cells #[.int .u8 3, .int .u8 4, .int .u8 2, .int .u8 2, .int .u8 5, .int .u8 6, .int .u8 4] 5)).alloc (.cells #[.string ⟨#[101, 110]⟩, .string ⟨#[101, 110]⟩, .string ⟨#[101, 110]⟩, .string ⟨#[98]⟩, .string ⟨#[98]⟩, .string ⟨#[98]⟩, .string ⟨#[]⟩] 9)).alloc (.cells #[.string ⟨#[101, 110, 45, 71, 66]⟩, .string ⟨#[101, 110, 45, 71, 66]⟩, .string ⟨#[101, 110, 45, 71, 66]⟩, .string ⟨#[97, 32, 98]⟩, .string ⟨#[97, 32, 98]⟩, .string ⟨#[97, 32, 98]⟩, .string ⟨#[97]⟩] 9)).cell? ⟨w.heap.size + 1 + 1, 2, none⟩ = some (.string ⟨#[101, 110, 45, 71, 66]⟩) by go_simp)
      have hv := hide (fun (W : World) (hx : HasMax W) => value_at 3 lang 2 ⟨#[101, 110]⟩ false 0 0 false none 0 0 ⟨#[101, 110, 45, 71, 66]⟩ false 0 (by kernel_rfl) (by kernel_rfl) W hx)
      have hmr := hide (hm.out.below hBr)
      clear hb
      go_wp2
      go_region_held3 (fun X => X.cell? ⟨w.heap.size, 2, none⟩ = some (.int .u8 2) ∧ X.cell? ⟨w.heap.size + 1, 2, none⟩ = some (.string ⟨#[101, 110]⟩) ∧ X.cell? ⟨w.heap.size + 1 + 1, 2, none⟩ = some (.string ⟨#[101, 110, 45, 71, 66]⟩)) (first | exact ⟨c1, c2, c3⟩ | exact ⟨d1, d2, d3⟩ | exact ⟨e1, e2, e3⟩) (first
        | (go_at_call 22; (with_reducible refine (by_ok _ _ _).mono ?_); rintro e u1 ⟨rfl, hu1⟩; have d1 := cell_later hu1 c1; have d2 := cell_later hu1 c2; have d3 := cell_later hu1 c3; have hz1 := Below.on (Below.refl wr.heap.size wr).drew hu1)
        | (go_at_call 17; (with_reducible refine (hv.out _ (hmr.out.below hz1)).mono ?_); rintro e u2 ⟨rfl, hu2⟩; have e1 := cell_later hu2 d1; have e2 := cell_later hu2 d2; have e3 := cell_later hu2 d3; have hz2 := Below.on hz1 hu2))
      go_wp2
      go_roundw
      case rel => exact ⟨2 + 1, by omega, by go_num, Below.on hbk.out hz2⟩
      case measure => simp [intOf]
    · have c1 := cell_later hb (show (((w.alloc (.cells #[.int .u8 3, .int .u8 4, .int .u8 2, .int .u8 2, .int .u8 5, .int .u8 6, .int .u8 4] 5)).alloc (.cells #[.string ⟨#[101, 110]⟩, .string ⟨#[101, 110]⟩, .string ⟨#[101, 110]⟩, .string ⟨#[98]⟩, .string ⟨#[98]⟩, .string ⟨#[98]⟩, .string ⟨#[]⟩] 9)).alloc (.cells #[.string ⟨#[101, 110, 45, 71, 66]⟩, .string ⟨#[101, 110, 45, 71, 66]⟩, .string ⟨#[101, 110, 45, 71, 66]⟩, .string ⟨#[97, 32, 98]⟩, .string ⟨#[97, 32, 98]⟩, .string ⟨#[97, 32, 98]⟩, .string ⟨#[97]⟩] 9)).cell? ⟨w.heap.size, 3, none⟩ = some (.int .u8 2) by go_simp)
      have c2 := cell_later hb (show (((w.alloc (.cells #[.int .u8 3, .int .u8 4, .int .u8 2, .int .u8 2, .int .u8 5, .int .u8 6, .int .u8 4] 5)).alloc (.cells #[.string ⟨#[101, 110]⟩, .string ⟨#[101, 110]⟩, .string ⟨#[101, 110]⟩, .string ⟨#[98]⟩, .string ⟨#[98]⟩, .string ⟨#[98]⟩, .string ⟨#[]⟩] 9)).alloc (.cells #[.string ⟨#[101, 110, 45, 71, 66]⟩, .string ⟨#[101, 110, 45, 71, 66]⟩, .string ⟨#[101, 110, 45, 71, 66]⟩, .string ⟨#[97, 32, 98]⟩, .string ⟨#[97, 32, 98]⟩, .string ⟨#[97, 32, 98]⟩, .string ⟨#[97]⟩] 9)).cell? ⟨w.heap.size + 1, 3, none⟩ = some (.string ⟨#[98]⟩) by go_simp)
      have c3 := cell_later hb (show (((w.alloc (.cells #[.int .u8 3, .int .u8 4, .int .u8 2, .int .u8 2, .int .u8 5, .int .u8 6, .int .u8 4] 5)).alloc (.cells #[.string ⟨#[101, 110]⟩, .string ⟨#[101, 110]⟩, .string ⟨#[101, 110]⟩, .string ⟨#[98]⟩, .string ⟨#[98]⟩, .string ⟨#[98]⟩, .string ⟨#[]⟩] 9)).alloc (.cells #[.string ⟨#[101, 110, 45, 71, 66]⟩, .string ⟨#[101, 110, 45, 71, 66]⟩, .string ⟨#[101, 110, 45, 71, 66]⟩, .string ⟨#[97, 32, 98]⟩, .string ⟨#[97, 32, 98]⟩, .string ⟨#[97, 32, 98]⟩, .string ⟨#[97]⟩] 9)).cell? ⟨w.heap.size + 1 + 1, 3, none⟩ = some (.string ⟨#[97, 32, 98]⟩) by go_simp)
      have hv := hide (fun (W : World) (hx : HasMax W) => value_at 3 lang 2 ⟨#[98]⟩ false 0 0 false none 0 0 ⟨#[97, 32, 98]⟩ true 0 (by kernel_rfl) (by kernel_rfl) W hx)
      have hmr := hide (hm.out.below hBr)
      clear hb
      go_wp2
      go_region_held3 (fun X => X.cell? ⟨w.heap.size, 3, none⟩ = some (.int .u8 2) ∧ X.cell? ⟨w.heap.size + 1, 3, none⟩ = some (.string ⟨#[98]⟩) ∧ X.cell? ⟨w.heap.size + 1 + 1, 3, none⟩ = some (.string ⟨#[97, 32, 98]⟩)) (first | exact ⟨c1, c2, c3⟩ | exact ⟨d1, d2, d3⟩ | exact ⟨e1, e2, e3⟩) (first
        | (go_at_call 22; (with_reducible refine (by_ok _ _ _).mono ?_); rintro e u1 ⟨rfl, hu1⟩; have d1 := cell_later hu1 c1; have d2 := cell_later hu1 c2; have d3 := cell_later hu1 c3; have hz1 := Below.on (Below.refl wr.heap.size wr).drew hu1)
        | (go_at_call 17; (with_reducible refine (hv.out _ (hmr.out.below hz1)).mono ?_); rintro e u2 ⟨rfl, hu2⟩; have e1 := cell_later hu2 d1; have e2 := cell_later hu2 d2; have e3 := cell_later hu2 d3; have hz2 := Below.on hz1 hu2))
      go_wp2
      go_roundw
      case rel => exact ⟨3 + 1, by omega, by go_num, Below.on hbk.out hz2⟩
      case measure => simp [intOf]
    · have c1 := cell_later hb (show (((w.alloc (.cells #[.int .u8 3, .int .u8 4, .int .u8 2, .int .u8 2, .int .u8 5, .int .u8 6, .int .u8 4] 5)).alloc (.cells #[.string ⟨#[101, 110]⟩, .string ⟨#[101, 110]⟩, .string ⟨#[101, 110]⟩, .string ⟨#[98]⟩, .string ⟨#[98]⟩, .string ⟨#[98]⟩, .string ⟨#[]⟩] 9)).alloc (.cells #[.string ⟨#[101, 110, 45, 71, 66]⟩, .string ⟨#[101, 110, 45, 71, 66]⟩, .string ⟨#[101, 110, 45, 71, 66]⟩, .string ⟨#[97, 32, 98]⟩, .string ⟨#[97, 32, 98]⟩, .string ⟨#[97, 32, 98]⟩, .string ⟨#[97]⟩] 9)).cell? ⟨w.heap.size, 4, none⟩ = some (.int .u8 5) by go_simp)
      have c2 := cell_later hb (show (((w.alloc (.cells #[.int .u8 3, .int .u8 4, .int .u8 2, .int .u8 2, .int .u8 5, .int .u8 6, .int .u8 4] 5)).alloc (.cells #[.string ⟨#[101, 110]⟩, .string ⟨#[101, 110]⟩, .string ⟨#[101, 110]⟩, .string ⟨#[98]⟩, .string ⟨#[98]⟩, .string ⟨#[98]⟩, .string ⟨#[]⟩] 9)).alloc (.cells #[.string ⟨#[101, 110, 45, 71, 66]⟩, .string ⟨#[101, 110, 45, 71, 66]⟩, .string ⟨#[101, 110, 45, 71, 66]⟩, .string ⟨#[97, 32, 98]⟩, .string ⟨#[97, 32, 98]⟩, .string ⟨#[97, 32, 98]⟩, .string ⟨#[97]⟩] 9)).cell? ⟨w.heap.size + 1, 4, none⟩ = some (.string ⟨#[98]⟩) by go_simp)
      have c3 := cell_later hb (show (((w.alloc (.cells #[.int .u8 3, .int .u8 4, .int .u8 2, .int .u8 2, .int .u8 5, .int .u8 6, .int .u8 4] 5)).alloc (.cells #[.string ⟨#[101, 110]⟩, .string ⟨#[101, 110]⟩, .string ⟨#[101, 110]⟩, .string ⟨#[98]⟩, .string ⟨#[98]⟩, .string ⟨#[98]⟩, .string ⟨#[]⟩] 9)).alloc (.cells #[.string ⟨#[101, 110, 45, 71, 66]⟩, .string ⟨#[101, 110, 45, 71, 66]⟩, .string ⟨#[101, 110, 45, 71, 66]⟩, .string ⟨#[97, 32, 98]⟩, .string ⟨#[97, 32, 98]⟩, .string ⟨#[97, 32, 98]⟩, .string ⟨#[97]⟩] 9)).cell? ⟨w.heap.size + 1 + 1, 4, none⟩ = some (.string ⟨#[97, 32, 98]⟩) by go_simp)
      have hv := hide (fun (W : World) (hx : HasMax W) => value_at 3 lang 5 ⟨#[98]⟩ false 0 0 false none 0 0 ⟨#[97, 32, 98]⟩ true 0 (by kernel_rfl) (by kernel_rfl) W hx)
      have hmr := hide (hm.out.below hBr)
      clear hb
      go_wp2
      go_region_held3 (fun X => X.cell? ⟨w.heap.size, 4, none⟩ = some (.int .u8 5) ∧ X.cell? ⟨w.heap.size + 1, 4, none⟩ = some (.string ⟨#[98]⟩) ∧ X.cell? ⟨w.heap.size + 1 + 1, 4, none⟩ = some (.string ⟨#[97, 32, 98]⟩)) (first | exact ⟨c1, c2, c3⟩ | exact ⟨d1, d2, d3⟩ | exact ⟨e1, e2, e3⟩) (first
        | (go_at_call 22; (with_reducible refine (by_ok _ _ _).mono ?_); rintro e u1 ⟨rfl, hu1⟩; have d1 := cell_later hu1 c1; have d2 := cell_later hu1 c2; have d3 := cell_later hu1 c3; have hz1 := Below.on (Below.refl wr.heap.size wr).drew hu1)
        | (go_at_call 17; (with_reducible refine (hv.out _ (hmr.out.below hz1)).mono ?_); rintro e u2 ⟨rfl, hu2⟩; have e1 := cell_later hu2 d1; have e2 := cell_later hu2 d2; have e3 := cell_later hu2 d3; have hz2 := Below.on hz1 hu2))
      go_wp2
      go_roundw
      case rel => exact ⟨4 + 1, by omega, by go_num, Below.on hbk.out hz2⟩
      case measure => simp [intOf]
    · have c1 := cell_later hb (show (((w.alloc (.cells #[.int .u8 3, .int .u8 4, .int .u8 2, .int .u8 2, .int .u8 5, .int .u8 6, .int .u8 4] 5)).alloc (.cells #[.string ⟨#[101, 110]⟩, .string ⟨#[101, 110]⟩, .string ⟨#[101, 110]⟩, .string ⟨#[98]⟩, .string ⟨#[98]⟩, .string ⟨#[98]⟩, .string ⟨#[]⟩] 9)).alloc (.cells #[.string ⟨#[101, 110, 45, 71, 66]⟩, .string ⟨#[101, 110, 45, 71, 66]⟩, .string ⟨#[101, 110, 45, 71, 66]⟩, .string ⟨#[97, 32, 98]⟩, .string ⟨#[97, 32, 98]⟩, .string ⟨#[97, 32, 98]⟩, .string ⟨#[97]⟩] 9)).cell? ⟨w.heap.size, 5, none⟩ = some (.int .u8 6) by go_simp)
      have c2 := cell_later hb (show (((w.alloc (.cells #[.int .u8 3, .int .u8 4, .int .u8 2, .int .u8 2, .int .u8 5, .int .u8 6, .int .u8 4] 5)).alloc (.cells #[.string ⟨#[101, 110]⟩, .string ⟨#[101, 110]⟩, .string ⟨#[101, 110]⟩, .string ⟨#[98]⟩, .string ⟨#[98]⟩, .string ⟨#[98]⟩, .string ⟨#[]⟩] 9)).alloc (.cells #[.string ⟨#[101, 110, 45, 71, 66]⟩, .string ⟨#[101, 110, 45, 71, 66]⟩, .string ⟨#[101, 110, 45, 71, 66]⟩, .string ⟨#[97, 32, 98]⟩, .string ⟨#[97, 32, 98]⟩, .string ⟨#[97, 32, 98]⟩, .string ⟨#[97]⟩] 9)).cell? ⟨w.heap.size + 1, 5, none⟩ = some (.string ⟨#[98]⟩) by go_simp)
      have c3 := cell_later hb (show (((w.alloc (.cells #[.int .u8 3, .int .u8 4, .int .u8 2, .int .u8 2, .int .u8 5, .int .u8 6, .int .u8 4] 5)).alloc (.cells #[.string ⟨#[101, 110]⟩, .string ⟨#[101, 110]⟩, .string ⟨#[101, 110]⟩, .string ⟨#[98]⟩, .string ⟨#[98]⟩, .string ⟨#[98]⟩, .string ⟨#[]⟩] 9)).alloc (.cells #[.string ⟨#[101, 110, 45, 71, 66]⟩, .string ⟨#[101, 110, 45, 71, 66]⟩, .string ⟨#[101, 110, 45, 71, 66]⟩, .string ⟨#[97, 32, 98]⟩, .string ⟨#[97, 32, 98]⟩, .string ⟨#[97, 32, 98]⟩, .string ⟨#[97]⟩] 9)).cell? ⟨w.heap.size + 1 + 1, 5, none⟩ = some (.string ⟨#[97, 32, 98]⟩) by go_simp)
      have hv := hide (fun (W : World) (hx : HasMax W) => value_at 3 lang 6 ⟨#[98]⟩ false 0 0 false none 0 0 ⟨#[97, 32, 98]⟩ true 0 (by kernel_rfl) (by kernel_rfl) W hx)
      have hmr := hide (hm.out.below hBr)
      clear hb
      go_wp2
      go_region_held3 (fun X => X.cell? ⟨w.heap.size, 5, none⟩ = some (.int .u8 6) ∧ X.cell? ⟨w.heap.size + 1, 5, none⟩ = some (.string ⟨#[98]⟩) ∧ X.cell? ⟨w.heap.size + 1 + 1, 5, none⟩ = some (.string ⟨#[97, 32, 98]⟩)) (first | exact ⟨c1, c2, c3⟩ | exact ⟨d1, d2, d3⟩ | exact ⟨e1, e2, e3⟩) (first
        | (go_at_call 22; (with_reducible refine (by_ok _ _ _).mono ?_); rintro e u1 ⟨rfl, hu1⟩; have d1 := cell_later hu1 c1; have d2 := cell_later hu1 c2; have d3 := cell_later hu1 c3; have hz1 := Below.on (Below.refl wr.heap.size wr).drew hu1)
        | (go_at_call 17; (with_reducible refine (hv.out _ (hmr.out.below hz1)).mono ?_); rintro e u2 ⟨rfl, hu2⟩; have e1 := cell_later hu2 d1; have e2 := cell_later hu2 d2; have e3 := cell_later hu2 d3; have hz2 := Below.on hz1 hu2))
      go_wp2
      go_roundw
      case rel => exact ⟨5 + 1, by omega, by go_num, Below.on hbk.out hz2⟩
      case measure => simp [intOf]
    · have c1 := cell_later hb (show (((w.alloc (.cells #[.int .u8 3, .int .u8 4, .int .u8 2, .int .u8 2, .int .u8 5, .int .u8 6, .int .u8 4] 5)).alloc (.cells #[.string ⟨#[101, 110]⟩, .string ⟨#[101, 110]⟩, .string ⟨#[101, 110]⟩, .string ⟨#[98]⟩, .string ⟨#[98]⟩, .string ⟨#[98]⟩, .string ⟨#[]⟩] 9)).alloc (.cells #[.string ⟨#[101, 110, 45, 71, 66]⟩, .string ⟨#[101, 110, 45, 71, 66]⟩, .string ⟨#[101, 110, 45, 71, 66]⟩, .string ⟨#[97, 32, 98]⟩, .string ⟨#[97, 32, 98]⟩, .string ⟨#[97, 32, 98]⟩, .string ⟨#[97]⟩] 9)).cell? ⟨w.heap.size, 6, none⟩ = some (.int .u8 4) by go_simp)
      have c2 := cell_later hb (show (((w.alloc (.cells #[.int .u8 3, .int .u8 4, .int .u8 2, .int .u8 2, .int .u8 5, .int .u8 6, .int .u8 4] 5)).alloc (.cells #[.string ⟨#[101, 110]⟩, .string ⟨#[101, 110]⟩, .string ⟨#[101, 110]⟩, .string ⟨#[98]⟩, .string ⟨#[98]⟩, .string ⟨#[98]⟩, .string ⟨#[]⟩] 9)).alloc (.cells #[.string ⟨#[101, 110, 45, 71, 66]⟩, .string ⟨#[101, 110, 45, 71, 66]⟩, .string ⟨#[101, 110, 45, 71, 66]⟩, .string ⟨#[97, 32, 98]⟩, .string ⟨#[97, 32, 98]⟩, .string ⟨#[97, 32, 98]⟩, .string ⟨#[97]⟩] 9)).cell? ⟨w.heap.size + 1, 6, none⟩ = some (.string ⟨#[]⟩) by go_simp)
      have c3 := cell_later hb (show (((w.alloc (.cells #[.int .u8 3, .int .u8 4, .int .u8 2, .int .u8 2, .int .u8 5, .int .u8 6, .int .u8 4] 5)).alloc (.cells #[.string ⟨#[101, 110]⟩, .string ⟨#[101, 110]⟩, .string ⟨#[101, 110]⟩, .string ⟨#[98]⟩, .string ⟨#[98]⟩, .string ⟨#[98]⟩, .string ⟨#[]⟩] 9)).alloc (.cells #[.string ⟨#[101, 110, 45, 71, 66]⟩, .string ⟨#[101, 110, 45, 71, 66]⟩, .string ⟨#[101, 110, 45, 71, 66]⟩, .string ⟨#[97, 32, 98]⟩, .string ⟨#[97, 32, 98]⟩, .string ⟨#[97, 32, 98]⟩, .string ⟨#[97]⟩] 9)).cell? ⟨w.heap.size + 1 + 1, 6, none⟩ = some (.string ⟨#[97]⟩) by go_simp)
      have hv := hide (fun (W : World) (hx : HasMax W) => value_at 3 lang 4 ⟨#[]⟩ false 0 0 false none 0 0 ⟨#[97]⟩ false 0 (by kernel_rfl) (by kernel_rfl) W hx)
      have hmr := hide (hm.out.below hBr)
      clear hb
      go_wp2
      go_region_held3 (fun X => X.cell? ⟨w.heap.size, 6, none⟩ = some (.int .u8 4) ∧ X.cell? ⟨w.heap.size + 1, 6, none⟩ = some (.string ⟨#[]⟩) ∧ X.cell? ⟨w.heap.size + 1 + 1, 6, none⟩ = some (.string ⟨#[97]⟩)) (first | exact ⟨c1, c2, c3⟩ | exact ⟨d1, d2, d3⟩ | exact ⟨e1, e2, e3⟩) (first
        | (go_at_call 22; (with_reducible refine (by_ok _ _ _).mono ?_); rintro e u1 ⟨rfl, hu1⟩; have d1 := cell_later hu1 c1; have d2 := cell_later hu1 c2; have d3 := cell_later hu1 c3; have hz1 := Below.on (Below.refl wr.heap.size wr).drew hu1)
        | (go_at_call 17; (with_reducible refine (hv.out _ (hmr.out.below hz1)).mono ?_); rintro e u2 ⟨rfl, hu2⟩; have e1 := cell_later hu2 d1; have e2 := cell_later hu2 d2; have e3 := cell_later hu2 d3; have hz2 := Below.on hz1 hu2))
      go_wp2
      go_roundw
      case rel => exact ⟨6 + 1, by omega, by go_num, Below.on hbk.out hz2⟩
      case measure => simp [intOf]
    · go_wp2
      go_ret
      exact ⟨rfl, hBr⟩
end Go.Proofs.Ytbedomopojiehaa
