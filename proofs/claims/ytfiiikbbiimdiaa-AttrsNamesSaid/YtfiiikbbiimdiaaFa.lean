/- Walks: folding, by the program and by the reference. Condition: the text has at most 1000 bytes. -/
import Derived.Test.YtfiiikbbiimdiaaWg
import Derived.WideShapes
namespace Go.Proofs.Ytfiiikbbiimdiaa
open Go.RowKit

def fold8 (c : UInt8) : UInt8 := if 65 ≤ c ∧ c ≤ 90 then c + 32 else c
def foldS (s : ByteArray) : ByteArray := ⟨(s.data.toList.map fold8).toArray⟩

theorem one_byte (W : World) (c8 : UInt8) {j : Nat} (hj : j < [c8].length) : (W.alloc (.cells #[.int .u8 (c8.toNat : Int)] 5)).cell? ((⟨W.heap.size, 0, none⟩ : Addr).add j) = some (.int .u8 ([c8][j].toNat : Int)) := by
  match j, hj with
  | 0, _ => simp [Addr.add]
theorem fold8_big {c : UInt8} (h1 : 65 ≤ c.toNat) (h2 : c.toNat ≤ 90) : ((fold8 c).toNat : Int) = c.toNat + 32 := by
  unfold fold8
  rw [if_pos ⟨UInt8.le_iff_toNat_le.2 (by simpa using h1), UInt8.le_iff_toNat_le.2 (by simpa using h2)⟩, UInt8.toNat_add]
  simp
  omega
theorem fold8_small {c : UInt8} (h : c.toNat < 65 ∨ 90 < c.toNat) : fold8 c = c := by
  unfold fold8
  rw [if_neg]
  rintro ⟨h1, h2⟩
  have h1 := UInt8.le_iff_toNat_le.1 h1
  have h2 := UInt8.le_iff_toNat_le.1 h2
  simp at h1 h2
  omega
theorem fold_take (s : ByteArray) (k : Nat) (h : k < s.size) : (s.data.toList.take (k + 1)).map fold8 = (s.data.toList.take k).map fold8 ++ [fold8 s[k]] := by
  rw [List.take_succ_eq_append_getElem (by simpa using h), List.map_append]; rfl
theorem str_snoc {l : List UInt8} {k : Nat} {c8 : UInt8} {m : List UInt8} (h : m = (l.take k).map fold8 ++ [c8]) : Value.string ({ data := (List.take k (List.map fold8 l)).toArray } ++ { data := #[c8] }) = Value.string ⟨m.toArray⟩ := by
  subst h
  congr 1
  apply Go.WideShapes.bytes_inj
  simp
set_option maxRecDepth 100000 in
theorem rfold_ok (s : ByteArray) (w : World) (hs : s.size ≤ 1000) : Calls Try.prog 23 #[.string s] w fun e w' => e = .returned (.string (foldS s)) ∧ Below w.heap.size w w' := by
  go_enter Try.func23, Try.ntmps23
  go_wp2
  go_loopw [3, 4] (fun v i wr => ∃ k : Nat, k ≤ s.size ∧ i = .int .i64 k ∧ v = .string ⟨((s.data.toList.take k).map fold8).toArray⟩ ∧ Below w.heap.size w wr) (fun _ i _ => s.size - (intOf i).toNat)
  case atStart => exact ⟨0, Nat.zero_le _, rfl, rfl, Below.refl _ _⟩
  case round =>
    obtain ⟨k, hk, rfl, rfl, hb⟩ := hrel
    by_cases hlt : k < s.size
    · have hone : ∀ (x : Int) (c8 : UInt8), x = (c8.toNat : Int) → (convert 81 9 (.slice (some ⟨wr.heap.size, 0, none⟩) 1 1)).run Try.prog (wr.alloc (.cells #[.int .u8 x] 5)) = .ok (.string ⟨#[c8]⟩) (wr.alloc (.cells #[.int .u8 x] 5)) := fun x c8 hx => by
        subst hx
        exact run_convert_bytes_back (wr.alloc (.cells #[.int .u8 (c8.toNat : Int)] 5)) 81 9 5 ⟨wr.heap.size, 0, none⟩ 1 [c8] Try.underlying81 Try.underlying5 Try.underlying9 (fun j hj => one_byte wr c8 hj)
      have hft := hide (fold_take s k hlt)
      by_cases h1 : 65 ≤ ((s[k]'hlt).toNat : Int)
      · by_cases h2 : ((s[k]'hlt).toNat : Int) ≤ 90
        · have hf := hone (((s[k]'hlt).toNat : Int) - 65 + 97) (fold8 (s[k]'hlt)) (by rw [fold8_big (by omega) (by omega)]; omega)
          clear hone
          go_wp2
          go_roundw
          case rel => exact ⟨k + 1, by omega, by go_num, str_snoc hft.out, below_alloc hb _⟩
          case measure => simp [intOf]; omega
        · have hf := hone ((s[k]'hlt).toNat : Int) (fold8 (s[k]'hlt)) (by rw [fold8_small (by omega)])
          clear hone
          go_wp2
          go_roundw
          case rel => exact ⟨k + 1, by omega, by go_num, str_snoc hft.out, below_alloc hb _⟩
          case measure => simp [intOf]; omega
      · have hf := hone ((s[k]'hlt).toNat : Int) (fold8 (s[k]'hlt)) (by rw [fold8_small (by omega)])
        clear hone
        go_wp2
        go_roundw
        case rel => exact ⟨k + 1, by omega, by go_num, str_snoc hft.out, below_alloc hb _⟩
        case measure => simp [intOf]; omega
    · obtain rfl : k = s.size := by omega
      go_wp2
      go_ret
      exact ⟨by unfold foldS; simp; rw [List.take_of_length_le (by simp)], hb⟩
/-- The bytes of a text in a block of their own, the first k of them folded. -/
def Half (wr : World) (g : Nat) (s : ByteArray) (k : Nat) : Prop :=
  ∃ (cs : Array Value) (N : Nat), wr.heap[g]? = some (.cells cs 5 (N, N + 1)) ∧ s.size ≤ N ∧ cs.size = N ∧ ∀ j (hj : j < s.size), cs[j]? = some (.int .u8 ((if j < k then (fold8 (s[j]'hj)).toNat else (s[j]'hj).toNat : Nat) : Int))
theorem Half.cell {wr : World} {g : Nat} {s : ByteArray} {k : Nat} (h : Half wr g s k) {j : Nat} (hj : j < s.size) (hk : k ≤ j) : wr.cell? ⟨g, j, none⟩ = some (.int .u8 ((s[j]'hj).toNat : Int)) := by
  obtain ⟨cs, N, h1, h2, h3, h4⟩ := h
  have := h4 j hj
  rw [if_neg (by omega)] at this
  rw [cell_of_row wr g j cs 5 (N, N + 1) h1]; exact this
theorem Half.free {wr : World} {g : Nat} {s : ByteArray} {k : Nat} (h : Half wr g s k) {j : Nat} (hj : j < s.size) : wr.frozen? ⟨g, j, none⟩ = false := by
  obtain ⟨cs, N, h1, h2, h3, h4⟩ := h
  simp [World.frozen?, h1]; omega
theorem Half.same {wr : World} {g : Nat} {s : ByteArray} {k : Nat} (h : Half wr g s k) (hk : k < s.size) (he : fold8 (s[k]'hk) = s[k]'hk) : Half wr g s (k + 1) := by
  obtain ⟨cs, N, h1, h2, h3, h4⟩ := h
  refine ⟨cs, N, h1, h2, h3, fun j hj => ?_⟩
  rw [h4 j hj]
  by_cases hjk : j = k
  · subst hjk; rw [if_neg (by omega), if_pos (by omega), he]
  · by_cases h5 : j < k
    · rw [if_pos h5, if_pos (by omega)]
    · rw [if_neg h5, if_neg (by omega)]
theorem Half.store {wr : World} {g : Nat} {s : ByteArray} {k : Nat} (h : Half wr g s k) (hk : k < s.size) {x : Int} (hx : x = ((fold8 (s[k]'hk)).toNat : Int)) : Half (wr.setCell ⟨g, k, none⟩ (.int .u8 x)) g s (k + 1) := by
  obtain ⟨cs, N, h1, h2, h3, h4⟩ := h
  subst hx
  refine ⟨cs.setIfInBounds k (.int .u8 ((fold8 (s[k]'hk)).toNat : Int)), N, ?_, h2, by simpa using h3, fun j hj => ?_⟩
  · simp [World.setCell, Array.getElem?_modify, h1]
  · by_cases hjk : j = k
    · subst hjk
      rw [Array.getElem?_setIfInBounds_self_of_lt (by omega), if_pos (by omega)]
    · rw [Array.getElem?_setIfInBounds_ne (by omega), h4 j hj]
      by_cases h5 : j < k
      · rw [if_pos h5, if_pos (by omega)]
      · rw [if_neg h5, if_neg (by omega)]

set_option maxRecDepth 100000 in
set_option maxHeartbeats 1000000 in
theorem fold_ok (s : ByteArray) (w : World) (hs : s.size ≤ 1000) : Calls Try.prog 22 #[.string s] w fun e w' => e = .returned (.string (foldS s)) ∧ Below w.heap.size w w' := by
  have hcv := run_bytes_of_string (P := Try.prog) w 9 81 5 s Try.underlying9 Try.underlying81 Try.underlying5
  have hge := grownCap_ge w s.size 0 5
  have hcm := grownCap_le_maxLen w s.size 0 5 (by unfold maxLen; omega)
  generalize grownCap w s.size 0 5 = cap at hcv hge hcm
  have hbs : (bytesRow s cap).size = cap := by
    have h1 : s.data.size = s.size := rfl
    simp [bytesRow, h1]; omega
  rw [hbs] at hcv
  have hH0 : Half (w.drew.alloc (.cells (bytesRow s cap) 5 (cap, cap + 1))) w.heap.size s 0 := by
    refine ⟨bytesRow s cap, cap, heap_alloc_new w.drew _, hge, hbs, fun j hj => ?_⟩
    rw [if_neg (by omega)]
    exact bytesRow_at s cap j hj
  have hB0 : Below w.heap.size w (w.drew.alloc (.cells (bytesRow s cap) 5 (cap, cap + 1))) := below_alloc (Below.refl _ _).drew _
  have hcm' : cap ≤ 9223372036854775807 := by unfold maxLen at hcm; omega
  go_enter Try.func22, Try.ntmps22
  go_wp2
  clear hcv
  go_loopw [10] (fun i wr => ∃ k : Nat, k ≤ s.size ∧ i = .int .i64 k ∧ Half wr w.heap.size s k ∧ Below w.heap.size w wr) (fun i _ => s.size - (intOf i).toNat)
  case atStart => exact ⟨0, Nat.zero_le _, rfl, hH0, hB0⟩
  case round =>
    obtain ⟨k, hk, rfl, hH, hb⟩ := hrel
    have hH' := hide hH
    by_cases hlt : k < s.size
    · have gk := hH.cell hlt (Nat.le_refl _)
      have gf := hH.free hlt
      have hgl : w.heap.size < wr.heap.size := by obtain ⟨cs, N, h1, _⟩ := hH; exact lt_of_block h1
      clear hH hH0 hB0
      by_cases h1 : 65 ≤ ((s[k]'hlt).toNat : Int)
      · by_cases h2 : ((s[k]'hlt).toNat : Int) ≤ 90
        · have hx := hide (fold8_big (c := s[k]'hlt) (by omega) (by omega))
          go_wp2
          go_roundw
          case rel => exact ⟨k + 1, by omega, by go_num, hH'.out.store hlt hx.out.symm, hb.setCell (Nat.le_refl _) _⟩
          case measure => simp [intOf]; omega
        · have hx := hide (fold8_small (c := s[k]'hlt) (by omega))
          go_wp2
          go_roundw
          case rel => exact ⟨k + 1, by omega, by go_num, hH'.out.same hlt hx.out, hb⟩
          case measure => simp [intOf]; omega
      · have hx := hide (fold8_small (c := s[k]'hlt) (by omega))
        go_wp2
        go_roundw
        case rel => exact ⟨k + 1, by omega, by go_num, hH'.out.same hlt hx.out, hb⟩
        case measure => simp [intOf]; omega
    · obtain rfl : s.size = k := by omega
      have hlen : (s.data.toList.map fold8).length = s.size := by simp
      have hcv := run_convert_bytes_back (P := Try.prog) wr 81 9 5 ⟨w.heap.size, 0, none⟩ cap (s.data.toList.map fold8) Try.underlying81 Try.underlying5 Try.underlying9 (fun j hj => by
        have hj' : j < s.size := by omega
        obtain ⟨cs, N, g1, g2, g3, g4⟩ := hH
        have := g4 j hj'
        rw [if_pos hj'] at this
        rw [show (⟨w.heap.size, 0, none⟩ : Addr).add j = ⟨w.heap.size, j, none⟩ by unfold Addr.add; split <;> simp_all, cell_of_row wr w.heap.size j cs 5 (N, N + 1) g1, this]
        simp; rfl)
      rw [hlen] at hcv
      clear hH hlen hH0 hB0
      go_wp2
      go_ret
      exact ⟨rfl, hb⟩
end Go.Proofs.Ytfiiikbbiimdiaa
