/- Walks: folding, by the program and by the reference. Condition: the text has at most 1000 bytes. -/
import Derived.Test.YtljloicgjgbplaaGreatG04
import Derived.WideShapes
import Derived.Test.YtljloicgjgbplaaGreatG01
import Derived.Test.YtljloicgjgbplaaGreatG03
import Derived.Lib.Strings
import Derived.Test.YtljloicgjgbplaaGreatG07
import Derived.Lib.IndexMore
namespace Go.Proofs.YtljloicgjgbplaaGreat
open Go.RowKit

def fold8 (c : UInt8) : UInt8 := if 65 ≤ c ∧ c ≤ 90 then c + 32 else c
def foldS (s : ByteArray) : ByteArray := ⟨(s.data.toList.map fold8).toArray⟩

theorem one_byte (W : World) (c8 : UInt8) {j : Nat} (hj : j < [c8].length) : (W.alloc (.cells #[.int .u8 (c8.toNat : Int)] 5)).cell? ((⟨W.heap.size, 0, none⟩ : Addr).add j) = some (.int .u8 ([c8][j].toNat : Int)) := by
  match j, hj with
  | 0, _ => simp [Addr.add]
theorem fold8_big {c : UInt8} (h1 : 65 ≤ c.toNat) (h2 : c.toNat ≤ 90) : ((fold8 c).toNat : Int) = c.toNat + 32 := by
  unfold fold8
  rw [if_pos ⟨UInt8.le_iff_toNat_le.2 (by simpa using h1), UInt8.le_iff_toNat_le.2 (by simpa using h2)⟩, UInt8.toNat_add]
  simp
  omega
theorem fold8_small {c : UInt8} (h : c.toNat < 65 ∨ 90 < c.toNat) : fold8 c = c := by
  unfold fold8
  rw [if_neg]
  rintro ⟨h1, h2⟩
  have h1 := UInt8.le_iff_toNat_le.1 h1
  have h2 := UInt8.le_iff_toNat_le.1 h2
  simp at h1 h2
  omega
theorem fold_take (s : ByteArray) (k : Nat) (h : k < s.size) : (s.data.toList.take (k + 1)).map fold8 = (s.data.toList.take k).map fold8 ++ [fold8 s[k]] := by
  rw [List.take_succ_eq_append_getElem (by simpa using h), List.map_append]; rfl
theorem str_snoc {l : List UInt8} {k : Nat} {c8 : UInt8} {m : List UInt8} (h : m = (l.take k).map fold8 ++ [c8]) : Value.string ({ data := (List.take k (List.map fold8 l)).toArray } ++ { data := #[c8] }) = Value.string ⟨m.toArray⟩ := by
  subst h
  congr 1
  apply Go.WideShapes.bytes_inj
  simp
set_option maxRecDepth 100000 in
theorem rfold_ok (s : ByteArray) (w : World) (hs : s.size ≤ 1000) : Calls Tryz.prog 179 #[.string s] w fun e w' => e = .returned (.string (foldS s)) ∧ Below w.heap.size w w' := by
  go_enter Tryz.func179, Tryz.ntmps179
  go_wp2
  go_loopw [3, 4] (fun v i wr => ∃ k : Nat, k ≤ s.size ∧ i = .int .i64 k ∧ v = .string ⟨((s.data.toList.take k).map fold8).toArray⟩ ∧ Below w.heap.size w wr) (fun _ i _ => s.size - (intOf i).toNat)
  case atStart => exact ⟨0, Nat.zero_le _, rfl, rfl, Below.refl _ _⟩
  case round =>
    obtain ⟨k, hk, rfl, rfl, hb⟩ := hrel
    by_cases hlt : k < s.size
    · have hone : ∀ (x : Int) (c8 : UInt8), x = (c8.toNat : Int) → (convert 60 9 (.slice (some ⟨wr.heap.size, 0, none⟩) 1 1)).run Tryz.prog (wr.alloc (.cells #[.int .u8 x] 5)) = .ok (.string ⟨#[c8]⟩) (wr.alloc (.cells #[.int .u8 x] 5)) := fun x c8 hx => by
        subst hx
        exact run_convert_bytes_back (wr.alloc (.cells #[.int .u8 (c8.toNat : Int)] 5)) 60 9 5 ⟨wr.heap.size, 0, none⟩ 1 [c8] Tryz.underlying60 Tryz.underlying5 Tryz.underlying9 (fun j hj => one_byte wr c8 hj)
      have hft := hide (fold_take s k hlt)
      by_cases h1 : 65 ≤ ((s[k]'hlt).toNat : Int)
      · by_cases h2 : ((s[k]'hlt).toNat : Int) ≤ 90
        · have hf := hone (((s[k]'hlt).toNat : Int) - 65 + 97) (fold8 (s[k]'hlt)) (by rw [fold8_big (by omega) (by omega)]; omega)
          clear hone
          go_wp2
          go_roundw
          case rel => exact ⟨k + 1, by omega, by go_num, str_snoc hft.out, below_alloc hb _⟩
          case measure => simp [intOf]; omega
        · have hf := hone ((s[k]'hlt).toNat : Int) (fold8 (s[k]'hlt)) (by rw [fold8_small (by omega)])
          clear hone
          go_wp2
          go_roundw
          case rel => exact ⟨k + 1, by omega, by go_num, str_snoc hft.out, below_alloc hb _⟩
          case measure => simp [intOf]; omega
      · have hf := hone ((s[k]'hlt).toNat : Int) (fold8 (s[k]'hlt)) (by rw [fold8_small (by omega)])
        clear hone
        go_wp2
        go_roundw
        case rel => exact ⟨k + 1, by omega, by go_num, str_snoc hft.out, below_alloc hb _⟩
        case measure => simp [intOf]; omega
    · obtain rfl : k = s.size := by omega
      go_wp2
      go_ret
      exact ⟨by unfold foldS; simp; rw [List.take_of_length_le (by simp)], hb⟩
/-- The bytes of a text in a block of their own, the first k of them folded. -/
def Half (wr : World) (g : Nat) (s : ByteArray) (k : Nat) : Prop :=
  ∃ (cs : Array Value) (N : Nat), wr.heap[g]? = some (.cells cs 5 (N, N + 1)) ∧ s.size ≤ N ∧ cs.size = N ∧ ∀ j (hj : j < s.size), cs[j]? = some (.int .u8 ((if j < k then (fold8 (s[j]'hj)).toNat else (s[j]'hj).toNat : Nat) : Int))
theorem Half.cell {wr : World} {g : Nat} {s : ByteArray} {k : Nat} (h : Half wr g s k) {j : Nat} (hj : j < s.size) (hk : k ≤ j) : wr.cell? ⟨g, j, none⟩ = some (.int .u8 ((s[j]'hj).toNat : Int)) := by
  obtain ⟨cs, N, h1, h2, h3, h4⟩ := h
  have := h4 j hj
  rw [if_neg (by omega)] at this
  rw [cell_of_row wr g j cs 5 (N, N + 1) h1]; exact this
theorem Half.free {wr : World} {g : Nat} {s : ByteArray} {k : Nat} (h : Half wr g s k) {j : Nat} (hj : j < s.size) : wr.frozen? ⟨g, j, none⟩ = false := by
  obtain ⟨cs, N, h1, h2, h3, h4⟩ := h
  simp [World.frozen?, h1]; omega
theorem Half.same {wr : World} {g : Nat} {s : ByteArray} {k : Nat} (h : Half wr g s k) (hk : k < s.size) (he : fold8 (s[k]'hk) = s[k]'hk) : Half wr g s (k + 1) := by
  obtain ⟨cs, N, h1, h2, h3, h4⟩ := h
  refine ⟨cs, N, h1, h2, h3, fun j hj => ?_⟩
  rw [h4 j hj]
  by_cases hjk : j = k
  · subst hjk; rw [if_neg (by omega), if_pos (by omega), he]
  · by_cases h5 : j < k
    · rw [if_pos h5, if_pos (by omega)]
    · rw [if_neg h5, if_neg (by omega)]
theorem Half.store {wr : World} {g : Nat} {s : ByteArray} {k : Nat} (h : Half wr g s k) (hk : k < s.size) {x : Int} (hx : x = ((fold8 (s[k]'hk)).toNat : Int)) : Half (wr.setCell ⟨g, k, none⟩ (.int .u8 x)) g s (k + 1) := by
  obtain ⟨cs, N, h1, h2, h3, h4⟩ := h
  subst hx
  refine ⟨cs.setIfInBounds k (.int .u8 ((fold8 (s[k]'hk)).toNat : Int)), N, ?_, h2, by simpa using h3, fun j hj => ?_⟩
  · simp [World.setCell, Array.getElem?_modify, h1]
  · by_cases hjk : j = k
    · subst hjk
      rw [Array.getElem?_setIfInBounds_self_of_lt (by omega), if_pos (by omega)]
    · rw [Array.getElem?_setIfInBounds_ne (by omega), h4 j hj]
      by_cases h5 : j < k
      · rw [if_pos h5, if_pos (by omega)]
      · rw [if_neg h5, if_neg (by omega)]

set_option maxRecDepth 100000 in
set_option maxHeartbeats 1000000 in
theorem fold_ok (s : ByteArray) (w : World) (hs : s.size ≤ 1000) : Calls Tryz.prog 90 #[.string s] w fun e w' => e = .returned (.string (foldS s)) ∧ Below w.heap.size w w' := by
  have hcv := run_bytes_of_string (P := Tryz.prog) w 9 60 5 s Tryz.underlying9 Tryz.underlying60 Tryz.underlying5
  have hge := grownCap_ge w s.size 0 5
  have hcm := grownCap_le_maxLen w s.size 0 5 (by unfold maxLen; omega)
  generalize grownCap w s.size 0 5 = cap at hcv hge hcm
  have hbs : (bytesRow s cap).size = cap := by
    have h1 : s.data.size = s.size := rfl
    simp [bytesRow, h1]; omega
  rw [hbs] at hcv
  have hH0 : Half (w.drew.alloc (.cells (bytesRow s cap) 5 (cap, cap + 1))) w.heap.size s 0 := by
    refine ⟨bytesRow s cap, cap, heap_alloc_new w.drew _, hge, hbs, fun j hj => ?_⟩
    rw [if_neg (by omega)]
    exact bytesRow_at s cap j hj
  have hB0 : Below w.heap.size w (w.drew.alloc (.cells (bytesRow s cap) 5 (cap, cap + 1))) := below_alloc (Below.refl _ _).drew _
  have hcm' : cap ≤ 9223372036854775807 := by unfold maxLen at hcm; omega
  go_enter Tryz.func90, Tryz.ntmps90
  go_wp2
  clear hcv
  go_loopw [10] (fun i wr => ∃ k : Nat, k ≤ s.size ∧ i = .int .i64 k ∧ Half wr w.heap.size s k ∧ Below w.heap.size w wr) (fun i _ => s.size - (intOf i).toNat)
  case atStart => exact ⟨0, Nat.zero_le _, rfl, hH0, hB0⟩
  case round =>
    obtain ⟨k, hk, rfl, hH, hb⟩ := hrel
    have hH' := hide hH
    by_cases hlt : k < s.size
    · have gk := hH.cell hlt (Nat.le_refl _)
      have gf := hH.free hlt
      have hgl : w.heap.size < wr.heap.size := by obtain ⟨cs, N, h1, _⟩ := hH; exact lt_of_block h1
      clear hH hH0 hB0
      by_cases h1 : 65 ≤ ((s[k]'hlt).toNat : Int)
      · by_cases h2 : ((s[k]'hlt).toNat : Int) ≤ 90
        · have hx := hide (fold8_big (c := s[k]'hlt) (by omega) (by omega))
          go_wp2
          go_roundw
          case rel => exact ⟨k + 1, by omega, by go_num, hH'.out.store hlt hx.out.symm, hb.setCell (Nat.le_refl _) _⟩
          case measure => simp [intOf]; omega
        · have hx := hide (fold8_small (c := s[k]'hlt) (by omega))
          go_wp2
          go_roundw
          case rel => exact ⟨k + 1, by omega, by go_num, hH'.out.same hlt hx.out, hb⟩
          case measure => simp [intOf]; omega
      · have hx := hide (fold8_small (c := s[k]'hlt) (by omega))
        go_wp2
        go_roundw
        case rel => exact ⟨k + 1, by omega, by go_num, hH'.out.same hlt hx.out, hb⟩
        case measure => simp [intOf]; omega
    · obtain rfl : s.size = k := by omega
      have hlen : (s.data.toList.map fold8).length = s.size := by simp
      have hcv := run_convert_bytes_back (P := Tryz.prog) wr 60 9 5 ⟨w.heap.size, 0, none⟩ cap (s.data.toList.map fold8) Tryz.underlying60 Tryz.underlying5 Tryz.underlying9 (fun j hj => by
        have hj' : j < s.size := by omega
        obtain ⟨cs, N, g1, g2, g3, g4⟩ := hH
        have := g4 j hj'
        rw [if_pos hj'] at this
        rw [show (⟨w.heap.size, 0, none⟩ : Addr).add j = ⟨w.heap.size, j, none⟩ by unfold Addr.add; split <;> simp_all, cell_of_row wr w.heap.size j cs 5 (N, N + 1) g1, this]
        simp; rfl)
      rw [hlen] at hcv
      clear hH hlen hH0 hB0
      go_wp2
      go_ret
      exact ⟨rfl, hb⟩
end Go.Proofs.YtljloicgjgbplaaGreat
/- Words on memory: a simple selector; its error, by the program and by the reference. No condition. -/
namespace Go.Proofs.YtljloicgjgbplaaGreat
open Go.RowKit

/-- A simple selector; of its list only the length counts. -/
structure Sim where
  kind : Int
  name : ByteArray
  op : Int
  val : ByteArray
  fold : Bool
  a : Int
  b : Int
  of : Bool
  LA : Option Addr
  ln : Nat
  lc : Nat
def simC (s : Sim) : Array Value := #[.int .u8 s.kind, .string s.name, .int .u8 s.op, .string s.val, .bool s.fold, .int .i64 s.a, .int .i64 s.b, .bool s.of, .slice s.LA s.ln s.lc]
def okP (s : Sim) : Prop := s.a = 0 ∧ s.b = 0 ∧ s.of.toNat = 0 ∧ s.ln = 0 ∧
  ((s.kind = 3 ∧ 1 ≤ s.name.size ∧ s.name.size ≤ 400 ∧ s.op ≤ 6 ∧ s.val.size ≤ 400 ∧ (¬ s.op = 0 ∨ (s.val.size = 0 ∧ s.fold.toNat = 0))) ∨
   (¬ s.kind = 3 ∧ s.op = 0 ∧ s.val.size = 0 ∧ s.fold.toNat = 0 ∧ (((s.kind = 1 ∨ s.kind = 2) ∧ 1 ≤ s.name.size ∧ s.name.size ≤ 400) ∨ (4 ≤ s.kind ∧ s.kind ≤ 8 ∧ s.name.size = 0))))
instance (s : Sim) : Decidable (okP s) := by unfold okP; infer_instance
def okS (s : Sim) : Bool := decide (okP s)
def chkS (s : Sim) : Int := if okS s then 0 else 12
theorem chkS_yes {s : Sim} (h : okP s) : chkS s = 0 := if_pos (decide_eq_true h)
theorem chkS_no {s : Sim} (h : ¬ okP s) : chkS s = 12 := if_neg (by show ¬ decide _ = true; rw [decide_eq_true_eq]; exact h)
theorem toList_nil (s : ByteArray) : s.toList = [] ↔ s.size = 0 := by
  rw [ByteArray.toList_eq, Lib.size_eq, List.length_eq_zero_iff]
end Go.Proofs.YtljloicgjgbplaaGreat
/- Walks: whether a text stands in another one, by the reference. Condition: texts of at most 1000 bytes. Plain: what suits an attribute selector. No condition. -/
namespace Go.Proofs.YtljloicgjgbplaaGreat
open Go.RowKit

def dash : ByteArray := ⟨#[45]⟩
def suitF (op : Int) (q v : ByteArray) : Bool :=
  if op = 0 then true else if op = 1 then decide (v = q) else if op = 3 then decide (v = q) || Lib.hasPrefix v.data.toList (q ++ dash).data.toList
  else if q.size = 0 then false else if op = 2 then decide (q ∈ wordsS v) else if op = 4 then Lib.hasPrefix v.data.toList q.data.toList
  else if op = 5 then Lib.hasSuffix v.data.toList q.data.toList else Lib.contains v.data.toList q.data.toList
def suitsF (op : Int) (vl : ByteArray) (fo : Bool) (v : ByteArray) : Bool := if fo then suitF op (foldS vl) (foldS v) else suitF op vl v
def thereF (s p : ByteArray) (at' : Int) : Bool := decide (0 ≤ at') && decide (at' + p.size ≤ s.size) && Lib.occAt s.data.toList p.data.toList at'.toNat
theorem foldS_size (s : ByteArray) : (foldS s).size = s.size := by
  rw [Lib.size_eq, Lib.size_eq]
  show ((s.data.toList.map fold8).toArray.toList).length = _
  rw [List.toList_toArray, List.length_map]
theorem extract_occ {s p : ByteArray} {k : Nat} (h : k + p.size ≤ s.size) : ((s.extract k (k + p.size)).toList == p.toList) = Lib.occAt s.data.toList p.data.toList k := by
  rw [Lib.extract_toList, Lib.toList_data, Nat.add_sub_cancel_left]
  have := Lib.hasPrefix_of_take (s.data.toList.drop k) p.data.toList
  rw [← Lib.size_eq, List.length_drop, ← Lib.size_eq, decide_eq_true (by omega), Bool.true_and] at this
  exact this
theorem rthere_ok (s p : ByteArray) (k : Int) (w : World) (hp : p.size ≤ 2000) (hk : -2000 ≤ k ∧ k ≤ 2000) :
    Calls Tryz.prog 180 #[.string s, .string p, .int .i64 k] w fun r w' => r = .returned (.bool (thereF s p k)) ∧ w' = w := by
  by_cases h0 : 0 ≤ k
  · obtain ⟨j, rfl⟩ := Int.eq_ofNat_of_zero_le h0
    have e1 : IntKind.i64.wrap ((j : Int) + (p.size : Int)) = (j : Int) + (p.size : Int) := IntWalk.i64_in _ (by omega)
    by_cases h1 : j + p.size ≤ s.size
    · have hr : Hid (thereF s p j = ((s.extract j (j + p.size)).toList == p.toList)) := by
        show _ = _
        unfold thereF
        rw [extract_occ h1, decide_eq_true (by omega), decide_eq_true (by omega)]; rfl
      have e2 : ((j : Int) + (p.size : Int)).toNat = j + p.size := by omega
      have e3 : (j : Int) ≤ (j : Int) + (p.size : Int) := by omega
      have e4 : (j : Int) + (p.size : Int) ≤ (s.size : Int) := by omega
      have e5 : (0 : Int) ≤ (j : Int) + (p.size : Int) := by omega
      clear h1
      go_enter Tryz.func180, Tryz.ntmps180
      go_wp2
      go_ret
      exact ⟨ret_bool hr.out.symm, rfl⟩
    · have hr : Hid (thereF s p j = false) := by
        show _ = _
        unfold thereF
        rw [decide_eq_false (p := (j : Int) + p.size ≤ s.size) (by omega), Bool.and_false, Bool.false_and]
      have e4 : ¬ (j : Int) + (p.size : Int) ≤ (s.size : Int) := by omega
      clear h1
      go_enter Tryz.func180, Tryz.ntmps180
      go_wp2
      go_ret
      exact ⟨ret_bool hr.out.symm, rfl⟩
  · have hr : Hid (thereF s p k = false) := by
      show _ = _
      unfold thereF
      rw [decide_eq_false h0]; rfl
    have e4 : decide (0 ≤ k) = false := decide_eq_false h0
    go_enter Tryz.func180, Tryz.ntmps180
    go_wp2
    go_ret
    exact ⟨ret_bool hr.out.symm, rfl⟩
theorem there_zero (v q : ByteArray) : thereF v q 0 = Lib.hasPrefix v.data.toList q.data.toList := by
  unfold thereF Lib.occAt Lib.hasPrefix
  rw [Int.toNat_zero, List.drop_zero, Int.zero_add, decide_eq_true (Int.le_refl 0), Bool.true_and]
  by_cases h : q.size ≤ v.size
  · rw [decide_eq_true (by omega), Bool.true_and]
  · rw [decide_eq_false (by omega), Bool.false_and]
    symm
    rw [Bool.eq_false_iff]
    intro h2
    have := (List.isPrefixOf_iff_prefix.1 h2).length_le
    rw [← Lib.size_eq, ← Lib.size_eq] at this
    omega
theorem there_last (v q : ByteArray) : thereF v q ((v.size : Int) - q.size) = Lib.hasSuffix v.data.toList q.data.toList := by
  have h0 := Lib.hasSuffix_of_drop v.data.toList q.data.toList
  rw [← Lib.size_eq, ← Lib.size_eq] at h0
  rw [← h0]
  unfold thereF
  by_cases h : q.size ≤ v.size
  · rw [decide_eq_true (p := (0 : Int) ≤ _) (by omega), decide_eq_true (p := (v.size : Int) - q.size + q.size ≤ v.size) (by omega), decide_eq_true h, Bool.true_and, Bool.true_and, show ((v.size : Int) - q.size).toNat = v.size - q.size by omega,
      ← extract_occ (by omega), Lib.extract_toList, Lib.toList_data, Nat.sub_add_cancel h, List.take_of_length_le (by rw [List.length_drop, ← Lib.size_eq]; exact Nat.le_refl _), Bool.true_and]
  · rw [decide_eq_false (p := (0 : Int) ≤ _) (by omega), decide_eq_false h]; simp
theorem there_some (v q : ByteArray) (hq : q.size ≠ 0) : Lib.contains v.data.toList q.data.toList = decide (∃ i, i < v.size ∧ thereF v q (i : Nat) = true) := by
  unfold Lib.contains
  have hl : v.data.toList.length = v.size := (Lib.size_eq v).symm
  have hq' : q.data.toList.length = q.size := (Lib.size_eq q).symm
  have ht : ∀ i : Nat, thereF v q i = true ↔ i + q.size ≤ v.size ∧ Lib.occAt v.data.toList q.data.toList i = true := fun i => by
    unfold thereF
    rw [Bool.and_eq_true, Bool.and_eq_true, decide_eq_true_eq, decide_eq_true_eq, Int.toNat_natCast]
    constructor
    · rintro ⟨⟨-, h1⟩, h2⟩; exact ⟨by omega, h2⟩
    · rintro ⟨h1, h2⟩; exact ⟨⟨by omega, by omega⟩, h2⟩
  rw [decide_eq_decide]
  rcases Lib.index_spec v.data.toList q.data.toList with ⟨h1, h2⟩ | ⟨i, h1, h2, h3, h4⟩
  · rw [h1]
    constructor
    · intro h; omega
    · rintro ⟨i, hi, h⟩
      have := h2 i (by omega)
      rw [((ht i).1 h).2] at this
      cases this
  · rw [h1]
    refine ⟨fun _ => ?_, fun _ => by omega⟩
    have hr := Lib.index_room v.data.toList q.data.toList (by omega)
    rw [h1, hl, hq'] at hr
    exact ⟨i, by omega, (ht i).2 ⟨by omega, h3⟩⟩
end Go.Proofs.YtljloicgjgbplaaGreat
/- From readings to words on memory: lists of truth values, progressions, bounds of numbers. No condition. -/
namespace Go.Proofs.YtljloicgjgbplaaGreat
open Go.ChangeShapes Go.WideShapes Go.ChangeAt Go.RowKit Go.Deep

theorem wf_bounds {a : Int} (h : (Lit.int .i64 a).wf = true) : -9223372036854775808 ≤ a ∧ a ≤ 9223372036854775807 := by
  unfold Lit.wf at h
  simp only [Bool.and_eq_true, decide_eq_true_eq] at h
  exact h

section
variable {H : Type} {enc : TypeId × Value → H} {w : World} {base : Nat} {spare : Nat → Bool} {held : Bool}
end
end Go.Proofs.YtljloicgjgbplaaGreat
/- From a reading to words on memory: a simple selector. No condition. -/
namespace Go.Proofs.YtljloicgjgbplaaGreat
open Go.ChangeShapes Go.WideShapes Go.ChangeAt Go.RowKit Go.Deep

theorem wf_u8' {a : Int} (h : (Lit.int .u8 a).wf = true) : 0 ≤ a ∧ a ≤ 255 := by
  unfold Lit.wf at h
  simp only [Bool.and_eq_true, decide_eq_true_eq] at h
  exact h
section
variable {H : Type} {enc : TypeId × Value → H} {w : World} {base : Nat} {spare : Nat → Bool} {held : Bool}
end
end Go.Proofs.YtljloicgjgbplaaGreat
