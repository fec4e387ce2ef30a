/- Walks: whether two lists are the same, by chapter 8's reference: if it says so, they are. No condition. -/
import Derived.Test.YtljloicgjgbplaaGreatG34
import Derived.Test.YtljloicgjgbplaaGreatG31
import Derived.Test.YtljloicgjgbplaaGreatG24
import Derived.Laws.BytesArg
import Derived.Deep.RegionHeld3
namespace Go.Proofs.YtljloicgjgbplaaGreat
open Go.RowKit

/-- A truth value comes back; if it is true, so is p. -/
def Said (p : Prop) (w : World) (e : Ending) (w' : World) : Prop := ∃ b : Bool, e = .returned (.bool b) ∧ (b = true → p) ∧ Below w.heap.size w w'
theorem said_no {p : Prop} {w w' : World} (hb : Below w.heap.size w w') : Said p w (.returned (.bool false)) w' := ⟨false, rfl, (fun h => by cases h), hb⟩
theorem said_yes {p : Prop} {w w' : World} (h : p) (hb : Below w.heap.size w w') : Said p w (.returned (.bool true)) w' := ⟨true, rfl, fun _ => h, hb⟩
def RSame {X : Type} (V : Lies X) : Prop := ∀ (A : Option Addr) (m c : Nat) (B : Option Addr) (k d : Nat) (l l2 : List X) (W : World), IsRow V W A m l → IsRow V W B k l2 →
  Calls Tryz.prog 15 #[.slice A m c, .slice B k d] W (Said (l = l2) W)
def RSame1 {X : Type} (V : Lies X) : Prop := ∀ (ld : Int) (PA : Option Addr) (pn pc : Nat) (KA : Option Addr) (kn kc : Nat) (x : X) (ld2 : Int) (PB : Option Addr) (qn qc : Nat) (KB : Option Addr) (jn jc : Nat) (y : X) (W : World), V W ld PA pn pc KA kn kc x → V W ld2 PB qn qc KB jn jc y →
  Calls Tryz.prog 36 #[.agg #[.int .u8 ld, .slice PA pn pc, .slice KA kn kc], .agg #[.int .u8 ld2, .slice PB qn qc, .slice KB jn jc]] W (Said (x = y) W)
def RSameS {X : Type} (V : Lies X) : Prop := ∀ (A : Option Addr) (m c : Nat) (B : Option Addr) (k d : Nat) (l l2 : List (SimX X)) (W : World), IsSimL V W A m l → IsSimL V W B k l2 →
  Calls Tryz.prog 56 #[.slice A m c, .slice B k d] W (Said (l = l2) W)
theorem take_eq_succ {α : Type} {l l2 : List α} {q : Nat} (h : l.take q = l2.take q) (h1 : q < l.length) (h2 : q < l2.length) (he : l[q] = l2[q]) : l.take (q + 1) = l2.take (q + 1) := by
  rw [List.take_succ_eq_append_getElem h1, List.take_succ_eq_append_getElem h2, h, he]
theorem take_eq_all {α : Type} {l l2 : List α} {q : Nat} (h : l.take q = l2.take q) (h1 : l.length = q) (h2 : l2.length = q) : l = l2 := by
  rw [List.take_of_length_le (by omega), List.take_of_length_le (by omega)] at h; exact h
section
variable {X : Type} {V : Lies X}
set_option maxRecDepth 100000 in
set_option maxHeartbeats 1000000 in
theorem rsame_ok (hV : Stays V) (h1 : RSame1 V) : RSame V := by
  intro A m c B k d l l2 w hr hs
  have hlm := hr.1
  have hlk := hs.1
  have hm63 := hr.2.1
  by_cases hmk : m = k
  · subst hmk
    have hr' := hide hr
    have hs' := hide hs
    have hV' := hide hV
    have h1' := hide h1
    have hlm' := hide hlm
    have hlk' := hide hlk
    clear hr hs hV h1 hlm hlk
    go_enter Tryz.func15, Tryz.ntmps15
    go_wp2
    go_loopw [5] (fun s wr => ∃ q : Nat, q ≤ m ∧ s = .int .i64 q ∧ Hid (l.take q = l2.take q) ∧ Below w.heap.size w wr) (fun s _ => m - (intOf s).toNat)
    case atStart => exact ⟨0, Nat.zero_le _, rfl, rfl, Below.refl _ _⟩
    case round =>
      obtain ⟨q, hq, rfl, heq, hb⟩ := hrel
      by_cases hlt : q < m
      · obtain ⟨b, off, ld, PA, pn, pc, KA, kn, kc, rfl, hbl, c0, c1, c2, hv⟩ := hr'.out.at hlt hlm'.out
        obtain ⟨b2, off2, ld2, PB, qn, qc, KB, jn, jc, rfl, hbl2, e0, e1, e2, hv2⟩ := hs'.out.at hlt hlk'.out
        have c0 := cell_later hb c0
        have c1 := cell_later hb c1
        have c2 := cell_later hb c2
        have e0 := cell_later hb e0
        have e1 := cell_later hb e1
        have e2 := cell_later hb e2
        have hx := hide (h1'.out _ _ _ _ _ _ _ _ _ _ _ _ _ _ _ _ wr.drew (hV'.out _ _ _ _ _ _ _ _ _ _ hb.drew hv) (hV'.out _ _ _ _ _ _ _ _ _ _ hb.drew hv2))
        have hq1 : q < l.length := by have := hlm'.out; omega
        have hq2 : q < l2.length := by have := hlk'.out; omega
        have hnx := hide (fun (he : l[q] = l2[q]) => take_eq_succ heq.out hq1 hq2 he)
        have x0 : (0 : Int) ≤ (q : Int) := by omega
        have x1 : (q : Int) < (m : Int) := by omega
        clear hv hv2
        generalize l[q] = x at *
        generalize l2[q] = y at *
        have hS8 := hide (fun (W : World) (hW : Below wr.heap.size wr W) => (show W.cell? ⟨b, off + q * 3, none⟩ = some (.int .u8 ld) ∧ W.cell? ⟨b, off + q * 3 + 1, none⟩ = some (.slice PA pn pc) ∧ W.cell? ⟨b, off + q * 3 + 2, none⟩ = some (.slice KA kn kc) ∧ W.cell? ⟨b2, off2 + q * 3, none⟩ = some (.int .u8 ld2) ∧ W.cell? ⟨b2, off2 + q * 3 + 1, none⟩ = some (.slice PB qn qc) ∧ W.cell? ⟨b2, off2 + q * 3 + 2, none⟩ = some (.slice KB jn jc) from
          ⟨cell_later hW c0, cell_later hW c1, cell_later hW c2, cell_later hW e0, cell_later hW e1, cell_later hW e2⟩))
        go_wp2
        go_region_held3 (fun W => W.cell? ⟨b, off + q * 3, none⟩ = some (.int .u8 ld) ∧ W.cell? ⟨b, off + q * 3 + 1, none⟩ = some (.slice PA pn pc) ∧ W.cell? ⟨b, off + q * 3 + 2, none⟩ = some (.slice KA kn kc) ∧ W.cell? ⟨b2, off2 + q * 3, none⟩ = some (.int .u8 ld2) ∧ W.cell? ⟨b2, off2 + q * 3 + 1, none⟩ = some (.slice PB qn qc) ∧ W.cell? ⟨b2, off2 + q * 3 + 2, none⟩ = some (.slice KB jn jc)) (first | exact ⟨c0, c1, c2, e0, e1, e2⟩ | exact hS8.out _ (Below.on (w1 := wr.drew) (Below.refl _ _).drew hb7)) (first | (go_at_call 36; (with_reducible refine hx.out.mono ?_); rintro e7 w7 ⟨v, rfl, hv, hb7⟩))
        have hb7' := hide (Below.on (w1 := wr.drew) hb.drew hb7)
        have hv' := hide hv
        clear hb7 hv
        cases v
        · go_wp2
          go_ret
          exact said_no hb7'.out
        · go_wp2
          go_roundw
          case rel => exact ⟨q + 1, by omega, by go_num, hnx.out (hv'.out rfl), hb7'.out⟩
          case measure => simp [intOf]; omega
      · obtain rfl : m = q := by omega
        go_wp2
        go_ret
        exact said_yes (take_eq_all heq.out hlm'.out hlk'.out) hb
  · have e1 : ((m : Int) != (k : Int)) = true := by rw [bne_iff_ne]; omega
    have e2 : (m != k) = true := by rw [bne_iff_ne]; omega
    have e3 : ((m : Int) == (k : Int)) = false := by rw [beq_eq_false_iff_ne]; omega
    have e4 : (m == k) = false := by rw [beq_eq_false_iff_ne]; omega
    clear hr hs hlm hlk hV h1
    go_enter Tryz.func15, Tryz.ntmps15
    go_wp2
    go_ret
    exact said_no (Below.refl _ _)
end
/-! ## Same1, sameSimples -/
theorem bytes_zero (w : World) (A : Option Addr) (c : Nat) : (convert 60 9 (.slice A 0 c)).run Tryz.prog w = .ok (.string ByteArray.empty) w := by
  rw [run_convert_bytes_string w 60 9 5 _ 0 c Tryz.underlying60 Tryz.underlying5 Tryz.underlying9]
  cases A <;> simp [Conv.bytesToString, loadCells]
  all_goals rfl
theorem conv_u8 {w : World} {A : Option Addr} {n : Nat} {xs : List Int} (h : IsU8 w A n xs) (c : Nat) : (convert 60 9 (.slice A n c)).run Tryz.prog w = .ok (.string (strOfNums xs)) w := by
  obtain ⟨h1, -, -, h2⟩ := h
  by_cases hn : n = 0
  · subst hn
    obtain rfl := List.length_eq_zero_iff.1 h1
    exact bytes_zero w A c
  · obtain ⟨b, off, rfl, -, hc⟩ := h2 (by omega)
    exact run_convert_bytes_arg w 60 5 Tryz.underlying60 Tryz.underlying5 b off n c xs h1 hc 9 Tryz.underlying9
theorem strOf_inj : ∀ {xs ys : List Int}, (∀ x ∈ xs, 0 ≤ x ∧ x ≤ 255) → (∀ x ∈ ys, 0 ≤ x ∧ x ≤ 255) → strOfNums xs = strOfNums ys → xs = ys := by
  have h0 : ∀ (xs ys : List Int), (∀ x ∈ xs, 0 ≤ x ∧ x ≤ 255) → (∀ x ∈ ys, 0 ≤ x ∧ x ≤ 255) → (xs.map fun n => UInt8.ofNat n.toNat) = (ys.map fun n => UInt8.ofNat n.toNat) → xs = ys := by
    intro xs
    induction xs with
    | nil => intro ys _ _ h; cases ys with | nil => rfl | cons y ys => simp at h
    | cons x xs ih =>
      intro ys hx hy h
      cases ys with
      | nil => simp at h
      | cons y ys =>
        rw [List.map_cons, List.map_cons] at h
        injection h with h1 h2
        have a1 := hx x (by simp)
        have a2 := hy y (by simp)
        have h3 := congrArg UInt8.toNat h1
        rw [UInt8.toNat_ofNat', UInt8.toNat_ofNat'] at h3
        have h4 : x = y := by omega
        rw [h4, ih ys (fun z hz => hx z (by simp [hz])) (fun z hz => hy z (by simp [hz])) h2]
  intro xs ys hx hy h
  refine h0 xs ys hx hy ?_
  rw [← strOfNums_data, ← strOfNums_data, h]
theorem px_at {X : Type} {l : List (CompX X)} {q : Nat} (h : q < l.length) : l[q]'h = px l q := by
  unfold px; rw [List.getD_eq_getElem?_getD, List.getElem?_eq_getElem h]; rfl
theorem sy_at2 {X : Type} {l : List (SimX X)} {q : Nat} (h : q < l.length) : l[q]'h = sy l q := by
  unfold sy; rw [List.getD_eq_getElem?_getD, List.getElem?_eq_getElem h]; rfl
section
variable {X : Type} {V : Lies X}
set_option maxRecDepth 100000 in
set_option maxHeartbeats 4000000 in
theorem rsameS_ok (hV : Stays V) (h1 : RSame V) : RSameS V := by
  intro A m c B k d l l2 w hr hs
  have hlm := hr.1
  have hlk := hs.1
  by_cases hmk : m = k
  · subst hmk
    obtain ⟨-, S, ⟨-, hm63, hS⟩, hSr⟩ := hr
    obtain ⟨-, S2, ⟨-, -, hS2⟩, hSr2⟩ := hs
    have hS' := hide hS
    have hS2' := hide hS2
    have hSr' := hide hSr
    have hSr2' := hide hSr2
    have hV' := hide hV
    have h1' := hide h1
    have hlm' := hide hlm
    have hlk' := hide hlk
    clear hS hS2 hSr hSr2 hV h1 hlm hlk
    go_enter Tryz.func56, Tryz.ntmps56
    go_wp2
    go_loopw [5] (fun s wr => ∃ q : Nat, q ≤ m ∧ s = .int .i64 q ∧ Hid (l.take q = l2.take q) ∧ Below w.heap.size w wr) (fun s _ => m - (intOf s).toNat)
    case atStart => exact ⟨0, Nat.zero_le _, rfl, rfl, Below.refl _ _⟩
    case round =>
      obtain ⟨q, hq, rfl, heq, hb⟩ := hrel
      by_cases hlt : q < m
      · obtain ⟨b, off, rfl, hbl, hin⟩ := hS'.out (by omega)
        obtain ⟨b2, off2, rfl, hbl2, hin2⟩ := hS2'.out (by omega)
        obtain ⟨c0, c1, c2, c3, c4, c5, c6, c7, c8⟩ := (hin q hlt).later hb
        obtain ⟨e0, e1, e2, e3, e4, e5, e6, e7, e8⟩ := (hin2 q hlt).later hb
        have hra := hide (hSr'.out q hlt)
        have hrb := hide (hSr2'.out q hlt)
        have hq1 : q < l.length := by have := hlm'.out; omega
        have hq2 : q < l2.length := by have := hlk'.out; omega
        have hnx := hide (fun (he : sy l q = sy l2 q) => take_eq_succ heq.out hq1 hq2 ((sy_at2 hq1).trans (he.trans (sy_at2 hq2).symm)))
        have x0 : (0 : Int) ≤ (q : Int) := by omega
        have x1 : (q : Int) < (m : Int) := by omega
        clear hin hin2
        generalize sm S q = s at *
        generalize sm S2 q = t at *
        generalize sy l q = x at *
        generalize sy l2 q = y at *
        have hS8 := hide (fun (W : World) (hW : Below wr.heap.size wr W) => (show W.cell? ⟨b, off + q * 9, none⟩ = some (.int .u8 s.kind) ∧ W.cell? ⟨b, off + q * 9 + 1, none⟩ = some (.string s.name) ∧ W.cell? ⟨b, off + q * 9 + 2, none⟩ = some (.int .u8 s.op) ∧ W.cell? ⟨b, off + q * 9 + 3, none⟩ = some (.string s.val) ∧ W.cell? ⟨b, off + q * 9 + 4, none⟩ = some (.bool s.fold) ∧ W.cell? ⟨b, off + q * 9 + 5, none⟩ = some (.int .i64 s.a) ∧ W.cell? ⟨b, off + q * 9 + 6, none⟩ = some (.int .i64 s.b) ∧ W.cell? ⟨b, off + q * 9 + 7, none⟩ = some (.bool s.of) ∧ W.cell? ⟨b, off + q * 9 + 8, none⟩ = some (.slice s.LA s.ln s.lc) ∧ W.cell? ⟨b2, off2 + q * 9, none⟩ = some (.int .u8 t.kind) ∧ W.cell? ⟨b2, off2 + q * 9 + 1, none⟩ = some (.string t.name) ∧ W.cell? ⟨b2, off2 + q * 9 + 2, none⟩ = some (.int .u8 t.op) ∧ W.cell? ⟨b2, off2 + q * 9 + 3, none⟩ = some (.string t.val) ∧ W.cell? ⟨b2, off2 + q * 9 + 4, none⟩ = some (.bool t.fold) ∧ W.cell? ⟨b2, off2 + q * 9 + 5, none⟩ = some (.int .i64 t.a) ∧ W.cell? ⟨b2, off2 + q * 9 + 6, none⟩ = some (.int .i64 t.b) ∧ W.cell? ⟨b2, off2 + q * 9 + 7, none⟩ = some (.bool t.of) ∧ W.cell? ⟨b2, off2 + q * 9 + 8, none⟩ = some (.slice t.LA t.ln t.lc) from
          ⟨cell_later hW c0, cell_later hW c1, cell_later hW c2, cell_later hW c3, cell_later hW c4, cell_later hW c5, cell_later hW c6, cell_later hW c7, cell_later hW c8, cell_later hW e0, cell_later hW e1, cell_later hW e2, cell_later hW e3, cell_later hW e4, cell_later hW e5, cell_later hW e6, cell_later hW e7, cell_later hW e8⟩))
        by_cases hne : s.kind = t.kind ∧ s.name.toList = t.name.toList ∧ s.op = t.op ∧ s.val.toList = t.val.toList ∧ s.fold = t.fold ∧ s.a = t.a ∧ s.b = t.b ∧ s.of = t.of
        · obtain ⟨n1, n2, n3, n4, n5, n6, n7, n8⟩ := hne
          have n2 := toList_inj n2
          have n4 := toList_inj n4
          have hxy := hide (fun (he : x.list = y.list) => (show x = y from by
            have f1 := hra.out.kind
            have f2 := hra.out.name
            have f3 := hra.out.op
            have f4 := hra.out.val
            have f5 := hra.out.fold
            have f6 := hra.out.a
            have f7 := hra.out.b
            have f8 := hra.out.of
            rw [n1, hrb.out.kind] at f1
            rw [n2, hrb.out.name] at f2
            rw [n3, hrb.out.op] at f3
            rw [n4, hrb.out.val] at f4
            rw [n5, hrb.out.fold] at f5
            rw [n6, hrb.out.a] at f6
            rw [n7, hrb.out.b] at f7
            rw [n8, hrb.out.of] at f8
            cases x
            cases y
            simp only at f1 f2 f3 f4 f5 f6 f7 f8 he
            simp [f1, f2, f3, f4, f5, f6, f7, f8, he]))
          have hcl := hide (fun (W : World) (hW : Below w.heap.size w W) => h1'.out s.LA s.ln s.lc t.LA t.ln t.lc x.list y.list W (hra.out.row.below hV'.out hW) (hrb.out.row.below hV'.out hW))
          rw [← n1] at e0
          rw [← n2] at e1
          rw [← n3] at e2
          rw [← n4] at e3
          rw [← n5] at e4
          rw [← n6] at e5
          rw [← n7] at e6
          rw [← n8] at e7
          have hS9 := hide (fun (W : World) (hW : Below wr.heap.size wr W) => (show W.cell? ⟨b, off + q * 9, none⟩ = some (.int .u8 s.kind) ∧ W.cell? ⟨b, off + q * 9 + 1, none⟩ = some (.string s.name) ∧ W.cell? ⟨b, off + q * 9 + 2, none⟩ = some (.int .u8 s.op) ∧ W.cell? ⟨b, off + q * 9 + 3, none⟩ = some (.string s.val) ∧ W.cell? ⟨b, off + q * 9 + 4, none⟩ = some (.bool s.fold) ∧ W.cell? ⟨b, off + q * 9 + 5, none⟩ = some (.int .i64 s.a) ∧ W.cell? ⟨b, off + q * 9 + 6, none⟩ = some (.int .i64 s.b) ∧ W.cell? ⟨b, off + q * 9 + 7, none⟩ = some (.bool s.of) ∧ W.cell? ⟨b, off + q * 9 + 8, none⟩ = some (.slice s.LA s.ln s.lc) ∧ W.cell? ⟨b2, off2 + q * 9, none⟩ = some (.int .u8 s.kind) ∧ W.cell? ⟨b2, off2 + q * 9 + 1, none⟩ = some (.string s.name) ∧ W.cell? ⟨b2, off2 + q * 9 + 2, none⟩ = some (.int .u8 s.op) ∧ W.cell? ⟨b2, off2 + q * 9 + 3, none⟩ = some (.string s.val) ∧ W.cell? ⟨b2, off2 + q * 9 + 4, none⟩ = some (.bool s.fold) ∧ W.cell? ⟨b2, off2 + q * 9 + 5, none⟩ = some (.int .i64 s.a) ∧ W.cell? ⟨b2, off2 + q * 9 + 6, none⟩ = some (.int .i64 s.b) ∧ W.cell? ⟨b2, off2 + q * 9 + 7, none⟩ = some (.bool s.of) ∧ W.cell? ⟨b2, off2 + q * 9 + 8, none⟩ = some (.slice t.LA t.ln t.lc) from
            ⟨cell_later hW c0, cell_later hW c1, cell_later hW c2, cell_later hW c3, cell_later hW c4, cell_later hW c5, cell_later hW c6, cell_later hW c7, cell_later hW c8, cell_later hW e0, cell_later hW e1, cell_later hW e2, cell_later hW e3, cell_later hW e4, cell_later hW e5, cell_later hW e6, cell_later hW e7, cell_later hW e8⟩))
          clear n1 n2 n3 n4 n5 n6 n7 n8 hS8
          go_wp2
          go_region_held3 (fun W => W.cell? ⟨b, off + q * 9, none⟩ = some (.int .u8 s.kind) ∧ W.cell? ⟨b, off + q * 9 + 1, none⟩ = some (.string s.name) ∧ W.cell? ⟨b, off + q * 9 + 2, none⟩ = some (.int .u8 s.op) ∧ W.cell? ⟨b, off + q * 9 + 3, none⟩ = some (.string s.val) ∧ W.cell? ⟨b, off + q * 9 + 4, none⟩ = some (.bool s.fold) ∧ W.cell? ⟨b, off + q * 9 + 5, none⟩ = some (.int .i64 s.a) ∧ W.cell? ⟨b, off + q * 9 + 6, none⟩ = some (.int .i64 s.b) ∧ W.cell? ⟨b, off + q * 9 + 7, none⟩ = some (.bool s.of) ∧ W.cell? ⟨b, off + q * 9 + 8, none⟩ = some (.slice s.LA s.ln s.lc) ∧ W.cell? ⟨b2, off2 + q * 9, none⟩ = some (.int .u8 s.kind) ∧ W.cell? ⟨b2, off2 + q * 9 + 1, none⟩ = some (.string s.name) ∧ W.cell? ⟨b2, off2 + q * 9 + 2, none⟩ = some (.int .u8 s.op) ∧ W.cell? ⟨b2, off2 + q * 9 + 3, none⟩ = some (.string s.val) ∧ W.cell? ⟨b2, off2 + q * 9 + 4, none⟩ = some (.bool s.fold) ∧ W.cell? ⟨b2, off2 + q * 9 + 5, none⟩ = some (.int .i64 s.a) ∧ W.cell? ⟨b2, off2 + q * 9 + 6, none⟩ = some (.int .i64 s.b) ∧ W.cell? ⟨b2, off2 + q * 9 + 7, none⟩ = some (.bool s.of) ∧ W.cell? ⟨b2, off2 + q * 9 + 8, none⟩ = some (.slice t.LA t.ln t.lc)) (first | exact ⟨c0, c1, c2, c3, c4, c5, c6, c7, c8, e0, e1, e2, e3, e4, e5, e6, e7, e8⟩ | exact hS9.out _ hz1.out | exact hS9.out _ hz2.out | exact hS9.out _ hz3.out) (first | (go_at_call 15; (with_reducible refine (hcl.out _ (Below.on hb hz2.out)).mono ?_); rintro e7 w7 ⟨v, rfl, hv, hb7⟩; have hz3 := hide (Below.on hz2.out hb7)) | (go_at_call 75; (with_reducible refine (bareOf_ok s.kind s.name s.op s.val s.fold s.a s.b s.of s.LA s.ln s.lc _).mono ?_); rintro e7 w5 ⟨rfl, hb5⟩; have hz1 := hide (Below.on (w1 := wr.drew) (Below.refl _ _).drew hb5)) | (go_at_call 75; (with_reducible refine (bareOf_ok s.kind s.name s.op s.val s.fold s.a s.b s.of t.LA t.ln t.lc _).mono ?_); rintro e7 w6 ⟨rfl, hb6⟩; have hz2 := hide (Below.on hz1.out hb6)))
          have hb7' := hide (Below.on hb hz3.out)
          have hv' := hide hv
          clear hb7 hv hz1 hz2 hz3 hb5 hb6
          cases v
          · go_wp2
            go_ret
            exact said_no hb7'.out
          · go_wp2
            go_roundw
            case rel => exact ⟨q + 1, by omega, by go_num, hnx.out (hxy.out (hv'.out rfl)), hb7'.out⟩
            case measure => simp [intOf]; omega
        · have hne := hide hne
          clear hra hrb hnx
          go_wp2
          refine wp_region_held_drew (S := fun W => W.cell? ⟨b, off + q * 9, none⟩ = some (.int .u8 s.kind) ∧ W.cell? ⟨b, off + q * 9 + 1, none⟩ = some (.string s.name) ∧ W.cell? ⟨b, off + q * 9 + 2, none⟩ = some (.int .u8 s.op) ∧ W.cell? ⟨b, off + q * 9 + 3, none⟩ = some (.string s.val) ∧ W.cell? ⟨b, off + q * 9 + 4, none⟩ = some (.bool s.fold) ∧ W.cell? ⟨b, off + q * 9 + 5, none⟩ = some (.int .i64 s.a) ∧ W.cell? ⟨b, off + q * 9 + 6, none⟩ = some (.int .i64 s.b) ∧ W.cell? ⟨b, off + q * 9 + 7, none⟩ = some (.bool s.of) ∧ W.cell? ⟨b, off + q * 9 + 8, none⟩ = some (.slice s.LA s.ln s.lc) ∧ W.cell? ⟨b2, off2 + q * 9, none⟩ = some (.int .u8 t.kind) ∧ W.cell? ⟨b2, off2 + q * 9 + 1, none⟩ = some (.string t.name) ∧ W.cell? ⟨b2, off2 + q * 9 + 2, none⟩ = some (.int .u8 t.op) ∧ W.cell? ⟨b2, off2 + q * 9 + 3, none⟩ = some (.string t.val) ∧ W.cell? ⟨b2, off2 + q * 9 + 4, none⟩ = some (.bool t.fold) ∧ W.cell? ⟨b2, off2 + q * 9 + 5, none⟩ = some (.int .i64 t.a) ∧ W.cell? ⟨b2, off2 + q * 9 + 6, none⟩ = some (.int .i64 t.b) ∧ W.cell? ⟨b2, off2 + q * 9 + 7, none⟩ = some (.bool t.of) ∧ W.cell? ⟨b2, off2 + q * 9 + 8, none⟩ = some (.slice t.LA t.ln t.lc)) (by kernel_rfl) ⟨c0, c1, c2, c3, c4, c5, c6, c7, c8, e0, e1, e2, e3, e4, e5, e6, e7, e8⟩ (fun hHeld => ?_)
          refine heldTake 0 17 (.slice (some ⟨b, off, none⟩) m c) (by kernel_rfl) (by kernel_rfl) (by kernel_rfl) (by kernel_rfl) (fun _ _ _ h => h) (by rfl) ?_ (by assumption) ?_
          · intro W hW
            try dsimp only at hW
            simp only [List.getElem?_toArray, List.getElem?_cons_zero, Option.map_some, Option.some.injEq]
            go_simp
          try simp only [Act.put, List.setIfInBounds_toArray, List.set_cons_zero, List.set_cons_succ]
          refine heldTake 1 18 (.int .i64 q) (by kernel_rfl) (by kernel_rfl) (by kernel_rfl) (by kernel_rfl) (fun _ _ _ h => h) (by rfl) ?_ (by assumption) ?_
          · intro W hW
            try dsimp only at hW
            simp only [List.getElem?_toArray, List.getElem?_cons_succ, List.getElem?_cons_zero, Option.map_some, Option.some.injEq]
            go_simp
          try simp only [Act.put, List.setIfInBounds_toArray, List.set_cons_zero, List.set_cons_succ]
          refine heldTake 2 19 (.pointer (some ⟨b, off + q * 9, none⟩)) (by kernel_rfl) (by kernel_rfl) (by kernel_rfl) (by kernel_rfl) (fun _ _ _ h => h) (by rfl) ?_ (by assumption) ?_
          · intro W hW
            try dsimp only at hW
            simp only [List.getElem?_toArray, List.getElem?_cons_succ, List.getElem?_cons_zero, Option.map_some, Option.some.injEq]
            go_simp
          try simp only [Act.put, List.setIfInBounds_toArray, List.set_cons_zero, List.set_cons_succ]
          refine heldTake 3 20 (.agg #[.int .u8 s.kind, .string s.name, .int .u8 s.op, .string s.val, .bool s.fold, .int .i64 s.a, .int .i64 s.b, .bool s.of, .slice s.LA s.ln s.lc]) (by kernel_rfl) (by kernel_rfl) (by kernel_rfl) (by kernel_rfl) (fun _ _ _ h => h) (by rfl) ?_ (by assumption) ?_
          · intro W hW
            try dsimp only at hW
            simp only [List.getElem?_toArray, List.getElem?_cons_succ, List.getElem?_cons_zero, Option.map_some, Option.some.injEq]
            go_simp
          try simp only [Act.put, List.setIfInBounds_toArray, List.set_cons_zero, List.set_cons_succ]
          refine heldTake 5 22 (.slice (some ⟨b2, off2, none⟩) m d) (by kernel_rfl) (by kernel_rfl) (by kernel_rfl) (by kernel_rfl) (fun _ _ _ h => h) (by rfl) ?_ (by assumption) ?_
          · intro W hW
            try dsimp only at hW
            simp only [List.getElem?_toArray, List.getElem?_cons_succ, List.getElem?_cons_zero, Option.map_some, Option.some.injEq]
            go_simp
          try simp only [Act.put, List.setIfInBounds_toArray, List.set_cons_zero, List.set_cons_succ]
          refine heldTake 6 23 (.int .i64 q) (by kernel_rfl) (by kernel_rfl) (by kernel_rfl) (by kernel_rfl) (fun _ _ _ h => h) (by rfl) ?_ (by assumption) ?_
          · intro W hW
            try dsimp only at hW
            simp only [List.getElem?_toArray, List.getElem?_cons_succ, List.getElem?_cons_zero, Option.map_some, Option.some.injEq]
            go_simp
          try simp only [Act.put, List.setIfInBounds_toArray, List.set_cons_zero, List.set_cons_succ]
          refine heldTake 7 24 (.pointer (some ⟨b2, off2 + q * 9, none⟩)) (by kernel_rfl) (by kernel_rfl) (by kernel_rfl) (by kernel_rfl) (fun _ _ _ h => h) (by rfl) ?_ (by assumption) ?_
          · intro W hW
            try dsimp only at hW
            simp only [List.getElem?_toArray, List.getElem?_cons_succ, List.getElem?_cons_zero, Option.map_some, Option.some.injEq]
            go_simp
          try simp only [Act.put, List.setIfInBounds_toArray, List.set_cons_zero, List.set_cons_succ]
          refine heldTake 8 25 (.agg #[.int .u8 t.kind, .string t.name, .int .u8 t.op, .string t.val, .bool t.fold, .int .i64 t.a, .int .i64 t.b, .bool t.of, .slice t.LA t.ln t.lc]) (by kernel_rfl) (by kernel_rfl) (by kernel_rfl) (by kernel_rfl) (fun _ _ _ h => h) (by rfl) ?_ (by assumption) ?_
          · intro W hW
            try dsimp only at hW
            simp only [List.getElem?_toArray, List.getElem?_cons_succ, List.getElem?_cons_zero, Option.map_some, Option.some.injEq]
            go_simp
          try simp only [Act.put, List.setIfInBounds_toArray, List.set_cons_zero, List.set_cons_succ]
          refine wpAnyH_ready (rs := [4]) (by kernel_rfl) (by simp) (AllReadyH.cons rfl (fun K hK => ?_) AllReadyH.nil)
          go_simp
          go_at_call 75
          (with_reducible refine (bareOf_ok s.kind s.name s.op s.val s.fold s.a s.b s.of s.LA s.ln s.lc _).mono ?_)
          rintro e v1 ⟨rfl, hb1⟩
          have hz1 := Below.on (w1 := wr.drew) (Below.refl _ _).drew hb1
          refine hK.out _ _ (hS8.out _ hz1) (fun hHeld1 => ?_)
          clear hK K hHeld
          try simp only [Act.put, List.setIfInBounds_toArray, List.set_cons_zero, List.set_cons_succ]
          refine wpAnyH_ready (rs := [9]) (by kernel_rfl) (by simp) (AllReadyH.cons rfl (fun K hK => ?_) AllReadyH.nil)
          go_simp
          go_at_call 75
          (with_reducible refine (bareOf_ok t.kind t.name t.op t.val t.fold t.a t.b t.of t.LA t.ln t.lc _).mono ?_)
          rintro e v2 ⟨rfl, hb2⟩
          have hz2 := Below.on hz1 hb2
          refine hK.out _ _ (hS8.out _ hz2) (fun hHeld2 => ?_)
          clear hK K hHeld1
          try simp only [Act.put, List.setIfInBounds_toArray, List.set_cons_zero, List.set_cons_succ]
          refine heldTake 10 27 (.bool true) (by kernel_rfl) (by kernel_rfl) (by kernel_rfl) (by kernel_rfl) (fun _ _ _ h => h) (by rfl) ?_ (by assumption) ?_
          · intro W hW
            try dsimp only at hW
            simp only [List.getElem?_toArray, List.getElem?_cons_succ, List.getElem?_cons_zero, Option.map_some, Option.some.injEq]
            go_simp
            exact fun a1 a2 a3 a4 a5 a6 a7 a8 => hne.out ⟨a1, a2, a3, a4, a5, a6, a7, a8⟩
          try simp only [Act.put, List.setIfInBounds_toArray, List.set_cons_zero, List.set_cons_succ]
          refine heldTake 11 28 (.bool true) (by kernel_rfl) (by kernel_rfl) (by kernel_rfl) (by kernel_rfl) (fun _ _ _ h => h) (by rfl) ?_ (by assumption) ?_
          · intro W hW
            try dsimp only at hW
            simp only [List.getElem?_toArray, List.getElem?_cons_succ, List.getElem?_cons_zero, Option.map_some, Option.some.injEq]
            go_simp
          try simp only [Act.put, List.setIfInBounds_toArray, List.set_cons_zero, List.set_cons_succ]
          refine heldSkip 12 29 (by kernel_rfl) (by kernel_rfl) (by kernel_rfl) (by kernel_rfl) (fun _ _ _ h => h) (by rfl) (by assumption) ?_
          try simp only [Act.put, List.setIfInBounds_toArray, List.set_cons_zero, List.set_cons_succ]
          refine heldSkip 13 30 (by kernel_rfl) (by kernel_rfl) (by kernel_rfl) (by kernel_rfl) (fun _ _ _ h => h) (by rfl) (by assumption) ?_
          try simp only [Act.put, List.setIfInBounds_toArray, List.set_cons_zero, List.set_cons_succ]
          refine heldSkip 14 31 (by kernel_rfl) (by kernel_rfl) (by kernel_rfl) (by kernel_rfl) (fun _ _ _ h => h) (by rfl) (by assumption) ?_
          try simp only [Act.put, List.setIfInBounds_toArray, List.set_cons_zero, List.set_cons_succ]
          refine heldSkip 15 32 (by kernel_rfl) (by kernel_rfl) (by kernel_rfl) (by kernel_rfl) (fun _ _ _ h => h) (by rfl) (by assumption) ?_
          try simp only [Act.put, List.setIfInBounds_toArray, List.set_cons_zero, List.set_cons_succ]
          refine heldSkip 16 33 (by kernel_rfl) (by kernel_rfl) (by kernel_rfl) (by kernel_rfl) (fun _ _ _ h => h) (by rfl) (by assumption) ?_
          try simp only [Act.put, List.setIfInBounds_toArray, List.set_cons_zero, List.set_cons_succ]
          refine heldSkip 17 34 (by kernel_rfl) (by kernel_rfl) (by kernel_rfl) (by kernel_rfl) (fun _ _ _ h => h) (by rfl) (by assumption) ?_
          try simp only [Act.put, List.setIfInBounds_toArray, List.set_cons_zero, List.set_cons_succ]
          refine heldSkip 18 35 (by kernel_rfl) (by kernel_rfl) (by kernel_rfl) (by kernel_rfl) (fun _ _ _ h => h) (by rfl) (by assumption) ?_
          try simp only [Act.put, List.setIfInBounds_toArray, List.set_cons_zero, List.set_cons_succ]
          refine heldSkip 19 36 (by kernel_rfl) (by kernel_rfl) (by kernel_rfl) (by kernel_rfl) (fun _ _ _ h => h) (by rfl) (by assumption) ?_
          try simp only [Act.put, List.setIfInBounds_toArray, List.set_cons_zero, List.set_cons_succ]
          refine heldSkip 20 37 (by kernel_rfl) (by kernel_rfl) (by kernel_rfl) (by kernel_rfl) (fun _ _ _ h => h) (by rfl) (by assumption) ?_
          try simp only [Act.put, List.setIfInBounds_toArray, List.set_cons_zero, List.set_cons_succ]
          refine heldSkip 21 38 (by kernel_rfl) (by kernel_rfl) (by kernel_rfl) (by kernel_rfl) (fun _ _ _ h => h) (by rfl) (by assumption) ?_
          try simp only [Act.put, List.setIfInBounds_toArray, List.set_cons_zero, List.set_cons_succ]
          refine heldSkip 22 39 (by kernel_rfl) (by kernel_rfl) (by kernel_rfl) (by kernel_rfl) (fun _ _ _ h => h) (by rfl) (by assumption) ?_
          try simp only [Act.put, List.setIfInBounds_toArray, List.set_cons_zero, List.set_cons_succ]
          refine heldSkip 23 40 (by kernel_rfl) (by kernel_rfl) (by kernel_rfl) (by kernel_rfl) (fun _ _ _ h => h) (by rfl) (by assumption) ?_
          try simp only [Act.put, List.setIfInBounds_toArray, List.set_cons_zero, List.set_cons_succ]
          refine heldTake 24 41 (.bool true) (by kernel_rfl) (by kernel_rfl) (by kernel_rfl) (by kernel_rfl) (fun _ _ _ h => h) (by rfl) ?_ (by assumption) ?_
          · intro W hW
            try dsimp only at hW
            simp only [List.getElem?_toArray, List.getElem?_cons_succ, List.getElem?_cons_zero, Option.map_some, Option.some.injEq]
            go_simp
          try simp only [Act.put, List.setIfInBounds_toArray, List.set_cons_zero, List.set_cons_succ]
          refine wpAnyH_done (by kernel_rfl) ?_ _
          have hb7' := hide (Below.on hb hz2)
          clear hz1 hz2 hb1 hb2
          go_wp2
          go_ret
          exact said_no hb7'.out
      · obtain rfl : m = q := by omega
        go_wp2
        go_ret
        exact said_yes (take_eq_all heq.out hlm'.out hlk'.out) hb
  · have e1 : ((m : Int) != (k : Int)) = true := by rw [bne_iff_ne]; omega
    have e2 : (m != k) = true := by rw [bne_iff_ne]; omega
    have e3 : ((m : Int) == (k : Int)) = false := by rw [beq_eq_false_iff_ne]; omega
    have e4 : (m == k) = false := by rw [beq_eq_false_iff_ne]; omega
    clear hr hs hlm hlk hV h1
    go_enter Tryz.func56, Tryz.ntmps56
    go_wp2
    go_ret
    exact said_no (Below.refl _ _)
set_option maxRecDepth 100000 in
set_option maxHeartbeats 4000000 in
theorem rsame1_ok (hV : Stays V) (h1 : RSameS V) : RSame1 (IsCpx V) := by
  intro ld PA pn pc KA kn kc x ld2 PB qn qc KB jn jc y w hx hy
  have hx' := hide hx
  have hy' := hide hy
  have hV' := hide hV
  have h1' := hide h1
  have hpl := hide hx.lenP
  have hql := hide hy.lenP
  have hpn := hx.rowP.2.1
  have hqn := hy.rowP.2.1
  have hB0 := below_alloc (below_alloc (Below.refl w.heap.size w) (.cells #[.int .u8 ld, .slice PA pn pc, .slice KA kn kc] 62)) (.cells #[.int .u8 ld2, .slice PB qn qc, .slice KB jn jc] 62)
  have hX : ((w.alloc (.cells #[.int .u8 ld, .slice PA pn pc, .slice KA kn kc] 62)).alloc (.cells #[.int .u8 ld2, .slice PB qn qc, .slice KB jn jc] 62)).heap[w.heap.size + 1]? = some (.cells #[.int .u8 ld2, .slice PB qn qc, .slice KB jn jc] 62 (0, 0)) := blk_at _ _ _ _ (by simp)
  have hY : ((w.alloc (.cells #[.int .u8 ld, .slice PA pn pc, .slice KA kn kc] 62)).alloc (.cells #[.int .u8 ld2, .slice PB qn qc, .slice KB jn jc] 62)).heap[w.heap.size]? = some (.cells #[.int .u8 ld, .slice PA pn pc, .slice KA kn kc] 62 (0, 0)) := blk_alloc (blk_new _ _ _) _
  have p0 : ((w.alloc (.cells #[.int .u8 ld, .slice PA pn pc, .slice KA kn kc] 62)).alloc (.cells #[.int .u8 ld2, .slice PB qn qc, .slice KB jn jc] 62)).cell? ⟨w.heap.size, 0, none⟩ = some (.int .u8 ld) := blk_cell hY 0
  have p1 : ((w.alloc (.cells #[.int .u8 ld, .slice PA pn pc, .slice KA kn kc] 62)).alloc (.cells #[.int .u8 ld2, .slice PB qn qc, .slice KB jn jc] 62)).cell? ⟨w.heap.size, 1, none⟩ = some (.slice PA pn pc) := blk_cell hY 1
  have p2 : ((w.alloc (.cells #[.int .u8 ld, .slice PA pn pc, .slice KA kn kc] 62)).alloc (.cells #[.int .u8 ld2, .slice PB qn qc, .slice KB jn jc] 62)).cell? ⟨w.heap.size, 2, none⟩ = some (.slice KA kn kc) := blk_cell hY 2
  have q0 : ((w.alloc (.cells #[.int .u8 ld, .slice PA pn pc, .slice KA kn kc] 62)).alloc (.cells #[.int .u8 ld2, .slice PB qn qc, .slice KB jn jc] 62)).cell? ⟨w.heap.size + 1, 0, none⟩ = some (.int .u8 ld2) := blk_cell hX 0
  have q1 : ((w.alloc (.cells #[.int .u8 ld, .slice PA pn pc, .slice KA kn kc] 62)).alloc (.cells #[.int .u8 ld2, .slice PB qn qc, .slice KB jn jc] 62)).cell? ⟨w.heap.size + 1, 1, none⟩ = some (.slice PB qn qc) := blk_cell hX 1
  have q2 : ((w.alloc (.cells #[.int .u8 ld, .slice PA pn pc, .slice KA kn kc] 62)).alloc (.cells #[.int .u8 ld2, .slice PB qn qc, .slice KB jn jc] 62)).cell? ⟨w.heap.size + 1, 2, none⟩ = some (.slice KB jn jc) := blk_cell hX 2
  have v1 := conv_u8 (hx.rowK.below hB0) kc
  have v2 := conv_u8 (hy.rowK.below hB0) jc
  have hinj := hide (fun (h : strOfNums x.combs = strOfNums y.combs) => strOf_inj hx.rowK.2.2.1 hy.rowK.2.2.1 h)
  have hfin := hide (fun (e1 : ld = ld2) (e2 : x.combs = y.combs) (e3 : x.parts = y.parts) => (show x = y from by
    have f1 := hx.lead
    rw [e1, hy.lead] at f1
    cases x
    cases y
    simp only at f1 e2 e3
    simp [f1, e2, e3]))
  generalize strOfNums x.combs = s1 at *
  generalize strOfNums y.combs = s2 at *
  clear hx hy hV h1 hX hY
  by_cases hl : ld = ld2
  · subst hl
    by_cases hp : pn = qn
    · subst hp
      by_cases hs : s1 = s2
      · subst hs
        have hcm := hide (hinj.out rfl)
        clear hinj
        obtain ⟨W2, hW2⟩ : ∃ W2, W2 = ((w.alloc (.cells #[.int .u8 ld, .slice PA pn pc, .slice KA kn kc] 62)).alloc (.cells #[.int .u8 ld, .slice PB pn qc, .slice KB jn jc] 62)) := ⟨_, rfl⟩
        go_enter Tryz.func36, Tryz.ntmps36
        go_wp2
        rw [← hW2] at hB0 p1 q1 ⊢
        clear p0 p2 q0 q2 v1 v2 hW2
        go_loopw [5] (fun s wr => ∃ q : Nat, q ≤ pn ∧ s = .int .i64 q ∧ Hid (x.parts.take q = y.parts.take q) ∧ Below W2.heap.size W2 wr) (fun s _ => pn - (intOf s).toNat)
        case atStart => exact ⟨0, Nat.zero_le _, rfl, rfl, Below.refl _ _⟩
        case round =>
          obtain ⟨q, hq, rfl, heq, hb⟩ := hrel
          have hBw := Below.on hB0 hb
          have p1 := cell_later hb p1
          have q1 := cell_later hb q1
          by_cases hlt : q < pn
          · obtain ⟨b, off, SA, SC, rfl, hbl, c0, c1, hc⟩ := hx'.out.rowP.2.2 (by omega)
            obtain ⟨b2, off2, SB, SD, rfl, hbl2, d0, d1, hd⟩ := hy'.out.rowP.2.2 (by omega)
            obtain ⟨rc, -, -, -⟩ := hc q hlt
            obtain ⟨rd, -, -, -⟩ := hd q hlt
            have g0 := cell_later hBw (c0 q hlt)
            have g1 := cell_later hBw (c1 q hlt)
            have u0 := cell_later hBw (d0 q hlt)
            have u1 := cell_later hBw (d1 q hlt)
            have hq1 : q < x.parts.length := by have := hpl.out; omega
            have hq2 : q < y.parts.length := by have := hql.out; omega
            have hnx := hide (fun (he : px x.parts q = px y.parts q) => take_eq_succ heq.out hq1 hq2 ((px_at hq1).trans (he.trans (px_at hq2).symm)))
            have hcl := h1'.out (SA q) _ (SC q) (SB q) _ (SD q) _ _ wr.drew (rc.below hV'.out (show Below w.heap.size w wr.drew from hBw.drew)) (rd.below hV'.out (show Below w.heap.size w wr.drew from hBw.drew))
            have x0 : (0 : Int) ≤ (q : Int) := by omega
            have x1 : (q : Int) < (pn : Int) := by omega
            clear c0 c1 d0 d1 hc hd rc rd
            generalize px x.parts q = cc at *
            generalize px y.parts q = dd at *
            generalize SA q = sa at *
            generalize SC q = sc at *
            generalize SB q = sb at *
            generalize SD q = sd at *
            obtain ⟨t1, ht1⟩ : ∃ t1, cc.tag = t1 := ⟨_, rfl⟩
            obtain ⟨t2, ht2⟩ : ∃ t2, dd.tag = t2 := ⟨_, rfl⟩
            rw [ht1] at g0
            rw [ht2] at u0
            have hxy := hide (fun (e1 : t1 = t2) (e2 : cc.sims = dd.sims) => (show cc = dd from by
              rw [← ht1, ← ht2] at e1
              cases cc
              cases dd
              simp only at e1 e2
              simp [e1, e2]))
            clear ht1 ht2
            have hcl' := hide hcl
            clear hcl
            generalize cc.sims.length = sn at *
            generalize dd.sims.length = sm' at *
            have hS8 := hide (fun (W : World) (hW : Below wr.heap.size wr W) => (show W.cell? ⟨w.heap.size, 1, none⟩ = some (.slice (some ⟨b, off, none⟩) pn pc) ∧ W.cell? ⟨w.heap.size + 1, 1, none⟩ = some (.slice (some ⟨b2, off2, none⟩) pn qc) ∧ W.cell? ⟨b, off + q * 2, none⟩ = some (.string t1) ∧ W.cell? ⟨b, off + q * 2 + 1, none⟩ = some (.slice sa sn sc) ∧ W.cell? ⟨b2, off2 + q * 2, none⟩ = some (.string t2) ∧ W.cell? ⟨b2, off2 + q * 2 + 1, none⟩ = some (.slice sb sm' sd) from
              ⟨cell_later hW p1, cell_later hW q1, cell_later hW g0, cell_later hW g1, cell_later hW u0, cell_later hW u1⟩))
            by_cases ht : t1 = t2
            · subst ht
              go_wp2
              go_region_held3 (fun W => W.cell? ⟨w.heap.size, 1, none⟩ = some (.slice (some ⟨b, off, none⟩) pn pc) ∧ W.cell? ⟨w.heap.size + 1, 1, none⟩ = some (.slice (some ⟨b2, off2, none⟩) pn qc) ∧ W.cell? ⟨b, off + q * 2, none⟩ = some (.string t1) ∧ W.cell? ⟨b, off + q * 2 + 1, none⟩ = some (.slice sa sn sc) ∧ W.cell? ⟨b2, off2 + q * 2, none⟩ = some (.string t1) ∧ W.cell? ⟨b2, off2 + q * 2 + 1, none⟩ = some (.slice sb sm' sd)) (first | exact ⟨p1, q1, g0, g1, u0, u1⟩ | exact hS8.out _ (Below.on (w1 := wr.drew) (Below.refl _ _).drew hb7)) (first | (go_at_call 56; (with_reducible refine hcl'.out.mono ?_); rintro e7 w7 ⟨v, rfl, hv, hb7⟩))
              have hb7' := hide (Below.on (w1 := wr.drew) hb.drew hb7)
              have hv' := hide hv
              clear hb7 hv
              cases v
              · go_wp2
                go_ret
                exact said_no (Below.on hB0 hb7'.out)
              · go_wp2
                go_roundw
                case rel => exact ⟨q + 1, by omega, by go_num, hnx.out (hxy.out (by trivial) (hv'.out rfl)), hb7'.out⟩
                case measure => simp [intOf]; omega
            · have e1 : (t1.toList == t2.toList) = false := str_ne ht
              have e2 : (t1.toList != t2.toList) = true := by rw [bne, e1]; rfl
              have e3 : ¬ t1.toList = t2.toList := fun h => ht (toList_inj h)
              clear ht
              go_wp2
              go_quiet (fail)
              go_wp2
              go_ret
              exact said_no (below_drewN hBw _)
          · obtain rfl : pn = q := by omega
            go_wp2
            go_ret
            exact said_yes (hfin.out (by trivial) hcm.out (take_eq_all heq.out hpl.out.symm hql.out.symm)) hBw
      · have e1 : (s1.toList == s2.toList) = false := str_ne hs
        have e2 : (s1.toList != s2.toList) = true := by rw [bne, e1]; rfl
        have e3 : ¬ s1.toList = s2.toList := fun h => hs (toList_inj h)
        clear hs hinj hfin hx' hy'
        go_enter Tryz.func36, Tryz.ntmps36
        go_wp2
        go_ret
        exact said_no hB0
    · have e1 : ((pn : Int) != (qn : Int)) = true := by rw [bne_iff_ne]; omega
      have e2 : (pn != qn) = true := by rw [bne_iff_ne]; omega
      have e3 : ((pn : Int) == (qn : Int)) = false := by rw [beq_eq_false_iff_ne]; omega
      have e4 : (pn == qn) = false := by rw [beq_eq_false_iff_ne]; omega
      clear hinj hfin hx' hy' v1 v2
      go_enter Tryz.func36, Tryz.ntmps36
      go_wp2
      go_ret
      exact said_no hB0
  · have e1 : (ld != ld2) = true := by rw [bne_iff_ne]; exact hl
    have e3 : (ld == ld2) = false := by rw [beq_eq_false_iff_ne]; exact hl
    clear hinj hfin hx' hy' v1 v2
    go_enter Tryz.func36, Tryz.ntmps36
    go_wp2
    go_ret
    exact said_no hB0
end
/-- If Same says so, two lists are the same. -/
theorem rsame1V_ok : ∀ n, RSame1 (IsV n)
  | 0 => fun _ _ _ _ _ _ _ x _ _ _ _ _ _ _ _ _ _ _ => x.elim
  | n + 1 => rsame1_ok (isV_stays n) (rsameS_ok (isV_stays n) (rsame_ok (isV_stays n) (rsame1V_ok n)))
theorem rsameV_ok (n : Nat) : RSame (IsV n) := rsame_ok (isV_stays n) (rsame1V_ok n)
end Go.Proofs.YtljloicgjgbplaaGreat
