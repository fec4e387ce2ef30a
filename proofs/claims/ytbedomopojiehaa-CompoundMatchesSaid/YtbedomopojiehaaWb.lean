/- Walks: lists of attributes; two lists of numbers held against each other. No condition. -/
import Derived.Test.YtbedomopojiehaaWa
import Derived.Deep.QuietTactic
import Derived.BigQuiet
namespace Go.Proofs.Ytbedomopojiehaa
open Go.RowKit

def attrOk (l : List (ByteArray × ByteArray)) (j : Nat) : Prop :=
  namedB (nm l j) = true ∧ (vl l j).size ≤ 400 ∧ (0 < j → Op.bytesLess (nm l (j - 1)).toList (nm l j).toList = true)
instance (l : List (ByteArray × ByteArray)) (j : Nat) : Decidable (attrOk l j) := by unfold attrOk; infer_instance
def attrsB (l : List (ByteArray × ByteArray)) : Bool := decide (l.length ≤ 16) && decide (∀ j, j < l.length → attrOk l j)

theorem quiet_left {P : Program} {f : FuncId} {args : Array Value} {w : World} {n : Nat} {v : Value}
    (h : Calls P f args (w.drewN n) fun e w' => e = .returned v ∧ w.drewN n = w') : Calls P f args (w.drewN n) fun e w'' => e = .returned v ∧ ∃ m, w'' = w.drewN m :=
  h.mono fun _ _ ⟨he, hm⟩ => ⟨he, n, hm.symm⟩
theorem quiet_add {P : Program} {f : FuncId} {args : Array Value} {w : World} {a n : Nat} {v : Value}
    (h : Calls P f args (w.drewN (a + n)) fun e w' => e = .returned v ∧ ∃ m, w' = (w.drewN (a + n)).drewN m) :
    Calls P f args (w.drewN (a + n)) fun e w'' => e = .returned v ∧ ∃ m, w'' = w.drewN (a + m) :=
  h.mono fun _ _ ⟨he, m, hm⟩ => ⟨he, n + m, by rw [hm, World.drewN_drewN, Nat.add_assoc]⟩
theorem quiet_add_left {P : Program} {f : FuncId} {args : Array Value} {w : World} {a n : Nat} {v : Value}
    (h : Calls P f args (w.drewN (a + n)) fun e w' => e = .returned v ∧ w.drewN (a + n) = w') :
    Calls P f args (w.drewN (a + n)) fun e w'' => e = .returned v ∧ ∃ m, w'' = w.drewN (a + m) :=
  h.mono fun _ _ ⟨he, hm⟩ => ⟨he, n, hm.symm⟩
theorem below_drewN {B : Nat} {a w : World} (h : Below B a w) (n : Nat) : Below B a (w.drewN n) := ⟨h.os, h.tape, h.output, h.size, h.block⟩

theorem rattributes_ok (A : Option Addr) (n c : Nat) (l : List (ByteArray × ByteArray)) (w : World) (h : IsAttrs w A n l) :
    Calls Try.prog 61 #[.slice A n c] w fun e w' => e = .returned (.bool (attrsB l)) ∧ ∃ q, w' = w.drewN q := by
  obtain ⟨hl, hn, hs, ho⟩ := h
  go_enter Try.func61, Try.ntmps61
  by_cases h16 : n ≤ 16
  · go_wp2
    go_loopw [3] (fun i wr => ∃ k : Nat, k ≤ n ∧ i = .int .i64 k ∧ (∃ q, wr = w.drewN q) ∧ ∀ j, j < k → attrOk l j) (fun i _ => n - (intOf i).toNat)
    case atStart => exact ⟨0, Nat.zero_le _, rfl, ⟨0, rfl⟩, fun j hj => absurd hj (by omega)⟩
    case round =>
      obtain ⟨k, hk, rfl, ⟨q, rfl⟩, hne⟩ := hrel
      have hne' := hide hne
      clear hne
      by_cases hlt : k < n
      · obtain ⟨b, off, rfl, hbl, hc, hd⟩ := ho (by omega)
        have hck := hc k hlt
        have hdk := hd k hlt
        have hpk := hc (k - 1) (by omega)
        have hsz : (nm l k).size ≤ 9223372036854775807 ∧ (vl l k).size ≤ 9223372036854775807 := hs (l.getD k default) (by rw [List.getD_eq_getElem?_getD, List.getElem?_eq_getElem (by omega)]; exact List.getElem_mem _)
        obtain ⟨hsz1, hsz2⟩ := hsz
        clear hc hd ho hs
        have hno : Hid (¬ attrOk l k → attrsB l = false) := fun h => by
          simp [attrsB]; intro _; exact ⟨k, by omega, h⟩
        cases h1 : namedB (nm l k)
        · have hp2 : Hid (attrsB l = false) := hno.out fun h => by rw [h.1] at h1; cases h1
          clear hno
          go_wp2
          go_quiet ((go_at_call 50; exact quiet_add_left (rnamed_ok _ _ hsz1)))
          go_wp2
          go_ret
          exact ⟨ret_bool hp2.out.symm, _, World.drewN_drewN _ _ _⟩
        · by_cases h2 : (vl l k).size ≤ 400
          · by_cases h3 : k = 0
            · subst h3
              simp only [Nat.zero_mul, Nat.add_zero] at hck hdk
              clear hpk
              have ha : Hid (attrOk l 0) := ⟨h1, h2, fun h => absurd h (by omega)⟩
              have hd : decide (400 < ((vl l 0).size : Int)) = false := by simp; omega
              clear hno
              go_wp2
              go_quiet ((go_at_call 50; exact quiet_add_left (rnamed_ok _ _ hsz1)))
              go_wp2
              go_roundw
              case rel => exact ⟨0 + 1, by omega, rfl, ⟨_, rfl⟩, fun j hj => by
                obtain rfl : j = 0 := by omega
                exact ha.out⟩
              case measure => simp [intOf]; omega
            · have h3' : 0 < k := by omega
              have hd : decide (400 < ((vl l k).size : Int)) = false := by simp; omega
              have hd2 : decide (0 < (k : Int)) = true := by simp; omega
              cases h4 : Op.bytesLess (nm l (k - 1)).toList (nm l k).toList
              · have hp2 : Hid (attrsB l = false) := hno.out fun h => by have := h.2.2 h3'; rw [h4] at this; cases this
                clear hno
                go_wp2
                go_quiet ((go_at_call 50; exact quiet_add_left (rnamed_ok _ _ hsz1)))
                go_wp2
                go_ret
                exact ⟨ret_bool hp2.out.symm, _, World.drewN_drewN _ _ _⟩
              · have ha : Hid (attrOk l k) := ⟨h1, h2, fun _ => h4⟩
                clear hno
                go_wp2
                go_quiet ((go_at_call 50; exact quiet_add_left (rnamed_ok _ _ hsz1)))
                go_wp2
                go_roundw
                case rel => exact ⟨k + 1, by omega, by go_num, ⟨_, rfl⟩, fun j hj => by
                  by_cases h : j = k
                  · subst h; exact ha.out
                  · exact hne'.out j (by omega)⟩
                case measure => simp [intOf]; omega
          · have hp2 : Hid (attrsB l = false) := hno.out fun h => h2 h.2.1
            have hd : decide (400 < ((vl l k).size : Int)) = true := by simp; omega
            clear hno
            go_wp2
            go_quiet ((go_at_call 50; exact quiet_add_left (rnamed_ok _ _ hsz1)))
            go_wp2
            go_ret
            exact ⟨ret_bool hp2.out.symm, _, World.drewN_drewN _ _ _⟩
      · have hp : Hid (attrsB l = true) := by
          show attrsB l = true
          simp [attrsB]; exact ⟨by omega, fun j hj => hne'.out j (by omega)⟩
        go_wp2
        go_ret
        exact ⟨ret_bool hp.out.symm, _, rfl⟩
  · have hp : Hid (attrsB l = false) := by
      show attrsB l = false
      simp [attrsB]; omega
    go_wp2
    go_ret
    exact ⟨ret_bool hp.out.symm, 0, rfl⟩

theorem attributes_ok (A : Option Addr) (n c : Nat) (l : List (ByteArray × ByteArray)) (w : World) (h : IsAttrs w A n l) :
    Calls Try.prog 108 #[.slice A n c] w fun e w' => e = .returned (.bool (attrsB l)) ∧ Below w.heap.size w w' := by
  obtain ⟨hl, hn, hs, ho⟩ := h
  go_enter Try.func108, Try.ntmps108
  go_wp2
  go_loopw [7] (fun i wr => ∃ k : Nat, k ≤ n ∧ i = .int .i64 k ∧ Below w.heap.size w wr ∧ ∀ j, j < k → attrOk l j) (fun i _ => n - (intOf i).toNat)
  case atStart => exact ⟨0, Nat.zero_le _, rfl, Below.refl _ _, fun j hj => absurd hj (by omega)⟩
  case round =>
    obtain ⟨k, hk, rfl, hb, hne⟩ := hrel
    have hne' := hide hne
    clear hne
    by_cases hlt : k < n
    · obtain ⟨b, off, rfl, hbl, hc, hd⟩ := ho (by omega)
      have hck := (old hb _ _ hbl).trans (hc k hlt)
      have hdk := (old hb _ _ hbl).trans (hd k hlt)
      have hpk := (old hb _ _ hbl).trans (hc (k - 1) (by omega))
      have hbr : b < wr.heap.size := Nat.lt_of_lt_of_le hbl hb.size
      have hsz : (nm l k).size ≤ 9223372036854775807 ∧ (vl l k).size ≤ 9223372036854775807 := hs (l.getD k default) (by rw [List.getD_eq_getElem?_getD, List.getElem?_eq_getElem (by omega)]; exact List.getElem_mem _)
      obtain ⟨hsz1, hsz2⟩ := hsz
      clear hc hd ho hs
      have hno : Hid (¬ attrOk l k → attrsB l = false) := fun h => by
        simp [attrsB]; intro _; exact ⟨k, by omega, h⟩
      have hB : Hid (∀ o q, Below w.heap.size w ((wr.alloc o).drewN q)) := fun o q => below_drewN (below_alloc hb o) q
      cases h1 : namedB (nm l k)
      · have hp2 : Hid (attrsB l = false) := hno.out fun h => by rw [h.1] at h1; cases h1
        clear hno
        go_wp2
        go_quiet ((go_at_call 97; exact quiet_left (named_ok _ _ hsz1)))
        go_wp2
        go_ret
        exact ⟨ret_bool hp2.out.symm, hB.out _ _⟩
      · by_cases h2 : (vl l k).size ≤ 400
        · by_cases h3 : k = 0
          · subst h3
            simp only [Nat.zero_mul, Nat.add_zero] at hck hdk
            clear hpk
            have ha : Hid (attrOk l 0) := ⟨h1, h2, fun h => absurd h (by omega)⟩
            have hd : decide (400 < ((vl l 0).size : Int)) = false := by simp; omega
            clear hno
            go_wp2
            go_quiet ((go_at_call 97; exact quiet_left (named_ok _ _ hsz1)))
            go_wp2
            go_roundw
            case rel => exact ⟨0 + 1, by omega, rfl, hB.out _ _, fun j hj => by
              obtain rfl : j = 0 := by omega
              exact ha.out⟩
            case measure => simp [intOf]; omega
          · have h3' : 0 < k := by omega
            have hd : decide (400 < ((vl l k).size : Int)) = false := by simp; omega
            have hd2 : decide (0 < (k : Int)) = true := by simp; omega
            cases h4 : Op.bytesLess (nm l (k - 1)).toList (nm l k).toList
            · have hp2 : Hid (attrsB l = false) := hno.out fun h => by have := h.2.2 h3'; rw [h4] at this; cases this
              clear hno
              go_wp2
              go_quiet ((go_at_call 97; exact quiet_left (named_ok _ _ hsz1)))
              go_wp2
              go_ret
              exact ⟨ret_bool hp2.out.symm, hB.out _ _⟩
            · have ha : Hid (attrOk l k) := ⟨h1, h2, fun _ => h4⟩
              clear hno
              go_wp2
              go_quiet ((go_at_call 97; exact quiet_left (named_ok _ _ hsz1)))
              go_wp2
              go_roundw
              case rel => exact ⟨k + 1, by omega, by go_num, hB.out _ _, fun j hj => by
                by_cases h : j = k
                · subst h; exact ha.out
                · exact hne'.out j (by omega)⟩
              case measure => simp [intOf]; omega
        · have hp2 : Hid (attrsB l = false) := hno.out fun h => h2 h.2.1
          have hd : decide (400 < ((vl l k).size : Int)) = true := by simp; omega
          clear hno
          go_wp2
          go_quiet ((go_at_call 97; exact quiet_left (named_ok _ _ hsz1)))
          go_wp2
          go_ret
          exact ⟨ret_bool hp2.out.symm, hB.out _ _⟩
    · have hall : Hid (∀ j, j < l.length → attrOk l j) := fun j hj => hne'.out j (by omega)
      go_wp2
      go_ret
      exact ⟨ret_bool (by rw [Bool.eq_iff_iff]; simp [attrsB]; exact ⟨fun h => ⟨by omega, hall.out⟩, fun h => by omega⟩), hb⟩

end Go.Proofs.Ytbedomopojiehaa
