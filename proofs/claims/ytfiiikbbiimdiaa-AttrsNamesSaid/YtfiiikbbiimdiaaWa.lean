/- Walks: the small functions on texts and lists of numbers. No condition. -/
import Derived.Test.YtfiiikbbiimdiaaProg
import Derived.Test.YtfiiikbbiimdiaaBase
import Derived.Deep.QuietTactic
import Derived.BigQuiet
import Derived.Deep.OwnRows
import Derived.KernelRfl
namespace Go.Proofs.Ytfiiikbbiimdiaa
open Go.RowKit

theorem small_ok (x : Int) (w : World) : Calls Try.prog 98 #[.int .u8 x] w fun e w' => e = .returned (.bool (smallI x)) ∧ w = w' := by
  go_enter Try.func98, Try.ntmps98
  go_wp2
  all_goals (go_ret; exact ⟨ret_bool (by rw [Bool.eq_iff_iff]; simp [smallI] <;> omega), rfl⟩)

theorem named_no (s : ByteArray) (k : Nat) (hk : k < s.size) (h : smallI (byt s k) = false) : namedB s = false := by
  rw [Bool.eq_false_iff]; intro hc; rw [namedB_iff] at hc; have := hc.2.2.2.2 k hk; rw [h] at this; cases this

theorem named_ok (s : ByteArray) (w : World) (hs : s.size ≤ 9223372036854775807) : Calls Try.prog 91 #[.string s] w fun e w' => e = .returned (.bool (namedB s)) ∧ w = w' := by
  have hb := byt_get s
  by_cases h1 : 1 ≤ s.size ∧ s.size ≤ 64 ∧ 97 ≤ byt s 0 ∧ byt s 0 ≤ 122
  · obtain ⟨h1, h2, h3, h4⟩ := h1
    go_enter Try.func91, Try.ntmps91
    go_wp2
    go_loop [24] (fun i => ∃ k : Nat, k ≤ s.size ∧ i = .int .i64 k ∧ ∀ j, j < k → smallI (byt s j) = true) (fun i => s.size - (intOf i).toNat)
    case atStart => exact ⟨0, Nat.zero_le _, rfl, fun j hj => absurd hj (by omega)⟩
    case round =>
      obtain ⟨k, hk, rfl, hne⟩ := hrel
      have hne' := hide hne
      clear hne
      by_cases hlt : k < s.size
      · cases hsm : smallI (byt s k)
        · have hp := hide (named_no s k hlt hsm)
          go_wp2_with (go_at_call 98; refine (small_ok _ _).mono ?_; rintro e w1 ⟨rfl, rfl⟩)
          go_ret
          exact ⟨ret_bool hp.out.symm, rfl⟩
        · go_wp2_with (go_at_call 98; refine (small_ok _ _).mono ?_; rintro e w1 ⟨rfl, rfl⟩)
          go_round
          case rel => exact ⟨k + 1, by omega, by go_num, fun j hj => by
            by_cases h : j = k
            · subst h; exact hsm
            · exact hne'.out j (by omega)⟩
          case measure => simp [intOf]; omega
      · have hp : Hid (namedB s = true) := (namedB_iff s).2 ⟨h1, h2, h3, h4, fun j hj => hne'.out j (by omega)⟩
        go_wp2
        go_ret
        exact ⟨ret_bool hp.out.symm, rfl⟩
  · have hp : Hid (namedB s = false) := by
      show namedB s = false
      rw [Bool.eq_false_iff]; intro hc; rw [namedB_iff] at hc; exact h1 ⟨hc.1, hc.2.1, hc.2.2.1, hc.2.2.2.1⟩
    go_enter Try.func91, Try.ntmps91
    go_wp2
    all_goals first | (go_ret; exact ⟨ret_bool hp.out.symm, rfl⟩) | (exfalso; apply h1; simp at *; omega)

theorem named_no' (s : ByteArray) (k : Nat) (hk : k < s.size) (h : smallI (byt s k) = false ∨ (k = 0 ∧ ¬ (97 ≤ byt s k ∧ byt s k ≤ 122))) : namedB s = false := by
  rw [Bool.eq_false_iff]; intro hc; rw [namedB_iff] at hc
  rcases h with h | ⟨rfl, h⟩
  · have := hc.2.2.2.2 k hk; rw [h] at this; cases this
  · exact h ⟨hc.2.2.1, hc.2.2.2.1⟩

set_option maxHeartbeats 1000000 in
theorem rnamed_ok (s : ByteArray) (w : World) (hs : s.size ≤ 9223372036854775807) : Calls Try.prog 49 #[.string s] w fun e w' => e = .returned (.bool (namedB s)) ∧ w = w' := by
  have hb := byt_get s
  go_enter Try.func49, Try.ntmps49
  go_wp2
  go_loop [3] (fun i => ∃ k : Nat, k ≤ s.size ∧ i = .int .i64 k ∧ ∀ j, j < k → smallI (byt s j) = true ∧ (j = 0 → 97 ≤ byt s 0 ∧ byt s 0 ≤ 122)) (fun i => s.size - (intOf i).toNat)
  case atStart => exact ⟨0, Nat.zero_le _, rfl, fun j hj => absurd hj (by omega)⟩
  case round =>
    obtain ⟨k, hk, rfl, hne⟩ := hrel
    have hne' := hide hne
    clear hne
    by_cases hlt : k < s.size
    · have hp := named_no' s k hlt
      have hp' := hide hp
      clear hp
      rcases Nat.eq_zero_or_pos k with rfl | hpos
      all_goals
        go_wp2
        all_goals first
          | (go_round
             case rel => exact ⟨k + 1, by omega, by go_num, fun j hj => by
               by_cases h : j = k
               · subst h; refine ⟨?_, ?_⟩ <;> (clear hne' hp' ; simp [smallI] at *; first | done | omega | (exfalso; simp_all; done))
               · exact hne'.out j (by omega)⟩
             case measure => simp [intOf]; omega)
          | (go_round
             case rel => exact ⟨0 + 1, by omega, rfl, fun j hj => by
               obtain rfl : j = 0 := by omega
               refine ⟨?_, ?_⟩ <;> (clear hne' hp' ; simp [smallI] at *; first | done | omega | (exfalso; simp_all; done))⟩
             case measure => simp [intOf]; omega)
          | (go_ret; exact ⟨ret_bool (hp'.out (by clear hne' hp'; simp [smallI] at *; first | done | omega | (exfalso; simp_all; done))).symm, rfl⟩)
    · by_cases hsz : 1 ≤ s.size ∧ s.size ≤ 64
      · have h0 := hne'.out 0 (by omega)
        have hp : Hid (namedB s = true) := (namedB_iff s).2 ⟨hsz.1, hsz.2, (h0.2 rfl).1, (h0.2 rfl).2, fun j hj => (hne'.out j (by omega)).1⟩
        obtain ⟨hs1, hs2⟩ := hsz
        clear h0
        go_wp2
        go_ret
        exact ⟨ret_bool (by rw [hp.out]; simp; try omega), rfl⟩
      · have hp : Hid (namedB s = false) := by
          show namedB s = false
          rw [Bool.eq_false_iff]; intro hc; rw [namedB_iff] at hc; exact hsz ⟨hc.1, hc.2.1⟩
        go_wp2
        all_goals (go_ret; exact ⟨ret_bool (by rw [hp.out] <;> simp <;> omega), rfl⟩)

theorem index_ok (A : Option Addr) (n c : Nat) (xs : List Int) (x : Int) (w : World) (h : IsInts w A n xs) :
    Calls Try.prog 103 #[.slice A n c, .int .i64 x] w fun e w' => e = .returned (.int .i64 (posn xs x)) ∧ w = w' := by
  obtain ⟨hl, hn, ho⟩ := h
  go_enter Try.func103, Try.ntmps103
  go_wp2
  go_loop [5, 8, 10, 11, 12, 13, 14, 15, 16, 17, 18] (fun _ i _ _ _ _ _ _ _ _ _ => ∃ k : Nat, k ≤ n ∧ i = .int .i64 k ∧ ∀ j, j < k → ix xs j ≠ x) (fun _ i _ _ _ _ _ _ _ _ _ => n - (intOf i).toNat)
  case atStart => exact ⟨0, Nat.zero_le _, rfl, fun j hj => absurd hj (by omega)⟩
  case round =>
    obtain ⟨k, hk, rfl, hne⟩ := hrel
    by_cases hlt : k < n
    · obtain ⟨b, off, rfl, hbl, hc⟩ := ho (by omega)
      have hck := hc k hlt
      clear hc
      by_cases he : ix xs k = x
      · have hp := hide (posn_at (by omega) he hne)
        have he' : (x == ix xs k) = true := by simp [he]
        clear he hne
        go_wp2
        go_ret
        exact ⟨ret_int hp.out.symm, rfl⟩
      · have he' : (x == ix xs k) = false := by simpa using fun h => he h.symm
        clear ho
        have hne' := hide hne
        clear hne
        go_wp2
        go_round
        case rel => exact ⟨k + 1, by omega, by go_num, fun j hj => by
          by_cases h : j = k
          · subst h; exact he
          · exact hne'.out j (by omega)⟩
        case measure => simp [intOf]; omega
    · have hp := hide (posn_no (xs := xs) (x := x) (fun j hj => hne j (by omega)))
      clear hne
      go_wp2
      go_ret
      exact ⟨ret_int hp.out.symm, rfl⟩

theorem contains_ok (A : Option Addr) (n c : Nat) (xs : List Int) (x : Int) (w : World) (h : IsInts w A n xs) :
    Calls Try.prog 100 #[.slice A n c, .int .i64 x] w fun e w' => e = .returned (.bool (decide (x ∈ xs))) ∧ w = w' := by
  go_enter Try.func100, Try.ntmps100
  go_wp2_with fail
  refine (index_ok A n c xs x _ h).mono ?_
  rintro e w1 ⟨rfl, rfl⟩
  go_wp2
  go_ret
  exact ⟨ret_bool (by rw [Bool.eq_iff_iff]; simp [posn_neg]), rfl⟩

theorem times_ok (A : Option Addr) (n c : Nat) (xs : List Int) (x : Int) (w : World) (h : IsInts w A n xs) :
    Calls Try.prog 77 #[.slice A n c, .int .i64 x] w fun e w' => e = .returned (.int .i64 (xs.count x)) ∧ w = w' := by
  obtain ⟨hl, hn, ho⟩ := h
  go_enter Try.func77, Try.ntmps77
  go_wp2
  go_loop [5, 6] (fun m i => ∃ k : Nat, k ≤ n ∧ i = .int .i64 k ∧ m = .int .i64 (((xs.take k).count x : Nat) : Int)) (fun _ i => n - (intOf i).toNat)
  case atStart => exact ⟨0, Nat.zero_le _, rfl, rfl⟩
  case round =>
    obtain ⟨k, hk, rfl, rfl⟩ := hrel
    have hle := count_le xs x k
    by_cases hlt : k < n
    · obtain ⟨b, off, rfl, hbl, hc⟩ := ho (by omega)
      have hck := hc k hlt
      have hs := hide (count_snoc (xs := xs) (k := k) (by omega) x)
      clear hc
      by_cases he : ix xs k = x
      · have he' : (ix xs k == x) = true := by simp [he]
        have he2 := hide he
        clear he ho
        go_wp2
        go_round
        case rel => exact ⟨k + 1, by omega, by go_num, by rw [hs.out, if_pos he2.out]; go_num⟩
        case measure => simp [intOf]; omega
      · have he' : (ix xs k == x) = false := by simpa using he
        clear ho
        go_wp2
        go_round
        case rel => exact ⟨k + 1, by omega, by go_num, by rw [hs.out, if_neg he]; go_num⟩
        case measure => simp [intOf]; omega
    · have hp : Hid (xs.take k = xs) := List.take_of_length_le (by omega)
      go_wp2
      go_ret
      exact ⟨ret_int (by rw [hp.out]), rfl⟩
end Go.Proofs.Ytfiiikbbiimdiaa
/- Walks: lists of attributes; two lists of numbers held against each other. No condition. -/
namespace Go.Proofs.Ytfiiikbbiimdiaa
open Go.RowKit

def attrOk (l : List (ByteArray × ByteArray)) (j : Nat) : Prop :=
  namedB (nm l j) = true ∧ (vl l j).size ≤ 400 ∧ (0 < j → Op.bytesLess (nm l (j - 1)).toList (nm l j).toList = true)
instance (l : List (ByteArray × ByteArray)) (j : Nat) : Decidable (attrOk l j) := by unfold attrOk; infer_instance
def attrsB (l : List (ByteArray × ByteArray)) : Bool := decide (l.length ≤ 16) && decide (∀ j, j < l.length → attrOk l j)

theorem quiet_left {P : Program} {f : FuncId} {args : Array Value} {w : World} {n : Nat} {v : Value}
    (h : Calls P f args (w.drewN n) fun e w' => e = .returned v ∧ w.drewN n = w') : Calls P f args (w.drewN n) fun e w'' => e = .returned v ∧ ∃ m, w'' = w.drewN m :=
  h.mono fun _ _ ⟨he, hm⟩ => ⟨he, n, hm.symm⟩
theorem quiet_add {P : Program} {f : FuncId} {args : Array Value} {w : World} {a n : Nat} {v : Value}
    (h : Calls P f args (w.drewN (a + n)) fun e w' => e = .returned v ∧ ∃ m, w' = (w.drewN (a + n)).drewN m) :
    Calls P f args (w.drewN (a + n)) fun e w'' => e = .returned v ∧ ∃ m, w'' = w.drewN (a + m) :=
  h.mono fun _ _ ⟨he, m, hm⟩ => ⟨he, n + m, by rw [hm, World.drewN_drewN, Nat.add_assoc]⟩
theorem quiet_add_left {P : Program} {f : FuncId} {args : Array Value} {w : World} {a n : Nat} {v : Value}
    (h : Calls P f args (w.drewN (a + n)) fun e w' => e = .returned v ∧ w.drewN (a + n) = w') :
    Calls P f args (w.drewN (a + n)) fun e w'' => e = .returned v ∧ ∃ m, w'' = w.drewN (a + m) :=
  h.mono fun _ _ ⟨he, hm⟩ => ⟨he, n, hm.symm⟩
theorem below_drewN {B : Nat} {a w : World} (h : Below B a w) (n : Nat) : Below B a (w.drewN n) := ⟨h.os, h.tape, h.output, h.size, h.block⟩

theorem sameInts_ok (A B : Option Addr) (n m c d : Nat) (xs ys : List Int) (w : World) (h : IsInts w A n xs) (h' : IsInts w B m ys) :
    Calls Try.prog 33 #[.slice A n c, .slice B m d] w fun e w' => e = .returned (.bool (decide (xs = ys))) ∧ ∃ q, w' = w.drewN q := by
  obtain ⟨hl, hn, ho⟩ := h
  obtain ⟨hl', hn', ho'⟩ := h'
  go_enter Try.func33, Try.ntmps33
  by_cases hnm : n = m
  · subst hnm
    go_wp2
    go_loopw [5] (fun i wr => ∃ k : Nat, k ≤ n ∧ i = .int .i64 k ∧ (∃ q, wr = w.drewN q) ∧ ∀ j, j < k → ix xs j = ix ys j) (fun i _ => n - (intOf i).toNat)
    case atStart => exact ⟨0, Nat.zero_le _, rfl, ⟨0, rfl⟩, fun j hj => absurd hj (by omega)⟩
    case round =>
      obtain ⟨k, hk, rfl, ⟨q, rfl⟩, hne⟩ := hrel
      have hne' := hide hne
      clear hne
      by_cases hlt : k < n
      · obtain ⟨b, off, rfl, hbl, hc⟩ := ho (by omega)
        obtain ⟨b', off', rfl, hbl', hc'⟩ := ho' (by omega)
        have hck := hc k hlt
        have hck' := hc' k hlt
        clear hc hc'
        by_cases he : ix xs k = ix ys k
        · have he' : (ix xs k != ix ys k) = false := by simp [he]
          have he2 := hide he
          clear he ho ho'
          go_wp2
          go_quiet (fail)
          go_wp2
          go_roundw
          case rel => exact ⟨k + 1, by omega, by go_num, ⟨_, rfl⟩, fun j hj => by
            by_cases h : j = k
            · subst h; exact he2.out
            · exact hne'.out j (by omega)⟩
          case measure => simp [intOf]; omega
        · have he' : (ix xs k != ix ys k) = true := by simpa using he
          have hp : Hid (decide (xs = ys) = false) := by
            show decide (xs = ys) = false
            simp; rintro rfl; exact he rfl
          clear ho ho'
          go_wp2
          go_quiet (fail)
          go_wp2
          go_ret
          exact ⟨ret_bool hp.out.symm, _, World.drewN_drewN _ _ _⟩
      · have hp : Hid (decide (xs = ys) = true) := by
          show decide (xs = ys) = true
          simp
          refine List.ext_getElem (by omega) fun i h1 h2 => ?_
          have := hne'.out i (by omega)
          rwa [ix_get h1, ix_get h2] at this
        go_wp2
        go_ret
        exact ⟨ret_bool hp.out.symm, _, rfl⟩
  · have hp : Hid (decide (xs = ys) = false) := by
      show decide (xs = ys) = false
      simp; rintro rfl; omega
    go_wp2
    go_ret
    exact ⟨ret_bool hp.out.symm, 0, rfl⟩

theorem rattributes_ok (A : Option Addr) (n c : Nat) (l : List (ByteArray × ByteArray)) (w : World) (h : IsAttrs w A n l) :
    Calls Try.prog 76 #[.slice A n c] w fun e w' => e = .returned (.bool (attrsB l)) ∧ ∃ q, w' = w.drewN q := by
  obtain ⟨hl, hn, hs, ho⟩ := h
  go_enter Try.func76, Try.ntmps76
  by_cases h16 : n ≤ 16
  · go_wp2
    go_loopw [3] (fun i wr => ∃ k : Nat, k ≤ n ∧ i = .int .i64 k ∧ (∃ q, wr = w.drewN q) ∧ ∀ j, j < k → attrOk l j) (fun i _ => n - (intOf i).toNat)
    case atStart => exact ⟨0, Nat.zero_le _, rfl, ⟨0, rfl⟩, fun j hj => absurd hj (by omega)⟩
    case round =>
      obtain ⟨k, hk, rfl, ⟨q, rfl⟩, hne⟩ := hrel
      have hne' := hide hne
      clear hne
      by_cases hlt : k < n
      · obtain ⟨b, off, rfl, hbl, hc, hd⟩ := ho (by omega)
        have hck := hc k hlt
        have hdk := hd k hlt
        have hpk := hc (k - 1) (by omega)
        have hsz : (nm l k).size ≤ 9223372036854775807 ∧ (vl l k).size ≤ 9223372036854775807 := hs (l.getD k default) (by rw [List.getD_eq_getElem?_getD, List.getElem?_eq_getElem (by omega)]; exact List.getElem_mem _)
        obtain ⟨hsz1, hsz2⟩ := hsz
        clear hc hd ho hs
        have hno : Hid (¬ attrOk l k → attrsB l = false) := fun h => by
          simp [attrsB]; intro _; exact ⟨k, by omega, h⟩
        cases h1 : namedB (nm l k)
        · have hp2 : Hid (attrsB l = false) := hno.out fun h => by rw [h.1] at h1; cases h1
          clear hno
          go_wp2
          go_quiet ((go_at_call 49; exact quiet_add_left (rnamed_ok _ _ hsz1)))
          go_wp2
          go_ret
          exact ⟨ret_bool hp2.out.symm, _, World.drewN_drewN _ _ _⟩
        · by_cases h2 : (vl l k).size ≤ 400
          · by_cases h3 : k = 0
            · subst h3
              simp only [Nat.zero_mul, Nat.add_zero] at hck hdk
              clear hpk
              have ha : Hid (attrOk l 0) := ⟨h1, h2, fun h => absurd h (by omega)⟩
              have hd : decide (400 < ((vl l 0).size : Int)) = false := by simp; omega
              clear hno
              go_wp2
              go_quiet ((go_at_call 49; exact quiet_add_left (rnamed_ok _ _ hsz1)))
              go_wp2
              go_roundw
              case rel => exact ⟨0 + 1, by omega, rfl, ⟨_, rfl⟩, fun j hj => by
                obtain rfl : j = 0 := by omega
                exact ha.out⟩
              case measure => simp [intOf]; omega
            · have h3' : 0 < k := by omega
              have hd : decide (400 < ((vl l k).size : Int)) = false := by simp; omega
              have hd2 : decide (0 < (k : Int)) = true := by simp; omega
              cases h4 : Op.bytesLess (nm l (k - 1)).toList (nm l k).toList
              · have hp2 : Hid (attrsB l = false) := hno.out fun h => by have := h.2.2 h3'; rw [h4] at this; cases this
                clear hno
                go_wp2
                go_quiet ((go_at_call 49; exact quiet_add_left (rnamed_ok _ _ hsz1)))
                go_wp2
                go_ret
                exact ⟨ret_bool hp2.out.symm, _, World.drewN_drewN _ _ _⟩
              · have ha : Hid (attrOk l k) := ⟨h1, h2, fun _ => h4⟩
                clear hno
                go_wp2
                go_quiet ((go_at_call 49; exact quiet_add_left (rnamed_ok _ _ hsz1)))
                go_wp2
                go_roundw
                case rel => exact ⟨k + 1, by omega, by go_num, ⟨_, rfl⟩, fun j hj => by
                  by_cases h : j = k
                  · subst h; exact ha.out
                  · exact hne'.out j (by omega)⟩
                case measure => simp [intOf]; omega
          · have hp2 : Hid (attrsB l = false) := hno.out fun h => h2 h.2.1
            have hd : decide (400 < ((vl l k).size : Int)) = true := by simp; omega
            clear hno
            go_wp2
            go_quiet ((go_at_call 49; exact quiet_add_left (rnamed_ok _ _ hsz1)))
            go_wp2
            go_ret
            exact ⟨ret_bool hp2.out.symm, _, World.drewN_drewN _ _ _⟩
      · have hp : Hid (attrsB l = true) := by
          show attrsB l = true
          simp [attrsB]; exact ⟨by omega, fun j hj => hne'.out j (by omega)⟩
        go_wp2
        go_ret
        exact ⟨ret_bool hp.out.symm, _, rfl⟩
  · have hp : Hid (attrsB l = false) := by
      show attrsB l = false
      simp [attrsB]; omega
    go_wp2
    go_ret
    exact ⟨ret_bool hp.out.symm, 0, rfl⟩

theorem attributes_ok (A : Option Addr) (n c : Nat) (l : List (ByteArray × ByteArray)) (w : World) (h : IsAttrs w A n l) :
    Calls Try.prog 94 #[.slice A n c] w fun e w' => e = .returned (.bool (attrsB l)) ∧ Below w.heap.size w w' := by
  obtain ⟨hl, hn, hs, ho⟩ := h
  go_enter Try.func94, Try.ntmps94
  go_wp2
  go_loopw [7] (fun i wr => ∃ k : Nat, k ≤ n ∧ i = .int .i64 k ∧ Below w.heap.size w wr ∧ ∀ j, j < k → attrOk l j) (fun i _ => n - (intOf i).toNat)
  case atStart => exact ⟨0, Nat.zero_le _, rfl, Below.refl _ _, fun j hj => absurd hj (by omega)⟩
  case round =>
    obtain ⟨k, hk, rfl, hb, hne⟩ := hrel
    have hne' := hide hne
    clear hne
    by_cases hlt : k < n
    · obtain ⟨b, off, rfl, hbl, hc, hd⟩ := ho (by omega)
      have hck := (old hb _ _ hbl).trans (hc k hlt)
      have hdk := (old hb _ _ hbl).trans (hd k hlt)
      have hpk := (old hb _ _ hbl).trans (hc (k - 1) (by omega))
      have hbr : b < wr.heap.size := Nat.lt_of_lt_of_le hbl hb.size
      have hsz : (nm l k).size ≤ 9223372036854775807 ∧ (vl l k).size ≤ 9223372036854775807 := hs (l.getD k default) (by rw [List.getD_eq_getElem?_getD, List.getElem?_eq_getElem (by omega)]; exact List.getElem_mem _)
      obtain ⟨hsz1, hsz2⟩ := hsz
      clear hc hd ho hs
      have hno : Hid (¬ attrOk l k → attrsB l = false) := fun h => by
        simp [attrsB]; intro _; exact ⟨k, by omega, h⟩
      have hB : Hid (∀ o q, Below w.heap.size w ((wr.alloc o).drewN q)) := fun o q => below_drewN (below_alloc hb o) q
      cases h1 : namedB (nm l k)
      · have hp2 : Hid (attrsB l = false) := hno.out fun h => by rw [h.1] at h1; cases h1
        clear hno
        go_wp2
        go_quiet ((go_at_call 91; exact quiet_left (named_ok _ _ hsz1)))
        go_wp2
        go_ret
        exact ⟨ret_bool hp2.out.symm, hB.out _ _⟩
      · by_cases h2 : (vl l k).size ≤ 400
        · by_cases h3 : k = 0
          · subst h3
            simp only [Nat.zero_mul, Nat.add_zero] at hck hdk
            clear hpk
            have ha : Hid (attrOk l 0) := ⟨h1, h2, fun h => absurd h (by omega)⟩
            have hd : decide (400 < ((vl l 0).size : Int)) = false := by simp; omega
            clear hno
            go_wp2
            go_quiet ((go_at_call 91; exact quiet_left (named_ok _ _ hsz1)))
            go_wp2
            go_roundw
            case rel => exact ⟨0 + 1, by omega, rfl, hB.out _ _, fun j hj => by
              obtain rfl : j = 0 := by omega
              exact ha.out⟩
            case measure => simp [intOf]; omega
          · have h3' : 0 < k := by omega
            have hd : decide (400 < ((vl l k).size : Int)) = false := by simp; omega
            have hd2 : decide (0 < (k : Int)) = true := by simp; omega
            cases h4 : Op.bytesLess (nm l (k - 1)).toList (nm l k).toList
            · have hp2 : Hid (attrsB l = false) := hno.out fun h => by have := h.2.2 h3'; rw [h4] at this; cases this
              clear hno
              go_wp2
              go_quiet ((go_at_call 91; exact quiet_left (named_ok _ _ hsz1)))
              go_wp2
              go_ret
              exact ⟨ret_bool hp2.out.symm, hB.out _ _⟩
            · have ha : Hid (attrOk l k) := ⟨h1, h2, fun _ => h4⟩
              clear hno
              go_wp2
              go_quiet ((go_at_call 91; exact quiet_left (named_ok _ _ hsz1)))
              go_wp2
              go_roundw
              case rel => exact ⟨k + 1, by omega, by go_num, hB.out _ _, fun j hj => by
                by_cases h : j = k
                · subst h; exact ha.out
                · exact hne'.out j (by omega)⟩
              case measure => simp [intOf]; omega
        · have hp2 : Hid (attrsB l = false) := hno.out fun h => h2 h.2.1
          have hd : decide (400 < ((vl l k).size : Int)) = true := by simp; omega
          clear hno
          go_wp2
          go_quiet ((go_at_call 91; exact quiet_left (named_ok _ _ hsz1)))
          go_wp2
          go_ret
          exact ⟨ret_bool hp2.out.symm, hB.out _ _⟩
    · have hall : Hid (∀ j, j < l.length → attrOk l j) := fun j hj => hne'.out j (by omega)
      go_wp2
      go_ret
      exact ⟨ret_bool (by rw [Bool.eq_iff_iff]; simp [attrsB]; exact ⟨fun h => ⟨by omega, hall.out⟩, fun h => by omega⟩), hb⟩

end Go.Proofs.Ytfiiikbbiimdiaa
/- Walks: is an element linked rightly. No condition. -/
namespace Go.Proofs.Ytfiiikbbiimdiaa
open Go.RowKit

theorem info_bool : (Try.prog.info? 4).map (fun i => (i.zero, i.size, i.bytes)) = some (some (.bool false), 1, 1) := by kernel_rfl
theorem mk_bools (n : Nat) (hn : n ≤ 140737488351232) (W : World) :
    (Instr.makeSlice 122 (.int .i64 (n : Int)) (.int .i64 (n : Int))).run Try.prog W = .ok (.slice (some ⟨W.heap.size, 0, none⟩) n n) (W.alloc (.cells (madeCells #[.bool false] n) 4)) := by
  obtain ⟨i, hi, hz0, hz1, hz2⟩ := info_parts info_bool
  have hr := run_make (P := Try.prog) W 122 4 i (.bool false) Try.underlying122 hi hz0 .i64 .i64 (n : Int) (n : Int) (by omega) (by omega) (by rw [hz2]; omega) (by omega)
  rw [hz1, show (Value.bool false).cells = #[.bool false] from rfl] at hr
  simpa using hr

def kidOk (T : List ANode) (i j : Nat) : Prop :=
  0 ≤ ix (kids T i) j ∧ ix (kids T i) j < T.length ∧ par T (ix (kids T i) j).toNat = i ∧ ix (kids T i) j ∉ (kids T i).take j
instance (T : List ANode) (i j : Nat) : Decidable (kidOk T i j) := by unfold kidOk; infer_instance
def linkedB (T : List ANode) (i : Nat) : Bool :=
  decide (-1 ≤ par T i) && decide (par T i < T.length) && decide (i = 0 → par T i = -1) && decide (0 ≤ par T i → (i : Int) ∈ kids T (par T i).toNat) && decide (∀ j, j < (kids T i).length → kidOk T i j)
theorem linkedB_iff (T : List ANode) (i : Nat) : linkedB T i = true ↔ -1 ≤ par T i ∧ par T i < T.length ∧ (i = 0 → par T i = -1) ∧ (0 ≤ par T i → (i : Int) ∈ kids T (par T i).toNat) ∧ ∀ j, j < (kids T i).length → kidOk T i j := by
  simp only [linkedB, Bool.and_eq_true, decide_eq_true_eq, and_assoc]

theorem mem_take_succ {xs : List Int} {k : Nat} (h : k < xs.length) (x : Int) : x ∈ xs.take (k + 1) ↔ x ∈ xs.take k ∨ x = ix xs k := by
  rw [take_snoc' xs k h, List.mem_append, ix_get h]; simp

theorem linked_no {T : List ANode} {i j : Nat} (hj : j < (kids T i).length) (h : ¬ kidOk T i j) : linkedB T i = false := by
  rw [Bool.eq_false_iff]; intro hc; rw [linkedB_iff] at hc; exact h (hc.2.2.2.2 j hj)

theorem rowIs_made2 (w : World) (o1 o2 : Obj) (z : Value) (n : Nat) (t : TypeId) : (((w.alloc o1).alloc o2).alloc (.cells (madeCells #[z] n) t)).rowIs (w.heap.size + 1 + 1) t n (fun _ => z) := by
  have h := World.rowIs_made ((w.alloc o1).alloc o2) z n t
  simpa using h

theorem mem_take_zero (xs : List Int) (x : Int) : decide (x ∈ xs.take 0) = false := by simp

set_option maxHeartbeats 4000000 in
theorem linked_ok (A : Option Addr) (n c : Nat) (T : List ANode) (i : Nat) (w : World) (h : IsTree w A n T) (hi : i < n) (h64 : n ≤ 64) :
    Calls Try.prog 95 #[.agg #[.slice A n c], .int .i64 i] w fun e w' => e = .returned (.bool (linkedB T i)) ∧ Below w.heap.size w w' := by
  obtain ⟨hl, hn, hs, ho⟩ := h
  obtain ⟨b, off, aA, cA, aC, cC, rfl, hbl, c0, c1, c2, c3, hA, hC⟩ := ho (by omega)
  clear ho hs
  have g0 := c0 i hi
  have g1 := c1 i hi
  have g2 := c2 i hi
  have g3 := c3 i hi
  have hK := (hC i hi).1
  obtain ⟨-, hk2, hko⟩ := hK
  clear c0 c1
  have hmk := mk_bools n (by omega)
  generalize cA i = CA at hko g3
  by_cases h1 : -1 ≤ par T i ∧ par T i < n ∧ (i = 0 → par T i = -1)
  · obtain ⟨h1, h2, h3⟩ := h1
    by_cases hnin : 0 ≤ par T i ∧ ¬ (i : Int) ∈ kids T (par T i).toNat
    · obtain ⟨hp0, hin⟩ := hnin
      obtain ⟨p, hp⟩ := Int.eq_ofNat_of_zero_le hp0
      have hpn : p < n := by omega
      have g4 := c3 p hpn
      have hKp := (hC p hpn).1
      have hi0 : ¬ i = 0 := by omega
      clear c2 c3 hC hA h3
      have hr : Hid (linkedB T i = false) := by
        show linkedB T i = false
        rw [Bool.eq_false_iff]; intro hc; rw [linkedB_iff] at hc; exact hin (hc.2.2.2.1 hp0)
      rw [hp] at hin
      have hin' : decide ((i : Int) ∈ kids T p) = false := by simpa using hin
      have hKp' := hide hKp
      clear hKp hin hp0 hko
      go_enter Try.func95, Try.ntmps95
      go_wp2_with (go_at_call 100; refine (contains_ok _ _ _ _ _ _ (hKp'.out.below ?_)).mono ?_; (exact below_alloc (below_alloc (Below.refl _ _) _) _); rintro e w1 ⟨rfl, rfl⟩)
      go_ret
      exact ⟨ret_bool hr.out.symm, below_alloc (below_alloc (Below.refl _ _) _) _⟩
    · have hfin : Hid ((∀ j, j < (kids T i).length → kidOk T i j) → linkedB T i = true) := fun h => by
        rw [linkedB_iff]
        exact ⟨h1, by omega, h3, fun h4 => Classical.byContradiction fun h5 => hnin ⟨h4, h5⟩, h⟩
      have hno : Hid (∀ j, j < (kids T i).length → ¬ kidOk T i j → linkedB T i = false) := fun j => linked_no
      have hC2 := hide c2
      have hko' := hide hko
      by_cases hp0 : 0 ≤ par T i
      focus
        have hin : (i : Int) ∈ kids T (par T i).toNat := Classical.byContradiction fun h5 => hnin ⟨hp0, h5⟩
        obtain ⟨p, hp⟩ := Int.eq_ofNat_of_zero_le hp0
        have hpn : p < n := by omega
        have g4 := c3 p hpn
        have hKp := hide (hC p hpn).1
        have hi0 : ¬ i = 0 := by omega
        clear c2 c3 hC hA h3 hnin hko
        rw [hp] at hin
        have hin' : decide ((i : Int) ∈ kids T p) = true := by simpa using hin
        clear hin hp0
        go_enter Try.func95, Try.ntmps95
        go_wp2_with (go_at_call 100; refine (contains_ok _ _ _ _ _ _ (hKp.out.below ?_)).mono ?_; (exact below_alloc (below_alloc (Below.refl _ _) _) _); rintro e w1 ⟨rfl, rfl⟩)
        clear hKp hin' g4 hi0 hp
      rotate_left
      focus
        have hp : par T i = -1 := by omega
        clear c2 c3 hC hA h3 hnin hko
        have hq : ((par T i) != -1) = false := by simp [hp]
        cases hib : ((i : Int) == 0)
        all_goals
          go_enter Try.func95, Try.ntmps95
          go_wp2
          clear hp0 hp hib hq
      all_goals
        clear g0 g1 g2 g3 hmk
        go_loopw [56] (fun s wr => ∃ k : Nat, k ≤ (kids T i).length ∧ s = .int .i64 k ∧ Below w.heap.size w wr ∧ wr.cell? ⟨w.heap.size, 0, none⟩ = some (.slice (some ⟨b, off, none⟩) n c) ∧
            wr.rowIs (w.heap.size + 1 + 1) 4 n (fun x => .bool (decide ((x : Int) ∈ (kids T i).take k))) ∧ ∀ j, j < k → kidOk T i j) (fun s _ => (kids T i).length - (intOf s).toNat)
        case atStart =>
          refine ⟨0, Nat.zero_le _, rfl, below_alloc (below_alloc (below_alloc (Below.refl _ _) _) _) _, by go_simp, ?_, fun j hj => absurd hj (by omega)⟩
          exact (rowIs_made2 _ _ _ _ _ _).congr (fun x _ => by simp)
        case round =>
          obtain ⟨k, hk, rfl, hb, hbox, hrow, hne⟩ := hrel
          have hne' := hide hne
          clear hne
          by_cases hlt : k < (kids T i).length
          · have hkid : ∃ b' off', CA = some ⟨b', off', none⟩ ∧ b' < w.heap.size ∧ wr.cell? ⟨b', off' + k, none⟩ = some (.int .i64 (ix (kids T i) k)) := by
              obtain ⟨b', off', e1, e2, e3⟩ := hko'.out (by omega)
              exact ⟨b', off', e1, e2, (old hb _ _ e2).trans (e3 k hlt)⟩
            obtain ⟨b', off', rfl, hb', gk⟩ := hkid
            by_cases hrg : 0 ≤ ix (kids T i) k ∧ ix (kids T i) k < n
            · obtain ⟨x, hx⟩ := Int.eq_ofNat_of_zero_le hrg.1
              have hxn : x < n := by omega
              have gx := (old hb _ _ hbl).trans (hC2.out x hxn)
              have gs := hrow.cell hxn
              have gf := hrow.frozen x
              have hrow' := hide hrow
              clear hrow hrg
              by_cases hs : (x : Int) ∈ (kids T i).take k
              · have hr := hide (hno.out k hlt fun h => by have := h.2.2.2; rw [hx] at this; exact this hs)
                have hs' : decide ((x : Int) ∈ (kids T i).take k) = true := by simpa using hs
                clear hs hno hfin
                go_wp2
                go_ret
                exact ⟨ret_bool hr.out.symm, hb⟩
              · have hs' : decide ((x : Int) ∈ (kids T i).take k) = false := by simpa using hs
                clear hs
                by_cases hpx : par T x = i
                · have hpx' : (par T x != (i : Int)) = false := by simp [hpx]
                  have hpx2 := hide hpx
                  have hx' := hide hx
                  have hset := hide (hrow'.out.set x (.bool true))
                  have hs2 : Hid (¬ (x : Int) ∈ (kids T i).take k) := by
                    show ¬ _
                    simpa using hs'
                  clear hpx hno hfin
                  go_wp2
                  go_roundw
                  case rel =>
                    refine ⟨k + 1, by omega, by go_num, hb.setCell (by simp; omega) _, ?_, hset.out.congr fun y hy => ?_, fun j hj => ?_⟩
                    · rw [World.cell?_setCell_other _ _ _ _ (by intro e; injection e; omega)]; exact hbox
                    · simp only [mem_take_succ hlt, hx'.out]
                      by_cases hyx : y = x
                      · simp [hyx]
                      · have hyx' : ¬ ((y : Int) = (x : Int)) := by omega
                        simp [hyx, hyx']
                    · by_cases h : j = k
                      · subst h
                        refine ⟨by rw [hx'.out]; omega, by rw [hx'.out]; omega, by rw [hx'.out]; exact hpx2.out, by rw [hx'.out]; exact hs2.out⟩
                      · exact hne'.out j (by omega)
                  case measure => simp [intOf]; omega
                · have hpx' : (par T x != (i : Int)) = true := by simp [hpx]
                  have hr := hide (hno.out k hlt fun h => by have := h.2.2.1; rw [hx] at this; exact hpx this)
                  clear hpx hno hfin
                  go_wp2
                  go_ret
                  exact ⟨ret_bool hr.out.symm, hb⟩
            · have hr := hide (hno.out k hlt fun h => hrg ⟨h.1, by have := h.2.1; omega⟩)
              have hrow' := hide hrow
              have hrg' : ix (kids T i) k < 0 ∨ (0 ≤ ix (kids T i) k ∧ (n : Int) ≤ ix (kids T i) k) := by omega
              clear hrow hrg hno hfin
              rcases hrg' with h | ⟨h, h'⟩
              · go_wp2
                go_ret
                exact ⟨ret_bool hr.out.symm, hb⟩
              · go_wp2
                go_ret
                exact ⟨ret_bool hr.out.symm, hb⟩
          · have hr := hide (hfin.out fun j hj => hne'.out j (by omega))
            have hrow' := hide hrow
            clear hrow hno hfin
            go_wp2
            go_ret
            exact ⟨ret_bool hr.out.symm, hb⟩
  · have hr : Hid (linkedB T i = false) := by
      show linkedB T i = false
      rw [Bool.eq_false_iff]; intro hc; rw [linkedB_iff] at hc; exact h1 ⟨hc.1, by omega, hc.2.2.1⟩
    have h1' : par T i < -1 ∨ (-1 ≤ par T i ∧ (n : Int) ≤ par T i) ∨ (i = 0 ∧ 0 ≤ par T i ∧ par T i < n) := by omega
    clear c2 c3 hC hA h1 hko
    rcases h1' with h | ⟨h, h'⟩ | ⟨h0, h, h'⟩
    · go_enter Try.func95, Try.ntmps95
      go_wp2
      go_ret
      exact ⟨ret_bool hr.out.symm, below_alloc (below_alloc (Below.refl _ _) _) _⟩
    · go_enter Try.func95, Try.ntmps95
      go_wp2
      go_ret
      exact ⟨ret_bool hr.out.symm, below_alloc (below_alloc (Below.refl _ _) _) _⟩
    · have hi0 : ((i : Int) == 0) = true := by simp [h0]
      have hq : (par T i != -1) = true := by simp; omega
      clear h0
      go_enter Try.func95, Try.ntmps95
      go_wp2
      go_ret
      exact ⟨ret_bool hr.out.symm, below_alloc (below_alloc (Below.refl _ _) _) _⟩
end Go.Proofs.Ytfiiikbbiimdiaa
/- Walks: the check of a tree, by the program and by the reference. No condition. -/
namespace Go.Proofs.Ytfiiikbbiimdiaa
open Go.RowKit

/-- The element that is some steps up, or a number below 0. -/
def up (T : List ANode) : Nat → Int → Int
  | 0, x => x
  | k + 1, x => if x < 0 then x else up T k (par T x.toNat)
def outB (T : List ANode) (i : Nat) : Bool := decide (up T T.length (i : Int) < 0)
def goodB (T : List ANode) : Bool :=
  decide (1 ≤ T.length) && decide (T.length ≤ 64) && decide (∀ i, i < T.length → namedB (nd T i).tag = true ∧ attrsB (nd T i).attrs = true ∧ linkedB T i = true) && decide (∀ i, i < T.length → outB T i = true)
theorem goodB_iff (T : List ANode) : goodB T = true ↔ 1 ≤ T.length ∧ T.length ≤ 64 ∧ (∀ i, i < T.length → namedB (nd T i).tag = true ∧ attrsB (nd T i).attrs = true ∧ linkedB T i = true) ∧ ∀ i, i < T.length → outB T i = true := by
  simp only [goodB, Bool.and_eq_true, decide_eq_true_eq, and_assoc]
/-- The error of a tree. -/
def chk (T : List ANode) : Int := if goodB T = true then 0 else 8

theorem up_succ (T : List ANode) (k : Nat) (x : Int) : up T (k + 1) x = if up T k x < 0 then up T k x else par T (up T k x).toNat := by
  induction k generalizing x with
  | zero => simp only [up]; rfl
  | succ k ih =>
    rw [up]
    split
    · rename_i h; rw [show up T (k + 1) x = x by simp [up, h]]; simp [h]
    · rename_i h; rw [ih]; simp [up, h]
theorem up_neg (T : List ANode) (k : Nat) (x : Int) (h : x < 0) : up T k x = x := by
  cases k <;> simp [up, h]
theorem up_add (T : List ANode) (j k : Nat) (x : Int) : up T (j + k) x = up T k (up T j x) := by
  induction j generalizing x with
  | zero => simp [up]
  | succ j ih =>
    rw [show j + 1 + k = (j + k) + 1 by omega, up, up]
    split
    · rename_i h; rw [up_neg _ _ _ h]
    · rw [ih]
theorem up_stay (T : List ANode) {j k : Nat} (hjk : j ≤ k) (x : Int) (h : up T j x < 0) : up T k x < 0 := by
  obtain ⟨d, rfl⟩ := Nat.exists_eq_add_of_le hjk
  rw [up_add, up_neg _ _ _ h]; exact h

theorem up_lt {T : List ANode} (hr : ∀ i, i < T.length → par T i < T.length) (m : Nat) (x : Int) (hx : x < T.length) : up T m x < T.length := by
  induction m generalizing x with
  | zero => exact hx
  | succ m ih =>
    rw [up]
    split
    · exact hx
    · exact ih _ (hr _ (by omega))

theorem chk_bad {T : List ANode} (h : ¬ goodB T = true) : chk T = 8 := by simp [chk, h]
theorem chk_ok {T : List ANode} (h : goodB T = true) : chk T = 0 := by simp [chk, h]

theorem cell_in {w : World} {p : Addr} {v : Value} (h : w.cell? p = some v) : p.block < w.heap.size := by
  rcases Nat.lt_or_ge p.block w.heap.size with h1 | h1
  · exact h1
  · exfalso
    simp [World.cell?, Array.getElem?_eq_none h1] at h

set_option maxHeartbeats 1000000 in
theorem check_ok (A : Option Addr) (n c : Nat) (T : List ANode) (w : World) (h : IsTree w A n T) :
    Calls Try.prog 80 #[.agg #[.slice A n c]] w fun e w' => e = .returned (.int .i64 (chk T)) ∧ Below w.heap.size w w' := by
  have hT := hide h
  obtain ⟨hl, hn, hs, ho⟩ := h
  by_cases hn1 : 1 ≤ n ∧ n ≤ 64
  · obtain ⟨hn1, hn2⟩ := hn1
    obtain ⟨b, off, aA, cA, aC, cC, rfl, hbl, c0, c1, c2, c3, hA, hC⟩ := ho (by omega)
    clear ho hs
    have c0' := hide c0
    have c1' := hide c1
    have c2' := hide c2
    have c3' := hide c3
    have hA' := hide hA
    have hT' := hide hT
    clear c0 c1 c2 c3 hA hC hT
    go_enter Try.func80, Try.ntmps80
    go_wp2
    go_loopw [21] (fun s wr => ∃ k : Nat, k ≤ n ∧ s = .int .i64 k ∧ Below w.heap.size w wr ∧ wr.cell? ⟨w.heap.size, 0, none⟩ = some (.slice (some ⟨b, off, none⟩) n c) ∧
        ∀ i, i < k → namedB (nd T i).tag = true ∧ attrsB (nd T i).attrs = true ∧ linkedB T i = true) (fun s _ => n - (intOf s).toNat)
    case atStart => exact ⟨0, Nat.zero_le _, rfl, below_alloc (Below.refl _ _) _, by go_simp, fun j hj => absurd hj (by omega)⟩
    case round =>
      obtain ⟨k, hk, rfl, hb, hbox, hne⟩ := hrel
      have hne' := hide hne
      clear hne
      by_cases hlt : k < n
      · have g0 := (old hb _ _ hbl).trans (c0'.out k hlt)
        have g1 := (old hb _ _ hbl).trans (c1'.out k hlt)
        have g2 := (old hb _ _ hbl).trans (c2'.out k hlt)
        have g3 := (old hb _ _ hbl).trans (c3'.out k hlt)
        have hbr : b < wr.heap.size := Nat.lt_of_lt_of_le hbl hb.size
        have hbw : w.heap.size < wr.heap.size := cell_in hbox
        have hsz1 : (nd T k).tag.size ≤ 9223372036854775807 := by
          have := hT'.out.out.2.2.1 (nd T k) (by unfold nd; rw [List.getD_eq_getElem?_getD, List.getElem?_eq_getElem (by omega)]; exact List.getElem_mem _)
          exact this
        have hgA := hide (hA'.out k hlt).1
        have hbad : Hid (¬ (namedB (nd T k).tag = true ∧ attrsB (nd T k).attrs = true ∧ linkedB T k = true) → chk T = 8) := fun hx => chk_bad fun hg => hx (((goodB_iff T).1 hg).2.2.1 k (by omega))
        cases h1 : namedB (nd T k).tag
        · have hr : Hid (chk T = 8) := hbad.out fun hx => by rw [h1] at hx; cases hx.1
          clear hbad
          go_wp2_with (go_at_call 91; refine (named_ok _ _ hsz1).mono ?_; rintro e w1 ⟨rfl, rfl⟩)
          go_ret
          exact ⟨ret_int hr.out.symm, below_alloc hb _⟩
        · cases h2 : attrsB (nd T k).attrs
          · have hr : Hid (chk T = 8) := hbad.out fun hx => by rw [h2] at hx; cases hx.2.1
            clear hbad
            go_wp2_with (first | (go_at_call 91; refine (named_ok _ _ hsz1).mono ?_; rintro e w1 ⟨rfl, rfl⟩) | (go_at_call 94; refine (attributes_ok _ _ _ _ _ (hgA.out.below (below_alloc hb _))).mono ?_; rintro e w1 ⟨rfl, hb1⟩))
            go_ret
            exact ⟨ret_int hr.out.symm, Below.on (below_alloc hb _) hb1⟩
          · cases h3 : linkedB T k
            · have hr : Hid (chk T = 8) := hbad.out fun hx => by rw [h3] at hx; cases hx.2.2
              clear hbad
              go_wp2_with (first | (go_at_call 91; refine (named_ok _ _ hsz1).mono ?_; rintro e w1 ⟨rfl, rfl⟩) | (go_at_call 94; refine (attributes_ok _ _ _ _ _ (hgA.out.below (below_alloc hb _))).mono ?_; rintro e w1 ⟨rfl, hb1⟩; have hbx := cell_later hb1 (a := ⟨w.heap.size, 0, none⟩) (v := .slice (some ⟨b, off, none⟩) n c) (by go_simp)) | (go_at_call 95; refine (linked_ok _ _ _ _ _ _ (hT'.out.out.below (Below.on (below_alloc hb _) hb1)) hlt hn2).mono ?_; rintro e w2 ⟨rfl, hb2⟩))
              go_ret
              exact ⟨ret_int hr.out.symm, Below.on (Below.on (below_alloc hb _) hb1) hb2⟩
            · clear hbad
              go_wp2_with (first | (go_at_call 91; refine (named_ok _ _ hsz1).mono ?_; rintro e w1 ⟨rfl, rfl⟩) | (go_at_call 94; refine (attributes_ok _ _ _ _ _ (hgA.out.below (below_alloc hb _))).mono ?_; rintro e w1 ⟨rfl, hb1⟩; have hbx := cell_later hb1 (a := ⟨w.heap.size, 0, none⟩) (v := .slice (some ⟨b, off, none⟩) n c) (by go_simp)) | (go_at_call 95; refine (linked_ok _ _ _ _ _ _ (hT'.out.out.below (Below.on (below_alloc hb _) hb1)) hlt hn2).mono ?_; rintro e w2 ⟨rfl, hb2⟩))
              go_roundw
              case rel => exact ⟨k + 1, by omega, by go_num, Below.on (Below.on (below_alloc hb _) hb1) hb2, cell_later hb2 hbx, fun j hj => by
                by_cases h : j = k
                · subst h; exact ⟨h1, h2, h3⟩
                · exact hne'.out j (by omega)⟩
              case measure => simp [intOf]; omega
      · have hall : Hid (∀ i, i < n → namedB (nd T i).tag = true ∧ attrsB (nd T i).attrs = true ∧ linkedB T i = true) := fun i hi => hne'.out i (by omega)
        have hrg : Hid (∀ i, i < T.length → par T i < T.length) := fun i hi => ((linkedB_iff T i).1 (hall.out i (by omega)).2.2).2.1
        clear hne'
        go_wp2
        go_loop [46] (fun s => ∃ k : Nat, k ≤ n ∧ s = .int .i64 k ∧ ∀ i, i < k → outB T i = true) (fun s => n - (intOf s).toNat)
        case atStart => exact ⟨0, Nat.zero_le _, rfl, fun j hj => absurd hj (by omega)⟩
        case round =>
          obtain ⟨i, hi, rfl, hne⟩ := hrel
          have hne' := hide hne
          clear hne
          by_cases hlt2 : i < n
          · go_wp2
            go_loop [6, 7] (fun s q => ∃ m : Nat, m ≤ n ∧ s = .int .i64 m ∧ q = .int .i64 (up T m i)) (fun s _ => n + 1 - (intOf s).toNat)
            case atStart => exact ⟨0, Nat.zero_le _, rfl, rfl⟩
            case round =>
              obtain ⟨m, hm, rfl, rfl⟩ := hrel
              have hul := up_lt hrg.out m i (by omega)
              by_cases hq : up T m i < 0
              · have hout : Hid (outB T i = true) := by
                  show outB T i = true
                  simp only [outB, decide_eq_true_eq]
                  exact up_stay T (by omega) _ hq
                go_wp2
                go_round
                case rel => exact ⟨i + 1, by omega, by go_num, fun j hj => by
                  by_cases h : j = i
                  · subst h; exact hout.out
                  · exact hne'.out j (by omega)⟩
                case measure => simp [intOf]; omega
              · obtain ⟨q, hqe⟩ := Int.eq_ofNat_of_zero_le (show 0 ≤ up T m i by omega)
                have hqn : q < n := by omega
                have hus := hide (up_succ T m i)
                have gq := (old hb _ _ hbl).trans (c2'.out q hqn)
                by_cases hmn : m < n
                · have hqe' := hide hqe
                  go_wp2
                  go_round
                  case rel => exact ⟨m + 1, by omega, by go_num, by rw [hus.out, if_neg (by rw [hqe'.out]; omega), hqe'.out]; rfl⟩
                  case measure => simp [intOf]; omega
                · have hr : Hid (chk T = 8) := chk_bad fun hg => by
                    have h1 := ((goodB_iff T).1 hg).2.2.2 i (by omega)
                    simp only [outB, decide_eq_true_eq] at h1
                    rw [show T.length = m by omega] at h1
                    omega
                  go_wp2
                  go_ret
                  exact ⟨ret_int hr.out.symm, hb⟩
          · have hr : Hid (chk T = 0) := chk_ok ((goodB_iff T).2 ⟨by omega, by omega, fun j hj => hall.out j (by omega), fun j hj => hne'.out j (by omega)⟩)
            go_wp2
            go_ret
            exact ⟨ret_int hr.out.symm, hb⟩
  · have hr : Hid (chk T = 8) := chk_bad fun hg => hn1 ⟨by have := ((goodB_iff T).1 hg).1; omega, by have := ((goodB_iff T).1 hg).2.1; omega⟩
    have hn1' : n < 1 ∨ 64 < n := by omega
    clear hn1 ho hs hT
    rcases hn1' with h | h
    · go_enter Try.func80, Try.ntmps80
      go_wp2
      go_ret
      exact ⟨ret_int hr.out.symm, below_alloc (Below.refl _ _) _⟩
    · go_enter Try.func80, Try.ntmps80
      go_wp2
      go_ret
      exact ⟨ret_int hr.out.symm, below_alloc (Below.refl _ _) _⟩
end Go.Proofs.Ytfiiikbbiimdiaa
/- Walks: the reference's check of a tree, which answers as the program's. No condition. -/
namespace Go.Proofs.Ytfiiikbbiimdiaa
open Go.RowKit

theorem nodup_range_le : ∀ (n : Nat) (l : List Int), l.Nodup → (∀ x ∈ l, 0 ≤ x ∧ x < n) → l.length ≤ n
  | 0, l, _, h => by
    cases l with
    | nil => simp
    | cons a l => have := h a (by simp); omega
  | n + 1, l, hd, h => by
    have h1 := nodup_range_le n (l.erase (n : Int)) (hd.erase _) (fun x hx => by
      have hm := List.mem_of_mem_erase hx
      have h2 := h x hm
      have h3 : x ≠ (n : Int) := fun e => by subst e; exact (List.Nodup.not_mem_erase hd) hx
      omega)
    have h2 : l.length ≤ (l.erase (n : Int)).length + 1 := by rw [List.length_erase]; split <;> omega
    omega

theorem take_nodup {l : List Int} (h : ∀ j, j < l.length → ix l j ∉ l.take j) : l.Nodup := by
  rw [List.nodup_iff_pairwise_ne, List.pairwise_iff_getElem]
  intro i j hi hj hij e
  refine h j hj ?_
  rw [ix_get hj, ← e]
  exact List.mem_take_iff_getElem.2 ⟨i, by omega, rfl⟩

theorem nodup_take {l : List Int} (h : l.Nodup) (j : Nat) (hj : j < l.length) : ix l j ∉ l.take j := by
  intro hm
  obtain ⟨i, hi, e⟩ := List.mem_take_iff_getElem.1 hm
  rw [ix_get hj] at e
  have h2 := List.pairwise_iff_getElem.1 (List.nodup_iff_pairwise_ne.1 h) i j (by omega) hj (by omega)
  exact h2 e

/-- What the reference asks of a tree. -/
def refGood (T : List ANode) : Prop :=
  1 ≤ T.length ∧ T.length ≤ 64 ∧ par T 0 = -1 ∧
  (∀ i, i < T.length → (namedB (nd T i).tag = true ∧ attrsB (nd T i).attrs = true ∧ -1 ≤ par T i ∧ par T i < T.length ∧ (kids T i).length ≤ T.length) ∧ ∀ j, j < (kids T i).length → 0 ≤ ix (kids T i) j ∧ ix (kids T i) j < T.length) ∧
  (∀ i, i < T.length → ∀ k, k < T.length → (kids T i).count (k : Int) = if par T k = i then 1 else 0) ∧
  ∀ i, i < T.length → outB T i = true

theorem mem_ix {l : List Int} {x : Int} (h : x ∈ l) : ∃ j, j < l.length ∧ ix l j = x := by
  obtain ⟨j, hj, e⟩ := List.getElem_of_mem h
  exact ⟨j, hj, by rw [ix_get hj, e]⟩
theorem ix_mem {l : List Int} {j : Nat} (h : j < l.length) : ix l j ∈ l := by rw [ix_get h]; exact List.getElem_mem _

theorem good_ref (T : List ANode) : goodB T = true ↔ refGood T := by
  rw [goodB_iff]
  constructor
  · rintro ⟨h1, h2, h3, h4⟩
    have hL : ∀ i, i < T.length → _ := fun i hi => (linkedB_iff T i).1 (h3 i hi).2.2
    refine ⟨h1, h2, (hL 0 (by omega)).2.2.1 rfl, fun i hi => ⟨⟨(h3 i hi).1, (h3 i hi).2.1, (hL i hi).1, (hL i hi).2.1, ?_⟩, fun j hj => ⟨((hL i hi).2.2.2.2 j hj).1, ((hL i hi).2.2.2.2 j hj).2.1⟩⟩, fun i hi k hk => ?_, h4⟩
    · refine nodup_range_le _ _ (take_nodup fun j hj => ((hL i hi).2.2.2.2 j hj).2.2.2) fun x hx => ?_
      obtain ⟨j, hj, rfl⟩ := mem_ix hx
      exact ⟨((hL i hi).2.2.2.2 j hj).1, ((hL i hi).2.2.2.2 j hj).2.1⟩
    · have hnd : (kids T i).Nodup := take_nodup fun j hj => ((hL i hi).2.2.2.2 j hj).2.2.2
      have hmem : (k : Int) ∈ kids T i ↔ par T k = i := by
        constructor
        · intro hm
          obtain ⟨j, hj, e⟩ := mem_ix hm
          have := ((hL i hi).2.2.2.2 j hj).2.2.1
          rw [e] at this
          simpa using this
        · intro e
          have := (hL k hk).2.2.2.1 (by omega)
          rw [e] at this
          simpa using this
      by_cases hp : par T k = i
      · rw [if_pos hp, hnd.count, if_pos (hmem.2 hp)]
      · rw [if_neg hp, hnd.count, if_neg (fun h => hp (hmem.1 h))]
  · rintro ⟨h1, h2, h0, h3, h5, h4⟩
    refine ⟨h1, h2, fun i hi => ⟨(h3 i hi).1.1, (h3 i hi).1.2.1, (linkedB_iff T i).2 ⟨(h3 i hi).1.2.2.1, (h3 i hi).1.2.2.2.1, fun e => by subst e; exact h0, fun hp => ?_, fun j hj => ?_⟩⟩, h4⟩
    · have hlt := (h3 i hi).1.2.2.2.1
      have := h5 (par T i).toNat (by omega) i hi
      rw [if_pos (by omega)] at this
      exact List.count_pos_iff.1 (by omega)
    · have hr := (h3 i hi).2 j hj
      obtain ⟨x, hx⟩ := Int.eq_ofNat_of_zero_le hr.1
      have hmem : (x : Int) ∈ kids T i := by rw [← hx]; exact ix_mem hj
      have hc := h5 i hi x (by omega)
      have hpos := List.count_pos_iff.2 hmem
      have hp : par T x = i := by
        by_cases hp : par T x = i
        · exact hp
        · rw [if_neg hp] at hc; omega
      refine ⟨hr.1, hr.2, by rw [hx]; exact hp, ?_⟩
      have hnd : (kids T i).Nodup := by
        rw [List.nodup_iff_count]
        intro a
        by_cases ha : a ∈ kids T i
        case neg => rw [List.count_eq_zero_of_not_mem ha]; omega
        obtain ⟨j', hj', e⟩ := mem_ix ha
        have hr' := (h3 i hi).2 j' hj'
        obtain ⟨y, hy⟩ := Int.eq_ofNat_of_zero_le hr'.1
        have := h5 i hi y (by omega)
        rw [← e, hy, this]
        split <;> omega
      exact nodup_take hnd j hj

theorem chk_ref {T : List ANode} (h : ¬ refGood T) : chk T = 8 := chk_bad fun hg => h ((good_ref T).1 hg)
theorem chk_ref_ok {T : List ANode} (h : refGood T) : chk T = 0 := chk_ok ((good_ref T).2 h)

set_option maxRecDepth 100000 in
set_option maxHeartbeats 4000000 in
theorem rcheck_ok (A : Option Addr) (n c : Nat) (T : List ANode) (w : World) (h : IsTree w A n T) :
    Calls Try.prog 50 #[.agg #[.slice A n c]] w fun e w' => e = .returned (.int .i64 (chk T)) ∧ Below w.heap.size w w' := by
  have hT := hide h
  obtain ⟨hl, hn, hs, ho⟩ := h
  by_cases hn1 : 1 ≤ n ∧ n ≤ 64
  · obtain ⟨hn1, hn2⟩ := hn1
    obtain ⟨b, off, aA, cA, aC, cC, rfl, hbl, c0, c1, c2, c3, hA, hC⟩ := ho (by omega)
    clear ho hs
    have c0' := hide c0
    have c1' := hide c1
    have c2' := hide c2
    have c3' := hide c3
    have hA' := hide hA
    have hC' := hide hC
    have hT' := hide hT
    have gz := c2 0 (by omega)
    simp only [Nat.zero_mul, Nat.add_zero] at gz
    clear c0 c1 c2 c3 hA hC hT
    by_cases hz : par T 0 = -1
    · have hzq : (par T 0 != -1) = false := by simp [hz]
      have hz' := hide hz
      clear hz
      go_enter Try.func50, Try.ntmps50
      go_wp2
      clear gz
      go_loopw [4] (fun s wr => ∃ k : Nat, k ≤ n ∧ s = .int .i64 k ∧ Below w.heap.size w wr ∧ wr.cell? ⟨w.heap.size, 0, none⟩ = some (.slice (some ⟨b, off, none⟩) n c) ∧
          ∀ i, i < k → (namedB (nd T i).tag = true ∧ attrsB (nd T i).attrs = true ∧ -1 ≤ par T i ∧ par T i < T.length ∧ (kids T i).length ≤ T.length) ∧ ∀ j, j < (kids T i).length → 0 ≤ ix (kids T i) j ∧ ix (kids T i) j < T.length) (fun s _ => n - (intOf s).toNat)
      case atStart => exact ⟨0, Nat.zero_le _, rfl, below_alloc (Below.refl _ _) _, by go_simp, fun j hj => absurd hj (by omega)⟩
      case round =>
        obtain ⟨k, hk, rfl, hb, hbox, hne⟩ := hrel
        have hne' := hide hne
        clear hne
        by_cases hlt : k < n
        · have g0 := (old hb _ _ hbl).trans (c0'.out k hlt)
          have g1 := (old hb _ _ hbl).trans (c1'.out k hlt)
          have g2 := (old hb _ _ hbl).trans (c2'.out k hlt)
          have g3 := (old hb _ _ hbl).trans (c3'.out k hlt)
          have hgC := hide (hC'.out k hlt).1
          generalize cA k = CA at g3 hgC
          have hbr : b < wr.heap.size := Nat.lt_of_lt_of_le hbl hb.size
          have hbw : w.heap.size < wr.heap.size := cell_in hbox
          have hsz1 : (nd T k).tag.size ≤ 9223372036854775807 := by
            have := hT'.out.out.2.2.1 (nd T k) (by unfold nd; rw [List.getD_eq_getElem?_getD, List.getElem?_eq_getElem (by omega)]; exact List.getElem_mem _)
            exact this
          have hgA := hide (hA'.out k hlt).1
          have hkn : (kids T k).length ≤ 9223372036854775807 := hgC.out.2.1
          have hbad : Hid (¬ (namedB (nd T k).tag = true ∧ attrsB (nd T k).attrs = true ∧ -1 ≤ par T k ∧ par T k < T.length ∧ (kids T k).length ≤ T.length) → chk T = 8) := fun hx => chk_ref fun hg => hx (hg.2.2.2.1 k (by omega)).1
          cases h1 : namedB (nd T k).tag
          · have hr : Hid (chk T = 8) := hbad.out fun hx => by rw [h1] at hx; cases hx.1
            clear hbad
            go_wp2_with (go_at_call 49; refine (rnamed_ok _ _ hsz1).mono ?_; rintro e w1 ⟨rfl, rfl⟩)
            go_ret
            exact ⟨ret_int hr.out.symm, below_alloc hb _⟩
          · cases h2 : attrsB (nd T k).attrs
            · have hr : Hid (chk T = 8) := hbad.out fun hx => by rw [h2] at hx; cases hx.2.1
              clear hbad
              go_wp2_with (first | (go_at_call 49; refine (rnamed_ok _ _ hsz1).mono ?_; rintro e w1 ⟨rfl, rfl⟩) | (go_at_call 76; refine (rattributes_ok _ _ _ _ _ (hgA.out.below (below_alloc hb _))).mono ?_; rintro e w1 ⟨rfl, q, rfl⟩))
              go_ret
              exact ⟨ret_int hr.out.symm, below_drewN (below_alloc hb _) _⟩
            · by_cases h3 : -1 ≤ par T k ∧ par T k < n ∧ (kids T k).length ≤ n
              · obtain ⟨h3, h4, h5⟩ := h3
                clear hbad
                go_wp2_with (first | (go_at_call 49; refine (rnamed_ok _ _ hsz1).mono ?_; rintro e w1 ⟨rfl, rfl⟩) | (go_at_call 76; refine (rattributes_ok _ _ _ _ _ (hgA.out.below (below_alloc hb _))).mono ?_; rintro e w1 ⟨rfl, q, rfl⟩))
                have hbw2 : Hid (∀ q, Below w.heap.size w ((wr.alloc (Obj.cells #[.string (nd T k).tag, .slice (aA k) (nd T k).attrs.length (aC k), .int .i64 (par T k), .slice CA (kids T k).length (cC k)] 61)).drewN q)) := fun q => below_drewN (below_alloc hb _) q
                go_loop [6] (fun s => ∃ j : Nat, j ≤ (kids T k).length ∧ s = .int .i64 j ∧ ∀ i, i < j → 0 ≤ ix (kids T k) i ∧ ix (kids T k) i < T.length) (fun s => (kids T k).length - (intOf s).toNat)
                case atStart => exact ⟨0, Nat.zero_le _, rfl, fun j hj => absurd hj (by omega)⟩
                case round =>
                  obtain ⟨j, hj, rfl, hje⟩ := hrel
                  have hje' := hide hje
                  clear hje
                  by_cases hltj : j < (kids T k).length
                  · obtain ⟨b', off', rfl, hb', hck⟩ := hgC.out.2.2 (by omega)
                    have gk := (old hb _ _ hb').trans (hck j hltj)
                    have hbr' : b' < wr.heap.size := Nat.lt_of_lt_of_le hb' hb.size
                    clear hck
                    by_cases hx : 0 ≤ ix (kids T k) j ∧ ix (kids T k) j < n
                    · obtain ⟨hx1, hx2⟩ := hx
                      go_wp2
                      go_round
                      case rel => exact ⟨j + 1, by omega, by go_num, fun i hi => by
                        by_cases h : i = j
                        · subst h; exact ⟨hx1, by omega⟩
                        · have h2 := hje'.out i (by omega); exact ⟨h2.1, by omega⟩⟩
                      case measure => simp [intOf]; omega
                    · have hr : Hid (chk T = 8) := chk_ref fun hg => hx (by have := (hg.2.2.2.1 k (by omega)).2 j hltj; omega)
                      have hx' : ix (kids T k) j < 0 ∨ (0 ≤ ix (kids T k) j ∧ (n : Int) ≤ ix (kids T k) j) := by omega
                      clear hx
                      rcases hx' with h | ⟨h, h'⟩
                      · go_wp2
                        go_ret
                        exact ⟨ret_int hr.out.symm, hbw2.out _⟩
                      · go_wp2
                        go_ret
                        exact ⟨ret_int hr.out.symm, hbw2.out _⟩
                  · go_wp2
                    go_roundw
                    case rel => exact ⟨k + 1, by omega, by go_num, hbw2.out _, by go_simp, fun i hi => by
                      by_cases h : i = k
                      · subst h; exact ⟨⟨h1, h2, h3, by omega, by omega⟩, fun j' hj' => hje'.out j' (by omega)⟩
                      · exact hne'.out i (by omega)⟩
                    case measure => simp [intOf]; omega
              · have hr : Hid (chk T = 8) := hbad.out fun hx => h3 ⟨hx.2.2.1, by have := hx.2.2.2.1; omega, by have := hx.2.2.2.2; omega⟩
                have h3' : par T k < -1 ∨ (-1 ≤ par T k ∧ (n : Int) ≤ par T k) ∨ (-1 ≤ par T k ∧ par T k < n ∧ n < (kids T k).length) := by omega
                clear h3 hbad
                rcases h3' with h | ⟨h, h'⟩ | ⟨h, h', h''⟩
                all_goals
                  go_wp2_with (first | (go_at_call 49; refine (rnamed_ok _ _ hsz1).mono ?_; rintro e w1 ⟨rfl, rfl⟩) | (go_at_call 76; refine (rattributes_ok _ _ _ _ _ (hgA.out.below (below_alloc hb _))).mono ?_; rintro e w1 ⟨rfl, q, rfl⟩))
                  go_ret
                  exact ⟨ret_int hr.out.symm, below_drewN (below_alloc hb _) _⟩
        · have hall : Hid (∀ i, i < n → (namedB (nd T i).tag = true ∧ attrsB (nd T i).attrs = true ∧ -1 ≤ par T i ∧ par T i < T.length ∧ (kids T i).length ≤ T.length) ∧ ∀ j, j < (kids T i).length → 0 ≤ ix (kids T i) j ∧ ix (kids T i) j < T.length) := fun i hi => hne'.out i (by omega)
          have hrg : Hid (∀ i, i < T.length → par T i < T.length) := fun i hi => (hall.out i (by omega)).1.2.2.2.1
          clear hne'
          go_wp2
          go_loop [7] (fun s => ∃ i : Nat, i ≤ n ∧ s = .int .i64 i ∧ ∀ j, j < i → ∀ k, k < T.length → (kids T j).count (k : Int) = if par T k = j then 1 else 0) (fun s => n - (intOf s).toNat)
          case atStart => exact ⟨0, Nat.zero_le _, rfl, fun j hj => absurd hj (by omega)⟩
          case round =>
            obtain ⟨i, hi, rfl, hne⟩ := hrel
            have hne' := hide hne
            clear hne
            by_cases hlt2 : i < n
            · have gi := (old hb _ _ hbl).trans (c3'.out i hlt2)
              have hgi := hide (hC'.out i hlt2).1
              go_wp2
              go_loop [8] (fun s => ∃ k : Nat, k ≤ n ∧ s = .int .i64 k ∧ ∀ j, j < k → (kids T i).count (j : Int) = if par T j = i then 1 else 0) (fun s => n - (intOf s).toNat)
              case atStart => exact ⟨0, Nat.zero_le _, rfl, fun j hj => absurd hj (by omega)⟩
              case round =>
                obtain ⟨k, hk, rfl, hke⟩ := hrel
                have hke' := hide hke
                clear hke
                by_cases hlt3 : k < n
                · have gk := (old hb _ _ hbl).trans (c2'.out k hlt3)
                  have hcl : (kids T i).count (k : Int) ≤ 9223372036854775807 := Nat.le_trans List.count_le_length hgi.out.2.1
                  by_cases hp : par T k = i
                  · have hp' : (par T k == (i : Int)) = true := by simp [hp]
                    have hpe := hide hp
                    clear hp
                    by_cases hc1 : (kids T i).count (k : Int) = 1
                    · have hc' : ((((kids T i).count (k : Int) : Nat) : Int) != 1) = false := by simp [hc1]
                      have hce := hide hc1
                      clear hc1
                      go_wp2_with (go_at_call 77; refine (times_ok _ _ _ _ _ _ (hgi.out.below hb)).mono ?_; rintro e w1 ⟨rfl, rfl⟩)
                      go_round
                      case rel => exact ⟨k + 1, by omega, by go_num, fun j hj => by
                        by_cases h : j = k
                        · subst h; rw [if_pos hpe.out]; exact hce.out
                        · exact hke'.out j (by omega)⟩
                      case measure => simp [intOf]; omega
                    · have hc' : ((((kids T i).count (k : Int) : Nat) : Int) != 1) = true := by simp; omega
                      have hr : Hid (chk T = 8) := chk_ref fun hg => by
                        have h1 := hg.2.2.2.2.1 i (by omega) k (by omega)
                        rw [if_pos hpe.out] at h1
                        exact hc1 h1
                      clear hc1
                      go_wp2_with (go_at_call 77; refine (times_ok _ _ _ _ _ _ (hgi.out.below hb)).mono ?_; rintro e w1 ⟨rfl, rfl⟩)
                      go_ret
                      exact ⟨ret_int hr.out.symm, hb⟩
                  · have hp' : (par T k == (i : Int)) = false := by simp [hp]
                    have hpe := hide hp
                    clear hp
                    by_cases hc1 : (kids T i).count (k : Int) = 0
                    · have hc' : ((((kids T i).count (k : Int) : Nat) : Int) != 0) = false := by simp [hc1]
                      have hce := hide hc1
                      clear hc1
                      go_wp2_with (go_at_call 77; refine (times_ok _ _ _ _ _ _ (hgi.out.below hb)).mono ?_; rintro e w1 ⟨rfl, rfl⟩)
                      go_round
                      case rel => exact ⟨k + 1, by omega, by go_num, fun j hj => by
                        by_cases h : j = k
                        · subst h; rw [if_neg hpe.out]; exact hce.out
                        · exact hke'.out j (by omega)⟩
                      case measure => simp [intOf]; omega
                    · have hc' : ((((kids T i).count (k : Int) : Nat) : Int) != 0) = true := by simp; omega
                      have hr : Hid (chk T = 8) := chk_ref fun hg => by
                        have h1 := hg.2.2.2.2.1 i (by omega) k (by omega)
                        rw [if_neg hpe.out] at h1
                        exact hc1 h1
                      clear hc1
                      go_wp2_with (go_at_call 77; refine (times_ok _ _ _ _ _ _ (hgi.out.below hb)).mono ?_; rintro e w1 ⟨rfl, rfl⟩)
                      go_ret
                      exact ⟨ret_int hr.out.symm, hb⟩
                · go_wp2
                  go_round
                  case rel => exact ⟨i + 1, by omega, by go_num, fun j hj => by
                    by_cases h : j = i
                    · subst h; intro k' hk'; exact hke'.out k' (by omega)
                    · exact hne'.out j (by omega)⟩
                  case measure => simp [intOf]; omega
            · have hcnt : Hid (∀ j, j < n → ∀ k, k < T.length → (kids T j).count (k : Int) = if par T k = j then 1 else 0) := fun j hj => hne'.out j (by omega)
              clear hne'
              go_wp2
              go_loop [10] (fun s => ∃ i : Nat, i ≤ n ∧ s = .int .i64 i ∧ ∀ j, j < i → outB T j = true) (fun s => n - (intOf s).toNat)
              case atStart => exact ⟨0, Nat.zero_le _, rfl, fun j hj => absurd hj (by omega)⟩
              case round =>
                obtain ⟨i, hi, rfl, hne⟩ := hrel
                have hne' := hide hne
                clear hne
                by_cases hlt4 : i < n
                · go_wp2
                  go_loop [11, 12] (fun q s => ∃ m : Nat, m ≤ n ∧ s = .int .i64 m ∧ q = .int .i64 (up T m i)) (fun _ s => n - (intOf s).toNat)
                  case atStart => exact ⟨0, Nat.zero_le _, rfl, rfl⟩
                  case round =>
                    obtain ⟨m, hm, rfl, rfl⟩ := hrel
                    have hul := up_lt hrg.out m i (by omega)
                    by_cases hq : up T m i < 0
                    · have hout : Hid (outB T i = true) := by
                        show outB T i = true
                        simp only [outB, decide_eq_true_eq]
                        exact up_stay T (by omega) _ hq
                      go_wp2
                      all_goals
                        go_round
                        case rel => exact ⟨i + 1, by omega, by go_num, fun j hj => by
                          by_cases h : j = i
                          · subst h; exact hout.out
                          · exact hne'.out j (by omega)⟩
                        case measure => simp [intOf]; omega
                    · by_cases hmn : m < n
                      · obtain ⟨q, hqe⟩ := Int.eq_ofNat_of_zero_le (show 0 ≤ up T m i by omega)
                        have hqn : q < n := by omega
                        have hus := hide (up_succ T m i)
                        have gq := (old hb _ _ hbl).trans (c2'.out q hqn)
                        have hqe' := hide hqe
                        go_wp2
                        go_round
                        case rel => exact ⟨m + 1, by omega, by go_num, by rw [hus.out, if_neg (by rw [hqe'.out]; omega), hqe'.out]; rfl⟩
                        case measure => simp [intOf]; omega
                      · have hr : Hid (chk T = 8) := chk_ref fun hg => by
                          have h1 := hg.2.2.2.2.2 i (by omega)
                          simp only [outB, decide_eq_true_eq] at h1
                          rw [show T.length = m by omega] at h1
                          omega
                        go_wp2
                        go_ret
                        exact ⟨ret_int hr.out.symm, hb⟩
                · have hr : Hid (chk T = 0) := chk_ref_ok ⟨by omega, by omega, hz'.out, fun j hj => hall.out j (by omega), fun j hj => hcnt.out j (by omega), fun j hj => hne'.out j (by omega)⟩
                  go_wp2
                  go_ret
                  exact ⟨ret_int hr.out.symm, hb⟩
    · have hr : Hid (chk T = 8) := chk_ref fun hg => hz hg.2.2.1
      have hzq : (par T 0 != -1) = true := by simp [hz]
      clear hz
      go_enter Try.func50, Try.ntmps50
      go_wp2
      go_ret
      exact ⟨ret_int hr.out.symm, below_alloc (Below.refl _ _) _⟩
  · have hr : Hid (chk T = 8) := chk_ref fun hg => hn1 ⟨by have := hg.1; omega, by have := hg.2.1; omega⟩
    have hn1' : n < 1 ∨ 64 < n := by omega
    clear hn1 ho hs hT
    rcases hn1' with h | h
    · go_enter Try.func50, Try.ntmps50
      go_wp2
      go_ret
      exact ⟨ret_int hr.out.symm, below_alloc (Below.refl _ _) _⟩
    · go_enter Try.func50, Try.ntmps50
      go_wp2
      go_ret
      exact ⟨ret_int hr.out.symm, below_alloc (Below.refl _ _) _⟩
end Go.Proofs.Ytfiiikbbiimdiaa
/- Plain laws: the elements above one, in a good tree. Condition: the tree is good. -/
namespace Go.Proofs.Ytfiiikbbiimdiaa
open Go.RowKit

def ups (T : List ANode) : Nat → Int → List Int
  | 0, _ => []
  | k + 1, x => if x < 0 then [] else x :: ups T k (par T x.toNat)
/-- The elements from x on, up to the top. -/
def anc (T : List ANode) (x : Int) : List Int := ups T T.length x
def topF (T : List ANode) (x : Int) : Int := ((anc T x).getLast?).getD x
/-- The error of a tree and elements. -/
def askI (T : List ANode) (l : List Int) : Int := if goodB T = true then (if ∀ x ∈ l, 0 ≤ x ∧ x < T.length then 0 else 2) else 8

theorem ups_neg (T : List ANode) (k : Nat) (x : Int) (h : x < 0) : ups T k x = [] := by cases k <;> simp [ups, h]
theorem ups_more (T : List ANode) (m d : Nat) (x : Int) (h : up T m x < 0) : ups T (m + d) x = ups T m x := by
  induction m generalizing x with
  | zero => simp only [up] at h; rw [ups_neg _ _ _ h, ups_neg _ _ _ h]
  | succ m ih =>
    rw [show m + 1 + d = (m + d) + 1 by omega, ups, ups]
    split
    · rfl
    · rename_i hx
      rw [ih]
      rwa [up, if_neg hx] at h

section
variable {T : List ANode} (hg : goodB T = true)
include hg
theorem good_par {i : Nat} (hi : i < T.length) : -1 ≤ par T i ∧ par T i < T.length :=
  let h := (linkedB_iff T i).1 (((goodB_iff T).1 hg).2.2.1 i hi).2.2
  ⟨h.1, h.2.1⟩
theorem good_out {x : Int} (hx : x < T.length) : up T T.length x < 0 := by
  rcases Int.lt_or_le x 0 with h | h
  · rw [up_neg _ _ _ h]; exact h
  · obtain ⟨i, rfl⟩ := Int.eq_ofNat_of_zero_le h
    have := ((goodB_iff T).1 hg).2.2.2 i (by omega)
    simpa [outB] using this
omit hg in
theorem anc_neg {x : Int} (h : x < 0) : anc T x = [] := ups_neg _ _ _ h
theorem anc_cons {i : Nat} (hi : i < T.length) : anc T i = (i : Int) :: anc T (par T i) := by
  have h1 := ups_more T T.length 1 i (good_out hg (by omega))
  rw [ups, if_neg (by omega)] at h1
  exact h1.symm
theorem anc_mem {x y : Int} (hx : x < T.length) (h : y ∈ anc T x) : 0 ≤ y ∧ y < T.length := by
  have key : ∀ (k : Nat) (x : Int), x < T.length → y ∈ ups T k x → 0 ≤ y ∧ y < T.length := by
    intro k
    induction k with
    | zero => intro x _ h; simp [ups] at h
    | succ k ih =>
      intro x hx h
      rw [ups] at h
      split at h
      · simp at h
      · rcases List.mem_cons.1 h with rfl | h
        · omega
        · obtain ⟨i, rfl⟩ := Int.eq_ofNat_of_zero_le (show 0 ≤ x by omega)
          exact ih _ (good_par hg (by simpa using hx)).2 h
  exact key _ _ hx h
theorem anc_len_lt {i : Nat} (hi : i < T.length) : (anc T (par T i)).length < (anc T i).length := by
  rw [anc_cons hg hi]; simp
theorem anc_sub {i : Nat} (hi : i < T.length) {y : Nat} (h : (y : Int) ∈ anc T i) : (anc T y).length ≤ (anc T i).length := by
  generalize hm : (anc T (i : Int)).length = m
  induction m using Nat.strongRecOn generalizing i with
  | _ m ih =>
    rw [anc_cons hg hi] at h
    rcases List.mem_cons.1 h with h | h
    · have : y = i := by omega
      subst this; omega
    · rcases Int.lt_or_le (par T i) 0 with hp | hp
      · rw [anc_neg hp] at h; simp at h
      · obtain ⟨p, hp'⟩ := Int.eq_ofNat_of_zero_le hp
        have hl := anc_len_lt hg hi
        have hpl := (good_par hg hi).2
        rw [hp'] at h hl hpl
        have := ih _ (by omega) (by omega : p < T.length) h rfl
        omega
theorem anc_self {i : Nat} (hi : i < T.length) : (i : Int) ∉ anc T (par T i) := by
  intro h
  rcases Int.lt_or_le (par T i) 0 with hp | hp
  · rw [anc_neg hp] at h; simp at h
  · obtain ⟨p, hp'⟩ := Int.eq_ofNat_of_zero_le hp
    have hl := anc_len_lt hg hi
    have hpl := (good_par hg hi).2
    rw [hp'] at h hl hpl
    have := anc_sub hg (by omega : p < T.length) h
    omega
theorem anc_nodup {x : Int} (hx : x < T.length) : (anc T x).Nodup := by
  generalize hm : (anc T x).length = m
  induction m using Nat.strongRecOn generalizing x with
  | _ m ih =>
    rcases Int.lt_or_le x 0 with h | h
    · rw [anc_neg h]; simp
    · obtain ⟨i, rfl⟩ := Int.eq_ofNat_of_zero_le h
      have hi : i < T.length := by omega
      have hl := anc_len_lt hg hi
      rw [anc_cons hg hi]
      exact List.nodup_cons.2 ⟨anc_self hg hi, ih _ (by omega) (good_par hg hi).2 rfl⟩
theorem anc_le {x : Int} (hx : x < T.length) : (anc T x).length ≤ T.length :=
  nodup_range_le _ _ (anc_nodup hg hx) fun _ hy => anc_mem hg hx hy
theorem topF_up {i : Nat} (hi : i < T.length) (h : 0 ≤ par T i) : topF T i = topF T (par T i) := by
  obtain ⟨p, hp⟩ := Int.eq_ofNat_of_zero_le h
  have hpl := (good_par hg hi).2
  rw [hp] at hpl
  unfold topF
  rw [anc_cons hg hi, hp, anc_cons hg (by omega : p < T.length)]
  simp [List.getLast?_cons]
theorem topF_top {i : Nat} (hi : i < T.length) (h : par T i < 0) : topF T i = i := by
  unfold topF
  rw [anc_cons hg hi, anc_neg h]
  rfl
theorem count_anc {x : Int} (hx : x < T.length) (y : Int) : (anc T x).count y = if y ∈ anc T x then 1 else 0 := (anc_nodup hg hx).count
end
theorem askI_zero {T : List ANode} {l : List Int} : askI T l = 0 ↔ goodB T = true ∧ ∀ x ∈ l, 0 ≤ x ∧ x < T.length := by
  unfold askI
  by_cases hg : goodB T = true
  · by_cases ha : ∀ x ∈ l, 0 ≤ x ∧ x < T.length
    · rw [if_pos hg, if_pos ha]; exact ⟨fun _ => ⟨hg, ha⟩, fun _ => rfl⟩
    · rw [if_pos hg, if_neg ha]; exact ⟨fun h => by omega, fun h => absurd h.2 ha⟩
  · rw [if_neg hg]; exact ⟨fun h => by omega, fun h => absurd h.1 hg⟩
theorem askI_bad {T : List ANode} {l : List Int} (h : ¬ goodB T = true) : askI T l = 8 := if_neg h
theorem askI_no {T : List ANode} {l : List Int} (h : goodB T = true) (x : Int) (hx : x ∈ l) (hb : ¬ (0 ≤ x ∧ x < T.length)) : askI T l = 2 := by
  unfold askI; rw [if_pos h, if_neg (fun hh => hb (hh x hx))]
theorem askI_ok {T : List ANode} {l : List Int} (h : goodB T = true) (hb : ∀ x ∈ l, 0 ≤ x ∧ x < T.length) : askI T l = 0 := by
  unfold askI; rw [if_pos h, if_pos hb]
end Go.Proofs.Ytfiiikbbiimdiaa
