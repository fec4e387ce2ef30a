/- Walks: lists of texts: whether one is in; the words of a text, by the reference. Condition: the text has at most 1000 bytes. -/
import Derived.Test.YtbedomopojiehaaStrs
import Derived.Test.YtbedomopojiehaaAp
import Derived.Test.YtbedomopojiehaaFd
import Derived.WalkSpells
namespace Go.Proofs.Ytbedomopojiehaa
open Go.RowKit

theorem str_eq {a b : ByteArray} (h : a = b) : (a.toList == b.toList) = true := by simp [h]
theorem str_ne {a b : ByteArray} (h : a ≠ b) : (a.toList == b.toList) = false := by
  rw [Bool.eq_false_iff]; intro h'; exact h (toList_inj (by simpa using h'))
theorem sx_in {xs : List ByteArray} {k : Nat} {s : ByteArray} (hk : k < xs.length) (h : sx xs k = s) : s ∈ xs := by
  rw [← h, sx_get hk]; exact List.getElem_mem _
theorem sx_out {xs : List ByteArray} {s : ByteArray} (h : ∀ j, j < xs.length → sx xs j ≠ s) : s ∉ xs := by
  intro hm
  obtain ⟨i, hi, rfl⟩ := List.getElem_of_mem hm
  exact h i hi (sx_get hi)

theorem rin_ok (A : Option Addr) (n c : Nat) (xs : List ByteArray) (s : ByteArray) (w : World) (h : IsStrs w A n xs) :
    Calls Try.prog 86 #[.slice A n c, .string s] w fun e w' => e = .returned (.bool (decide (s ∈ xs))) ∧ w = w' := by
  obtain ⟨hl, hn, ho⟩ := h
  go_enter Try.func86, Try.ntmps86
  go_wp2
  go_loop [5] (fun i => ∃ k : Nat, k ≤ n ∧ i = .int .i64 k ∧ Hid (∀ j, j < k → sx xs j ≠ s)) (fun i => n - (intOf i).toNat)
  case atStart => exact ⟨0, Nat.zero_le _, rfl, fun j hj => absurd hj (by omega)⟩
  case round =>
    obtain ⟨k, hk, rfl, hne⟩ := hrel
    by_cases hlt : k < n
    · obtain ⟨b, off, rfl, hbl, hc⟩ := ho (by omega)
      have hck := hc k hlt
      clear hc
      by_cases he : sx xs k = s
      · have hp : Hid (decide (s ∈ xs) = true) := by show _ = _; simpa using sx_in (by omega) he
        have he' := str_eq he
        clear he hne ho
        go_wp2
        go_ret
        exact ⟨ret_bool hp.out.symm, rfl⟩
      · have he' := str_ne he
        have he2 := hide he
        clear he ho
        go_wp2
        go_round
        case rel => exact ⟨k + 1, by omega, by go_num, fun j hj => by
          by_cases h : j = k
          · subst h; exact he2.out
          · exact hne.out j (by omega)⟩
        case measure => simp [intOf]; omega
    · have hp : Hid (decide (s ∈ xs) = false) := by show _ = _; simpa using sx_out (fun j hj => hne.out j (by omega))
      go_wp2
      go_ret
      exact ⟨ret_bool hp.out.symm, rfl⟩

theorem contS_ok (A : Option Addr) (n c : Nat) (xs : List ByteArray) (s : ByteArray) (w : World) (h : IsStrs w A n xs) :
    Calls Try.prog 82 #[.slice A n c, .string s] w fun e w' => e = .returned (.bool (decide (s ∈ xs))) ∧ w = w' := by
  have hix : Calls Try.prog 104 #[.slice A n c, .string s] w fun e w' => (∃ x : Int, e = .returned (.int .i64 x) ∧ (0 ≤ x ↔ s ∈ xs)) ∧ w = w' := by
    obtain ⟨hl, hn, ho⟩ := h
    go_enter Try.func104, Try.ntmps104
    go_wp2
    go_loop [5, 8, 10, 11, 12, 13, 14, 15, 16, 17, 18] (fun _ i _ _ _ _ _ _ _ _ _ => ∃ k : Nat, k ≤ n ∧ i = .int .i64 k ∧ Hid (∀ j, j < k → sx xs j ≠ s)) (fun _ i _ _ _ _ _ _ _ _ _ => n - (intOf i).toNat)
    case atStart => exact ⟨0, Nat.zero_le _, rfl, fun j hj => absurd hj (by omega)⟩
    case round =>
      obtain ⟨k, hk, rfl, hne⟩ := hrel
      by_cases hlt : k < n
      · obtain ⟨b, off, rfl, hbl, hc⟩ := ho (by omega)
        have hck := hc k hlt
        clear hc
        by_cases he : sx xs k = s
        · have hp : Hid (s ∈ xs) := sx_in (by omega) he
          have he' := str_eq he.symm
          clear he hne ho
          go_wp2
          go_ret
          exact ⟨⟨_, rfl, by simp [hp.out]⟩, rfl⟩
        · have he' := str_ne fun h => he h.symm
          have he2 := hide he
          clear he ho
          go_wp2
          go_round
          case rel => exact ⟨k + 1, by omega, by go_num, fun j hj => by
            by_cases h : j = k
            · subst h; exact he2.out
            · exact hne.out j (by omega)⟩
          case measure => simp [intOf]; omega
      · have hp : Hid (s ∉ xs) := sx_out (fun j hj => hne.out j (by omega))
        go_wp2
        go_ret
        exact ⟨⟨_, rfl, by simp [hp.out]⟩, rfl⟩
  go_enter Try.func82, Try.ntmps82
  go_wp2_with fail
  refine (hix).mono ?_
  rintro e w1 ⟨⟨x, rfl, hx⟩, rfl⟩
  have hp : Hid (decide (s ∈ xs) = decide (0 ≤ x)) := by show _ = _; simp [hx]
  clear hx
  go_wp2
  go_ret
  exact ⟨ret_bool hp.out.symm, rfl⟩

/-- A list of texts that the call has made. -/
def MadeStrs (w : World) (xs : List ByteArray) (e : Ending) (w' : World) : Prop :=
  ∃ (A : Option Addr) (c : Nat), e = .returned (.slice A xs.length c) ∧ OwnS w' w.heap.size (.slice A xs.length c) xs ∧ IsStrs w' A xs.length xs ∧ Below w.heap.size w w'

def SInv (s : ByteArray) (k : Nat) (cur : List UInt8) (out : List ByteArray) : Prop :=
  (k ≤ s.size → splitW (s.data.toList.drop k) cur out = wordsS s) ∧ (k = s.size + 1 → out = wordsS s) ∧ out.length ≤ k ∧ cur.length ≤ k
theorem SInv.byte {s : ByteArray} {k : Nat} {cur : List UInt8} {out : List ByteArray} (h : SInv s k cur out) (hk : k < s.size) (hs : sp8 (s[k]'hk) = false) : SInv s (k + 1) (cur ++ [s[k]'hk]) out :=
  ⟨fun _ => split_byte hk hs (h.1 (by omega)), fun _ => by omega, by have := h.2.2.1; omega, by have := h.2.2.2; simp; omega⟩
theorem SInv.space {s : ByteArray} {k : Nat} {cur : List UInt8} {out : List ByteArray} (h : SInv s k cur out) (hk : k ≤ s.size) (hs : ∀ hk : k < s.size, sp8 (s[k]'hk) = true) {o : List ByteArray} (ho : o = finW out cur) (hl : o.length ≤ k + 1) : SInv s (k + 1) [] o := by
  subst ho
  refine ⟨fun h1 => split_space (by omega) (hs (by omega)) (h.1 hk), fun h1 => ?_, hl, Nat.zero_le _⟩
  obtain rfl : k = s.size := by omega
  exact split_end (h.1 hk)
theorem bs_snoc {s : ByteArray} {cur : List UInt8} {k : Nat} (hk : k < s.size) : bs cur ++ s.extract k (k + 1) = bs (cur ++ [s[k]'hk]) := by
  apply Go.WideShapes.bytes_inj
  have hd : s.data.size = s.size := rfl
  simp [bs]
  have h1 : k + 1 - k = 1 := by omega
  apply List.ext_getElem
  · simp; omega
  · intro i h1 h2
    simp at h1 h2
    obtain rfl : i = 0 := by omega
    simp
    rfl

end Go.Proofs.Ytbedomopojiehaa
