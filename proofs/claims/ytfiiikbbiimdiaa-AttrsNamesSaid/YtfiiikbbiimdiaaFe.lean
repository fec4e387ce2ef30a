/- Walks: lists of texts: whether one is in; the words of a text, by the reference. Condition: the text has at most 1000 bytes. -/
import Derived.Test.YtfiiikbbiimdiaaStrs
import Derived.Test.YtfiiikbbiimdiaaAp
import Derived.Test.YtfiiikbbiimdiaaFd
import Derived.WalkSpells
import Derived.Deep.LoopGhost
namespace Go.Proofs.Ytfiiikbbiimdiaa
open Go.RowKit

theorem str_eq {a b : ByteArray} (h : a = b) : (a.toList == b.toList) = true := by simp [h]
theorem str_ne {a b : ByteArray} (h : a ≠ b) : (a.toList == b.toList) = false := by
  rw [Bool.eq_false_iff]; intro h'; exact h (toList_inj (by simpa using h'))
theorem sx_in {xs : List ByteArray} {k : Nat} {s : ByteArray} (hk : k < xs.length) (h : sx xs k = s) : s ∈ xs := by
  rw [← h, sx_get hk]; exact List.getElem_mem _
theorem sx_out {xs : List ByteArray} {s : ByteArray} (h : ∀ j, j < xs.length → sx xs j ≠ s) : s ∉ xs := by
  intro hm
  obtain ⟨i, hi, rfl⟩ := List.getElem_of_mem hm
  exact h i hi (sx_get hi)

theorem rin_ok (A : Option Addr) (n c : Nat) (xs : List ByteArray) (s : ByteArray) (w : World) (h : IsStrs w A n xs) :
    Calls Try.prog 79 #[.slice A n c, .string s] w fun e w' => e = .returned (.bool (decide (s ∈ xs))) ∧ w = w' := by
  obtain ⟨hl, hn, ho⟩ := h
  go_enter Try.func79, Try.ntmps79
  go_wp2
  go_loop [5] (fun i => ∃ k : Nat, k ≤ n ∧ i = .int .i64 k ∧ Hid (∀ j, j < k → sx xs j ≠ s)) (fun i => n - (intOf i).toNat)
  case atStart => exact ⟨0, Nat.zero_le _, rfl, fun j hj => absurd hj (by omega)⟩
  case round =>
    obtain ⟨k, hk, rfl, hne⟩ := hrel
    by_cases hlt : k < n
    · obtain ⟨b, off, rfl, hbl, hc⟩ := ho (by omega)
      have hck := hc k hlt
      clear hc
      by_cases he : sx xs k = s
      · have hp : Hid (decide (s ∈ xs) = true) := by show _ = _; simpa using sx_in (by omega) he
        have he' := str_eq he
        clear he hne ho
        go_wp2
        go_ret
        exact ⟨ret_bool hp.out.symm, rfl⟩
      · have he' := str_ne he
        have he2 := hide he
        clear he ho
        go_wp2
        go_round
        case rel => exact ⟨k + 1, by omega, by go_num, fun j hj => by
          by_cases h : j = k
          · subst h; exact he2.out
          · exact hne.out j (by omega)⟩
        case measure => simp [intOf]; omega
    · have hp : Hid (decide (s ∈ xs) = false) := by show _ = _; simpa using sx_out (fun j hj => hne.out j (by omega))
      go_wp2
      go_ret
      exact ⟨ret_bool hp.out.symm, rfl⟩

theorem contS_ok (A : Option Addr) (n c : Nat) (xs : List ByteArray) (s : ByteArray) (w : World) (h : IsStrs w A n xs) :
    Calls Try.prog 57 #[.slice A n c, .string s] w fun e w' => e = .returned (.bool (decide (s ∈ xs))) ∧ w = w' := by
  have hix : Calls Try.prog 84 #[.slice A n c, .string s] w fun e w' => (∃ x : Int, e = .returned (.int .i64 x) ∧ (0 ≤ x ↔ s ∈ xs)) ∧ w = w' := by
    obtain ⟨hl, hn, ho⟩ := h
    go_enter Try.func84, Try.ntmps84
    go_wp2
    go_loop [5, 8, 10, 11, 12, 13, 14, 15, 16, 17, 18] (fun _ i _ _ _ _ _ _ _ _ _ => ∃ k : Nat, k ≤ n ∧ i = .int .i64 k ∧ Hid (∀ j, j < k → sx xs j ≠ s)) (fun _ i _ _ _ _ _ _ _ _ _ => n - (intOf i).toNat)
    case atStart => exact ⟨0, Nat.zero_le _, rfl, fun j hj => absurd hj (by omega)⟩
    case round =>
      obtain ⟨k, hk, rfl, hne⟩ := hrel
      by_cases hlt : k < n
      · obtain ⟨b, off, rfl, hbl, hc⟩ := ho (by omega)
        have hck := hc k hlt
        clear hc
        by_cases he : sx xs k = s
        · have hp : Hid (s ∈ xs) := sx_in (by omega) he
          have he' := str_eq he.symm
          clear he hne ho
          go_wp2
          go_ret
          exact ⟨⟨_, rfl, by simp [hp.out]⟩, rfl⟩
        · have he' := str_ne fun h => he h.symm
          have he2 := hide he
          clear he ho
          go_wp2
          go_round
          case rel => exact ⟨k + 1, by omega, by go_num, fun j hj => by
            by_cases h : j = k
            · subst h; exact he2.out
            · exact hne.out j (by omega)⟩
          case measure => simp [intOf]; omega
      · have hp : Hid (s ∉ xs) := sx_out (fun j hj => hne.out j (by omega))
        go_wp2
        go_ret
        exact ⟨⟨_, rfl, by simp [hp.out]⟩, rfl⟩
  go_enter Try.func57, Try.ntmps57
  go_wp2_with fail
  refine (hix).mono ?_
  rintro e w1 ⟨⟨x, rfl, hx⟩, rfl⟩
  have hp : Hid (decide (s ∈ xs) = decide (0 ≤ x)) := by show _ = _; simp [hx]
  clear hx
  go_wp2
  go_ret
  exact ⟨ret_bool hp.out.symm, rfl⟩

/-- A list of texts that the call has made. -/
def MadeStrs (w : World) (xs : List ByteArray) (e : Ending) (w' : World) : Prop :=
  ∃ (A : Option Addr) (c : Nat), e = .returned (.slice A xs.length c) ∧ OwnS w' w.heap.size (.slice A xs.length c) xs ∧ IsStrs w' A xs.length xs ∧ Below w.heap.size w w'

def SInv (s : ByteArray) (k : Nat) (cur : List UInt8) (out : List ByteArray) : Prop :=
  (k ≤ s.size → splitW (s.data.toList.drop k) cur out = wordsS s) ∧ (k = s.size + 1 → out = wordsS s) ∧ out.length ≤ k ∧ cur.length ≤ k
theorem SInv.byte {s : ByteArray} {k : Nat} {cur : List UInt8} {out : List ByteArray} (h : SInv s k cur out) (hk : k < s.size) (hs : sp8 (s[k]'hk) = false) : SInv s (k + 1) (cur ++ [s[k]'hk]) out :=
  ⟨fun _ => split_byte hk hs (h.1 (by omega)), fun _ => by omega, by have := h.2.2.1; omega, by have := h.2.2.2; simp; omega⟩
theorem SInv.space {s : ByteArray} {k : Nat} {cur : List UInt8} {out : List ByteArray} (h : SInv s k cur out) (hk : k ≤ s.size) (hs : ∀ hk : k < s.size, sp8 (s[k]'hk) = true) {o : List ByteArray} (ho : o = finW out cur) (hl : o.length ≤ k + 1) : SInv s (k + 1) [] o := by
  subst ho
  refine ⟨fun h1 => split_space (by omega) (hs (by omega)) (h.1 hk), fun h1 => ?_, hl, Nat.zero_le _⟩
  obtain rfl : k = s.size := by omega
  exact split_end (h.1 hk)
theorem bs_snoc {s : ByteArray} {cur : List UInt8} {k : Nat} (hk : k < s.size) : bs cur ++ s.extract k (k + 1) = bs (cur ++ [s[k]'hk]) := by
  apply Go.WideShapes.bytes_inj
  have hd : s.data.size = s.size := rfl
  simp [bs]
  have h1 : k + 1 - k = 1 := by omega
  apply List.ext_getElem
  · simp; omega
  · intro i h1 h2
    simp at h1 h2
    obtain rfl : i = 0 := by omega
    simp
    rfl

end Go.Proofs.Ytfiiikbbiimdiaa
/- Walks: the words of a text, by the reference and by the program. Condition: the text has at most 1000 bytes. -/
namespace Go.Proofs.Ytfiiikbbiimdiaa
open Go.RowKit

theorem bs_no {l : List UInt8} (h : l ≠ []) : (bs l).toList ≠ [] ∧ (bs l).toList.isEmpty = false := by
  have h1 : (bs l).toList ≠ [] := by
    rw [ByteArray.toList_eq]; simpa [bs] using h
  refine ⟨h1, ?_⟩
  cases hh : (bs l).toList with
  | nil => exact absurd hh h1
  | cons => rfl
theorem bs_yes : (bs []).toList = [] ∧ (bs []).toList.isEmpty = true := ⟨by kernel_rfl, by kernel_rfl⟩

set_option maxRecDepth 100000 in
set_option maxHeartbeats 1000000 in
theorem split_ok (s : ByteArray) (w : World) (hs : s.size ≤ 1000) : Calls Try.prog 54 #[.string s] w (MadeStrs w (wordsS s)) := by
  go_enter Try.func54, Try.ntmps54
  go_wp2
  go_loopw [3, 4, 5] (fun v u i wr => ∃ (k : Nat) (cur : List UInt8) (out : List ByteArray) (A : Option Addr) (c : Nat), k ≤ s.size + 1 ∧ i = .int .i64 k ∧ u = .string (bs cur) ∧ v = .slice A out.length c ∧ Hid (SInv s k cur out) ∧ out.length ≤ k ∧ cur.length ≤ k ∧ OwnS wr w.heap.size v out ∧ Below w.heap.size w wr) (fun _ _ i _ => s.size + 1 - (intOf i).toNat)
  case atStart => exact ⟨0, [], [], none, 0, Nat.zero_le _, rfl, rfl, rfl, ⟨fun _ => rfl, fun h => absurd h (by omega), Nat.le_refl _, Nat.le_refl _⟩, Nat.le_refl _, Nat.le_refl _, OwnS.nil _ _, Below.refl _ _⟩
  case round =>
    obtain ⟨k, cur, out, A, c, hk, rfl, rfl, rfl, hI, hol, hcl, hown, hb⟩ := hrel
    have hsz := hb.size
    by_cases hlt : k < s.size
    · cases hsp : sp8 (s[k]'hlt)
      · have hsp' : spI (((s[k]'hlt).toNat : Int)) = false := hsp
        have hn := hide (hI.out.byte hlt hsp)
        have hx := hide (bs_snoc (cur := cur) hlt)
        have hbz : ¬ 9223372036854775807 < (bs cur).size + (min (k + 1) s.size - k) := by rw [bs_size]; omega
        clear hsp hI
        go_wp2_with (go_at_call 47; refine (rspace_ok _ _).mono ?_; rintro e w2 ⟨rfl, rfl⟩)
        go_roundw
        case rel => exact ⟨k + 1, _, out, A, c, by omega, by go_num, by rw [hx.out], rfl, hn, by omega, by simp; omega, hown, hb⟩
        case measure => simp [intOf]; omega
      · have hsp' : spI (((s[k]'hlt).toNat : Int)) = true := hsp
        by_cases hc : cur = []
        · subst hc
          obtain ⟨e1, e2⟩ := bs_yes
          have hn := hide (hI.out.space (by omega) (fun _ => hsp) (o := out) (finW_nil _).symm (by omega))
          clear hI
          go_wp2_with (go_at_call 47; refine (rspace_ok _ _).mono ?_; rintro e w2 ⟨rfl, rfl⟩)
          go_roundw
          case rel => exact ⟨k + 1, [], out, A, c, by omega, by go_num, rfl, rfl, hn, by omega, Nat.zero_le _, hown, hb⟩
          case measure => simp [intOf]; omega
        · obtain ⟨e1, e2⟩ := bs_no hc
          obtain ⟨A', c', he, hc1, hc2, hSt⟩ := hown.isStrs (by omega)
          injection he with he1 he2 he3
          subst he1 he3
          have hSt' := hide hSt
          by_cases hi : bs cur ∈ out
          · have hn := hide (hI.out.space (by omega) (fun _ => hsp) (o := out) (finW_in hi).symm (by omega))
            have hd := hide (rin_ok A out.length c out (bs cur) wr hSt)
            rw [decide_eq_true hi] at hd
            clear hI hSt hi hc
            go_wp2_with (first | (go_at_call 47; refine (rspace_ok _ _).mono ?_; rintro e w2 ⟨rfl, rfl⟩) | (go_at_call 79; refine hd.out.mono ?_; rintro e w2 ⟨rfl, rfl⟩))
            go_roundw
            case rel => exact ⟨k + 1, [], out, A, c, by omega, by go_num, rfl, rfl, hn, by omega, Nat.zero_le _, hown, hb⟩
            case measure => simp [intOf]; omega
          · have hn := hide (hI.out.space (by omega) (fun _ => hsp) (o := out ++ [bs cur]) (finW_new hc hi).symm (by simp; omega))
            have hd := hide (rin_ok A out.length c out (bs cur) wr hSt)
            rw [decide_eq_false hi] at hd
            have hown' := hide hown
            clear hI hSt hi hc hown
            go_wp2_with (first | (go_at_call 47; refine (rspace_ok _ _).mono ?_; rintro e w2 ⟨rfl, rfl⟩) | (go_at_call 79; refine hd.out.mono ?_; rintro e w2 ⟨rfl, rfl⟩) | (at_builtin; refine wpList_pushS rfl _ _ rfl hown'.out (bs cur) _ rfl rfl (by omega) hsz ?_; intro A2 c2 w2 hown2 hg2))
            go_roundw
            case rel => exact ⟨k + 1, [], out ++ [bs cur], A2, c2, by omega, by go_num, rfl, by simp, hn, by simp; omega, Nat.zero_le _, by simpa using hown2, hg2.below (Nat.le_refl _) hb⟩
            case measure => simp [intOf]; omega
    · by_cases hle : k ≤ s.size
      · by_cases hc : cur = []
        · subst hc
          obtain ⟨e1, e2⟩ := bs_yes
          have hn := hide (hI.out.space (by omega) (fun h => absurd h hlt) (o := out) (finW_nil _).symm (by omega))
          clear hI
          go_wp2_with (go_at_call 47; refine (rspace_ok _ _).mono ?_; rintro e w2 ⟨rfl, rfl⟩)
          go_roundw
          case rel => exact ⟨k + 1, [], out, A, c, by omega, by go_num, rfl, rfl, hn, by omega, Nat.zero_le _, hown, hb⟩
          case measure => simp [intOf]; omega
        · obtain ⟨e1, e2⟩ := bs_no hc
          obtain ⟨A', c', he, hc1, hc2, hSt⟩ := hown.isStrs (by omega)
          injection he with he1 he2 he3
          subst he1 he3
          have hSt' := hide hSt
          by_cases hi : bs cur ∈ out
          · have hn := hide (hI.out.space (by omega) (fun h => absurd h hlt) (o := out) (finW_in hi).symm (by omega))
            have hd := hide (rin_ok A out.length c out (bs cur) wr hSt)
            rw [decide_eq_true hi] at hd
            clear hI hSt hi hc
            go_wp2_with (first | (go_at_call 47; refine (rspace_ok _ _).mono ?_; rintro e w2 ⟨rfl, rfl⟩) | (go_at_call 79; refine hd.out.mono ?_; rintro e w2 ⟨rfl, rfl⟩))
            go_roundw
            case rel => exact ⟨k + 1, [], out, A, c, by omega, by go_num, rfl, rfl, hn, by omega, Nat.zero_le _, hown, hb⟩
            case measure => simp [intOf]; omega
          · have hn := hide (hI.out.space (by omega) (fun h => absurd h hlt) (o := out ++ [bs cur]) (finW_new hc hi).symm (by simp; omega))
            have hd := hide (rin_ok A out.length c out (bs cur) wr hSt)
            rw [decide_eq_false hi] at hd
            have hown' := hide hown
            clear hI hSt hi hc hown
            go_wp2_with (first | (go_at_call 47; refine (rspace_ok _ _).mono ?_; rintro e w2 ⟨rfl, rfl⟩) | (go_at_call 79; refine hd.out.mono ?_; rintro e w2 ⟨rfl, rfl⟩) | (at_builtin; refine wpList_pushS rfl _ _ rfl hown'.out (bs cur) _ rfl rfl (by omega) hsz ?_; intro A2 c2 w2 hown2 hg2))
            go_roundw
            case rel => exact ⟨k + 1, [], out ++ [bs cur], A2, c2, by omega, by go_num, rfl, by simp, hn, by simp; omega, Nat.zero_le _, by simpa using hown2, hg2.below (Nat.le_refl _) hb⟩
            case measure => simp [intOf]; omega
      · obtain rfl : k = s.size + 1 := by omega
        have hr : Hid (out = wordsS s) := hI.out.2.1 rfl
        obtain ⟨A', c', he, hc1, hc2, hSt⟩ := hown.isStrs (by omega)
        injection he with he1 he2 he3
        subst he1 he3
        have hSt' := hide hSt
        have hown' := hide hown
        clear hI hSt hown
        go_wp2
        go_ret
        refine ⟨A, c, ?_, ?_, ?_, hb⟩
        · rw [← hr.out]; rfl
        · have := hown'.out; rw [hr.out] at this; exact this
        · have := hSt'.out; rw [hr.out] at this; exact this

theorem cut_word (s : ByteArray) (a b : Nat) : s.extract a b = bs (cutL s a b) := by
  apply Go.WideShapes.bytes_inj
  simp [bs, cutL, ByteArray.data_extract]
set_option maxRecDepth 100000 in
set_option maxHeartbeats 1000000 in
theorem words_ok (s : ByteArray) (w : World) (hs : s.size ≤ 1000) : Calls Try.prog 53 #[.string s] w (MadeStrs w (wordsS s)) := by
  go_enter Try.func53, Try.ntmps53
  go_wp2
  go_step3
  go_wp2
  go_step3
  go_wp2
  go_loopg [3, 4] s.size (fun g v i wr => ∃ (k : Nat) (out : List ByteArray) (A : Option Addr) (c : Nat), k ≤ s.size ∧ s.size ≤ k + g ∧ i = .int .i64 k ∧ v = .slice A out.length c ∧ Hid (splitW (s.data.toList.drop k) [] out = wordsS s) ∧ out.length ≤ k ∧ OwnS wr w.heap.size v out ∧ Below w.heap.size w wr)
  case atStart => exact ⟨0, [], none, 0, Nat.zero_le _, by omega, rfl, rfl, rfl, Nat.le_refl _, OwnS.nil _ _, Below.refl _ _⟩
  case round =>
    obtain ⟨k, out, A, c, hk, hkg, rfl, rfl, hI, hol, hown, hb⟩ := hrel
    have hsz := hb.size
    obtain ⟨A', c', he, hc1, hc2, hSt⟩ := hown.isStrs (by omega)
    injection he with he1 he2 he3
    subst he1 he3
    have hSt' := hide hSt
    have hown' := hide hown
    clear hSt hown
    by_cases hlt : k < s.size
    · obtain ⟨g, rfl⟩ : ∃ g, gk = g + 1 := ⟨gk - 1, by omega⟩
      cases hsp : sp8 (s[k]'hlt)
      · have hsp' : spI (((s[k]'hlt).toNat : Int)) = false := hsp
        go_wp2_with (go_at_call 78; refine (space_ok _ _).mono ?_; rintro e w2 ⟨rfl, rfl⟩)
        obtain ⟨wo, rfl⟩ : ∃ wo : World, wo = wr := ⟨_, rfl⟩
        go_loop [5] (fun i => ∃ m : Nat, k ≤ m ∧ m ≤ s.size ∧ i = .int .i64 m ∧ Hid (∀ j (hj : j < s.size), k ≤ j → j < m → sp8 (s[j]'hj) = false)) (fun i => s.size - (intOf i).toNat)
        case atStart => exact ⟨k, by omega, by omega, rfl, fun j _ h1 h2 => absurd h1 (by omega)⟩
        case round =>
          obtain ⟨m, hkm, hms, rfl, hns⟩ := hrel
          by_cases hm : m < s.size
          · cases hspm : sp8 (s[m]'hm)
            · have hspm' : spI (((s[m]'hm).toNat : Int)) = false := hspm
              have hspm2 := hide hspm
              clear hspm hsp hsp' hI
              go_wp2_with (go_at_call 78; refine (space_ok _ _).mono ?_; rintro e w2 ⟨rfl, rfl⟩)
              go_round
              case rel => exact ⟨m + 1, by omega, by omega, by go_num, fun j hj h1 h2 => by
                by_cases h : j = m
                · subst h; exact hspm2.out
                · exact hns.out j hj h1 (by omega)⟩
              case measure => simp [intOf]; omega
            · have hspm' : spI (((s[m]'hm).toNat : Int)) = true := hspm
              have hkm' : k < m := by
                rcases Nat.lt_or_ge k m with h | h
                · exact h
                · obtain rfl : k = m := by omega
                  rw [hsp] at hspm; cases hspm
              have hn := hide (split_word (by omega) hns.out (fun h => hspm) hI.out)
              clear hspm hsp hsp' hI hns
              go_wp2_with (go_at_call 78; refine (space_ok _ _).mono ?_; rintro e w2 ⟨rfl, rfl⟩)
              rw [cut_word s k m]
              have hne0 : cutL s k m ≠ [] := by
                intro h0
                have := cutL_len (s := s) (a := k) (b := m) (by omega) (by omega)
                rw [h0] at this
                simp at this
                omega
              generalize cutL s k m = cur at hn hne0 ⊢
              go_loopg [41] out.length (fun h x wx => ∃ j : Nat, j ≤ out.length ∧ out.length ≤ j + h ∧ x = .int .i64 j ∧ wx = wo ∧ Hid (∀ q, q < j → sx out q ≠ bs cur))
              case atStart => exact ⟨0, Nat.zero_le _, by omega, rfl, rfl, fun q hq => absurd hq (by omega)⟩
              case round =>
                obtain ⟨j, hjn, hjh, rfl, rfl, hne⟩ := hrel
                by_cases hjl : j < out.length
                · obtain ⟨b, off, rfl, hbl, hc⟩ := hSt'.out.2.2 (by omega)
                  have hck := hc j hjl
                  clear hc
                  by_cases he : sx out j = bs cur
                  · have hin : bs cur ∈ out := sx_in hjl he
                    rw [finW_in hin] at hn
                    have he' := str_eq he
                    clear he hne hin hne0
                    go_wp2
                    go_roundg g
                    case rel => exact ⟨m, out, _, c, by omega, by omega, by go_num, rfl, hn, by omega, hown'.out, hb⟩
                    case measure => omega
                  · have he' := str_ne he
                    have he2 := hide he
                    clear he
                    obtain ⟨h, rfl⟩ : ∃ h, gk = h + 1 := ⟨gk - 1, by omega⟩
                    go_wp2
                    go_roundg h
                    case rel => exact ⟨j + 1, by omega, by omega, by go_num, rfl, fun q hq => by
                      by_cases h : q = j
                      · subst h; exact he2.out
                      · exact hne.out q (by omega)⟩
                    case measure => omega
                · have hni : bs cur ∉ out := sx_out (fun q hq => hne.out q (by omega))
                  rw [finW_new hne0 hni] at hn
                  clear hni hne0 hne
                  go_wp2_with (at_builtin; refine wpList_pushS rfl _ _ rfl hown'.out (bs cur) _ rfl rfl (by omega) hsz ?_; intro A2 c2 w2 hown2 hg2)
                  go_roundg g
                  case rel => exact ⟨m, out ++ [bs cur], A2, c2, by omega, by omega, by go_num, by simp, hn, by simp; omega, by simpa using hown2, hg2.below (Nat.le_refl _) hb⟩
                  case measure => omega
          · obtain rfl : s.size = m := by omega
            have hkm' : k < s.size := hlt
            have hn := hide (split_word (by omega) hns.out (fun h => absurd h (by omega)) hI.out)
            clear hsp hsp' hI hns
            go_wp2_with (go_at_call 78; refine (space_ok _ _).mono ?_; rintro e w2 ⟨rfl, rfl⟩)
            rw [cut_word s k s.size]
            have hne0 : cutL s k s.size ≠ [] := by
              intro h0
              have := cutL_len (s := s) (a := k) (b := s.size) (by omega) (by omega)
              rw [h0] at this
              simp at this
              omega
            generalize cutL s k s.size = cur at hn hne0 ⊢
            go_loopg [41] out.length (fun h x wx => ∃ j : Nat, j ≤ out.length ∧ out.length ≤ j + h ∧ x = .int .i64 j ∧ wx = wo ∧ Hid (∀ q, q < j → sx out q ≠ bs cur))
            case atStart => exact ⟨0, Nat.zero_le _, by omega, rfl, rfl, fun q hq => absurd hq (by omega)⟩
            case round =>
              obtain ⟨j, hjn, hjh, rfl, rfl, hne⟩ := hrel
              by_cases hjl : j < out.length
              · obtain ⟨b, off, rfl, hbl, hc⟩ := hSt'.out.2.2 (by omega)
                have hck := hc j hjl
                clear hc
                by_cases he : sx out j = bs cur
                · have hin : bs cur ∈ out := sx_in hjl he
                  rw [finW_in hin] at hn
                  have he' := str_eq he
                  clear he hne hin hne0
                  go_wp2
                  go_roundg g
                  case rel => exact ⟨s.size, out, _, c, by omega, by omega, by go_num, rfl, hn, by omega, hown'.out, hb⟩
                  case measure => omega
                · have he' := str_ne he
                  have he2 := hide he
                  clear he
                  obtain ⟨h, rfl⟩ : ∃ h, gk = h + 1 := ⟨gk - 1, by omega⟩
                  go_wp2
                  go_roundg h
                  case rel => exact ⟨j + 1, by omega, by omega, by go_num, rfl, fun q hq => by
                    by_cases h : q = j
                    · subst h; exact he2.out
                    · exact hne.out q (by omega)⟩
                  case measure => omega
              · have hni : bs cur ∉ out := sx_out (fun q hq => hne.out q (by omega))
                rw [finW_new hne0 hni] at hn
                clear hni hne0 hne
                go_wp2_with (at_builtin; refine wpList_pushS rfl _ _ rfl hown'.out (bs cur) _ rfl rfl (by omega) hsz ?_; intro A2 c2 w2 hown2 hg2)
                go_roundg g
                case rel => exact ⟨s.size, out ++ [bs cur], A2, c2, by omega, by omega, by go_num, by simp, hn, by simp; omega, by simpa using hown2, hg2.below (Nat.le_refl _) hb⟩
                case measure => omega
      · have hsp' : spI (((s[k]'hlt).toNat : Int)) = true := hsp
        have hn : Hid (splitW (s.data.toList.drop (k + 1)) [] out = wordsS s) := by
          show _ = _
          have := split_space hlt hsp hI.out
          rwa [finW_nil] at this
        clear hI
        go_wp2_with (go_at_call 78; refine (space_ok _ _).mono ?_; rintro e w2 ⟨rfl, rfl⟩)
        go_roundg g
        case rel => exact ⟨k + 1, out, A, c, by omega, by omega, by go_num, rfl, hn, by omega, hown'.out, hb⟩
        case measure => omega
    · obtain rfl : s.size = k := by omega
      have hr : Hid (out = wordsS s) := by
        show _ = _
        have := split_end hI.out
        rwa [finW_nil] at this
      clear hI
      go_wp2
      try rw [Exit.noGoto_ret]
      go_ret
      refine ⟨A, c, ?_, ?_, ?_, hb⟩
      · rw [← hr.out]; rfl
      · have := hown'.out; rw [hr.out] at this; exact this
      · have := hSt'.out; rw [hr.out] at this; exact this
end Go.Proofs.Ytfiiikbbiimdiaa
