/- Walks: where an attribute is, by the reference; links, by the program and by the reference. No condition but those of the inner functions. -/
import Derived.Test.YtbedomopojiehaaAb
namespace Go.Proofs.Ytbedomopojiehaa
open Go.RowKit

def atV (l : List (ByteArray × ByteArray)) (s : ByteArray) : Int := if hasA l s = true then (lowA l s : Int) else -1

set_option maxRecDepth 100000 in
set_option maxHeartbeats 1000000 in
theorem rattr_ok (A : Option Addr) (n c : Nat) (T : List ANode) (i : Nat) (s : ByteArray) (w : World) (h : IsTree w A n T) (hi : i < n) (hg : goodB T = true) :
    Calls Try.prog 79 #[.agg #[.slice A n c], .int .i64 i, .string s] w fun e w' => e = .returned (.int .i64 (atV (atl T i) s)) ∧ Below w.heap.size w w' := by
  have ho := hide h.2.2.2
  have hT := hide h
  have hl := h.1
  clear h
  have hB0 := below_alloc (Below.refl w.heap.size w) (.cells #[.slice A n c] 43)
  have hbox0 : (w.alloc (.cells #[.slice A n c] 43)).cell? ⟨w.heap.size, 0, none⟩ = some (.slice A n c) := by go_simp
  obtain ⟨hs, h16⟩ := good_attrs hg (by omega : i < T.length)
  obtain ⟨b, off, aA, cA, aC, cC, rfl, hbl, -, c1, -, -, hA, -⟩ := ho.out (by omega)
  have c1' := hide (c1 i hi)
  have hA' := hide (hA i hi).1
  change Hid (w.cell? ⟨b, off + i * 4 + 1, none⟩ = some (Value.slice (aA i) (atl T i).length (aC i))) at c1'
  change Hid (IsAttrs w (aA i) (atl T i).length (atl T i)) at hA'
  generalize aA i = AA at c1' hA'
  generalize aC i = ac at c1'
  generalize atl T i = l at *
  have hs' := hide hs
  obtain ⟨m, hm⟩ : ∃ m, l.length = m := ⟨_, rfl⟩
  rw [hm] at c1' hA' h16
  have hm' := hide hm
  clear c1 hA ho hg hs hm
  go_enter Try.func79, Try.ntmps79
  go_wp2
  go_loop [7] (fun x => ∃ k : Nat, k ≤ m ∧ x = .int .i64 k ∧ Hid (∀ j, j < k → nm l j ≠ s)) (fun x => m - (intOf x).toNat)
  case atStart => exact ⟨0, Nat.zero_le _, rfl, fun j hj => absurd hj (by omega)⟩
  case round =>
    obtain ⟨k, hk, rfl, hne⟩ := hrel
    have g1 := (old hB0 _ _ hbl).trans c1'.out
    by_cases hlt : k < m
    · obtain ⟨ba, oa, rfl, hba, ca0, -⟩ := hA'.out.2.2.2 (by omega)
      have g2 := (old hB0 _ _ hba).trans (ca0 k hlt)
      clear ca0
      by_cases he : nm l k = s
      · have hr : Hid (atV l s = k) := by
          show _ = _
          have := has_at hs'.out (j := k) (by have := hm'.out; omega)
          rw [he] at this
          unfold atV
          rw [if_pos this.2, this.1]
        have hq : ((nm l k).toList == s.toList) = true := by simp [he]
        clear he
        go_wp2
        go_ret
        exact ⟨ret_int hr.out.symm, hB0⟩
      · have hq : ((nm l k).toList == s.toList) = false := by
          rw [Bool.eq_false_iff]; intro h; exact he (toList_inj (by simpa using h))
        have he' := hide he
        clear he
        go_wp2
        go_round
        case rel => exact ⟨k + 1, by omega, by go_num, fun j hj => by
          by_cases h : j = k
          · subst h; exact he'.out
          · exact hne.out j (by omega)⟩
        case measure => simp [intOf]; omega
    · have hr : Hid (atV l s = -1) := by
        show _ = _
        unfold atV
        rw [if_neg]
        intro h
        obtain ⟨j, h1, h2⟩ := (hasA_iff hs'.out s).1 h
        exact hne.out j (by have := hm'.out; omega) h2
      go_wp2
      go_ret
      exact ⟨ret_int hr.out.symm, hB0⟩

def href : ByteArray := ⟨#[104, 114, 101, 102]⟩
/-- Whether an element of a good tree is a link. -/
def lkB (T : List ANode) (i : Nat) : Bool := hasA (atl T i) href && ((nd T i).tag.toList == ([97] : List UInt8))

set_option maxRecDepth 100000 in
set_option maxHeartbeats 1000000 in
theorem lis_ok (A : Option Addr) (n c : Nat) (T : List ANode) (i : Nat) (w : World) (h : IsTree w A n T) (hi : i < n) (hg : goodB T = true) :
    Calls Try.prog 63 #[.agg #[.slice A n c], .int .i64 i] w fun e w' => e = .returned (.bool (lkB T i)) ∧ Below w.heap.size w w' := by
  have ho := hide h.2.2.2
  have hT := hide h
  have hl := h.1
  clear h
  have hB0 := below_alloc (Below.refl w.heap.size w) (.cells #[.slice A n c] 43)
  have hbox0 : (w.alloc (.cells #[.slice A n c] 43)).cell? ⟨w.heap.size, 0, none⟩ = some (.slice A n c) := by go_simp
  have q1 : askI T [(i : Int)] = 0 := askI_ok hg (by simp; omega)
  have he : getE T i href = if hasA (atl T i) href = true then 0 else 6 := by unfold getE; rw [if_pos q1, Int.toNat_natCast]
  obtain ⟨b, off, aA, cA, aC, cC, rfl, hbl, c0, -, -, -, -, -⟩ := ho.out (by omega)
  have g0 := hide (c0 i hi)
  clear c0 ho hg q1
  cases hh : hasA (atl T i) href
  · have e1 : getE T i href = 6 := by rw [he, hh]; rfl
    have hr : Hid (lkB T i = false) := by show _ = _; unfold lkB; rw [hh]; rfl
    clear he hh
    go_enter Try.func63, Try.ntmps63
    go_wp2_with fail
    refine (get_ok _ _ _ T _ href _ (hT.out.below hB0)).mono ?_
    rintro e w1 ⟨rfl, hb1⟩
    have hbox1 := cell_later hb1 hbox0
    have hB1 := Below.on hB0 hb1
    go_wp2
    go_ret
    exact ⟨ret_bool hr.out.symm, hB1⟩
  · have e1 : getE T i href = 0 := by rw [he, hh]; rfl
    have hr : Hid (lkB T i = ((nd T i).tag.toList == ([97] : List UInt8))) := by show _ = _; unfold lkB; rw [hh]; rfl
    clear he hh
    go_enter Try.func63, Try.ntmps63
    go_wp2_with fail
    refine (get_ok _ _ _ T _ href _ (hT.out.below hB0)).mono ?_
    rintro e w1 ⟨rfl, hb1⟩
    have hbox1 := cell_later hb1 hbox0
    have hB1 := Below.on hB0 hb1
    have g1 := (old hB1 _ _ hbl).trans g0.out
    go_wp2
    go_ret
    exact ⟨ret_bool hr.out.symm, hB1⟩

set_option maxRecDepth 100000 in
set_option maxHeartbeats 1000000 in
theorem rlk_ok (A : Option Addr) (n c : Nat) (T : List ANode) (i : Nat) (w : World) (h : IsTree w A n T) (hi : i < n) (hg : goodB T = true) :
    Calls Try.prog 53 #[.agg #[.slice A n c], .int .i64 i] w fun e w' => e = .returned (.bool (lkB T i)) ∧ Below w.heap.size w w' := by
  have ho := hide h.2.2.2
  have hT := hide h
  have hl := h.1
  clear h
  have hB0 := below_alloc (Below.refl w.heap.size w) (.cells #[.slice A n c] 43)
  have hbox0 : (w.alloc (.cells #[.slice A n c] 43)).cell? ⟨w.heap.size, 0, none⟩ = some (.slice A n c) := by go_simp
  obtain ⟨b, off, aA, cA, aC, cC, rfl, hbl, c0, -, -, -, -, -⟩ := ho.out (by omega)
  have g0 := (old hB0 _ _ hbl).trans (c0 i hi)
  have hg' := hide hg
  clear c0 ho hg
  cases ht : ((nd T i).tag.toList == ([97] : List UInt8))
  · have hr : Hid (lkB T i = false) := by show _ = _; unfold lkB; rw [ht]; simp
    have ht' : ((nd T i).tag.toList == [97]) = false := ht
    clear ht
    go_enter Try.func53, Try.ntmps53
    go_wp2
    go_ret
    exact ⟨ret_bool hr.out.symm, hB0⟩
  · have hr : Hid (lkB T i = hasA (atl T i) href) := by show _ = _; unfold lkB; rw [ht]; simp
    have ht' : ((nd T i).tag.toList == [97]) = true := ht
    clear ht
    cases hh : hasA (atl T i) href
    · have hav : atV (atl T i) href = -1 := by unfold atV; rw [hh]; rfl
      have hav' := hide hav
      rw [hh] at hr
      clear hh hav
      go_enter Try.func53, Try.ntmps53
      go_wp2_with fail
      refine (rattr_ok _ _ _ T i href _ (hT.out.below hB0) hi hg'.out).mono ?_
      rw [hav'.out]
      rintro e w1 ⟨rfl, hb1⟩
      go_wp2
      go_ret
      exact ⟨ret_bool hr.out.symm, Below.on hB0 hb1⟩
    · have hav : atV (atl T i) href = (lowA (atl T i) href : Int) := by unfold atV; rw [hh]; rfl
      have hav' := hide hav
      rw [hh] at hr
      clear hh hav
      go_enter Try.func53, Try.ntmps53
      go_wp2_with fail
      refine (rattr_ok _ _ _ T i href _ (hT.out.below hB0) hi hg'.out).mono ?_
      rw [hav'.out]
      rintro e w1 ⟨rfl, hb1⟩
      go_wp2
      go_ret
      exact ⟨ret_bool hr.out.symm, Below.on hB0 hb1⟩
end Go.Proofs.Ytbedomopojiehaa
