/- Walks: counted places, by the program. No condition but those of the inner functions. -/
import Derived.Test.YtankambfobfnfaaNp
namespace Go.Proofs.Ytankambfobfnfaa
open Go.RowKit

def cnt (B : List Bool) (l : List Int) (p : Nat) (last : Bool) (k : Nat) : Nat := if last then pfx B l k - pfx B l (min k p) else pfx B l (min k (p + 1))

theorem cnt_succ (B : List Bool) {l : List Int} {p k : Nat} (hk : k < l.length) (last : Bool) :
    cnt B l p last (k + 1) = cnt B l p last k + (if inb B (ix l k) = true ∧ ((last = true ∧ p ≤ k) ∨ (last = false ∧ k ≤ p)) then 1 else 0) := by
  have h := pfx_succ B l k hk
  cases last
  · simp only [cnt, Bool.false_eq_true, if_false, false_and, false_or, true_and]
    by_cases hkp : k ≤ p
    · rw [show min (k + 1) (p + 1) = k + 1 by omega, show min k (p + 1) = k by omega, h]
      by_cases hb : inb B (ix l k) = true
      · rw [if_pos hb, if_pos ⟨hb, hkp⟩]
      · rw [if_neg hb, if_neg (fun h => hb h.1)]
    · rw [show min (k + 1) (p + 1) = p + 1 by omega, show min k (p + 1) = p + 1 by omega, if_neg (fun h => hkp h.2)]; rfl
  · simp only [cnt, if_true, true_and, Bool.true_eq_false, false_and, or_false]
    by_cases hkp : p ≤ k
    · rw [show min (k + 1) p = p by omega, show min k p = p by omega, h]
      have := pfx_mono B l hkp
      by_cases hb : inb B (ix l k) = true
      · rw [if_pos hb, if_pos ⟨hb, hkp⟩]; omega
      · rw [if_neg hb, if_neg (fun h => hb h.1)]; rfl
    · rw [show min (k + 1) p = k + 1 by omega, show min k p = k by omega, if_neg (fun h => hkp h.2)]; omega
theorem cnt_le (B : List Bool) (l : List Int) (p k : Nat) (last : Bool) : cnt B l p last k ≤ k := by
  have h1 := pfx_le B l k
  have h2 := pfx_le B l (min k (p + 1))
  cases last
  · simp only [cnt, Bool.false_eq_true, if_false]; omega
  · simp only [cnt, if_true]; omega
theorem cnt_end {B : List Bool} {T : List ANode} {i : Nat} {p : Nat} (hp : p < (sibs T i).length) (he : ix (sibs T i) p = i) (hb : inb B i = true) (hpp : posn (sibs T i) i = p) (last : Bool) :
    atF T i last B = cnt B (sibs T i) p last (sibs T i).length := by
  unfold atF
  rw [if_pos hb, hpp, Int.toNat_natCast]
  have h5 := pfx_succ B (sibs T i) p hp
  rw [he, if_pos hb] at h5
  have := pfx_mono B (sibs T i) (show p ≤ (sibs T i).length by omega)
  cases last
  · simp only [cnt, Bool.false_eq_true, if_false]
    rw [show min (sibs T i).length (p + 1) = p + 1 by omega, h5]; rfl
  · simp only [cnt, if_true]
    rw [show min (sibs T i).length p = p by omega]; omega
theorem atF_no {B : List Bool} {T : List ANode} {i : Nat} (hb : bx B i = false) (last : Bool) : atF T i last B = 0 := by
  unfold atF inb
  rw [Int.toNat_natCast, if_neg (by rw [hb]; decide)]

set_option maxRecDepth 100000 in
set_option maxHeartbeats 4000000 in
theorem nplace_ok (A AB : Option Addr) (n c cb : Nat) (T : List ANode) (B : List Bool) (i : Nat) (last : Bool) (w : World) (h : IsTree w A n T) (hL : IsBools w AB n B) (hg : goodB T = true) (hi : i < n) :
    Calls Try.prog 64 #[.agg #[.slice A n c], .int .i64 i, .bool last, .slice AB n cb] w fun e w' => e = .returned (.int .i64 (atF T i last B)) ∧ Below w.heap.size w w' := by
  have ho := hide h.2.2.2
  have hT := hide h
  have hl := h.1
  clear h
  have hB0 := below_alloc (Below.refl w.heap.size w) (.cells #[.slice A n c] 24)
  have hbox0 : (w.alloc (.cells #[.slice A n c] 24)).cell? ⟨w.heap.size, 0, none⟩ = some (.slice A n c) := by go_simp
  have hiT : i < T.length := by omega
  obtain ⟨b, off, aA, cA, aC, cC, rfl, hbl, -, -, c2, c3, -, hC⟩ := ho.out (by omega)
  obtain ⟨bb, offb, rfl, hbb, hcb⟩ := hL.2.2 (by omega)
  have hn64 : n ≤ 64 := by have := ((goodB_iff T).1 hg).2.1; omega
  have hbb0 : bb < (w.alloc (.cells #[.slice (some ⟨b, off, none⟩) n c] 24)).heap.size := Nat.lt_of_lt_of_le hbb hB0.size
  have gi := (old hB0 _ _ hbb).trans (hcb i hi)
  have gp := (old hB0 _ _ hbl).trans (c2 i hi)
  have hcb' := hide hcb
  have hg' := hide hg
  have c3' := hide c3
  have hC' := hide hC
  clear hL hcb c2 c3 hC ho hg
  cases hib : bx B i
  · have hr := hide (atF_no (T := T) hib last)
    rw [hib] at gi
    clear hib
    go_enter Try.func64, Try.ntmps64
    go_wp2
    go_ret
    exact ⟨ret_int hr.out.symm, hB0⟩
  · rw [hib] at gi
    have hib' : Hid (inb B i = true) := by show _ = _; unfold inb; rw [Int.toNat_natCast]; exact hib
    clear hib
    obtain ⟨p, hp, he, hpp⟩ := sibs_pos hg'.out hiT
    have hend := hide (cnt_end hp he hib'.out hpp last)
    have hnd := hide (sibs_nodup hg'.out hiT)
    have he' := hide he
    clear he hpp
    by_cases hpar : par T i < 0
    · have hs : Hid (sibs T i = [(i : Int)]) := if_pos hpar
      have hr : Hid (atF T i last B = 1) := by
        show _ = _
        rw [hend.out, hs.out]
        obtain rfl : p = 0 := by have := hp; rw [hs.out] at this; simpa using this
        show ((cnt B [(i : Int)] 0 last (0 + 1) : Nat) : Int) = 1
        rw [cnt_succ B (by simp) last]
        have : cnt B [(i : Int)] 0 last 0 = 0 := by have := cnt_le B [(i : Int)] 0 0 last; omega
        rw [this, if_pos ⟨hib'.out, by cases last <;> simp⟩]; rfl
      clear hp
      go_enter Try.func64, Try.ntmps64
      go_wp2
      go_ret
      exact ⟨ret_int hr.out.symm, hB0⟩
    · obtain ⟨q, hq⟩ := Int.eq_ofNat_of_zero_le (show 0 ≤ par T i by omega)
      have hqn : q < n := by have := (good_par hg'.out hiT).2; omega
      have hs : Hid (sibs T i = kids T q) := by show _ = _; unfold sibs; rw [if_neg hpar, hq]; rfl
      rw [hq] at gp
      have gk := (old hB0 _ _ hbl).trans (c3'.out q hqn)
      have hI := hide (hC'.out q hqn).1
      rw [← hs.out] at gk hI
      generalize cA q = CA at gk hI
      generalize cC q = cc at gk
      have hm64 := sibs_len hg'.out hiT
      have hmem : Hid (∀ k, k < (sibs T i).length → ∃ r : Nat, ix (sibs T i) k = r ∧ r < n) := fun k hk => by
        obtain ⟨r, h1, h2, _⟩ := sibs_mem hg'.out hiT (ix_mem hk); exact ⟨r, h1, by omega⟩
      generalize hl : sibs T i = l at *
      obtain ⟨m, hm⟩ : ∃ m, l.length = m := ⟨_, rfl⟩
      rw [hm] at gk hI hm64 hp hmem
      have hm' := hide hm
      obtain ⟨b3, off3, rfl, hbl3, hc3⟩ := hI.out.2.2 (by omega)
      have hc3' := hide hc3
      clear hl hm hc3 hs hpar hq
      go_enter Try.func64, Try.ntmps64
      go_wp2
      clear gi gp gk
      go_loopw [10, 11, 35] (fun x y s wr => ∃ k : Nat, k ≤ m ∧ s = .int .i64 k ∧ x = .int .i64 (cnt B l p last k : Nat) ∧ y = .bool (decide (p < k)) ∧ Below w.heap.size w wr) (fun _ _ s _ => m - (intOf s).toNat)
      case atStart => exact ⟨0, Nat.zero_le _, rfl, by have := cnt_le B l p 0 last; rw [show cnt B l p last 0 = 0 by omega]; rfl, by simp, hB0⟩
      case round =>
        obtain ⟨k, hk, rfl, rfl, rfl, hb⟩ := hrel
        have hcl := cnt_le B l p k last
        by_cases hlt : k < m
        · obtain ⟨r, hr, hrn⟩ := hmem.out k hlt
          have gk := (old hb _ _ hbl3).trans (hc3'.out k hlt)
          have gr := (old hb _ _ hbb).trans (hcb'.out r hrn)
          have hcs := hide (cnt_succ B (l := l) (p := p) (k := k) (by have := hm'.out; omega) last)
          have hinb : Hid (inb B (ix l k) = bx B r) := by show _ = _; rw [hr]; unfold inb; rw [Int.toNat_natCast]
          rw [hr] at gk
          have hki : Hid (k = p ↔ r = i) := by
            show _ ↔ _
            constructor
            · intro h; have := he'.out; rw [← h, hr] at this; omega
            · intro h
              have h1 := nodup_ix hnd.out (by have := hm'.out; omega : k < l.length) (by have := hm'.out; omega : p < l.length) (by rw [hr, he'.out, h])
              exact h1
          clear hr
          rcases (by omega : k < p ∨ k = p ∨ p < k) with hkp | hkp | hkp
          · have d1 : decide (p < k) = false := by simp; omega
            have d2 : ((r : Int) == (i : Int)) = false := by have := hki.out; simp; omega
            have d3 : Hid (decide (p < k + 1) = false) := by show _ = _; simp; omega
            have d4 : ¬ p ≤ k := by omega
            have d5 : k ≤ p := by omega
            cases last <;> cases hbr : bx B r
            all_goals
              rw [hbr] at gr
              have hnx := hide hcs.out
              rw [hinb.out, hbr] at hnx
              have hbr' := hide hbr
              clear hbr
              have hnx' := hide (by simpa [d4, d5] using hnx.out)
              clear hnx d4 d5
              go_wp2
              go_roundw
              case rel => exact ⟨k + 1, by omega, by go_num, by first | (rw [hnx'.out]; done) | (rw [hnx'.out]; go_num), by first | (rw [d3.out]; done) | (rw [d3.out, d1]; done), hb⟩
              case measure => simp [intOf]; omega
          · have d1 : decide (p < k) = false := by simp; omega
            have d2 : ((r : Int) == (i : Int)) = true := by have := hki.out; simp; omega
            have d3 : Hid (decide (p < k + 1) = true) := by show _ = _; simp; omega
            have d4 : p ≤ k := by omega
            have d5 : k ≤ p := by omega
            clear hkp
            cases last <;> cases hbr : bx B r
            all_goals
              rw [hbr] at gr
              have hnx := hide hcs.out
              rw [hinb.out, hbr] at hnx
              have hbr' := hide hbr
              clear hbr
              have hnx' := hide (by simpa [d4, d5] using hnx.out)
              clear hnx d4 d5
              go_wp2
              go_roundw
              case rel => exact ⟨k + 1, by omega, by go_num, by first | (rw [hnx'.out]; done) | (rw [hnx'.out]; go_num), by first | (rw [d3.out]; done) | (rw [d3.out, d1]; done), hb⟩
              case measure => simp [intOf]; omega
          · have d1 : decide (p < k) = true := by simp; omega
            have d2 : ((r : Int) == (i : Int)) = false := by have := hki.out; simp; omega
            have d3 : Hid (decide (p < k + 1) = true) := by show _ = _; simp; omega
            have d4 : p ≤ k := by omega
            have d5 : ¬ k ≤ p := by omega
            cases last <;> cases hbr : bx B r
            all_goals
              rw [hbr] at gr
              have hnx := hide hcs.out
              rw [hinb.out, hbr] at hnx
              have hbr' := hide hbr
              clear hbr
              have hnx' := hide (by simpa [d4, d5] using hnx.out)
              clear hnx d4 d5
              go_wp2
              go_roundw
              case rel => exact ⟨k + 1, by omega, by go_num, by first | (rw [hnx'.out]; done) | (rw [hnx'.out]; go_num), by first | (rw [d3.out]; done) | (rw [d3.out, d1]; done), hb⟩
              case measure => simp [intOf]; omega
        · obtain rfl : m = k := by omega
          go_wp2
          go_ret
          exact ⟨ret_int (by rw [hend.out, hm'.out]), hb⟩
end Go.Proofs.Ytankambfobfnfaa
