/- Walks: counted places, by the program. No condition but those of the inner functions. -/
import Derived.Test.YtljloicgjgbplaaGreatG20
import Derived.Deep.RegionHeld3
namespace Go.Proofs.YtljloicgjgbplaaGreat
open Go.RowKit

def cnt (B : List Bool) (l : List Int) (p : Nat) (last : Bool) (k : Nat) : Nat := if last then pfx B l k - pfx B l (min k p) else pfx B l (min k (p + 1))

theorem cnt_succ (B : List Bool) {l : List Int} {p k : Nat} (hk : k < l.length) (last : Bool) :
    cnt B l p last (k + 1) = cnt B l p last k + (if inb B (ix l k) = true ∧ ((last = true ∧ p ≤ k) ∨ (last = false ∧ k ≤ p)) then 1 else 0) := by
  have h := pfx_succ B l k hk
  cases last
  · simp only [cnt, Bool.false_eq_true, if_false, false_and, false_or, true_and]
    by_cases hkp : k ≤ p
    · rw [show min (k + 1) (p + 1) = k + 1 by omega, show min k (p + 1) = k by omega, h]
      by_cases hb : inb B (ix l k) = true
      · rw [if_pos hb, if_pos ⟨hb, hkp⟩]
      · rw [if_neg hb, if_neg (fun h => hb h.1)]
    · rw [show min (k + 1) (p + 1) = p + 1 by omega, show min k (p + 1) = p + 1 by omega, if_neg (fun h => hkp h.2)]; rfl
  · simp only [cnt, if_true, true_and, Bool.true_eq_false, false_and, or_false]
    by_cases hkp : p ≤ k
    · rw [show min (k + 1) p = p by omega, show min k p = p by omega, h]
      have := pfx_mono B l hkp
      by_cases hb : inb B (ix l k) = true
      · rw [if_pos hb, if_pos ⟨hb, hkp⟩]; omega
      · rw [if_neg hb, if_neg (fun h => hb h.1)]; rfl
    · rw [show min (k + 1) p = k + 1 by omega, show min k p = k by omega, if_neg (fun h => hkp h.2)]; omega
theorem cnt_le (B : List Bool) (l : List Int) (p k : Nat) (last : Bool) : cnt B l p last k ≤ k := by
  have h1 := pfx_le B l k
  have h2 := pfx_le B l (min k (p + 1))
  cases last
  · simp only [cnt, Bool.false_eq_true, if_false]; omega
  · simp only [cnt, if_true]; omega
theorem cnt_end {B : List Bool} {T : List ANode} {i : Nat} {p : Nat} (hp : p < (sibs T i).length) (he : ix (sibs T i) p = i) (hb : inb B i = true) (hpp : posn (sibs T i) i = p) (last : Bool) :
    atF T i last B = cnt B (sibs T i) p last (sibs T i).length := by
  unfold atF
  rw [if_pos hb, hpp, Int.toNat_natCast]
  have h5 := pfx_succ B (sibs T i) p hp
  rw [he, if_pos hb] at h5
  have := pfx_mono B (sibs T i) (show p ≤ (sibs T i).length by omega)
  cases last
  · simp only [cnt, Bool.false_eq_true, if_false]
    rw [show min (sibs T i).length (p + 1) = p + 1 by omega, h5]; rfl
  · simp only [cnt, if_true]
    rw [show min (sibs T i).length p = p by omega]; omega
theorem atF_no {B : List Bool} {T : List ANode} {i : Nat} (hb : bx B i = false) (last : Bool) : atF T i last B = 0 := by
  unfold atF inb
  rw [Int.toNat_natCast, if_neg (by rw [hb]; decide)]

set_option maxRecDepth 100000 in
set_option maxHeartbeats 4000000 in
theorem nplace_ok (A AB : Option Addr) (n c cb : Nat) (T : List ANode) (B : List Bool) (i : Nat) (last : Bool) (w : World) (h : IsTree w A n T) (hL : IsBools w AB n B) (hg : goodB T = true) (hi : i < n) :
    Calls Tryz.prog 157 #[.agg #[.slice A n c], .int .i64 i, .bool last, .slice AB n cb] w fun e w' => e = .returned (.int .i64 (atF T i last B)) ∧ Below w.heap.size w w' := by
  have ho := hide h.2.2.2
  have hT := hide h
  have hl := h.1
  clear h
  have hB0 := below_alloc (Below.refl w.heap.size w) (.cells #[.slice A n c] 24)
  have hbox0 : (w.alloc (.cells #[.slice A n c] 24)).cell? ⟨w.heap.size, 0, none⟩ = some (.slice A n c) := by go_simp
  have hiT : i < T.length := by omega
  obtain ⟨b, off, aA, cA, aC, cC, rfl, hbl, -, -, c2, c3, -, hC⟩ := ho.out (by omega)
  obtain ⟨bb, offb, rfl, hbb, hcb⟩ := hL.2.2 (by omega)
  have hn64 : n ≤ 64 := by have := ((goodB_iff T).1 hg).2.1; omega
  have hbb0 : bb < (w.alloc (.cells #[.slice (some ⟨b, off, none⟩) n c] 24)).heap.size := Nat.lt_of_lt_of_le hbb hB0.size
  have gi := (old hB0 _ _ hbb).trans (hcb i hi)
  have gp := (old hB0 _ _ hbl).trans (c2 i hi)
  have hcb' := hide hcb
  have hg' := hide hg
  have c3' := hide c3
  have hC' := hide hC
  clear hL hcb c2 c3 hC ho hg
  cases hib : bx B i
  · have hr := hide (atF_no (T := T) hib last)
    rw [hib] at gi
    clear hib
    go_enter Tryz.func157, Tryz.ntmps157
    go_wp2
    go_ret
    exact ⟨ret_int hr.out.symm, hB0⟩
  · rw [hib] at gi
    have hib' : Hid (inb B i = true) := by show _ = _; unfold inb; rw [Int.toNat_natCast]; exact hib
    clear hib
    obtain ⟨p, hp, he, hpp⟩ := sibs_pos hg'.out hiT
    have hend := hide (cnt_end hp he hib'.out hpp last)
    have hnd := hide (sibs_nodup hg'.out hiT)
    have he' := hide he
    clear he hpp
    by_cases hpar : par T i < 0
    · have hs : Hid (sibs T i = [(i : Int)]) := if_pos hpar
      have hr : Hid (atF T i last B = 1) := by
        show _ = _
        rw [hend.out, hs.out]
        obtain rfl : p = 0 := by have := hp; rw [hs.out] at this; simpa using this
        show ((cnt B [(i : Int)] 0 last (0 + 1) : Nat) : Int) = 1
        rw [cnt_succ B (by simp) last]
        have : cnt B [(i : Int)] 0 last 0 = 0 := by have := cnt_le B [(i : Int)] 0 0 last; omega
        rw [this, if_pos ⟨hib'.out, by cases last <;> simp⟩]; rfl
      clear hp
      go_enter Tryz.func157, Tryz.ntmps157
      go_wp2
      go_ret
      exact ⟨ret_int hr.out.symm, hB0⟩
    · obtain ⟨q, hq⟩ := Int.eq_ofNat_of_zero_le (show 0 ≤ par T i by omega)
      have hqn : q < n := by have := (good_par hg'.out hiT).2; omega
      have hs : Hid (sibs T i = kids T q) := by show _ = _; unfold sibs; rw [if_neg hpar, hq]; rfl
      rw [hq] at gp
      have gk := (old hB0 _ _ hbl).trans (c3'.out q hqn)
      have hI := hide (hC'.out q hqn).1
      rw [← hs.out] at gk hI
      generalize cA q = CA at gk hI
      generalize cC q = cc at gk
      have hm64 := sibs_len hg'.out hiT
      have hmem : Hid (∀ k, k < (sibs T i).length → ∃ r : Nat, ix (sibs T i) k = r ∧ r < n) := fun k hk => by
        obtain ⟨r, h1, h2, _⟩ := sibs_mem hg'.out hiT (ix_mem hk); exact ⟨r, h1, by omega⟩
      generalize hl : sibs T i = l at *
      obtain ⟨m, hm⟩ : ∃ m, l.length = m := ⟨_, rfl⟩
      rw [hm] at gk hI hm64 hp hmem
      have hm' := hide hm
      obtain ⟨b3, off3, rfl, hbl3, hc3⟩ := hI.out.2.2 (by omega)
      have hc3' := hide hc3
      clear hl hm hc3 hs hpar hq
      go_enter Tryz.func157, Tryz.ntmps157
      go_wp2
      clear gi gp gk
      go_loopw [10, 11, 35] (fun x y s wr => ∃ k : Nat, k ≤ m ∧ s = .int .i64 k ∧ x = .int .i64 (cnt B l p last k : Nat) ∧ y = .bool (decide (p < k)) ∧ Below w.heap.size w wr) (fun _ _ s _ => m - (intOf s).toNat)
      case atStart => exact ⟨0, Nat.zero_le _, rfl, by have := cnt_le B l p 0 last; rw [show cnt B l p last 0 = 0 by omega]; rfl, by simp, hB0⟩
      case round =>
        obtain ⟨k, hk, rfl, rfl, rfl, hb⟩ := hrel
        have hcl := cnt_le B l p k last
        by_cases hlt : k < m
        · obtain ⟨r, hr, hrn⟩ := hmem.out k hlt
          have gk := (old hb _ _ hbl3).trans (hc3'.out k hlt)
          have gr := (old hb _ _ hbb).trans (hcb'.out r hrn)
          have hcs := hide (cnt_succ B (l := l) (p := p) (k := k) (by have := hm'.out; omega) last)
          have hinb : Hid (inb B (ix l k) = bx B r) := by show _ = _; rw [hr]; unfold inb; rw [Int.toNat_natCast]
          rw [hr] at gk
          have hki : Hid (k = p ↔ r = i) := by
            show _ ↔ _
            constructor
            · intro h; have := he'.out; rw [← h, hr] at this; omega
            · intro h
              have h1 := nodup_ix hnd.out (by have := hm'.out; omega : k < l.length) (by have := hm'.out; omega : p < l.length) (by rw [hr, he'.out, h])
              exact h1
          clear hr
          rcases (by omega : k < p ∨ k = p ∨ p < k) with hkp | hkp | hkp
          · have d1 : decide (p < k) = false := by simp; omega
            have d2 : ((r : Int) == (i : Int)) = false := by have := hki.out; simp; omega
            have d3 : Hid (decide (p < k + 1) = false) := by show _ = _; simp; omega
            have d4 : ¬ p ≤ k := by omega
            have d5 : k ≤ p := by omega
            cases last <;> cases hbr : bx B r
            all_goals
              rw [hbr] at gr
              have hnx := hide hcs.out
              rw [hinb.out, hbr] at hnx
              have hbr' := hide hbr
              clear hbr
              have hnx' := hide (by simpa [d4, d5] using hnx.out)
              clear hnx d4 d5
              go_wp2
              go_roundw
              case rel => exact ⟨k + 1, by omega, by go_num, by first | (rw [hnx'.out]; done) | (rw [hnx'.out]; go_num), by first | (rw [d3.out]; done) | (rw [d3.out, d1]; done), hb⟩
              case measure => simp [intOf]; omega
          · have d1 : decide (p < k) = false := by simp; omega
            have d2 : ((r : Int) == (i : Int)) = true := by have := hki.out; simp; omega
            have d3 : Hid (decide (p < k + 1) = true) := by show _ = _; simp; omega
            have d4 : p ≤ k := by omega
            have d5 : k ≤ p := by omega
            clear hkp
            cases last <;> cases hbr : bx B r
            all_goals
              rw [hbr] at gr
              have hnx := hide hcs.out
              rw [hinb.out, hbr] at hnx
              have hbr' := hide hbr
              clear hbr
              have hnx' := hide (by simpa [d4, d5] using hnx.out)
              clear hnx d4 d5
              go_wp2
              go_roundw
              case rel => exact ⟨k + 1, by omega, by go_num, by first | (rw [hnx'.out]; done) | (rw [hnx'.out]; go_num), by first | (rw [d3.out]; done) | (rw [d3.out, d1]; done), hb⟩
              case measure => simp [intOf]; omega
          · have d1 : decide (p < k) = true := by simp; omega
            have d2 : ((r : Int) == (i : Int)) = false := by have := hki.out; simp; omega
            have d3 : Hid (decide (p < k + 1) = true) := by show _ = _; simp; omega
            have d4 : p ≤ k := by omega
            have d5 : ¬ k ≤ p := by omega
            cases last <;> cases hbr : bx B r
            all_goals
              rw [hbr] at gr
              have hnx := hide hcs.out
              rw [hinb.out, hbr] at hnx
              have hbr' := hide hbr
              clear hbr
              have hnx' := hide (by simpa [d4, d5] using hnx.out)
              clear hnx d4 d5
              go_wp2
              go_roundw
              case rel => exact ⟨k + 1, by omega, by go_num, by first | (rw [hnx'.out]; done) | (rw [hnx'.out]; go_num), by first | (rw [d3.out]; done) | (rw [d3.out, d1]; done), hb⟩
              case measure => simp [intOf]; omega
        · obtain rfl : m = k := by omega
          go_wp2
          go_ret
          exact ⟨ret_int (by rw [hend.out, hm'.out]), hb⟩
end Go.Proofs.YtljloicgjgbplaaGreat
/- Walks: counted places and matches, by the program. No condition but those of the inner functions. -/
namespace Go.Proofs.YtljloicgjgbplaaGreat
open Go.RowKit

/-- The error of a tree and of what is told. -/
def tolE (T : List ANode) (m : Nat) : Int := if goodB T = true then (if m = T.length then 0 else 2) else 8
theorem tolE_zero {T : List ANode} {m : Nat} : tolE T m = 0 ↔ goodB T = true ∧ m = T.length := by
  unfold tolE
  by_cases h : goodB T = true
  · rw [if_pos h]
    by_cases h2 : m = T.length
    · rw [if_pos h2]; exact ⟨fun _ => ⟨h, h2⟩, fun _ => rfl⟩
    · rw [if_neg h2]; exact ⟨fun h => by omega, fun h => absurd h.2 h2⟩
  · rw [if_neg h]; exact ⟨fun h => by omega, fun h' => absurd h'.1 h⟩
/-- Whether an element matches, when all is right. -/
def nmatF (T : List ANode) (i : Nat) (a b : Int) (last : Bool) (B : List Bool) : Bool := decide (1 ≤ atF T i last B) && hasB a b (atF T i last B)
theorem ncheck_ok (A AB : Option Addr) (n c m cb : Nat) (T : List ANode) (w : World) (h : IsTree w A n T) :
    Calls Tryz.prog 134 #[.agg #[.slice A n c], .slice AB m cb] w fun e w' => e = .returned (.int .i64 (tolE T m)) ∧ Below w.heap.size w w' := by
  have hT := hide h
  have hl := h.1
  clear h
  have hB0 := below_alloc (Below.refl w.heap.size w) (.cells #[.slice A n c] 24)
  have hbox0 : (w.alloc (.cells #[.slice A n c] 24)).cell? ⟨w.heap.size, 0, none⟩ = some (.slice A n c) := by go_simp
  by_cases hg : goodB T = true
  · have hc0 : chk T = 0 := chk_ok hg
    by_cases hm : m = n
    · have hr : Hid (tolE T m = 0) := tolE_zero.2 ⟨hg, by omega⟩
      subst hm
      clear hg
      go_enter Tryz.func134, Tryz.ntmps134
      go_wp2_with fail
      refine (check_ok _ _ _ T _ (hT.out.below hB0)).mono ?_
      rintro e w1 ⟨rfl, hb1⟩
      have hbox1 := cell_later hb1 hbox0
      have hB1 := Below.on hB0 hb1
      go_wp2
      go_ret
      exact ⟨ret_int hr.out.symm, hB1⟩
    · have hr : Hid (tolE T m = 2) := by show _ = _; unfold tolE; rw [if_pos hg, if_neg (by omega)]
      have hne : ((m : Int) != (n : Int)) = true := by simp; omega
      clear hg hm
      go_enter Tryz.func134, Tryz.ntmps134
      go_wp2_with fail
      refine (check_ok _ _ _ T _ (hT.out.below hB0)).mono ?_
      rintro e w1 ⟨rfl, hb1⟩
      have hbox1 := cell_later hb1 hbox0
      have hB1 := Below.on hB0 hb1
      go_wp2
      go_ret
      exact ⟨ret_int hr.out.symm, hB1⟩
  · have hc0 : chk T = 8 := chk_bad hg
    have hr : Hid (tolE T m = 8) := if_neg hg
    clear hg
    go_enter Tryz.func134, Tryz.ntmps134
    go_wp2_with fail
    refine (check_ok _ _ _ T _ (hT.out.below hB0)).mono ?_
    rintro e w1 ⟨rfl, hb1⟩
    have hbox1 := cell_later hb1 hbox0
    have hB1 := Below.on hB0 hb1
    go_wp2
    go_ret
    exact ⟨ret_int hr.out.symm, hB1⟩

theorem isBools_of {w : World} {A : Option Addr} {n m : Nat} {B : List Bool} (h : IsBools w A n B) (e : n = m) : IsBools w A m B := e ▸ h

set_option maxRecDepth 100000 in
set_option maxHeartbeats 1000000 in
theorem nmatch_ok (A AB : Option Addr) (n c cb : Nat) (T : List ANode) (B : List Bool) (i : Nat) (a b : Int) (last : Bool) (w : World) (h : IsTree w A n T) (hL : IsBools w AB n B) (hg : goodB T = true) (hi : i < n) (hv : anbB a b = true) :
    Calls Tryz.prog 135 #[.agg #[.slice A n c], .int .i64 i, .agg #[.int .i64 a, .int .i64 b], .bool last, .slice AB n cb] w fun e w' => e = .returned (.bool (nmatF T i a b last B)) ∧ Below w.heap.size w w' := by
  have hT := hide h
  have hl := h.1
  clear h
  have hB0 := below_alloc (below_alloc (Below.refl w.heap.size w) (.cells #[.slice A n c] 24)) (.cells #[.int .i64 a, .int .i64 b] 39)
  have f0 : ((w.alloc (.cells #[.slice A n c] 24)).alloc (.cells #[.int .i64 a, .int .i64 b] 39)).cell? ⟨w.heap.size, 0, none⟩ = some (.slice A n c) := by go_simp
  have f1 : ((w.alloc (.cells #[.slice A n c] 24)).alloc (.cells #[.int .i64 a, .int .i64 b] 39)).cell? ⟨w.heap.size + 1, 0, none⟩ = some (.int .i64 a) := by go_simp
  have f2 : ((w.alloc (.cells #[.slice A n c] 24)).alloc (.cells #[.int .i64 a, .int .i64 b] 39)).cell? ⟨w.heap.size + 1, 1, none⟩ = some (.int .i64 b) := by go_simp
  have hL' := hide hL
  have hg' := hide hg
  have hv' := hide hv
  obtain ⟨p0, p1, p2⟩ := atF_bd hg (by omega : i < T.length) last B
  have hW := hide hB0
  clear hL hg hv hB0
  generalize hp : atF T i last B = p at p0 p1 p2
  have hp' := hide hp
  have hr : Hid (nmatF T i a b last B = (decide (1 ≤ p) && hasB a b p)) := by show _ = _; unfold nmatF; rw [hp]
  have hin : Hid (inB a b p = (decide (1 ≤ p) && hasB a b p) ∧ inE a b p = if 1 ≤ p then 0 else 2) := by
    show _ ∧ _
    unfold inB inE
    rw [if_pos hv'.out, if_pos hv'.out]
    by_cases h1 : 1 ≤ p
    · rw [if_pos h1, if_pos h1]; simp [h1]
    · rw [if_neg h1, if_neg h1]; simp [h1]
  clear hp p2
  go_enter Tryz.func135, Tryz.ntmps135
  go_wp2
  generalize (w.alloc (.cells #[.slice A n c] 24)).alloc (.cells #[.int .i64 a, .int .i64 b] 39) = W at *
  go_region_held3 (fun X => X.cell? ⟨w.heap.size, 0, none⟩ = some (.slice A n c) ∧ X.cell? ⟨w.heap.size + 1, 0, none⟩ = some (.int .i64 a) ∧ X.cell? ⟨w.heap.size + 1, 1, none⟩ = some (.int .i64 b)) (first | exact ⟨f0, f1, f2⟩ | exact ⟨r0, r1, r2⟩ | exact ⟨s0, s1, s2⟩) (first | (go_at_call 157; refine (nplace_ok _ _ _ _ _ T B i last _ ?_ ?_ hg'.out hi).mono ?_; (exact hT.out.below (show Below w.heap.size w W.drew from hW.out.drew)); (exact hL'.out.below (show Below w.heap.size w W.drew from hW.out.drew)); rw [hp'.out]; rintro e u1 ⟨rfl, hu1⟩; have r0 := cell_later hu1 f0; have r1 := cell_later hu1 f1; have r2 := cell_later hu1 f2) | (go_at_call 156; refine (anbIn_ok a b p _ p0 (by omega)).mono ?_; rintro e u2 ⟨rfl, hu2⟩; have s0 := cell_later hu2 r0; have s1 := cell_later hu2 r1; have s2 := cell_later hu2 r2))
  all_goals
    by_cases h1 : 1 ≤ p
    · have e1 : inE a b p = 0 := by rw [hin.out.2, if_pos h1]
      go_wp2
      go_ret
      exact ⟨ret_bool (by rw [hr.out, hin.out.1]), Below.on (Below.on hW.out.drew hu1) hu2⟩
    · have e1 : inE a b p = 2 := by rw [hin.out.2, if_neg h1]
      have e2 : Hid (nmatF T i a b last B = false) := by show _ = _; rw [hr.out]; simp [h1]
      clear h1
      go_wp2
      go_ret
      exact ⟨ret_bool e2.out.symm, Below.on (Below.on hW.out.drew hu1) hu2⟩

end Go.Proofs.YtljloicgjgbplaaGreat
/- Walks: which elements match, by the program; counted places and matches, by the reference; comparing lists of truth values. No condition but those of the inner functions. -/
namespace Go.Proofs.YtljloicgjgbplaaGreat
open Go.RowKit

/-- A list of truth values and an error that come back. -/
def MadeBoolsN (w : World) (xs : List Bool) (code : Int) (e : Ending) (w' : World) : Prop :=
  ∃ (A : Option Addr) (c : Nat), e = .returned (.tuple #[.slice A xs.length c, .int .i64 code]) ∧ IsBools w' A xs.length xs ∧ Below w.heap.size w w'
theorem madeBoolsN_nil {w w' : World} {code : Int} (hb : Below w.heap.size w w') : MadeBoolsN w [] code (.returned (.tuple #[.slice none 0 0, .int .i64 code])) w' :=
  ⟨none, 0, rfl, ⟨rfl, by simp, fun h => absurd h (by simp)⟩, hb⟩

theorem mapr_succ {f : Nat → Bool} (k : Nat) : (List.range (k + 1)).map f = (List.range k).map f ++ [f k] := by rw [List.range_succ, List.map_append]; rfl

end Go.Proofs.YtljloicgjgbplaaGreat
