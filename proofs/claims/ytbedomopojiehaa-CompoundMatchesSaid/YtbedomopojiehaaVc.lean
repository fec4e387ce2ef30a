/- Walks: whether an element matches a compound, by the program. Conditions: the tree is good, the element is in it, mode and compound are right, the variable of the library that strings.Contains reads holds a number. -/
import Derived.Test.YtbedomopojiehaaVb
import Derived.Deep.RegionHeld3
namespace Go.Proofs.Ytbedomopojiehaa
open Go.RowKit

/-- One simple selector of a compound, with what is told of its list. -/
def oneC (T : List ANode) (i : Nat) (S : List Sim) (m : Int) (tell : Nat → Bool) (j : Nat) : Bool := if lisS (sm S j) then tell j else matS T i (sm S j) m
/-- The tag, and the first q simple selectors. -/
def matC (T : List ANode) (i : Nat) (tag : ByteArray) (S : List Sim) (m : Int) (tell : Nat → Bool) (q : Nat) : Bool := tagF T i tag && (List.range q).all (oneC T i S m tell)
theorem matC_succ (T : List ANode) (i : Nat) (tag : ByteArray) (S : List Sim) (m : Int) (tell : Nat → Bool) (q : Nat) : matC T i tag S m tell (q + 1) = (matC T i tag S m tell q && oneC T i S m tell q) := by
  unfold matC
  rw [List.range_succ, List.all_append, Bool.and_assoc]
  simp
theorem matC_no {T : List ANode} {i : Nat} {tag : ByteArray} {S : List Sim} {m : Int} {tell : Nat → Bool} {q n : Nat} (hq : q ≤ n) (h : matC T i tag S m tell q = false) : matC T i tag S m tell n = false := by
  induction n with
  | zero => have : q = 0 := by omega
            subst this; exact h
  | succ n ih =>
    by_cases he : q = n + 1
    · subst he; exact h
    · rw [matC_succ, ih (by omega), Bool.false_and]
theorem sMatch_at (T : List ANode) (i : Int) (k : Int) (nm : ByteArray) (op : Int) (vl : ByteArray) (fo : Bool) (a b : Int) (f : Bool) (LA : Option Addr) (ln lc : Nat) (m : Int) (V : Bool) (E : Int) (h0 : smatV T i ⟨k, nm, op, vl, fo, a, b, f, LA, ln, lc⟩ m = V) (h1 : smatE T i ⟨k, nm, op, vl, fo, a, b, f, LA, ln, lc⟩ m = E) (A : Option Addr) (n c : Nat) (w : World) (h : IsTree w A n T) (hmx : HasMax w) :
    Calls Try.prog 25 #[.agg #[.slice A n c], .int .i64 i, .agg #[.int .u8 k, .string nm, .int .u8 op, .string vl, .bool fo, .int .i64 a, .int .i64 b, .bool f, .slice LA ln lc], .int .i64 m] w fun r w' => r = .returned (.tuple #[.bool V, .int .i64 E]) ∧ Below w.heap.size w w' := by
  have := sMatch_ok A n c T i k nm op vl fo a b f LA ln lc m w h hmx
  rw [h0, h1] at this
  exact this
theorem compTag_at (T : List ANode) (i : Int) (tag : ByteArray) (V : Bool) (E : Int) (h0 : tagVal T i tag = V) (h1 : tagErr T i tag = E) (A : Option Addr) (n c : Nat) (w : World) (h : IsTree w A n T) :
    Calls Try.prog 39 #[.agg #[.slice A n c], .int .i64 i, .string tag] w fun r w' => r = .returned (.tuple #[.bool V, .int .i64 E]) ∧ Below w.heap.size w w' := by
  have := compTag_ok A n c T i tag w h
  rw [h0, h1] at this
  exact this
theorem told1_ok (pt : Nat) (TA : Option Addr) (tn tc : Nat) (B : List Bool) (q : Nat) (w : World) (hp : w.cell? ⟨pt, 0, none⟩ = some (.slice TA tn tc)) (hB : IsBools w TA tn B) (hq : q < tn) :
    Calls Try.prog 66 #[.int .i64 q, .pointer (some ⟨pt, 0, none⟩)] w fun e w' => e = .returned (.bool (bx B q)) ∧ w' = w := by
  obtain ⟨b, off, rfl, hb, hc⟩ := hB.2.2 (by omega)
  have hc' := hc q hq
  clear hc hB
  go_enter Try.func66, Try.ntmps66
  go_wp2
  go_ret
  exact ⟨rfl, rfl⟩
set_option maxRecDepth 100000 in
theorem told2_ok (pt pi : Nat) (TA : Option Addr) (tn tc : Nat) (B : Nat → Option Addr) (C : Nat → Nat) (L : Nat → List Bool) (i q : Nat) (b off : Nat) (w : World) (hp : w.cell? ⟨pt, 0, none⟩ = some (.slice (some ⟨b, off, none⟩) tn tc)) (hi : w.cell? ⟨pi, 0, none⟩ = some (.int .i64 i)) (hq : q < tn) (hrow : w.cell? ⟨b, off + q, none⟩ = some (.slice (B q) (L q).length (C q))) (hL : IsBools w (B q) (L q).length (L q)) (hiq : i < (L q).length) (_h : TA = some ⟨b, off, none⟩) :
    Calls Try.prog 73 #[.int .i64 q, .pointer (some ⟨pt, 0, none⟩), .pointer (some ⟨pi, 0, none⟩)] w fun e w' => e = .returned (.bool (bx (L q) i)) ∧ Below w.heap.size w w' := by
  obtain ⟨b2, off2, h2, hb, hc⟩ := hL.2.2 (by omega)
  rw [h2] at hrow
  have hc' := hc i hiq
  have q1 : (0 : Int) ≤ (q : Int) := by omega
  have q2 : (q : Int) < (tn : Int) := by omega
  have q3 : (0 : Int) ≤ (i : Int) := by omega
  have q4 : (i : Int) < ((L q).length : Int) := by omega
  clear hc hL h2
  generalize (L q).length = ll at *
  generalize bx (L q) i = vv at *
  generalize C q = cc at *
  go_enter Try.func73, Try.ntmps73
  go_wp2
  go_region_held3 (fun X => X.cell? ⟨pt, 0, none⟩ = some (.slice (some ⟨b, off, none⟩) tn tc) ∧ X.cell? ⟨pi, 0, none⟩ = some (.int .i64 i) ∧ X.cell? ⟨b, off + q, none⟩ = some (.slice (some ⟨b2, off2, none⟩) ll cc) ∧ X.cell? ⟨b2, off2 + i, none⟩ = some (.bool vv)) (first | exact ⟨hp, hi, hrow, hc'⟩) (first | fail)
  go_wp2
  go_ret
  exact ⟨rfl, (Below.refl _ _).drew⟩
set_option maxRecDepth 100000 in
set_option maxHeartbeats 4000000 in
theorem compMatch1_ok (A : Option Addr) (n c : Nat) (T : List ANode) (i : Nat) (tag : ByteArray) (SA : Option Addr) (sn sc : Nat) (S : List Sim) (m : Int) (pt : Nat) (tell : Nat → Bool) (w : World) (h : IsTree w A n T) (hS0 : IsSims w SA sn S) (hi : i < n) (hg : goodB T = true) (hmd : modeB T m = true) (hck : okC tag S) (hmx : HasMax w)
    (hC : ∀ W, Below w.heap.size w W → ∀ q : Nat, q < sn → lisS (sm S q) = true → Calls Try.prog 66 #[.int .i64 q, .pointer (some ⟨pt, 0, none⟩)] W fun e w' => e = .returned (.bool (tell q)) ∧ Below W.heap.size W w') :
    Calls Try.prog 65 #[.agg #[.slice A n c], .int .i64 i, .agg #[.string tag, .slice SA sn sc], .int .i64 m, .func (.func 66) #[] #[.pointer (some ⟨pt, 0, none⟩)]] w
      fun r w' => r = .returned (.bool (matC T i tag S m tell sn)) ∧ Below w.heap.size w w' := by
  have hT := hide h
  have hl := h.1
  have hm' := hide hmx
  have hS := hide hS0
  have hsl := hS0.1
  have hC' := hide hC
  have hck' := hide hck
  have hs64 : sn ≤ 64 := by have := hck.2.1; omega
  have hB0 := below_alloc (below_alloc (Below.refl w.heap.size w) (.cells #[.slice A n c] 43)) (.cells #[.string tag, .slice SA sn sc] 65)
  have hbox0 : ((w.alloc (.cells #[.slice A n c] 43)).alloc (.cells #[.string tag, .slice SA sn sc] 65)).cell? ⟨w.heap.size, 0, none⟩ = some (.slice A n c) := by go_simp
  have htb0 : ((w.alloc (.cells #[.slice A n c] 43)).alloc (.cells #[.string tag, .slice SA sn sc] 65)).cell? ⟨w.heap.size + 1, 1, none⟩ = some (.slice SA sn sc) := by go_simp
  have ha0 : askI T [(i : Int)] = 0 := askI_ok hg (by simp; omega)
  have hTE0 : tagErr T i tag = 0 := by unfold tagErr; rw [if_pos ha0]; exact if_pos hck.1
  have hTE := hide hTE0
  have hTV : Hid (tagVal T i tag = matC T i tag S m tell 0) := by show _ = _; unfold tagVal matC; rw [if_pos hTE0, Int.toNat_natCast]; simp
  have hsm := hide (show ∀ j, j < sn → lisS (sm S j) = false → smatV T i (sm S j) m = matS T i (sm S j) m ∧ smatE T i (sm S j) m = 0 from fun j hj hlj => by
    have h1 : chkS (sm S j) = 0 := by
      rcases hck.2.2.2 j (by omega) with h2 | h2
      · rw [hlj] at h2; cases h2
      · exact h2
    have h3 : smatE T i (sm S j) m = 0 := by unfold smatE; rw [if_pos ha0]; exact smE_zero.2 ⟨hg, hmd, h1⟩
    exact ⟨by unfold smatV; rw [if_pos h3, Int.toNat_natCast], h3⟩)
  obtain ⟨M, hM⟩ : ∃ M : Nat → Bool, ∀ q, matC T i tag S m tell q = M q := ⟨fun q => matC T i tag S m tell q, fun _ => rfl⟩
  have hMs := hide (show ∀ q, M (q + 1) = (M q && oneC T i S m tell q) from fun q => by rw [← hM, ← hM]; exact matC_succ T i tag S m tell q)
  have hMn := hide (show ∀ q, q ≤ sn → M q = false → M sn = false from fun q hq h => by rw [← hM] at h ⊢; exact matC_no hq h)
  rw [hM] at hTV ⊢
  clear h hmx hS0 hC ha0 hTE0 hck hg hmd hM
  go_enter Try.func65, Try.ntmps65
  go_wp2_with fail
  refine (compTag_at T i tag (M 0) 0 hTV.out hTE.out _ _ c _ (hT.out.below hB0)).mono ?_
  rintro e w1 ⟨rfl, hb1⟩
  have hB1 := Below.on hB0 hb1
  have hbox1 := cell_later hb1 hbox0
  have htb1 := cell_later hb1 htb0
  clear hb1 hbox0 htb0
  go_wp2
  go_loopw [11, 26] (fun v s wr => ∃ q : Nat, q ≤ sn ∧ s = .int .i64 q ∧ v = .bool (M q) ∧ Below w1.heap.size w1 wr) (fun _ s _ => sn - (intOf s).toNat)
  case atStart => exact ⟨0, Nat.zero_le _, rfl, rfl, Below.refl _ _⟩
  case round =>
    obtain ⟨q, hq, rfl, rfl, hb⟩ := hrel
    have hBr := Below.on hB1 hb
    have hboxr := cell_later hb hbox1
    by_cases hlt : q < sn
    · obtain ⟨bb, off, rfl, hbl, hc⟩ := hS.out.2.2 (by omega)
      have hin := (hc q hlt).later hBr
      have q1 : (0 : Int) ≤ (q : Int) := by omega
      have q2 : (q : Int) < (sn : Int) := by omega
      have hbl2 := Nat.lt_of_lt_of_le hbl hBr.size
      have hms := hMs.out q
      have hmn := hMn.out q hq
      have hsq := hsm.out q hlt
      unfold oneC at hms
      clear hc
      cases hs : sm S q with
      | mk k nm op vl fo a b f LA ln lc =>
        rw [hs] at hin hms hsq
        obtain ⟨s0, s1, s2, s3, s4, s5, s6, s7, s8⟩ := hin
        obtain ⟨vq, hvq⟩ : ∃ x, M q = x := ⟨_, rfl⟩
        rw [hvq] at hms hmn ⊢
        have hs' := hide hs
        clear hs hvq
        cases vq
        · have hr := hide (hmn rfl)
          clear hms hmn hsq
          go_wp2
          go_ret
          exact ⟨ret_bool hr.out.symm, below_alloc hBr _⟩
        · rw [Bool.true_and] at hms
          clear hmn
          have hz0 := below_alloc hb (.cells #[.int .u8 k, .string nm, .int .u8 op, .string vl, .bool fo, .int .i64 a, .int .i64 b, .bool f, .slice LA ln lc] 26)
          have hzr := below_alloc (Below.refl wr.heap.size wr) (.cells #[.int .u8 k, .string nm, .int .u8 op, .string vl, .bool fo, .int .i64 a, .int .i64 b, .bool f, .slice LA ln lc] 26)
          have hA := hide (simAt_at wr wr.heap.size rfl k nm op vl fo a b f LA ln lc)
          cases hlj : lisS ⟨k, nm, op, vl, fo, a, b, f, LA, ln, lc⟩
          · obtain ⟨e1, e2⟩ := hsq hlj
            rw [hlj] at hms
            simp only [Bool.false_eq_true, if_false] at hms
            rw [← e1] at hms
            obtain ⟨rv, hrv⟩ : ∃ x, smatV T i ⟨k, nm, op, vl, fo, a, b, f, LA, ln, lc⟩ m = x := ⟨_, rfl⟩
            rw [hrv] at hms
            have hms' := hide hms
            have hrv' := hide hrv
            have he2 := hide e2
            have hlj' := hide hlj
            clear hsq e1 e2 hms hrv hlj
            go_wp2_with fail
            refine (listed_at k nm op vl fo a b f LA ln lc false hlj'.out _).mono ?_
            rintro e u1 ⟨rfl, hu1⟩
            have hz1 := Below.on hz0 hu1
            have hbx1 := cell_later (Below.on hzr hu1) hboxr
            clear s0 s1 s2 s3 s4 s5 s6 s7 s8
            obtain ⟨s0, s1, s2, s3, s4, s5, s6, s7, s8⟩ := hA.out.later hu1
            clear hu1 hboxr
            go_wp2_with fail
            refine (sMatch_at T i k nm op vl fo a b f LA ln lc m rv 0 hrv'.out he2.out _ _ c _ (hT.out.below (Below.on hB1 hz1)) (hm'.out.below (Below.on hB1 hz1))).mono ?_
            rintro e u2 ⟨rfl, hu2⟩
            have hz2 := Below.on hz1 hu2
            clear s0 s1 s2 s3 s4 s5 s6 s7 s8 hu2
            go_wp2
            go_roundw
            case rel => exact ⟨q + 1, by omega, by go_num, by rw [hms'.out], hz2⟩
            case measure => simp [intOf]; omega
          · rw [hlj] at hms
            simp only [if_true] at hms
            have hms' := hide hms
            have hlj' := hide hlj
            clear hsq hms hlj
            go_wp2_with fail
            refine (listed_at k nm op vl fo a b f LA ln lc true hlj'.out _).mono ?_
            rintro e u1 ⟨rfl, hu1⟩
            have hz1 := Below.on hz0 hu1
            have hzz := Below.on hB1 hz1
            clear s0 s1 s2 s3 s4 s5 s6 s7 s8 hu1 hboxr
            have hcl := hide (hC'.out _ hzz q hlt (by rw [hs'.out]; exact hlj'.out))
            go_wp2_with (go_at_call 66; (with_reducible refine hcl.out.mono ?_); rintro e u2 ⟨rfl, hu2⟩)
            have hz2 := Below.on hz1 hu2
            go_wp2
            go_roundw
            case rel => exact ⟨q + 1, by omega, by go_num, by rw [hms'.out], hz2⟩
            case measure => simp [intOf]; omega
    · obtain rfl : q = sn := by omega
      go_wp2
      go_ret
      exact ⟨rfl, hBr⟩
set_option maxRecDepth 100000 in
set_option maxHeartbeats 4000000 in
theorem compMatch2_ok (A : Option Addr) (n c : Nat) (T : List ANode) (i : Nat) (tag : ByteArray) (SA : Option Addr) (sn sc : Nat) (S : List Sim) (m : Int) (pt pi : Nat) (tell : Nat → Bool) (w : World) (h : IsTree w A n T) (hS0 : IsSims w SA sn S) (hi : i < n) (hg : goodB T = true) (hmd : modeB T m = true) (hck : okC tag S) (hmx : HasMax w)
    (hC : ∀ W, Below w.heap.size w W → ∀ q : Nat, q < sn → lisS (sm S q) = true → Calls Try.prog 73 #[.int .i64 q, .pointer (some ⟨pt, 0, none⟩), .pointer (some ⟨pi, 0, none⟩)] W fun e w' => e = .returned (.bool (tell q)) ∧ Below W.heap.size W w') :
    Calls Try.prog 65 #[.agg #[.slice A n c], .int .i64 i, .agg #[.string tag, .slice SA sn sc], .int .i64 m, .func (.func 73) #[] #[.pointer (some ⟨pt, 0, none⟩), .pointer (some ⟨pi, 0, none⟩)]] w
      fun r w' => r = .returned (.bool (matC T i tag S m tell sn)) ∧ Below w.heap.size w w' := by
  have hT := hide h
  have hl := h.1
  have hm' := hide hmx
  have hS := hide hS0
  have hsl := hS0.1
  have hC' := hide hC
  have hck' := hide hck
  have hs64 : sn ≤ 64 := by have := hck.2.1; omega
  have hB0 := below_alloc (below_alloc (Below.refl w.heap.size w) (.cells #[.slice A n c] 43)) (.cells #[.string tag, .slice SA sn sc] 65)
  have hbox0 : ((w.alloc (.cells #[.slice A n c] 43)).alloc (.cells #[.string tag, .slice SA sn sc] 65)).cell? ⟨w.heap.size, 0, none⟩ = some (.slice A n c) := by go_simp
  have htb0 : ((w.alloc (.cells #[.slice A n c] 43)).alloc (.cells #[.string tag, .slice SA sn sc] 65)).cell? ⟨w.heap.size + 1, 1, none⟩ = some (.slice SA sn sc) := by go_simp
  have ha0 : askI T [(i : Int)] = 0 := askI_ok hg (by simp; omega)
  have hTE0 : tagErr T i tag = 0 := by unfold tagErr; rw [if_pos ha0]; exact if_pos hck.1
  have hTE := hide hTE0
  have hTV : Hid (tagVal T i tag = matC T i tag S m tell 0) := by show _ = _; unfold tagVal matC; rw [if_pos hTE0, Int.toNat_natCast]; simp
  have hsm := hide (show ∀ j, j < sn → lisS (sm S j) = false → smatV T i (sm S j) m = matS T i (sm S j) m ∧ smatE T i (sm S j) m = 0 from fun j hj hlj => by
    have h1 : chkS (sm S j) = 0 := by
      rcases hck.2.2.2 j (by omega) with h2 | h2
      · rw [hlj] at h2; cases h2
      · exact h2
    have h3 : smatE T i (sm S j) m = 0 := by unfold smatE; rw [if_pos ha0]; exact smE_zero.2 ⟨hg, hmd, h1⟩
    exact ⟨by unfold smatV; rw [if_pos h3, Int.toNat_natCast], h3⟩)
  obtain ⟨M, hM⟩ : ∃ M : Nat → Bool, ∀ q, matC T i tag S m tell q = M q := ⟨fun q => matC T i tag S m tell q, fun _ => rfl⟩
  have hMs := hide (show ∀ q, M (q + 1) = (M q && oneC T i S m tell q) from fun q => by rw [← hM, ← hM]; exact matC_succ T i tag S m tell q)
  have hMn := hide (show ∀ q, q ≤ sn → M q = false → M sn = false from fun q hq h => by rw [← hM] at h ⊢; exact matC_no hq h)
  rw [hM] at hTV ⊢
  clear h hmx hS0 hC ha0 hTE0 hck hg hmd hM
  go_enter Try.func65, Try.ntmps65
  go_wp2_with fail
  refine (compTag_at T i tag (M 0) 0 hTV.out hTE.out _ _ c _ (hT.out.below hB0)).mono ?_
  rintro e w1 ⟨rfl, hb1⟩
  have hB1 := Below.on hB0 hb1
  have hbox1 := cell_later hb1 hbox0
  have htb1 := cell_later hb1 htb0
  clear hb1 hbox0 htb0
  go_wp2
  go_loopw [11, 26] (fun v s wr => ∃ q : Nat, q ≤ sn ∧ s = .int .i64 q ∧ v = .bool (M q) ∧ Below w1.heap.size w1 wr) (fun _ s _ => sn - (intOf s).toNat)
  case atStart => exact ⟨0, Nat.zero_le _, rfl, rfl, Below.refl _ _⟩
  case round =>
    obtain ⟨q, hq, rfl, rfl, hb⟩ := hrel
    have hBr := Below.on hB1 hb
    have hboxr := cell_later hb hbox1
    by_cases hlt : q < sn
    · obtain ⟨bb, off, rfl, hbl, hc⟩ := hS.out.2.2 (by omega)
      have hin := (hc q hlt).later hBr
      have q1 : (0 : Int) ≤ (q : Int) := by omega
      have q2 : (q : Int) < (sn : Int) := by omega
      have hbl2 := Nat.lt_of_lt_of_le hbl hBr.size
      have hms := hMs.out q
      have hmn := hMn.out q hq
      have hsq := hsm.out q hlt
      unfold oneC at hms
      clear hc
      cases hs : sm S q with
      | mk k nm op vl fo a b f LA ln lc =>
        rw [hs] at hin hms hsq
        obtain ⟨s0, s1, s2, s3, s4, s5, s6, s7, s8⟩ := hin
        obtain ⟨vq, hvq⟩ : ∃ x, M q = x := ⟨_, rfl⟩
        rw [hvq] at hms hmn ⊢
        have hs' := hide hs
        clear hs hvq
        cases vq
        · have hr := hide (hmn rfl)
          clear hms hmn hsq
          go_wp2
          go_ret
          exact ⟨ret_bool hr.out.symm, below_alloc hBr _⟩
        · rw [Bool.true_and] at hms
          clear hmn
          have hz0 := below_alloc hb (.cells #[.int .u8 k, .string nm, .int .u8 op, .string vl, .bool fo, .int .i64 a, .int .i64 b, .bool f, .slice LA ln lc] 26)
          have hzr := below_alloc (Below.refl wr.heap.size wr) (.cells #[.int .u8 k, .string nm, .int .u8 op, .string vl, .bool fo, .int .i64 a, .int .i64 b, .bool f, .slice LA ln lc] 26)
          have hA := hide (simAt_at wr wr.heap.size rfl k nm op vl fo a b f LA ln lc)
          cases hlj : lisS ⟨k, nm, op, vl, fo, a, b, f, LA, ln, lc⟩
          · obtain ⟨e1, e2⟩ := hsq hlj
            rw [hlj] at hms
            simp only [Bool.false_eq_true, if_false] at hms
            rw [← e1] at hms
            obtain ⟨rv, hrv⟩ : ∃ x, smatV T i ⟨k, nm, op, vl, fo, a, b, f, LA, ln, lc⟩ m = x := ⟨_, rfl⟩
            rw [hrv] at hms
            have hms' := hide hms
            have hrv' := hide hrv
            have he2 := hide e2
            have hlj' := hide hlj
            clear hsq e1 e2 hms hrv hlj
            go_wp2_with fail
            refine (listed_at k nm op vl fo a b f LA ln lc false hlj'.out _).mono ?_
            rintro e u1 ⟨rfl, hu1⟩
            have hz1 := Below.on hz0 hu1
            have hbx1 := cell_later (Below.on hzr hu1) hboxr
            clear s0 s1 s2 s3 s4 s5 s6 s7 s8
            obtain ⟨s0, s1, s2, s3, s4, s5, s6, s7, s8⟩ := hA.out.later hu1
            clear hu1 hboxr
            go_wp2_with fail
            refine (sMatch_at T i k nm op vl fo a b f LA ln lc m rv 0 hrv'.out he2.out _ _ c _ (hT.out.below (Below.on hB1 hz1)) (hm'.out.below (Below.on hB1 hz1))).mono ?_
            rintro e u2 ⟨rfl, hu2⟩
            have hz2 := Below.on hz1 hu2
            clear s0 s1 s2 s3 s4 s5 s6 s7 s8 hu2
            go_wp2
            go_roundw
            case rel => exact ⟨q + 1, by omega, by go_num, by rw [hms'.out], hz2⟩
            case measure => simp [intOf]; omega
          · rw [hlj] at hms
            simp only [if_true] at hms
            have hms' := hide hms
            have hlj' := hide hlj
            clear hsq hms hlj
            go_wp2_with fail
            refine (listed_at k nm op vl fo a b f LA ln lc true hlj'.out _).mono ?_
            rintro e u1 ⟨rfl, hu1⟩
            have hz1 := Below.on hz0 hu1
            have hzz := Below.on hB1 hz1
            clear s0 s1 s2 s3 s4 s5 s6 s7 s8 hu1 hboxr
            have hcl := hide (hC'.out _ hzz q hlt (by rw [hs'.out]; exact hlj'.out))
            go_wp2_with (go_at_call 73; (with_reducible refine hcl.out.mono ?_); rintro e u2 ⟨rfl, hu2⟩)
            have hz2 := Below.on hz1 hu2
            go_wp2
            go_roundw
            case rel => exact ⟨q + 1, by omega, by go_num, by rw [hms'.out], hz2⟩
            case measure => simp [intOf]; omega
    · obtain rfl : q = sn := by omega
      go_wp2
      go_ret
      exact ⟨rfl, hBr⟩
end Go.Proofs.Ytbedomopojiehaa
