/- Words on memory: lists of simple selectors. Walks: whether a selector has a list, tags, the error of a compound, by the program and by the reference. No condition. -/
import Derived.Test.YtbedomopojiehaaSv
import Derived.Test.YtbedomopojiehaaWg
namespace Go.Proofs.Ytbedomopojiehaa
open Go.RowKit

instance : Inhabited Sim := ⟨⟨0, .empty, 0, .empty, false, 0, 0, false, none, 0, 0⟩⟩
def sm (S : List Sim) (j : Nat) : Sim := S.getD j default
/-- A simple selector in a block, from a cell on. -/
def SimIn (w : World) (g o : Nat) (s : Sim) : Prop :=
  w.cell? ⟨g, o, none⟩ = some (.int .u8 s.kind) ∧ w.cell? ⟨g, o + 1, none⟩ = some (.string s.name) ∧ w.cell? ⟨g, o + 2, none⟩ = some (.int .u8 s.op) ∧ w.cell? ⟨g, o + 3, none⟩ = some (.string s.val) ∧ w.cell? ⟨g, o + 4, none⟩ = some (.bool s.fold) ∧
  w.cell? ⟨g, o + 5, none⟩ = some (.int .i64 s.a) ∧ w.cell? ⟨g, o + 6, none⟩ = some (.int .i64 s.b) ∧ w.cell? ⟨g, o + 7, none⟩ = some (.bool s.of) ∧ w.cell? ⟨g, o + 8, none⟩ = some (.slice s.LA s.ln s.lc)
theorem SimIn.later {w w' : World} {g o : Nat} {s : Sim} (h : SimIn w g o s) (hb : Below w.heap.size w w') : SimIn w' g o s := by
  obtain ⟨h0, h1, h2, h3, h4, h5, h6, h7, h8⟩ := h
  exact ⟨cell_later hb h0, cell_later hb h1, cell_later hb h2, cell_later hb h3, cell_later hb h4, cell_later hb h5, cell_later hb h6, cell_later hb h7, cell_later hb h8⟩
def IsSims (w : World) (A : Option Addr) (n : Nat) (S : List Sim) : Prop :=
  S.length = n ∧ n ≤ 9223372036854775807 ∧ (0 < n → ∃ b off, A = some ⟨b, off, none⟩ ∧ b < w.heap.size ∧ ∀ j, j < n → SimIn w b (off + j * 9) (sm S j))
theorem IsSims.below {w w' : World} {A : Option Addr} {n : Nat} {S : List Sim} (h : IsSims w A n S) (hb : Below w.heap.size w w') : IsSims w' A n S := by
  obtain ⟨h1, h2, h3⟩ := h
  refine ⟨h1, h2, fun hn => ?_⟩
  obtain ⟨b, off, ha, hbl, hc⟩ := h3 hn
  exact ⟨b, off, ha, Nat.lt_of_lt_of_le hbl hb.size, fun j hj => (hc j hj).later hb⟩
def lisS (s : Sim) : Bool := decide (9 ≤ s.kind) && decide (s.kind ≤ 14)
def okC (tag : ByteArray) (S : List Sim) : Prop := tag.size ≤ 64 ∧ S.length ≤ 64 ∧ ¬ (tag.size = 0 ∧ S.length = 0) ∧ ∀ j, j < S.length → lisS (sm S j) = true ∨ chkS (sm S j) = 0
instance (tag : ByteArray) (S : List Sim) : Decidable (okC tag S) := by unfold okC; infer_instance
def ckC (tag : ByteArray) (S : List Sim) : Int := if okC tag S then 0 else 12
theorem ckC_yes {tag : ByteArray} {S : List Sim} (h : okC tag S) : ckC tag S = 0 := if_pos h
theorem ckC_no {tag : ByteArray} {S : List Sim} (h : ¬ okC tag S) : ckC tag S = 12 := if_neg h
def tgE (t : ByteArray) : Int := if t.size ≤ 64 then 0 else 12
theorem ckC_zero {tag : ByteArray} {S : List Sim} : ckC tag S = 0 ↔ okC tag S := by
  unfold ckC
  split
  · rename_i h; simp [h]
  · rename_i h; simp [h]
def tagF (T : List ANode) (i : Nat) (tag : ByteArray) : Bool := decide (tag.size = 0) || (decide (tag = ⟨#[42]⟩) || decide (tag = (nd T i).tag))

theorem listed_ok (k : Int) (nm : ByteArray) (op : Int) (vl : ByteArray) (fo : Bool) (a b : Int) (f : Bool) (LA : Option Addr) (ln lc : Nat) (w : World) :
    Calls Try.prog 71 #[.agg #[.int .u8 k, .string nm, .int .u8 op, .string vl, .bool fo, .int .i64 a, .int .i64 b, .bool f, .slice LA ln lc]] w fun r w' => r = .returned (.bool (decide (9 ≤ k) && decide (k ≤ 14))) ∧ Below w.heap.size w w' := by
  by_cases h1 : 9 ≤ k
  · have g1 : decide (9 ≤ k) = true := decide_eq_true h1
    by_cases h2 : k ≤ 14
    · have g2 : decide (k ≤ 14) = true := decide_eq_true h2
      have hr : Hid ((decide (9 ≤ k) && decide (k ≤ 14)) = true) := by show _ = _; rw [g1, g2]; rfl
      have g3 : decide (8 < k) = true := by rw [decide_eq_true_eq]; omega
      have g4 : decide (k < 15) = true := by rw [decide_eq_true_eq]; omega
      clear h1 h2
      go_enter Try.func71, Try.ntmps71
      go_wp2
      go_ret
      exact ⟨ret_bool hr.out.symm, below_alloc (Below.refl _ _) _⟩
    · have g2 : decide (k ≤ 14) = false := decide_eq_false h2
      have hr : Hid ((decide (9 ≤ k) && decide (k ≤ 14)) = false) := by show _ = _; rw [g1, g2]; rfl
      have g3 : decide (8 < k) = true := by rw [decide_eq_true_eq]; omega
      have g4 : decide (k < 15) = false := by rw [decide_eq_false_iff_not]; omega
      clear h1 h2
      go_enter Try.func71, Try.ntmps71
      go_wp2
      go_ret
      exact ⟨ret_bool hr.out.symm, below_alloc (Below.refl _ _) _⟩
  · have g1 : decide (9 ≤ k) = false := decide_eq_false h1
    have hr : Hid ((decide (9 ≤ k) && decide (k ≤ 14)) = false) := by show _ = _; rw [g1]; rfl
    have g3 : decide (8 < k) = false := by rw [decide_eq_false_iff_not]; omega
    clear h1
    go_enter Try.func71, Try.ntmps71
    go_wp2
    go_ret
    exact ⟨ret_bool hr.out.symm, below_alloc (Below.refl _ _) _⟩
theorem rlisted_ok (k : Int) (nm : ByteArray) (op : Int) (vl : ByteArray) (fo : Bool) (a b : Int) (f : Bool) (LA : Option Addr) (ln lc : Nat) (w : World) :
    Calls Try.prog 72 #[.agg #[.int .u8 k, .string nm, .int .u8 op, .string vl, .bool fo, .int .i64 a, .int .i64 b, .bool f, .slice LA ln lc]] w fun r w' => r = .returned (.bool (decide (9 ≤ k) && decide (k ≤ 14))) ∧ Below w.heap.size w w' := by
  by_cases h1 : 9 ≤ k
  · have g1 : decide (9 ≤ k) = true := decide_eq_true h1
    by_cases h2 : k ≤ 14
    · have g2 : decide (k ≤ 14) = true := decide_eq_true h2
      have hr : Hid ((decide (9 ≤ k) && decide (k ≤ 14)) = true) := by show _ = _; rw [g1, g2]; rfl
      have g3 : decide (8 < k) = true := by rw [decide_eq_true_eq]; omega
      have g4 : decide (k < 15) = true := by rw [decide_eq_true_eq]; omega
      clear h1 h2
      go_enter Try.func72, Try.ntmps72
      go_wp2
      go_ret
      exact ⟨ret_bool hr.out.symm, below_alloc (Below.refl _ _) _⟩
    · have g2 : decide (k ≤ 14) = false := decide_eq_false h2
      have hr : Hid ((decide (9 ≤ k) && decide (k ≤ 14)) = false) := by show _ = _; rw [g1, g2]; rfl
      have g3 : decide (8 < k) = true := by rw [decide_eq_true_eq]; omega
      have g4 : decide (k < 15) = false := by rw [decide_eq_false_iff_not]; omega
      clear h1 h2
      go_enter Try.func72, Try.ntmps72
      go_wp2
      go_ret
      exact ⟨ret_bool hr.out.symm, below_alloc (Below.refl _ _) _⟩
  · have g1 : decide (9 ≤ k) = false := decide_eq_false h1
    have hr : Hid ((decide (9 ≤ k) && decide (k ≤ 14)) = false) := by show _ = _; rw [g1]; rfl
    have g3 : decide (8 < k) = false := by rw [decide_eq_false_iff_not]; omega
    clear h1
    go_enter Try.func72, Try.ntmps72
    go_wp2
    go_ret
    exact ⟨ret_bool hr.out.symm, below_alloc (Below.refl _ _) _⟩
theorem tagged_ok (t : ByteArray) (w : World) : Calls Try.prog 68 #[.string t] w fun r w' => r = .returned (.int .i64 (tgE t)) ∧ w' = w := by
  by_cases h : t.size ≤ 64
  · have hr : Hid (tgE t = 0) := if_pos h
    have g : decide (64 < (t.size : Int)) = false := by rw [decide_eq_false_iff_not]; omega
    clear h
    go_enter Try.func68, Try.ntmps68
    go_wp2
    go_ret
    exact ⟨ret_int hr.out.symm, rfl⟩
  · have hr : Hid (tgE t = 12) := if_neg h
    have g : decide (64 < (t.size : Int)) = true := by rw [decide_eq_true_eq]; omega
    clear h
    go_enter Try.func68, Try.ntmps68
    go_wp2
    go_ret
    exact ⟨ret_int hr.out.symm, rfl⟩
theorem rtagOK_ok (t : ByteArray) (w : World) : Calls Try.prog 69 #[.string t] w fun r w' => r = .returned (.bool (decide (t.size ≤ 64))) ∧ w' = w := by
  have hr : Hid (decide (t.size ≤ 64) = decide ((t.size : Int) ≤ 64)) := by show _ = _; rw [decide_eq_decide]; omega
  go_enter Try.func69, Try.ntmps69
  go_wp2
  go_ret
  exact ⟨ret_bool hr.out.symm, rfl⟩
theorem tagged_at (t : ByteArray) (c0 : Int) (h : tgE t = c0) (w : World) : Calls Try.prog 68 #[.string t] w fun r w' => r = .returned (.int .i64 c0) ∧ w' = w := by
  rw [← h]; exact tagged_ok t w
theorem rtagOK_at (t : ByteArray) (v : Bool) (h : decide (t.size ≤ 64) = v) (w : World) : Calls Try.prog 69 #[.string t] w fun r w' => r = .returned (.bool v) ∧ w' = w := by
  rw [← h]; exact rtagOK_ok t w
theorem listed_at (k : Int) (nm : ByteArray) (op : Int) (vl : ByteArray) (fo : Bool) (a b : Int) (f : Bool) (LA : Option Addr) (ln lc : Nat) (v : Bool) (h : lisS ⟨k, nm, op, vl, fo, a, b, f, LA, ln, lc⟩ = v) (w : World) :
    Calls Try.prog 71 #[.agg #[.int .u8 k, .string nm, .int .u8 op, .string vl, .bool fo, .int .i64 a, .int .i64 b, .bool f, .slice LA ln lc]] w fun r w' => r = .returned (.bool v) ∧ Below w.heap.size w w' := by
  rw [← h]; exact listed_ok k nm op vl fo a b f LA ln lc w
theorem rlisted_at (k : Int) (nm : ByteArray) (op : Int) (vl : ByteArray) (fo : Bool) (a b : Int) (f : Bool) (LA : Option Addr) (ln lc : Nat) (v : Bool) (h : lisS ⟨k, nm, op, vl, fo, a, b, f, LA, ln, lc⟩ = v) (w : World) :
    Calls Try.prog 72 #[.agg #[.int .u8 k, .string nm, .int .u8 op, .string vl, .bool fo, .int .i64 a, .int .i64 b, .bool f, .slice LA ln lc]] w fun r w' => r = .returned (.bool v) ∧ Below w.heap.size w w' := by
  rw [← h]; exact rlisted_ok k nm op vl fo a b f LA ln lc w
set_option maxRecDepth 100000 in
set_option maxHeartbeats 4000000 in
theorem compCheck_ok (tag : ByteArray) (SA : Option Addr) (n c : Nat) (S : List Sim) (w : World) (h : IsSims w SA n S) :
    Calls Try.prog 41 #[.agg #[.string tag, .slice SA n c]] w fun r w' => r = .returned (.int .i64 (ckC tag S)) ∧ Below w.heap.size w w' := by
  have hS := hide h
  have hl := h.1
  clear h
  have hB0 := below_alloc (Below.refl w.heap.size w) (.cells #[.string tag, .slice SA n c] 65)
  by_cases h1 : tag.size ≤ 64
  · have ht : Hid (tgE tag = 0) := if_pos h1
    by_cases h2 : n ≤ 64
    · have g2 : decide (64 < (n : Int)) = false := by rw [decide_eq_false_iff_not]; omega
      by_cases h3 : tag.size = 0 ∧ n = 0
      · obtain ⟨h3, rfl⟩ := h3
        have hr : Hid (ckC tag S = 12) := ckC_no fun h => h.2.2.1 ⟨h3, hl⟩
        have h5 := (toList_nil tag).2 h3
        have h6 : tag.toList.isEmpty = true := by rw [h5]; rfl
        clear h1 h3
        go_enter Try.func41, Try.ntmps41
        go_wp2_with fail
        refine (tagged_at tag 0 ht.out _).mono ?_
        rintro e w1 ⟨rfl, rfl⟩
        go_wp2
        go_ret
        exact ⟨ret_int hr.out.symm, hB0⟩
      · have hcn : Hid (¬ (tag.size = 0 ∧ S.length = 0)) := by show ¬ _; rw [hl]; exact h3
        have h1' := hide h1
        have hgo : (¬ tag.toList = [] ∧ tag.toList.isEmpty = false) ∨ (tag.toList = [] ∧ tag.toList.isEmpty = true ∧ ((n : Int) == 0) = false) := by
          by_cases h4 : tag.size = 0
          · exact .inr ⟨(toList_nil tag).2 h4, by rw [(toList_nil tag).2 h4]; rfl, by rw [beq_eq_false_iff_ne]; omega⟩
          · exact .inl ⟨mt (toList_nil tag).1 h4, by rw [List.isEmpty_eq_false_iff]; exact mt (toList_nil tag).1 h4⟩
        clear h1 h3
        go_enter Try.func41, Try.ntmps41
        go_wp2_with fail
        refine (tagged_at tag 0 ht.out _).mono ?_
        rintro e w1 ⟨rfl, rfl⟩
        rcases hgo with ⟨d1, d2⟩ | ⟨d1, d2, d3⟩
        all_goals
          go_wp2
          go_loopw [30] (fun s wr => ∃ q : Nat, q ≤ n ∧ s = .int .i64 q ∧ Below w.heap.size w wr ∧ Hid (∀ j, j < q → lisS (sm S j) = true ∨ chkS (sm S j) = 0)) (fun s _ => n - (intOf s).toNat)
          case atStart => exact ⟨0, Nat.zero_le _, rfl, hB0, fun j hj => absurd hj (by omega)⟩
          case round =>
            obtain ⟨q, hq, rfl, hBr, hok⟩ := hrel
            by_cases hlt : q < n
            · obtain ⟨bb, off, rfl, hbl, hc⟩ := hS.out.2.2 (by omega)
              have hin := (hc q hlt).later hBr
              have q1 : (0 : Int) ≤ (q : Int) := by omega
              have q2 : (q : Int) < (n : Int) := by omega
              have hbl2 := Nat.lt_of_lt_of_le hbl hBr.size
              clear hc
              cases hs : sm S q with
              | mk k nm op vl fo a b f LA ln lc =>
                rw [hs] at hin
                obtain ⟨s0, s1, s2, s3, s4, s5, s6, s7, s8⟩ := hin
                have hs' := hide hs
                obtain ⟨v, hv⟩ : ∃ v, lisS ⟨k, nm, op, vl, fo, a, b, f, LA, ln, lc⟩ = v := ⟨_, rfl⟩
                have hv' := hide hv
                clear hs hv
                cases v
                · rcases chkS_cases ⟨k, nm, op, vl, fo, a, b, f, LA, ln, lc⟩ with hck0 | hck0
                  · have hck := hide hck0
                    clear hck0
                    go_wp2_with fail
                    have hz := below_alloc hBr (.cells #[.int .u8 k, .string nm, .int .u8 op, .string vl, .bool fo, .int .i64 a, .int .i64 b, .bool f, .slice LA ln lc] 26)
                    have hA := hide (simAt_at wr wr.heap.size rfl k nm op vl fo a b f LA ln lc)
                    refine (listed_at k nm op vl fo a b f LA ln lc false hv'.out _).mono ?_
                    rintro e u1 ⟨rfl, hu1⟩
                    have hz1 := Below.on hz hu1
                    clear s0 s1 s2 s3 s4 s5 s6 s7 s8
                    obtain ⟨s0, s1, s2, s3, s4, s5, s6, s7, s8⟩ := hA.out.later hu1
                    clear hu1 hz hA
                    go_wp2_with fail
                    refine (scheck_ok_at k nm op vl fo a b f LA ln lc _ 0 hck.out).mono ?_
                    rintro e u2 ⟨rfl, hu2⟩
                    have hz2 := Below.on hz1 hu2
                    clear s0 s1 s2 s3 s4 s5 s6 s7 s8
                    go_wp2
                    go_roundw
                    case rel => exact ⟨q + 1, by omega, by go_num, hz2, fun j hj => by
                      by_cases h : j = q
                      · subst h; right; rw [hs'.out]; exact hck.out
                      · exact hok.out j (by omega)⟩
                    case measure => simp [intOf]; omega
                  · have hck := hide hck0
                    have hr : Hid (ckC tag S = 12) := ckC_no fun h => by
                      have h9 := h.2.2.2 q (by omega)
                      rw [hs'.out] at h9
                      rcases h9 with h9 | h9
                      · rw [hv'.out] at h9; cases h9
                      · rw [hck0] at h9; omega
                    clear hck0
                    go_wp2_with fail
                    have hz := below_alloc hBr (.cells #[.int .u8 k, .string nm, .int .u8 op, .string vl, .bool fo, .int .i64 a, .int .i64 b, .bool f, .slice LA ln lc] 26)
                    have hA := hide (simAt_at wr wr.heap.size rfl k nm op vl fo a b f LA ln lc)
                    refine (listed_at k nm op vl fo a b f LA ln lc false hv'.out _).mono ?_
                    rintro e u1 ⟨rfl, hu1⟩
                    have hz1 := Below.on hz hu1
                    clear s0 s1 s2 s3 s4 s5 s6 s7 s8
                    obtain ⟨s0, s1, s2, s3, s4, s5, s6, s7, s8⟩ := hA.out.later hu1
                    clear hu1 hz hA
                    go_wp2_with fail
                    refine (scheck_ok_at k nm op vl fo a b f LA ln lc _ 12 hck.out).mono ?_
                    rintro e u2 ⟨rfl, hu2⟩
                    have hz2 := Below.on hz1 hu2
                    clear s0 s1 s2 s3 s4 s5 s6 s7 s8
                    go_wp2
                    go_ret
                    exact ⟨ret_int hr.out.symm, hz2⟩
                · go_wp2_with fail
                  have hz := below_alloc hBr (.cells #[.int .u8 k, .string nm, .int .u8 op, .string vl, .bool fo, .int .i64 a, .int .i64 b, .bool f, .slice LA ln lc] 26)
                  refine (listed_at k nm op vl fo a b f LA ln lc true hv'.out _).mono ?_
                  rintro e u1 ⟨rfl, hu1⟩
                  have hz1 := Below.on hz hu1
                  clear s0 s1 s2 s3 s4 s5 s6 s7 s8 hu1
                  go_wp2
                  go_roundw
                  case rel => exact ⟨q + 1, by omega, by go_num, hz1, fun j hj => by
                    by_cases h : j = q
                    · subst h; left; rw [hs'.out]; exact hv'.out
                    · exact hok.out j (by omega)⟩
                  case measure => simp [intOf]; omega
            · have hr : Hid (ckC tag S = 0) := ckC_yes ⟨h1'.out, by omega, hcn.out, fun j hj => hok.out j (by omega)⟩
              go_wp2
              go_ret
              exact ⟨ret_int hr.out.symm, hBr⟩
    · have g2 : decide (64 < (n : Int)) = true := by rw [decide_eq_true_eq]; omega
      have hr : Hid (ckC tag S = 12) := ckC_no fun h => by have := h.2.1; omega
      clear h1 h2
      go_enter Try.func41, Try.ntmps41
      go_wp2_with fail
      refine (tagged_at tag 0 ht.out _).mono ?_
      rintro e w1 ⟨rfl, rfl⟩
      go_wp2
      go_ret
      exact ⟨ret_int hr.out.symm, hB0⟩
  · have ht : Hid (tgE tag = 12) := if_neg h1
    have hr : Hid (ckC tag S = 12) := ckC_no fun h => h1 h.1
    clear h1
    go_enter Try.func41, Try.ntmps41
    go_wp2_with fail
    refine (tagged_at tag 12 ht.out _).mono ?_
    rintro e w1 ⟨rfl, rfl⟩
    go_wp2
    go_ret
    exact ⟨ret_int hr.out.symm, hB0⟩
end Go.Proofs.Ytbedomopojiehaa
