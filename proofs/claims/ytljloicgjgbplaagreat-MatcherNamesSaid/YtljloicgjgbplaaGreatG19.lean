/- Words on memory: lists of simple selectors. Walks: whether a selector has a list, tags, the error of a compound, by the program and by the reference. No condition. -/
import Derived.Test.YtljloicgjgbplaaGreatG17
import Derived.Test.YtljloicgjgbplaaGreatG04
import Derived.Test.YtljloicgjgbplaaGreatG18
import Derived.Deep.RegionHeld3
namespace Go.Proofs.YtljloicgjgbplaaGreat
open Go.RowKit

instance : Inhabited Sim := ⟨⟨0, .empty, 0, .empty, false, 0, 0, false, none, 0, 0⟩⟩
def sm (S : List Sim) (j : Nat) : Sim := S.getD j default
/-- A simple selector in a block, from a cell on. -/
def SimIn (w : World) (g o : Nat) (s : Sim) : Prop :=
  w.cell? ⟨g, o, none⟩ = some (.int .u8 s.kind) ∧ w.cell? ⟨g, o + 1, none⟩ = some (.string s.name) ∧ w.cell? ⟨g, o + 2, none⟩ = some (.int .u8 s.op) ∧ w.cell? ⟨g, o + 3, none⟩ = some (.string s.val) ∧ w.cell? ⟨g, o + 4, none⟩ = some (.bool s.fold) ∧
  w.cell? ⟨g, o + 5, none⟩ = some (.int .i64 s.a) ∧ w.cell? ⟨g, o + 6, none⟩ = some (.int .i64 s.b) ∧ w.cell? ⟨g, o + 7, none⟩ = some (.bool s.of) ∧ w.cell? ⟨g, o + 8, none⟩ = some (.slice s.LA s.ln s.lc)
theorem SimIn.later {w w' : World} {g o : Nat} {s : Sim} (h : SimIn w g o s) (hb : Below w.heap.size w w') : SimIn w' g o s := by
  obtain ⟨h0, h1, h2, h3, h4, h5, h6, h7, h8⟩ := h
  exact ⟨cell_later hb h0, cell_later hb h1, cell_later hb h2, cell_later hb h3, cell_later hb h4, cell_later hb h5, cell_later hb h6, cell_later hb h7, cell_later hb h8⟩
def IsSims (w : World) (A : Option Addr) (n : Nat) (S : List Sim) : Prop :=
  S.length = n ∧ n ≤ 9223372036854775807 ∧ (0 < n → ∃ b off, A = some ⟨b, off, none⟩ ∧ b < w.heap.size ∧ ∀ j, j < n → SimIn w b (off + j * 9) (sm S j))
theorem IsSims.below {w w' : World} {A : Option Addr} {n : Nat} {S : List Sim} (h : IsSims w A n S) (hb : Below w.heap.size w w') : IsSims w' A n S := by
  obtain ⟨h1, h2, h3⟩ := h
  refine ⟨h1, h2, fun hn => ?_⟩
  obtain ⟨b, off, ha, hbl, hc⟩ := h3 hn
  exact ⟨b, off, ha, Nat.lt_of_lt_of_le hbl hb.size, fun j hj => (hc j hj).later hb⟩
def lisS (s : Sim) : Bool := decide (9 ≤ s.kind) && decide (s.kind ≤ 14)
def okC (tag : ByteArray) (S : List Sim) : Prop := tag.size ≤ 64 ∧ S.length ≤ 64 ∧ ¬ (tag.size = 0 ∧ S.length = 0) ∧ ∀ j, j < S.length → lisS (sm S j) = true ∨ chkS (sm S j) = 0
instance (tag : ByteArray) (S : List Sim) : Decidable (okC tag S) := by unfold okC; infer_instance
def ckC (tag : ByteArray) (S : List Sim) : Int := if okC tag S then 0 else 12
theorem ckC_yes {tag : ByteArray} {S : List Sim} (h : okC tag S) : ckC tag S = 0 := if_pos h
theorem ckC_no {tag : ByteArray} {S : List Sim} (h : ¬ okC tag S) : ckC tag S = 12 := if_neg h
def tgE (t : ByteArray) : Int := if t.size ≤ 64 then 0 else 12
theorem ckC_zero {tag : ByteArray} {S : List Sim} : ckC tag S = 0 ↔ okC tag S := by
  unfold ckC
  split
  · rename_i h; simp [h]
  · rename_i h; simp [h]
def tagF (T : List ANode) (i : Nat) (tag : ByteArray) : Bool := decide (tag.size = 0) || (decide (tag = ⟨#[42]⟩) || decide (tag = (nd T i).tag))

theorem listed_ok (k : Int) (nm : ByteArray) (op : Int) (vl : ByteArray) (fo : Bool) (a b : Int) (f : Bool) (LA : Option Addr) (ln lc : Nat) (w : World) :
    Calls Tryz.prog 102 #[.agg #[.int .u8 k, .string nm, .int .u8 op, .string vl, .bool fo, .int .i64 a, .int .i64 b, .bool f, .slice LA ln lc]] w fun r w' => r = .returned (.bool (decide (9 ≤ k) && decide (k ≤ 14))) ∧ Below w.heap.size w w' := by
  by_cases h1 : 9 ≤ k
  · have g1 : decide (9 ≤ k) = true := decide_eq_true h1
    by_cases h2 : k ≤ 14
    · have g2 : decide (k ≤ 14) = true := decide_eq_true h2
      have hr : Hid ((decide (9 ≤ k) && decide (k ≤ 14)) = true) := by show _ = _; rw [g1, g2]; rfl
      have g3 : decide (8 < k) = true := by rw [decide_eq_true_eq]; omega
      have g4 : decide (k < 15) = true := by rw [decide_eq_true_eq]; omega
      clear h1 h2
      go_enter Tryz.func102, Tryz.ntmps102
      go_wp2
      go_ret
      exact ⟨ret_bool hr.out.symm, below_alloc (Below.refl _ _) _⟩
    · have g2 : decide (k ≤ 14) = false := decide_eq_false h2
      have hr : Hid ((decide (9 ≤ k) && decide (k ≤ 14)) = false) := by show _ = _; rw [g1, g2]; rfl
      have g3 : decide (8 < k) = true := by rw [decide_eq_true_eq]; omega
      have g4 : decide (k < 15) = false := by rw [decide_eq_false_iff_not]; omega
      clear h1 h2
      go_enter Tryz.func102, Tryz.ntmps102
      go_wp2
      go_ret
      exact ⟨ret_bool hr.out.symm, below_alloc (Below.refl _ _) _⟩
  · have g1 : decide (9 ≤ k) = false := decide_eq_false h1
    have hr : Hid ((decide (9 ≤ k) && decide (k ≤ 14)) = false) := by show _ = _; rw [g1]; rfl
    have g3 : decide (8 < k) = false := by rw [decide_eq_false_iff_not]; omega
    clear h1
    go_enter Tryz.func102, Tryz.ntmps102
    go_wp2
    go_ret
    exact ⟨ret_bool hr.out.symm, below_alloc (Below.refl _ _) _⟩
theorem tagged_ok (t : ByteArray) (w : World) : Calls Tryz.prog 160 #[.string t] w fun r w' => r = .returned (.int .i64 (tgE t)) ∧ w' = w := by
  by_cases h : t.size ≤ 64
  · have hr : Hid (tgE t = 0) := if_pos h
    have g : decide (64 < (t.size : Int)) = false := by rw [decide_eq_false_iff_not]; omega
    clear h
    go_enter Tryz.func160, Tryz.ntmps160
    go_wp2
    go_ret
    exact ⟨ret_int hr.out.symm, rfl⟩
  · have hr : Hid (tgE t = 12) := if_neg h
    have g : decide (64 < (t.size : Int)) = true := by rw [decide_eq_true_eq]; omega
    clear h
    go_enter Tryz.func160, Tryz.ntmps160
    go_wp2
    go_ret
    exact ⟨ret_int hr.out.symm, rfl⟩
theorem tagged_at (t : ByteArray) (c0 : Int) (h : tgE t = c0) (w : World) : Calls Tryz.prog 160 #[.string t] w fun r w' => r = .returned (.int .i64 c0) ∧ w' = w := by
  rw [← h]; exact tagged_ok t w
theorem listed_at (k : Int) (nm : ByteArray) (op : Int) (vl : ByteArray) (fo : Bool) (a b : Int) (f : Bool) (LA : Option Addr) (ln lc : Nat) (v : Bool) (h : lisS ⟨k, nm, op, vl, fo, a, b, f, LA, ln, lc⟩ = v) (w : World) :
    Calls Tryz.prog 102 #[.agg #[.int .u8 k, .string nm, .int .u8 op, .string vl, .bool fo, .int .i64 a, .int .i64 b, .bool f, .slice LA ln lc]] w fun r w' => r = .returned (.bool v) ∧ Below w.heap.size w w' := by
  rw [← h]; exact listed_ok k nm op vl fo a b f LA ln lc w
set_option maxRecDepth 100000 in
set_option maxHeartbeats 4000000 in
theorem compCheck_ok (tag : ByteArray) (SA : Option Addr) (n c : Nat) (S : List Sim) (w : World) (h : IsSims w SA n S) :
    Calls Tryz.prog 138 #[.agg #[.string tag, .slice SA n c]] w fun r w' => r = .returned (.int .i64 (ckC tag S)) ∧ Below w.heap.size w w' := by
  have hS := hide h
  have hl := h.1
  clear h
  have hB0 := below_alloc (Below.refl w.heap.size w) (.cells #[.string tag, .slice SA n c] 70)
  by_cases h1 : tag.size ≤ 64
  · have ht : Hid (tgE tag = 0) := if_pos h1
    by_cases h2 : n ≤ 64
    · have g2 : decide (64 < (n : Int)) = false := by rw [decide_eq_false_iff_not]; omega
      by_cases h3 : tag.size = 0 ∧ n = 0
      · obtain ⟨h3, rfl⟩ := h3
        have hr : Hid (ckC tag S = 12) := ckC_no fun h => h.2.2.1 ⟨h3, hl⟩
        have h5 := (toList_nil tag).2 h3
        have h6 : tag.toList.isEmpty = true := by rw [h5]; rfl
        clear h1 h3
        go_enter Tryz.func138, Tryz.ntmps138
        go_wp2_with fail
        refine (tagged_at tag 0 ht.out _).mono ?_
        rintro e w1 ⟨rfl, rfl⟩
        go_wp2
        go_ret
        exact ⟨ret_int hr.out.symm, hB0⟩
      · have hcn : Hid (¬ (tag.size = 0 ∧ S.length = 0)) := by show ¬ _; rw [hl]; exact h3
        have h1' := hide h1
        have hgo : (¬ tag.toList = [] ∧ tag.toList.isEmpty = false) ∨ (tag.toList = [] ∧ tag.toList.isEmpty = true ∧ ((n : Int) == 0) = false) := by
          by_cases h4 : tag.size = 0
          · exact .inr ⟨(toList_nil tag).2 h4, by rw [(toList_nil tag).2 h4]; rfl, by rw [beq_eq_false_iff_ne]; omega⟩
          · exact .inl ⟨mt (toList_nil tag).1 h4, by rw [List.isEmpty_eq_false_iff]; exact mt (toList_nil tag).1 h4⟩
        clear h1 h3
        go_enter Tryz.func138, Tryz.ntmps138
        go_wp2_with fail
        refine (tagged_at tag 0 ht.out _).mono ?_
        rintro e w1 ⟨rfl, rfl⟩
        rcases hgo with ⟨d1, d2⟩ | ⟨d1, d2, d3⟩
        all_goals
          go_wp2
          go_loopw [30] (fun s wr => ∃ q : Nat, q ≤ n ∧ s = .int .i64 q ∧ Below w.heap.size w wr ∧ Hid (∀ j, j < q → lisS (sm S j) = true ∨ chkS (sm S j) = 0)) (fun s _ => n - (intOf s).toNat)
          case atStart => exact ⟨0, Nat.zero_le _, rfl, hB0, fun j hj => absurd hj (by omega)⟩
          case round =>
            obtain ⟨q, hq, rfl, hBr, hok⟩ := hrel
            by_cases hlt : q < n
            · obtain ⟨bb, off, rfl, hbl, hc⟩ := hS.out.2.2 (by omega)
              have hin := (hc q hlt).later hBr
              have q1 : (0 : Int) ≤ (q : Int) := by omega
              have q2 : (q : Int) < (n : Int) := by omega
              have hbl2 := Nat.lt_of_lt_of_le hbl hBr.size
              clear hc
              cases hs : sm S q with
              | mk k nm op vl fo a b f LA ln lc =>
                rw [hs] at hin
                obtain ⟨s0, s1, s2, s3, s4, s5, s6, s7, s8⟩ := hin
                have hs' := hide hs
                obtain ⟨v, hv⟩ : ∃ v, lisS ⟨k, nm, op, vl, fo, a, b, f, LA, ln, lc⟩ = v := ⟨_, rfl⟩
                have hv' := hide hv
                clear hs hv
                cases v
                · rcases chkS_cases ⟨k, nm, op, vl, fo, a, b, f, LA, ln, lc⟩ with hck0 | hck0
                  · have hck := hide hck0
                    clear hck0
                    go_wp2_with fail
                    have hz := below_alloc hBr (.cells #[.int .u8 k, .string nm, .int .u8 op, .string vl, .bool fo, .int .i64 a, .int .i64 b, .bool f, .slice LA ln lc] 41)
                    have hA := hide (simAt_at wr wr.heap.size rfl k nm op vl fo a b f LA ln lc)
                    refine (listed_at k nm op vl fo a b f LA ln lc false hv'.out _).mono ?_
                    rintro e u1 ⟨rfl, hu1⟩
                    have hz1 := Below.on hz hu1
                    clear s0 s1 s2 s3 s4 s5 s6 s7 s8
                    obtain ⟨s0, s1, s2, s3, s4, s5, s6, s7, s8⟩ := hA.out.later hu1
                    clear hu1 hz hA
                    go_wp2_with fail
                    refine (scheck_ok_at k nm op vl fo a b f LA ln lc _ 0 hck.out).mono ?_
                    rintro e u2 ⟨rfl, hu2⟩
                    have hz2 := Below.on hz1 hu2
                    clear s0 s1 s2 s3 s4 s5 s6 s7 s8
                    go_wp2
                    go_roundw
                    case rel => exact ⟨q + 1, by omega, by go_num, hz2, fun j hj => by
                      by_cases h : j = q
                      · subst h; right; rw [hs'.out]; exact hck.out
                      · exact hok.out j (by omega)⟩
                    case measure => simp [intOf]; omega
                  · have hck := hide hck0
                    have hr : Hid (ckC tag S = 12) := ckC_no fun h => by
                      have h9 := h.2.2.2 q (by omega)
                      rw [hs'.out] at h9
                      rcases h9 with h9 | h9
                      · rw [hv'.out] at h9; cases h9
                      · rw [hck0] at h9; omega
                    clear hck0
                    go_wp2_with fail
                    have hz := below_alloc hBr (.cells #[.int .u8 k, .string nm, .int .u8 op, .string vl, .bool fo, .int .i64 a, .int .i64 b, .bool f, .slice LA ln lc] 41)
                    have hA := hide (simAt_at wr wr.heap.size rfl k nm op vl fo a b f LA ln lc)
                    refine (listed_at k nm op vl fo a b f LA ln lc false hv'.out _).mono ?_
                    rintro e u1 ⟨rfl, hu1⟩
                    have hz1 := Below.on hz hu1
                    clear s0 s1 s2 s3 s4 s5 s6 s7 s8
                    obtain ⟨s0, s1, s2, s3, s4, s5, s6, s7, s8⟩ := hA.out.later hu1
                    clear hu1 hz hA
                    go_wp2_with fail
                    refine (scheck_ok_at k nm op vl fo a b f LA ln lc _ 12 hck.out).mono ?_
                    rintro e u2 ⟨rfl, hu2⟩
                    have hz2 := Below.on hz1 hu2
                    clear s0 s1 s2 s3 s4 s5 s6 s7 s8
                    go_wp2
                    go_ret
                    exact ⟨ret_int hr.out.symm, hz2⟩
                · go_wp2_with fail
                  have hz := below_alloc hBr (.cells #[.int .u8 k, .string nm, .int .u8 op, .string vl, .bool fo, .int .i64 a, .int .i64 b, .bool f, .slice LA ln lc] 41)
                  refine (listed_at k nm op vl fo a b f LA ln lc true hv'.out _).mono ?_
                  rintro e u1 ⟨rfl, hu1⟩
                  have hz1 := Below.on hz hu1
                  clear s0 s1 s2 s3 s4 s5 s6 s7 s8 hu1
                  go_wp2
                  go_roundw
                  case rel => exact ⟨q + 1, by omega, by go_num, hz1, fun j hj => by
                    by_cases h : j = q
                    · subst h; left; rw [hs'.out]; exact hv'.out
                    · exact hok.out j (by omega)⟩
                  case measure => simp [intOf]; omega
            · have hr : Hid (ckC tag S = 0) := ckC_yes ⟨h1'.out, by omega, hcn.out, fun j hj => hok.out j (by omega)⟩
              go_wp2
              go_ret
              exact ⟨ret_int hr.out.symm, hBr⟩
    · have g2 : decide (64 < (n : Int)) = true := by rw [decide_eq_true_eq]; omega
      have hr : Hid (ckC tag S = 12) := ckC_no fun h => by have := h.2.1; omega
      clear h1 h2
      go_enter Tryz.func138, Tryz.ntmps138
      go_wp2_with fail
      refine (tagged_at tag 0 ht.out _).mono ?_
      rintro e w1 ⟨rfl, rfl⟩
      go_wp2
      go_ret
      exact ⟨ret_int hr.out.symm, hB0⟩
  · have ht : Hid (tgE tag = 12) := if_neg h1
    have hr : Hid (ckC tag S = 12) := ckC_no fun h => h1 h.1
    clear h1
    go_enter Tryz.func138, Tryz.ntmps138
    go_wp2_with fail
    refine (tagged_at tag 12 ht.out _).mono ?_
    rintro e w1 ⟨rfl, rfl⟩
    go_wp2
    go_ret
    exact ⟨ret_int hr.out.symm, hB0⟩
end Go.Proofs.YtljloicgjgbplaaGreat
/- Walks: the error of a compound by the reference; tags of elements, by the program and by the reference. No condition. -/
namespace Go.Proofs.YtljloicgjgbplaaGreat
open Go.RowKit

def tagErr (T : List ANode) (i : Int) (tag : ByteArray) : Int := if askI T [i] = 0 then tgE tag else askI T [i]
def tagVal (T : List ANode) (i : Int) (tag : ByteArray) : Bool := if tagErr T i tag = 0 then tagF T i.toNat tag else false
theorem tgE_cases (t : ByteArray) : (tgE t = 0 ∧ t.size ≤ 64) ∨ (tgE t = 12 ∧ ¬ t.size ≤ 64) := by
  unfold tgE
  split
  · rename_i h; exact .inl ⟨rfl, h⟩
  · rename_i h; exact .inr ⟨rfl, h⟩
theorem depth_at (T : List ANode) (i v c0 : Int) (h0 : askI T [i] = c0) (h1 : depE T i = v) (A : Option Addr) (n c : Nat) (w : World) (h : IsTree w A n T) :
    Calls Tryz.prog 44 #[.agg #[.slice A n c], .int .i64 i] w fun e w' => e = .returned (.tuple #[.int .i64 v, .int .i64 c0]) ∧ Below w.heap.size w w' := by
  have := depth_ok A n c T i w h
  rw [h0, h1] at this
  exact this
/-- The three ways in which a tag is told. -/
theorem tag_ways (tag : ByteArray) : (tag.size = 0) ∨ (tag = ⟨#[42]⟩) ∨ (¬ tag.size = 0 ∧ ¬ tag = ⟨#[42]⟩) := by
  by_cases h : tag.size = 0
  · exact .inl h
  · by_cases h2 : tag = ⟨#[42]⟩
    · exact .inr (.inl h2)
    · exact .inr (.inr ⟨h, h2⟩)
set_option maxRecDepth 100000 in
set_option maxHeartbeats 2000000 in
theorem compTag_ok (A : Option Addr) (n c : Nat) (T : List ANode) (i : Int) (tag : ByteArray) (w : World) (h : IsTree w A n T) :
    Calls Tryz.prog 139 #[.agg #[.slice A n c], .int .i64 i, .string tag] w fun r w' => r = .returned (.tuple #[.bool (tagVal T i tag), .int .i64 (tagErr T i tag)]) ∧ Below w.heap.size w w' := by
  have ho := hide h.2.2.2
  have hT := hide h
  have hl := h.1
  clear h
  have hB0 := below_alloc (Below.refl w.heap.size w) (.cells #[.slice A n c] 24)
  have hbox0 : (w.alloc (.cells #[.slice A n c] 24)).cell? ⟨w.heap.size, 0, none⟩ = some (.slice A n c) := by go_simp
  obtain ⟨dv, hdv0⟩ : ∃ x, depE T i = x := ⟨_, rfl⟩
  have hdv := hide hdv0
  clear hdv0
  by_cases h0 : askI T [i] = 0
  · have hia := hide h0
    rcases tgE_cases tag with ⟨h1, h1s⟩ | ⟨h1, h1s⟩
    · have htg := hide h1
      have hir := (askI_zero.1 h0).2 i (by simp)
      obtain ⟨j, rfl⟩ := Int.eq_ofNat_of_zero_le hir.1
      have hj : j < n := by omega
      have hE : Hid (tagErr T j tag = 0) := by show _ = _; unfold tagErr; rw [if_pos h0, h1]
      obtain ⟨bb, off, aA, cA, aC, cC, rfl, hbl, c0, -, -, -, -, -⟩ := ho.out (by omega)
      have c0' := hide (c0 j hj)
      have q1 : (0 : Int) ≤ (j : Int) := by omega
      have q2 : (j : Int) < (n : Int) := by omega
      obtain ⟨nt, hnt⟩ : ∃ x, (nd T j).tag = x := ⟨_, rfl⟩
      rw [hnt] at c0'
      have hV0 : tagVal T j tag = (decide (tag.size = 0) || (decide (tag = ⟨#[42]⟩) || decide (tag = nt))) := by
        unfold tagVal
        rw [if_pos hE.out, Int.toNat_natCast]
        unfold tagF
        rw [hnt]
      rcases tag_ways tag with hw | hw | ⟨hw1, hw2⟩
      · have hV : Hid (tagVal T j tag = true) := by show _ = _; rw [hV0, decide_eq_true hw]; rfl
        have d1 := (toList_nil tag).2 hw
        have d2 : tag.toList.isEmpty = true := by rw [d1]; rfl
        clear h0 h1 h1s hir c0 hnt hV0 hw
        go_enter Tryz.func139, Tryz.ntmps139
        go_wp2_with fail
        refine (depth_at T j dv 0 hia.out hdv.out _ _ c _ (hT.out.below hB0)).mono ?_
        rintro e w1 ⟨rfl, hb1⟩
        have hB1 := Below.on hB0 hb1
        have hbox1 := cell_later hb1 hbox0
        clear hb1 hbox0
        have g0 := (old hB1 _ _ hbl).trans c0'.out
        go_wp2_with fail
        refine (tagged_at tag 0 htg.out _).mono ?_
        rintro e w2 ⟨rfl, rfl⟩
        go_wp2
        go_ret2
        exact ⟨ret_bi hV.out.symm hE.out.symm, hB1⟩
      · subst hw
        have hV : Hid (tagVal T j ⟨#[42]⟩ = true) := by show _ = _; rw [hV0, decide_eq_true (p := (⟨#[42]⟩ : ByteArray) = ⟨#[42]⟩) rfl]; simp
        clear h0 h1 h1s hir c0 hnt hV0
        go_enter Tryz.func139, Tryz.ntmps139
        go_wp2_with fail
        refine (depth_at T j dv 0 hia.out hdv.out _ _ c _ (hT.out.below hB0)).mono ?_
        rintro e w1 ⟨rfl, hb1⟩
        have hB1 := Below.on hB0 hb1
        have hbox1 := cell_later hb1 hbox0
        clear hb1 hbox0
        have g0 := (old hB1 _ _ hbl).trans c0'.out
        go_wp2_with fail
        refine (tagged_at ⟨#[42]⟩ 0 htg.out _).mono ?_
        rintro e w2 ⟨rfl, rfl⟩
        go_wp2
        go_ret2
        exact ⟨ret_bi hV.out.symm hE.out.symm, hB1⟩
      · have hV : Hid (tagVal T j tag = (tag.toList == nt.toList)) := by
          show _ = _
          rw [hV0, decide_eq_false hw1, decide_eq_false hw2, Bool.false_or, Bool.false_or]
          by_cases h : tag = nt
          · rw [decide_eq_true h, str_eq h]
          · rw [decide_eq_false h, str_ne h]
        have d1 := mt (toList_nil tag).1 hw1
        have d2 : tag.toList.isEmpty = false := by rw [List.isEmpty_eq_false_iff]; exact d1
        have d3 : (tag.toList == (⟨#[42]⟩ : ByteArray).toList) = false := str_ne hw2
        have d4 : (⟨#[42]⟩ : ByteArray).toList = [42] := by rw [ByteArray.toList_eq]
        rw [d4] at d3
        clear h0 h1 h1s hir c0 hnt hV0 hw1 hw2 d4
        go_enter Tryz.func139, Tryz.ntmps139
        go_wp2_with fail
        refine (depth_at T j dv 0 hia.out hdv.out _ _ c _ (hT.out.below hB0)).mono ?_
        rintro e w1 ⟨rfl, hb1⟩
        have hB1 := Below.on hB0 hb1
        have hbox1 := cell_later hb1 hbox0
        clear hb1 hbox0
        have g0 := (old hB1 _ _ hbl).trans c0'.out
        go_wp2_with fail
        refine (tagged_at tag 0 htg.out _).mono ?_
        rintro e w2 ⟨rfl, rfl⟩
        go_wp2
        go_ret2
        exact ⟨ret_bi hV.out.symm hE.out.symm, hB1⟩
    · have htg := hide h1
      have hE : Hid (tagErr T i tag = 12) := by show _ = _; unfold tagErr; rw [if_pos h0, h1]
      have hV : Hid (tagVal T i tag = false) := by show _ = _; unfold tagVal; rw [if_neg (by rw [hE.out]; omega)]
      clear h0 h1 h1s
      go_enter Tryz.func139, Tryz.ntmps139
      go_wp2_with fail
      refine (depth_at T i dv 0 hia.out hdv.out _ _ c _ (hT.out.below hB0)).mono ?_
      rintro e w1 ⟨rfl, hb1⟩
      have hB1 := Below.on hB0 hb1
      have hbox1 := cell_later hb1 hbox0
      clear hb1 hbox0
      go_wp2_with fail
      refine (tagged_at tag 12 htg.out _).mono ?_
      rintro e w2 ⟨rfl, rfl⟩
      go_wp2
      go_ret2
      exact ⟨ret_bi hV.out.symm hE.out.symm, hB1⟩
  · obtain ⟨c1, hc1⟩ : ∃ x, askI T [i] = x := ⟨_, rfl⟩
    have hcz : ¬ c1 = 0 := by rw [← hc1]; exact h0
    have hE : Hid (tagErr T i tag = c1) := by show _ = _; unfold tagErr; rw [if_neg h0, hc1]
    have hV : Hid (tagVal T i tag = false) := by show _ = _; unfold tagVal; rw [if_neg (by rw [hE.out]; exact hcz)]
    have hia := hide hc1
    have hcb : (c1 != 0) = true := by rw [bne_iff_ne]; exact hcz
    clear h0 hc1 hcz
    go_enter Tryz.func139, Tryz.ntmps139
    go_wp2_with fail
    refine (depth_at T i dv c1 hia.out hdv.out _ _ c _ (hT.out.below hB0)).mono ?_
    rintro e w1 ⟨rfl, hb1⟩
    have hB1 := Below.on hB0 hb1
    have hbox1 := cell_later hb1 hbox0
    clear hb1 hbox0
    go_wp2
    go_ret2
    exact ⟨ret_bi hV.out.symm hE.out.symm, hB1⟩
end Go.Proofs.YtljloicgjgbplaaGreat
/- Walks: whether an element matches a compound, by the program. Conditions: the tree is good, the element is in it, mode and compound are right, the variable of the library that strings.Contains reads holds a number. -/
namespace Go.Proofs.YtljloicgjgbplaaGreat
open Go.RowKit

/-- One simple selector of a compound, with what is told of its list. -/
def oneC (T : List ANode) (i : Nat) (S : List Sim) (m : Int) (tell : Nat → Bool) (j : Nat) : Bool := if lisS (sm S j) then tell j else matS T i (sm S j) m
/-- The tag, and the first q simple selectors. -/
def matC (T : List ANode) (i : Nat) (tag : ByteArray) (S : List Sim) (m : Int) (tell : Nat → Bool) (q : Nat) : Bool := tagF T i tag && (List.range q).all (oneC T i S m tell)
theorem matC_succ (T : List ANode) (i : Nat) (tag : ByteArray) (S : List Sim) (m : Int) (tell : Nat → Bool) (q : Nat) : matC T i tag S m tell (q + 1) = (matC T i tag S m tell q && oneC T i S m tell q) := by
  unfold matC
  rw [List.range_succ, List.all_append, Bool.and_assoc]
  simp
theorem matC_no {T : List ANode} {i : Nat} {tag : ByteArray} {S : List Sim} {m : Int} {tell : Nat → Bool} {q n : Nat} (hq : q ≤ n) (h : matC T i tag S m tell q = false) : matC T i tag S m tell n = false := by
  induction n with
  | zero => have : q = 0 := by omega
            subst this; exact h
  | succ n ih =>
    by_cases he : q = n + 1
    · subst he; exact h
    · rw [matC_succ, ih (by omega), Bool.false_and]
theorem sMatch_at (T : List ANode) (i : Int) (k : Int) (nm : ByteArray) (op : Int) (vl : ByteArray) (fo : Bool) (a b : Int) (f : Bool) (LA : Option Addr) (ln lc : Nat) (m : Int) (V : Bool) (E : Int) (h0 : smatV T i ⟨k, nm, op, vl, fo, a, b, f, LA, ln, lc⟩ m = V) (h1 : smatE T i ⟨k, nm, op, vl, fo, a, b, f, LA, ln, lc⟩ m = E) (A : Option Addr) (n c : Nat) (w : World) (h : IsTree w A n T) (hmx : HasMax w) :
    Calls Tryz.prog 140 #[.agg #[.slice A n c], .int .i64 i, .agg #[.int .u8 k, .string nm, .int .u8 op, .string vl, .bool fo, .int .i64 a, .int .i64 b, .bool f, .slice LA ln lc], .int .i64 m] w fun r w' => r = .returned (.tuple #[.bool V, .int .i64 E]) ∧ Below w.heap.size w w' := by
  have := sMatch_ok A n c T i k nm op vl fo a b f LA ln lc m w h hmx
  rw [h0, h1] at this
  exact this
theorem compTag_at (T : List ANode) (i : Int) (tag : ByteArray) (V : Bool) (E : Int) (h0 : tagVal T i tag = V) (h1 : tagErr T i tag = E) (A : Option Addr) (n c : Nat) (w : World) (h : IsTree w A n T) :
    Calls Tryz.prog 139 #[.agg #[.slice A n c], .int .i64 i, .string tag] w fun r w' => r = .returned (.tuple #[.bool V, .int .i64 E]) ∧ Below w.heap.size w w' := by
  have := compTag_ok A n c T i tag w h
  rw [h0, h1] at this
  exact this
set_option maxRecDepth 100000 in
theorem told2_ok (pt pi : Nat) (TA : Option Addr) (tn tc : Nat) (B : Nat → Option Addr) (C : Nat → Nat) (L : Nat → List Bool) (i q : Nat) (b off : Nat) (w : World) (hp : w.cell? ⟨pt, 0, none⟩ = some (.slice (some ⟨b, off, none⟩) tn tc)) (hi : w.cell? ⟨pi, 0, none⟩ = some (.int .i64 i)) (hq : q < tn) (hrow : w.cell? ⟨b, off + q, none⟩ = some (.slice (B q) (L q).length (C q))) (hL : IsBools w (B q) (L q).length (L q)) (hiq : i < (L q).length) (_h : TA = some ⟨b, off, none⟩) :
    Calls Tryz.prog 104 #[.int .i64 q, .pointer (some ⟨pt, 0, none⟩), .pointer (some ⟨pi, 0, none⟩)] w fun e w' => e = .returned (.bool (bx (L q) i)) ∧ Below w.heap.size w w' := by
  obtain ⟨b2, off2, h2, hb, hc⟩ := hL.2.2 (by omega)
  rw [h2] at hrow
  have hc' := hc i hiq
  have q1 : (0 : Int) ≤ (q : Int) := by omega
  have q2 : (q : Int) < (tn : Int) := by omega
  have q3 : (0 : Int) ≤ (i : Int) := by omega
  have q4 : (i : Int) < ((L q).length : Int) := by omega
  clear hc hL h2
  generalize (L q).length = ll at *
  generalize bx (L q) i = vv at *
  generalize C q = cc at *
  go_enter Tryz.func104, Tryz.ntmps104
  go_wp2
  go_region_held3 (fun X => X.cell? ⟨pt, 0, none⟩ = some (.slice (some ⟨b, off, none⟩) tn tc) ∧ X.cell? ⟨pi, 0, none⟩ = some (.int .i64 i) ∧ X.cell? ⟨b, off + q, none⟩ = some (.slice (some ⟨b2, off2, none⟩) ll cc) ∧ X.cell? ⟨b2, off2 + i, none⟩ = some (.bool vv)) (first | exact ⟨hp, hi, hrow, hc'⟩) (first | fail)
  go_wp2
  go_ret
  exact ⟨rfl, (Below.refl _ _).drew⟩
set_option maxRecDepth 100000 in
set_option maxHeartbeats 4000000 in
theorem compMatch2_ok (A : Option Addr) (n c : Nat) (T : List ANode) (i : Nat) (tag : ByteArray) (SA : Option Addr) (sn sc : Nat) (S : List Sim) (m : Int) (pt pi : Nat) (tell : Nat → Bool) (w : World) (h : IsTree w A n T) (hS0 : IsSims w SA sn S) (hi : i < n) (hg : goodB T = true) (hmd : modeB T m = true) (hck : okC tag S) (hmx : HasMax w)
    (hC : ∀ W, Below w.heap.size w W → ∀ q : Nat, q < sn → lisS (sm S q) = true → Calls Tryz.prog 104 #[.int .i64 q, .pointer (some ⟨pt, 0, none⟩), .pointer (some ⟨pi, 0, none⟩)] W fun e w' => e = .returned (.bool (tell q)) ∧ Below W.heap.size W w') :
    Calls Tryz.prog 103 #[.agg #[.slice A n c], .int .i64 i, .agg #[.string tag, .slice SA sn sc], .int .i64 m, .func (.func 104) #[] #[.pointer (some ⟨pt, 0, none⟩), .pointer (some ⟨pi, 0, none⟩)]] w
      fun r w' => r = .returned (.bool (matC T i tag S m tell sn)) ∧ Below w.heap.size w w' := by
  have hT := hide h
  have hl := h.1
  have hm' := hide hmx
  have hS := hide hS0
  have hsl := hS0.1
  have hC' := hide hC
  have hck' := hide hck
  have hs64 : sn ≤ 64 := by have := hck.2.1; omega
  have hB0 := below_alloc (below_alloc (Below.refl w.heap.size w) (.cells #[.slice A n c] 24)) (.cells #[.string tag, .slice SA sn sc] 70)
  have hbox0 : ((w.alloc (.cells #[.slice A n c] 24)).alloc (.cells #[.string tag, .slice SA sn sc] 70)).cell? ⟨w.heap.size, 0, none⟩ = some (.slice A n c) := by go_simp
  have htb0 : ((w.alloc (.cells #[.slice A n c] 24)).alloc (.cells #[.string tag, .slice SA sn sc] 70)).cell? ⟨w.heap.size + 1, 1, none⟩ = some (.slice SA sn sc) := by go_simp
  have ha0 : askI T [(i : Int)] = 0 := askI_ok hg (by simp; omega)
  have hTE0 : tagErr T i tag = 0 := by unfold tagErr; rw [if_pos ha0]; exact if_pos hck.1
  have hTE := hide hTE0
  have hTV : Hid (tagVal T i tag = matC T i tag S m tell 0) := by show _ = _; unfold tagVal matC; rw [if_pos hTE0, Int.toNat_natCast]; simp
  have hsm := hide (show ∀ j, j < sn → lisS (sm S j) = false → smatV T i (sm S j) m = matS T i (sm S j) m ∧ smatE T i (sm S j) m = 0 from fun j hj hlj => by
    have h1 : chkS (sm S j) = 0 := by
      rcases hck.2.2.2 j (by omega) with h2 | h2
      · rw [hlj] at h2; cases h2
      · exact h2
    have h3 : smatE T i (sm S j) m = 0 := by unfold smatE; rw [if_pos ha0]; exact smE_zero.2 ⟨hg, hmd, h1⟩
    exact ⟨by unfold smatV; rw [if_pos h3, Int.toNat_natCast], h3⟩)
  obtain ⟨M, hM⟩ : ∃ M : Nat → Bool, ∀ q, matC T i tag S m tell q = M q := ⟨fun q => matC T i tag S m tell q, fun _ => rfl⟩
  have hMs := hide (show ∀ q, M (q + 1) = (M q && oneC T i S m tell q) from fun q => by rw [← hM, ← hM]; exact matC_succ T i tag S m tell q)
  have hMn := hide (show ∀ q, q ≤ sn → M q = false → M sn = false from fun q hq h => by rw [← hM] at h ⊢; exact matC_no hq h)
  rw [hM] at hTV ⊢
  clear h hmx hS0 hC ha0 hTE0 hck hg hmd hM
  go_enter Tryz.func103, Tryz.ntmps103
  go_wp2_with fail
  refine (compTag_at T i tag (M 0) 0 hTV.out hTE.out _ _ c _ (hT.out.below hB0)).mono ?_
  rintro e w1 ⟨rfl, hb1⟩
  have hB1 := Below.on hB0 hb1
  have hbox1 := cell_later hb1 hbox0
  have htb1 := cell_later hb1 htb0
  clear hb1 hbox0 htb0
  go_wp2
  go_loopw [11, 26] (fun v s wr => ∃ q : Nat, q ≤ sn ∧ s = .int .i64 q ∧ v = .bool (M q) ∧ Below w1.heap.size w1 wr) (fun _ s _ => sn - (intOf s).toNat)
  case atStart => exact ⟨0, Nat.zero_le _, rfl, rfl, Below.refl _ _⟩
  case round =>
    obtain ⟨q, hq, rfl, rfl, hb⟩ := hrel
    have hBr := Below.on hB1 hb
    have hboxr := cell_later hb hbox1
    by_cases hlt : q < sn
    · obtain ⟨bb, off, rfl, hbl, hc⟩ := hS.out.2.2 (by omega)
      have hin := (hc q hlt).later hBr
      have q1 : (0 : Int) ≤ (q : Int) := by omega
      have q2 : (q : Int) < (sn : Int) := by omega
      have hbl2 := Nat.lt_of_lt_of_le hbl hBr.size
      have hms := hMs.out q
      have hmn := hMn.out q hq
      have hsq := hsm.out q hlt
      unfold oneC at hms
      clear hc
      cases hs : sm S q with
      | mk k nm op vl fo a b f LA ln lc =>
        rw [hs] at hin hms hsq
        obtain ⟨s0, s1, s2, s3, s4, s5, s6, s7, s8⟩ := hin
        obtain ⟨vq, hvq⟩ : ∃ x, M q = x := ⟨_, rfl⟩
        rw [hvq] at hms hmn ⊢
        have hs' := hide hs
        clear hs hvq
        cases vq
        · have hr := hide (hmn rfl)
          clear hms hmn hsq
          go_wp2
          go_ret
          exact ⟨ret_bool hr.out.symm, below_alloc hBr _⟩
        · rw [Bool.true_and] at hms
          clear hmn
          have hz0 := below_alloc hb (.cells #[.int .u8 k, .string nm, .int .u8 op, .string vl, .bool fo, .int .i64 a, .int .i64 b, .bool f, .slice LA ln lc] 41)
          have hzr := below_alloc (Below.refl wr.heap.size wr) (.cells #[.int .u8 k, .string nm, .int .u8 op, .string vl, .bool fo, .int .i64 a, .int .i64 b, .bool f, .slice LA ln lc] 41)
          have hA := hide (simAt_at wr wr.heap.size rfl k nm op vl fo a b f LA ln lc)
          cases hlj : lisS ⟨k, nm, op, vl, fo, a, b, f, LA, ln, lc⟩
          · obtain ⟨e1, e2⟩ := hsq hlj
            rw [hlj] at hms
            simp only [Bool.false_eq_true, if_false] at hms
            rw [← e1] at hms
            obtain ⟨rv, hrv⟩ : ∃ x, smatV T i ⟨k, nm, op, vl, fo, a, b, f, LA, ln, lc⟩ m = x := ⟨_, rfl⟩
            rw [hrv] at hms
            have hms' := hide hms
            have hrv' := hide hrv
            have he2 := hide e2
            have hlj' := hide hlj
            clear hsq e1 e2 hms hrv hlj
            go_wp2_with fail
            refine (listed_at k nm op vl fo a b f LA ln lc false hlj'.out _).mono ?_
            rintro e u1 ⟨rfl, hu1⟩
            have hz1 := Below.on hz0 hu1
            have hbx1 := cell_later (Below.on hzr hu1) hboxr
            clear s0 s1 s2 s3 s4 s5 s6 s7 s8
            obtain ⟨s0, s1, s2, s3, s4, s5, s6, s7, s8⟩ := hA.out.later hu1
            clear hu1 hboxr
            go_wp2_with fail
            refine (sMatch_at T i k nm op vl fo a b f LA ln lc m rv 0 hrv'.out he2.out _ _ c _ (hT.out.below (Below.on hB1 hz1)) (hm'.out.below (Below.on hB1 hz1))).mono ?_
            rintro e u2 ⟨rfl, hu2⟩
            have hz2 := Below.on hz1 hu2
            clear s0 s1 s2 s3 s4 s5 s6 s7 s8 hu2
            go_wp2
            go_roundw
            case rel => exact ⟨q + 1, by omega, by go_num, by rw [hms'.out], hz2⟩
            case measure => simp [intOf]; omega
          · rw [hlj] at hms
            simp only [if_true] at hms
            have hms' := hide hms
            have hlj' := hide hlj
            clear hsq hms hlj
            go_wp2_with fail
            refine (listed_at k nm op vl fo a b f LA ln lc true hlj'.out _).mono ?_
            rintro e u1 ⟨rfl, hu1⟩
            have hz1 := Below.on hz0 hu1
            have hzz := Below.on hB1 hz1
            clear s0 s1 s2 s3 s4 s5 s6 s7 s8 hu1 hboxr
            have hcl := hide (hC'.out _ hzz q hlt (by rw [hs'.out]; exact hlj'.out))
            go_wp2_with (go_at_call 104; (with_reducible refine hcl.out.mono ?_); rintro e u2 ⟨rfl, hu2⟩)
            have hz2 := Below.on hz1 hu2
            go_wp2
            go_roundw
            case rel => exact ⟨q + 1, by omega, by go_num, by rw [hms'.out], hz2⟩
            case measure => simp [intOf]; omega
    · obtain rfl : q = sn := by omega
      go_wp2
      go_ret
      exact ⟨rfl, hBr⟩
end Go.Proofs.YtljloicgjgbplaaGreat
/- Walks: the error of a tree, a mode and a compound; whether an element matches a compound, by the program. Condition: the variable of the library that strings.Contains reads holds a number. -/
namespace Go.Proofs.YtljloicgjgbplaaGreat
open Go.RowKit

def simK7 : Sim := ⟨7, ⟨#[]⟩, 0, ⟨#[]⟩, false, 0, 0, false, none, 0, 0⟩
def ccE (T : List ANode) (tag : ByteArray) (S : List Sim) (m : Int) : Int := if goodB T = true then (if modeB T m = true then ckC tag S else 2) else 8
theorem ccE_zero {T : List ANode} {tag : ByteArray} {S : List Sim} {m : Int} : ccE T tag S m = 0 ↔ goodB T = true ∧ modeB T m = true ∧ okC tag S := by
  unfold ccE
  by_cases h : goodB T = true
  · rw [if_pos h]
    by_cases h2 : modeB T m = true
    · rw [if_pos h2, ckC_zero]; simp [h, h2]
    · rw [if_neg h2]; simp [h2]
  · rw [if_neg h]; simp [h]
theorem smE7 (T : List ANode) (m : Int) : smE T simK7 m = if goodB T = true then (if modeB T m = true then 0 else 2) else 8 := by
  unfold smE
  rw [show chkS simK7 = 0 from rfl]
theorem sAll7_ok (T : List ANode) (m c0 : Int) (h1 : smE T simK7 m = c0) (A : Option Addr) (n c : Nat) (W : World) (h : IsTree W A n T) (hx : HasMax W) :
    Calls Tryz.prog 34 #[.agg #[.slice A n c], .agg #[.int .u8 7, .string ⟨#[]⟩, .int .u8 0, .string ⟨#[]⟩, .bool false, .int .i64 0, .int .i64 0, .bool false, .slice none 0 0], .int .i64 m] W
      fun e w' => ∃ (A' : Option Addr) (n' c' : Nat), e = .returned (.tuple #[.slice A' n' c', .int .i64 c0]) ∧ Below W.heap.size W w' := by
  have h3 := sAll_ok A n c T 7 ⟨#[]⟩ 0 ⟨#[]⟩ false 0 0 false none 0 0 m W h hx
  have e2 : smE T ⟨7, ⟨#[]⟩, 0, ⟨#[]⟩, false, 0, 0, false, none, 0, 0⟩ m = c0 := h1
  rw [e2] at h3
  refine h3.mono ?_
  rintro e w' ⟨A', c', rfl, hI, -, -, hb⟩
  exact ⟨A', _, c', rfl, hb⟩
set_option maxRecDepth 100000 in
theorem ccheck19_ok (A : Option Addr) (n c : Nat) (T : List ANode) (tag : ByteArray) (SA : Option Addr) (sn sc : Nat) (S : List Sim) (m : Int) (w : World) (h : IsTree w A n T) (hS0 : IsSims w SA sn S) (hmx : HasMax w) :
    Calls Tryz.prog 101 #[.agg #[.slice A n c], .agg #[.string tag, .slice SA sn sc], .int .i64 m] w fun r w' => r = .returned (.int .i64 (ccE T tag S m)) ∧ Below w.heap.size w w' := by
  have hT := hide h
  have hm' := hide hmx
  have hS := hide hS0
  have hB0 := below_alloc (below_alloc (Below.refl w.heap.size w) (.cells #[.slice A n c] 24)) (.cells #[.string tag, .slice SA sn sc] 70)
  have ht0 : ((w.alloc (.cells #[.slice A n c] 24)).alloc (.cells #[.string tag, .slice SA sn sc] 70)).cell? ⟨w.heap.size + 1, 0, none⟩ = some (.string tag) := by go_simp
  have htb0 : ((w.alloc (.cells #[.slice A n c] 24)).alloc (.cells #[.string tag, .slice SA sn sc] 70)).cell? ⟨w.heap.size + 1, 1, none⟩ = some (.slice SA sn sc) := by go_simp
  have h70 := smE7 T m
  clear h hmx hS0
  by_cases hg : goodB T = true
  · rw [if_pos hg] at h70
    by_cases hmd : modeB T m = true
    · rw [if_pos hmd] at h70
      have h7 := hide h70
      have hr : Hid (ccE T tag S m = ckC tag S) := by show _ = _; unfold ccE; rw [if_pos hg, if_pos hmd]
      clear hg hmd h70
      go_enter Tryz.func101, Tryz.ntmps101
      go_wp2_with fail
      refine (sAll7_ok T m 0 h7.out _ _ c _ (hT.out.below hB0) (hm'.out.below hB0)).mono ?_
      rintro e w1 ⟨A1, n1, c1, rfl, hb1⟩
      have hB1 := Below.on hB0 hb1
      have ht1 := cell_later hb1 ht0
      have htb1 := cell_later hb1 htb0
      clear hb1 ht0 htb0
      go_wp2_with fail
      refine (compCheck_ok tag SA sn sc S _ (hS.out.below hB1)).mono ?_
      rintro e w2 ⟨rfl, hb2⟩
      have hB2 := Below.on hB1 hb2
      go_wp2
      go_ret
      exact ⟨ret_int hr.out.symm, hB2⟩
    · rw [if_neg hmd] at h70
      have h7 := hide h70
      have hr : Hid (ccE T tag S m = 2) := by show _ = _; unfold ccE; rw [if_pos hg, if_neg hmd]
      clear hg hmd h70
      go_enter Tryz.func101, Tryz.ntmps101
      go_wp2_with fail
      refine (sAll7_ok T m 2 h7.out _ _ c _ (hT.out.below hB0) (hm'.out.below hB0)).mono ?_
      rintro e w1 ⟨A1, n1, c1, rfl, hb1⟩
      have hB1 := Below.on hB0 hb1
      go_wp2
      go_ret
      exact ⟨ret_int hr.out.symm, hB1⟩
  · rw [if_neg hg] at h70
    have h7 := hide h70
    have hr : Hid (ccE T tag S m = 8) := if_neg hg
    clear hg h70
    go_enter Tryz.func101, Tryz.ntmps101
    go_wp2_with fail
    refine (sAll7_ok T m 8 h7.out _ _ c _ (hT.out.below hB0) (hm'.out.below hB0)).mono ?_
    rintro e w1 ⟨A1, n1, c1, rfl, hb1⟩
    have hB1 := Below.on hB0 hb1
    go_wp2
    go_ret
    exact ⟨ret_int hr.out.symm, hB1⟩
theorem ccheck19_at (T : List ANode) (tag : ByteArray) (S : List Sim) (m c0 : Int) (h0 : ccE T tag S m = c0) (A : Option Addr) (n c : Nat) (SA : Option Addr) (sn sc : Nat) (w : World) (h : IsTree w A n T) (hS0 : IsSims w SA sn S) (hmx : HasMax w) :
    Calls Tryz.prog 101 #[.agg #[.slice A n c], .agg #[.string tag, .slice SA sn sc], .int .i64 m] w fun r w' => r = .returned (.int .i64 c0) ∧ Below w.heap.size w w' := by
  have := ccheck19_ok A n c T tag SA sn sc S m w h hS0 hmx
  rw [h0] at this
  exact this
end Go.Proofs.YtljloicgjgbplaaGreat
