/- Walks: which elements match, by the program; counted places and matches, by the reference; comparing lists of truth values. No condition but those of the inner functions. -/
import Derived.Test.YtankambfobfnfaaNc
namespace Go.Proofs.Ytankambfobfnfaa
open Go.RowKit

/-- A list of truth values and an error that come back. -/
def MadeBoolsE (w : World) (xs : List Bool) (code : Int) (e : Ending) (w' : World) : Prop :=
  ∃ (A : Option Addr) (c : Nat), e = .returned (.tuple #[.slice A xs.length c, .int .i64 code]) ∧ IsBools w' A xs.length xs ∧ Below w.heap.size w w'
theorem madeBoolsE_nil {w w' : World} {code : Int} (hb : Below w.heap.size w w') : MadeBoolsE w [] code (.returned (.tuple #[.slice none 0 0, .int .i64 code])) w' :=
  ⟨none, 0, rfl, ⟨rfl, by simp, fun h => absurd h (by simp)⟩, hb⟩

theorem mapr_succ {f : Nat → Bool} (k : Nat) : (List.range (k + 1)).map f = (List.range k).map f ++ [f k] := by rw [List.range_succ, List.map_append]; rfl

set_option maxRecDepth 100000 in
set_option maxHeartbeats 1000000 in
theorem nAll_ok (A AB : Option Addr) (n c m cb : Nat) (T : List ANode) (B : List Bool) (a b : Int) (last : Bool) (w : World) (h : IsTree w A n T) (hL : IsBools w AB m B) :
    Calls Try.prog 36 #[.agg #[.slice A n c], .agg #[.int .i64 a, .int .i64 b], .bool last, .slice AB m cb] w (MadeBoolsE w (nallV T a b last B) (nallE T a b m)) := by
  have hT := hide h
  have hl := h.1
  clear h
  have hB0 := below_alloc (below_alloc (Below.refl w.heap.size w) (.cells #[.slice A n c] 24)) (.cells #[.int .i64 a, .int .i64 b] 57)
  have hbox0 : ((w.alloc (.cells #[.slice A n c] 24)).alloc (.cells #[.int .i64 a, .int .i64 b] 57)).cell? ⟨w.heap.size, 0, none⟩ = some (.slice A n c) := by go_simp
  have hx0 : ((w.alloc (.cells #[.slice A n c] 24)).alloc (.cells #[.int .i64 a, .int .i64 b] 57)).cell? ⟨w.heap.size + 1, 0, none⟩ = some (.int .i64 a) := by go_simp
  have hy0 : ((w.alloc (.cells #[.slice A n c] 24)).alloc (.cells #[.int .i64 a, .int .i64 b] 57)).cell? ⟨w.heap.size + 1, 1, none⟩ = some (.int .i64 b) := by go_simp
  have hL' := hide hL
  obtain rfl := hL.1
  clear hL
  by_cases h0 : tolE T B.length = 0
  · obtain ⟨hg, hBn⟩ := tolE_zero.1 h0
    have hg' := hide hg
    have hL2 := hide (isBools_of hL'.out (show B.length = n by omega))
    have hn64 : n ≤ 64 := by have := ((goodB_iff T).1 hg).2.1; omega
    have hBn' : B.length = n := by omega
    rw [hBn'] at h0 ⊢
    by_cases hv : anbB a b = true
    · have he : anbE a b = 0 := if_pos hv
      have hr1 : Hid (nallE T a b n = 0) := by show _ = _; unfold nallE; rw [if_pos h0, he]
      have hr2 : Hid (nallV T a b last B = (List.range n).map fun i => nmatF T i a b last B) := by show _ = _; unfold nallV; rw [hBn', if_pos hr1.out, hl]
      have hv' := hide hv
      clear hv hg hBn hBn'
      go_enter Try.func36, Try.ntmps36
      go_wp2_with fail
      refine (ncheck_ok _ _ _ _ _ _ T _ (hT.out.below hB0)).mono ?_
      rintro e w1 ⟨rfl, hb1⟩
      have hbox1 := cell_later hb1 hbox0
      have hB1 := Below.on hB0 hb1
      have hx1 := cell_later hb1 hx0
      have hy1 := cell_later hb1 hy0
      go_wp2_with fail
      refine (anbCheck_ok a b _).mono ?_
      rintro e w2 ⟨rfl, hb2⟩
      have hbox2 := cell_later hb2 hbox1
      have hB2 := Below.on hB1 hb2
      have hx2 := cell_later hb2 hx1
      have hy2 := cell_later hb2 hy1
      go_wp2
      clear hb1 hb2 hbox0 hbox1 hx0 hx1 hy0 hy1 hB0 hB1
      have hlt2 : w.heap.size + 1 < w2.heap.size := cell_in hx2
      go_loopw [12, 28] (fun v s wr => ∃ k : Nat, k ≤ n ∧ s = .int .i64 k ∧ OwnB wr (w.heap.size + 2) v ((List.range k).map fun i => nmatF T i a b last B) ∧ Below w.heap.size w wr ∧ w.heap.size + 2 ≤ wr.heap.size ∧ wr.cell? ⟨w.heap.size, 0, none⟩ = some (.slice A n c) ∧ wr.cell? ⟨w.heap.size + 1, 0, none⟩ = some (.int .i64 a) ∧ wr.cell? ⟨w.heap.size + 1, 1, none⟩ = some (.int .i64 b)) (fun _ s _ => n - (intOf s).toNat)
      case atStart => exact ⟨0, Nat.zero_le _, rfl, OwnB.nil _ _, hB2, by omega, hbox2, hx2, hy2⟩
      case round =>
        clear hB2 hbox2 hx2 hy2 hlt2 h0 he
        obtain ⟨k, hk, rfl, hown, hB3, hsz, hbox3, hx3, hy3⟩ := hrel
        by_cases hlt : k < n
        · go_wp2_with fail
          refine (nmatch_ok _ _ _ _ _ T B k a b last _ (hT.out.below hB3) (hL2.out.below hB3) hg'.out hlt hv'.out).mono ?_
          rintro e w4 ⟨rfl, hb4⟩
          have hown4 := hown.below hb4
          have hB4 := Below.on hB3 hb4
          have hbox4 := cell_later hb4 hbox3
          have hx4 := cell_later hb4 hx3
          have hy4 := cell_later hb4 hy3
          have hsz4 : w.heap.size + 2 ≤ w4.heap.size := Nat.le_trans hsz hb4.size
          clear hown
          go_wp2_with (at_builtin; refine wpList_pushB rfl _ _ rfl hown4 (nmatF T k a b last B) _ rfl rfl (by simp; omega) hsz4 ?_)
          intro A5 c5 w5 hown5 hgr
          have hB5 := hgr.below (by omega) hB4
          have hbox5 : w5.cell? ⟨w.heap.size, 0, none⟩ = some (.slice A n c) := (World.cell?_of_block (hgr.1 w.heap.size (by omega))).trans hbox4
          have hx5 : w5.cell? ⟨w.heap.size + 1, 0, none⟩ = some (.int .i64 a) := (World.cell?_of_block (hgr.1 (w.heap.size + 1) (by omega))).trans hx4
          have hy5 : w5.cell? ⟨w.heap.size + 1, 1, none⟩ = some (.int .i64 b) := (World.cell?_of_block (hgr.1 (w.heap.size + 1) (by omega))).trans hy4
          have hs5 := hgr.lt
          have hown5' := hide hown5
          clear hgr hown4 hown5
          go_wp2
          go_roundw
          case rel => exact ⟨k + 1, by omega, by go_num, by have := hown5'.out; rw [mapr_succ]; exact this, hB5, by omega, hbox5, hx5, hy5⟩
          case measure => simp [intOf]; omega
        · obtain rfl : n = k := by omega
          obtain ⟨A', c', rfl, -, -, hI'⟩ := hown.isBools (by simp; omega)
          rw [← hr2.out] at hI' ⊢
          have hI2 := hide hI'
          clear hI' hown
          go_wp2
          go_ret2
          rw [hr1.out]
          exact ⟨A', c', rfl, hI2.out, hB3⟩
    · have he : anbE a b = 8 := if_neg hv
      have hr1 : Hid (nallE T a b n = 8) := by show _ = _; unfold nallE; rw [if_pos h0, he]
      have hr2 : Hid (nallV T a b last B = []) := by show _ = _; unfold nallV; rw [hBn', if_neg (by rw [hr1.out]; decide)]
      clear hv hg hBn hBn'
      go_enter Try.func36, Try.ntmps36
      go_wp2_with fail
      refine (ncheck_ok _ _ _ _ _ _ T _ (hT.out.below hB0)).mono ?_
      rintro e w1 ⟨rfl, hb1⟩
      have hbox1 := cell_later hb1 hbox0
      have hB1 := Below.on hB0 hb1
      have hx1 := cell_later hb1 hx0
      have hy1 := cell_later hb1 hy0
      go_wp2_with fail
      refine (anbCheck_ok a b _).mono ?_
      rintro e w2 ⟨rfl, hb2⟩
      have hbox2 := cell_later hb2 hbox1
      have hB2 := Below.on hB1 hb2
      have hx2 := cell_later hb2 hx1
      have hy2 := cell_later hb2 hy1
      go_wp2
      go_ret2
      rw [hr1.out, hr2.out]
      exact madeBoolsE_nil hB2
  · have hr1 : Hid (nallE T a b B.length = tolE T B.length) := if_neg h0
    have hr2 : Hid (nallV T a b last B = []) := by show _ = _; unfold nallV; rw [hr1.out, if_neg h0]
    have hq : (tolE T B.length != 0) = true := by simp [h0]
    clear h0
    go_enter Try.func36, Try.ntmps36
    go_wp2_with fail
    refine (ncheck_ok _ _ _ _ _ _ T _ (hT.out.below hB0)).mono ?_
    rintro e w1 ⟨rfl, hb1⟩
    have hbox1 := cell_later hb1 hbox0
    have hB1 := Below.on hB0 hb1
    have hx1 := cell_later hb1 hx0
    have hy1 := cell_later hb1 hy0
    go_wp2
    go_ret2
    rw [hr1.out, hr2.out]
    exact madeBoolsE_nil hB1
end Go.Proofs.Ytankambfobfnfaa
