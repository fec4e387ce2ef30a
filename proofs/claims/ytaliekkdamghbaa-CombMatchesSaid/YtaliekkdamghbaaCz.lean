/- Walks: the nearest way to an element, by the reference. Conditions: the tree is good, what is told is right. -/
import Derived.Test.YtaliekkdamghbaaCx
import Derived.Test.YtaliekkdamghbaaCy
import Derived.WalkSpells
namespace Go.Proofs.Ytaliekkdamghbaa
open Go.RowKit

def wayV (T : List ANode) (cs : List Int) (H : List (List Bool)) (q i : Nat) : List Int := if rchF T cs H q i = true then wayF T cs H q i else []
theorem madeInts_nil (w w' : World) (hb : Below w.heap.size w w') : MadeInts w [] (.returned (.slice none 0 0)) w' :=
  ⟨none, 0, rfl, World.ownsRow_nil _ _ _ _, hb, fun _ => ⟨rfl, rfl⟩, Nat.le_refl _, Nat.zero_le _, isInts_nil _⟩
theorem madeInts_own {w w' : World} {v : Value} {xs : List Int} (h : OwnI w' w.heap.size v xs) (hl : xs.length ≤ 1000) (h0 : xs ≠ []) (hb : Below w.heap.size w w') : MadeInts w xs (.returned v) w' := by
  obtain ⟨A, c, rfl, h1, h2, h3⟩ := h.isInts (by omega)
  exact ⟨A, c, rfl, h, hb, fun e => absurd e h0, h1, h2, h3⟩

set_option maxRecDepth 100000 in
set_option maxHeartbeats 2000000 in
theorem rway_ok (A : Option Addr) (n c m d e0 : Nat) (T : List ANode) (cs : List Int) (H : List (List Bool)) (hg : goodB T = true) (ht : toldB T.length cs H = true) (hm : cs.length = m) : ∀ (q i : Nat) (B C : Option Addr) (w : World), IsTree w A n T → IsU8 w B m cs → IsBB w C (m + 1) H → i < n → q ≤ m →
    Calls Try.prog 53 #[.agg #[.slice A n c], .int .i64 i, .slice B m d, .slice C (m + 1) e0, .int .i64 q] w (MadeInts w (wayV T cs H q i)) := by
  have hg' := hide hg
  have hm63 : m ≤ 63 := by have := told_len ht; omega
  have hn64 : T.length ≤ 64 := ((goodB_iff T).1 hg).2.1
  have ht5 := hide ((toldB_iff _ _ _).1 ht).2.2.2.2
  have ht4 := hide ((toldB_iff _ _ _).1 ht).2.2.2.1
  have hm' := hide hm
  have hHl : H.length = m + 1 := by have := told_len ht; omega
  have hHl' := hide hHl
  clear hg ht hm hHl
  intro q
  induction q with
  | zero =>
    intro i B C w h hcs hH hi hq
    have hHl := hHl'.out
    have hn63 : n ≤ 64 := by have := h.1; omega
    clear hcs
    have hT := hide h
    have hl := h.1
    clear h
    have hB0 := below_alloc (Below.refl w.heap.size w) (.cells #[.slice A n c] 24)
    have hbox0 : (w.alloc (.cells #[.slice A n c] 24)).cell? ⟨w.heap.size, 0, none⟩ = some (.slice A n c) := by go_simp
    obtain ⟨bh, oh, hA, hC, rfl, hbh, hhc, hhr⟩ := hH.2.2 (by omega)
    have gr := (old hB0 _ _ hbh).trans (hhc 0 (by omega))
    have hIr := (hhr 0 (by omega)).1.below hB0
    have hrc1 := (hhr 0 (by omega)).2.1
    have hrc2 := (hhr 0 (by omega)).2.2
    have hl1 := ht5.out 0 (by omega)
    rw [hl1, hl] at gr hIr hrc1
    have hH' := hide hH
    generalize hA 0 = HA1 at gr hIr
    generalize hC 0 = HC1 at gr hrc1 hrc2
    obtain ⟨-, -, hro⟩ := hIr
    obtain ⟨b5, o5, rfl, hb5, hc5⟩ := hro (by omega)
    have gx := hc5 i hi
    have hbhu : bh < (w.alloc (.cells #[.slice A n c] 24)).heap.size := Nat.lt_of_lt_of_le hbh hB0.size
    clear hhc hhr hro hc5 hH
    cases hx : bx (rowB H 0) i
    · have e : wayV T cs H 0 i = [] := if_neg (by show ¬ bx (rowB H 0) i = true; rw [hx]; decide)
      rw [hx] at gx
      simp only [Nat.add_zero] at gr
      rw [e]
      clear hx e hHl
      go_enter Try.func53, Try.ntmps53
      go_wp2
      go_ret
      exact madeInts_nil _ _ hB0
    · have e : wayV T cs H 0 i = [(i : Int)] := if_pos (show bx (rowB H 0) i = true from hx)
      rw [hx] at gx
      simp only [Nat.add_zero] at gr
      rw [e]
      clear hx e hHl
      go_enter Try.func53, Try.ntmps53
      go_wp2
      go_ret
      refine madeInts_own ?_ (by simp) (by simp) (below_alloc hB0 _)
      exact OwnI.lit _ _ _ _ (by simp) (by omega)
  | succ p ih =>
    intro i B C w h hcs hH hi hq
    have hHl := hHl'.out
    have ih' := hide ih
    have hn63 : n ≤ 64 := by have := h.1; omega
    have hcs' := hide hcs
    clear hcs ih
    have hT := hide h
    have hl := h.1
    clear h
    have hB0 := below_alloc (Below.refl w.heap.size w) (.cells #[.slice A n c] 24)
    have hbox0 : (w.alloc (.cells #[.slice A n c] 24)).cell? ⟨w.heap.size, 0, none⟩ = some (.slice A n c) := by go_simp
    obtain ⟨bh, oh, hA, hC, rfl, hbh, hhc, hhr⟩ := hH.2.2 (by omega)
    have gr := (old hB0 _ _ hbh).trans (hhc (p+1) (by omega))
    have hIr := (hhr (p+1) (by omega)).1.below hB0
    have hrc1 := (hhr (p+1) (by omega)).2.1
    have hrc2 := (hhr (p+1) (by omega)).2.2
    have hl1 := ht5.out (p+1) (by omega)
    rw [hl1, hl] at gr hIr hrc1
    have hH' := hide hH
    generalize hA (p+1) = HA1 at gr hIr
    generalize hC (p+1) = HC1 at gr hrc1 hrc2
    obtain ⟨-, -, hro⟩ := hIr
    obtain ⟨b5, o5, rfl, hb5, hc5⟩ := hro (by omega)
    have gx := hc5 i hi
    have hbhu : bh < (w.alloc (.cells #[.slice A n c] 24)).heap.size := Nat.lt_of_lt_of_le hbh hB0.size
    clear hhc hhr hro hc5 hH
    have hst := rch_step hg'.out cs H p (i := i) (by omega)
    have q0 : (((p : Int) + 1) == 0) = false := by simp; omega
    cases hx : bx (rowB H (p + 1)) i
    · have e : wayV T cs H (p + 1) i = [] := if_neg (by rw [hst, hx]; exact Bool.false_ne_true)
      rw [hx] at gx
      rw [e]
      clear hx e hHl hst
      go_enter Try.func53, Try.ntmps53
      go_wp2
      go_ret
      exact madeInts_nil _ _ hB0
    · rw [hx] at gx
      have hst2 : Hid (rchF T cs H (p + 1) i = (prtF T i (ix cs p)).any (hitB (rchL T cs H p))) := by show _ = _; rw [hst, hx]; rfl
      have hprange := prt_range hg'.out (i := i) (by omega) (ix cs p)
      have hstF : stepF T cs H p i = ix (prtF T i (ix cs p)) ((prtF T i (ix cs p)).findIdx (hitB (rchL T cs H p))) := rfl
      obtain ⟨bc, oc, rfl, hbc, hck⟩ := hcs'.out.2.2.2 (by omega)
      have gy := (old hB0 _ _ hbc).trans (hck p (by omega))
      have hy := ht4.out p (by have := hm'.out; omega)
      obtain ⟨y, hye⟩ : ∃ y, ix cs p = y := ⟨_, rfl⟩
      rw [hye] at gy hy hprange hst2 hstF
      have hpa := hide (rpartners_ok A n c T i y _ (hT.out.below (show Below w.heap.size w (w.alloc (.cells #[.slice A n c] 24)).drew from hB0.drew)) hg'.out hi hy.1 hy.2)
      obtain ⟨L, hL⟩ : ∃ L, prtF T i y = L := ⟨_, rfl⟩
      rw [hL] at hpa hprange hst2 hstF
      have hpr' := hide hprange
      have hstF' := hide hstF
      have hx0 : (0 : Int) ≤ (p : Int) := by omega
      have hx1 : (p : Int) < (m : Int) := by omega
      have hw1 : IntKind.i64.wrap (p : Int) = (p : Int) := IntWalk.i64_in _ (by omega)
      clear hx hst hck hye hL hprange hstF hHl
      go_enter Try.func53, Try.ntmps53
      go_wp2
      go_region_held3 (fun X => X.cell? ⟨w.heap.size, 0, none⟩ = some (.slice A n c) ∧ X.cell? ⟨bc, oc + p, none⟩ = some (.int .u8 y)) (first | exact ⟨hbox0, gy⟩ | exact ⟨r0, r2⟩) (first | (go_at_call 75; (with_reducible refine hpa.out.mono ?_); rintro e5 w5 ⟨A5, c5, rfl, hI5, hb5⟩; have r0 := cell_later hb5 hbox0; have r2 := cell_later hb5 gy))
      have hI5' := hide hI5
      have hB5 : Below w.heap.size w w5 := Below.on (w1 := (w.alloc (.cells #[.slice A n c] 24)).drew) hB0.drew hb5
      have hwV : Hid (∀ x : Nat, x < L.length → hitB (rchL T cs H p) (ix L x) = true → (∀ j, j < x → hitB (rchL T cs H p) (ix L j) = false) → ∃ pp : Nat, ix L x = pp ∧ pp < n ∧ rchF T cs H p pp = true ∧ wayV T cs H (p + 1) i = wayF T cs H p pp ++ [(i : Int)]) := by
        intro x hxl hxh hxb
        have h1 := fst_at (B := rchL T cs H p) hxl hxh hxb
        have h2 : L.findIdx (hitB (rchL T cs H p)) = x := by
          unfold fstB at h1
          split at h1 <;> omega
        obtain ⟨pp, hpp⟩ := Int.eq_ofNat_of_zero_le (hpr'.out _ (ix_mem hxl)).1
        have hpl := (hpr'.out _ (ix_mem hxl)).2
        rw [hpp] at hxh
        unfold hitB at hxh
        rw [Int.toNat_natCast, rchL_bx _ _ _ _ (by omega)] at hxh
        refine ⟨pp, hpp, by omega, hxh, ?_⟩
        have hr : rchF T cs H (p + 1) i = true := by
          rw [hst2.out, List.any_eq_true]
          refine ⟨_, ix_mem hxl, ?_⟩
          rw [hpp]
          unfold hitB
          rw [Int.toNat_natCast, rchL_bx _ _ _ _ (by omega)]
          exact hxh
        unfold wayV
        rw [if_pos hr]
        exact wayF_succ (by rw [hstF'.out, h2, hpp])
      have hwN : Hid ((∀ j, j < L.length → hitB (rchL T cs H p) (ix L j) = false) → wayV T cs H (p + 1) i = []) := by
        intro hall
        unfold wayV
        rw [if_neg]
        rw [hst2.out, List.any_eq_true]
        rintro ⟨z, hz, hzh⟩
        obtain ⟨j, hj, rfl⟩ := mem_ix hz
        rw [hall j hj] at hzh
        cases hzh
      have hL63 : L.length ≤ 9223372036854775807 := hI5'.out.2.1
      clear hI5 hpa hst2 hstF' hb5 gy r2
      go_wp2
      go_loopw [12] (fun s wr => ∃ x : Nat, x ≤ L.length ∧ s = .int .i64 x ∧ Hid (∀ j, j < x → hitB (rchL T cs H p) (ix L j) = false) ∧ Below w5.heap.size w5 wr) (fun s _ => L.length - (intOf s).toNat)
      case atStart => exact ⟨0, Nat.zero_le _, rfl, fun j hj => absurd hj (by omega), Below.refl _ _⟩
      case round =>
        obtain ⟨x, hx, rfl, hno, hb⟩ := hrel
        have hbw := cell_later hb r0
        have hBw := Below.on hB5 hb
        by_cases hlt : x < L.length
        · obtain ⟨b6, o6, rfl, hb6, hc6⟩ := hI5'.out.2.2 (by omega)
          have gz := (old hb _ _ hb6).trans (hc6 x hlt)
          obtain ⟨zz, hzz⟩ := Int.eq_ofNat_of_zero_le (hpr'.out _ (ix_mem hlt)).1
          have hzl := (hpr'.out _ (ix_mem hlt)).2
          rw [hzz] at gz
          have hzn : zz < n := by omega
          have hx2 : (0 : Int) ≤ (x : Int) := by omega
          have hx3 : (x : Int) < (L.length : Int) := by omega
          have hih := hide (ih'.out zz _ (some ⟨bh, oh, none⟩) wr.drew (hT.out.below (show Below w.heap.size w wr.drew from hBw.drew)) (hcs'.out.below (show Below w.heap.size w wr.drew from hBw.drew)) (hH'.out.below (show Below w.heap.size w wr.drew from hBw.drew)) hzn (by omega))
          have hzz' := hide hzz
          cases hr : rchF T cs H p zz
          · have e : wayV T cs H p zz = [] := if_neg (by rw [hr]; decide)
            rw [e] at hih
            have hno2 : Hid (∀ j, j < x + 1 → hitB (rchL T cs H p) (ix L j) = false) := by
              intro j hj
              by_cases h : j = x
              · subst h; rw [hzz'.out]; unfold hitB; rw [Int.toNat_natCast, rchL_bx _ _ _ _ (by omega)]; exact hr
              · exact hno.out j (by omega)
            clear hc6 hzz hr e
            have hneq := fun W c' => run_neq_slice_nil_any (P := Try.prog) W 44 3 none 0 c' 0 0 Try.underlying44
            go_wp2
            go_region_held3 (fun X => X.cell? ⟨w.heap.size, 0, none⟩ = some (.slice A n c) ∧ X.cell? ⟨b6, o6 + x, none⟩ = some (.int .i64 zz)) (first | exact ⟨hbw, gz⟩ | exact ⟨r0, r2⟩) (first | (go_at_call 53; (with_reducible refine hih.out.mono ?_); rintro e7 w7 ⟨A7, c7, rfl, hO7, hb7, hnil7, hl7, hm7, hI7⟩; have r0 := cell_later hb7 hbw; have r2 := cell_later hb7 gz))
            obtain ⟨rfl, rfl⟩ := hnil7 (by trivial)
            have hb7' := hide hb7
            clear hO7 hI7 hb7
            go_wp2
            go_roundw
            case rel => exact ⟨x + 1, by omega, by go_num, hno2.out, Below.on (w1 := wr.drew) hb.drew hb7'.out⟩
            case measure => simp [intOf]; omega
          · obtain ⟨pp, h1, h2, h3, h4⟩ := hwV.out x hlt (by rw [hzz]; unfold hitB; rw [Int.toNat_natCast, rchL_bx _ _ _ _ (by omega)]; exact hr) hno.out
            obtain rfl : pp = zz := by omega
            have e : wayV T cs H p pp = wayF T cs H p pp := if_pos hr
            have hwl := wayF_len T cs H p pp
            rw [e] at hih
            obtain ⟨Y, hY⟩ : ∃ Y, wayF T cs H p pp = Y := ⟨_, rfl⟩
            rw [hY] at hih h4 hwl
            have h4' := hide h4
            have hwl' := hide hwl
            clear hc6 hzz hr e h1 h3 h4 hwl hY
            go_wp2
            go_region_held3 (fun X => X.cell? ⟨w.heap.size, 0, none⟩ = some (.slice A n c) ∧ X.cell? ⟨b6, o6 + x, none⟩ = some (.int .i64 pp)) (first | exact ⟨hbw, gz⟩ | exact ⟨r0, r2⟩) (first | (go_at_call 53; (with_reducible refine hih.out.mono ?_); rintro e7 w7 ⟨A7, c7, rfl, hO7, hb7, hnil7, hl7, hm7, hI7⟩; have r0 := cell_later hb7 hbw; have r2 := cell_later hb7 gz))
            obtain ⟨b7, o7, rfl, hb7l, -⟩ := hI7.2.2 (by rw [hwl'.out]; omega)
            have hneq := fun W c' => run_neq_slice_nil_any (P := Try.prog) W 44 3 (some ⟨b7, o7, none⟩) Y.length c' 0 0 Try.underlying44
            have hB7 := hide (Below.on (w1 := wr.drew) hBw.drew hb7)
            have hown : OwnI w7 wr.heap.size (.slice (some ⟨b7, o7, none⟩) Y.length c7) Y := hO7
            have hsz : wr.heap.size ≤ w7.heap.size := hb7.size
            have hws : w.heap.size ≤ wr.heap.size := hBw.size
            clear hO7 hI7 hb7 hnil7
            go_wp2_with (at_builtin; refine wpList_pushI rfl _ _ rfl hown (i : Int) _ rfl rfl (by rw [hwl'.out]; omega) hsz ?_)
            intro A8 c8 w8 hown8 hgr
            have hB8 := hide (hgr.below (by omega) hB7.out)
            have hown8' := hide hown8
            have hYl : (Y ++ [(i : Int)]).length = Y.length + 1 := by rw [List.length_append]; rfl
            clear hgr hown8 hown
            go_wp2
            go_ret
            rw [h4'.out]
            exact madeInts_own (by simpa using OwnI.base hown8'.out hws) (by rw [hYl, hwl'.out]; omega) (by simp) hB8.out
        · have e := hide (hwN.out (fun j hj => hno.out j (by omega)))
          go_wp2
          go_ret
          rw [e.out]
          exact madeInts_nil _ _ hBw
end Go.Proofs.Ytaliekkdamghbaa
