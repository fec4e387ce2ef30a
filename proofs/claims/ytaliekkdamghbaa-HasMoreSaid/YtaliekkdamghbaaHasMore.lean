/- What an element has with CombChild it has with CombDescendant, and with CombNext with CombLater; one above it has it, too; with one compound it has it just if an element in its reach matches it; unless the data are greater than the statement considers. No condition. -/
import Derived.Test.YtaliekkdamghbaaHx
import Derived.Test.YtaliekkdamghbaaHe
import Derived.Test.YtaliekkdamghbaaPhr
import Derived.Test.YtaliekkdamghbaaDa
import Derived.Test.YtaliekkdamghbaaDf
import Derived.Test.YtaliekkdamghbaaOpen
import Derived.Deep.RegionHeld3
namespace Go.Proofs.Ytaliekkdamghbaa.hasMore
open Go.ChangeShapes Go.WideShapes Go.ChangeAt Go.RowKit

/-- An array of five truth values. -/
def ArrB (w : World) (g : Nat) (f : Nat → Bool) : Prop := ∃ cs t, w.heap[g]? = some (.cells cs t (0, 0)) ∧ ∀ j, j < 5 → cs[j]? = some (.bool (f j))
theorem ArrB.cell {w : World} {g : Nat} {f : Nat → Bool} (h : ArrB w g f) {j : Nat} (hj : j < 5) : w.cell? ⟨g, j, none⟩ = some (.bool (f j)) := by
  obtain ⟨cs, t, h1, h2⟩ := h
  rw [blk_cell h1, h2 j hj]
theorem ArrB.frozen {w : World} {g : Nat} {f : Nat → Bool} (h : ArrB w g f) (j : Nat) : w.frozen? ⟨g, j, none⟩ = false := by
  obtain ⟨cs, t, h1, h2⟩ := h
  exact blk_frozen h1 _
theorem ArrB.lt {w : World} {g : Nat} {f : Nat → Bool} (h : ArrB w g f) : g < w.heap.size := by
  obtain ⟨cs, t, h1, h2⟩ := h
  exact blk_lt h1
theorem ArrB.below {w w' : World} {g : Nat} {f : Nat → Bool} (h : ArrB w g f) (hb : Below w.heap.size w w') : ArrB w' g f := by
  obtain ⟨cs, t, h1, h2⟩ := h
  exact ⟨cs, t, by rw [hb.block g (blk_lt h1)]; exact h1, h2⟩
theorem ArrB.set {w : World} {g : Nat} {f f' : Nat → Bool} (h : ArrB w g f) (k : Nat) (b : Bool) (he : ∀ j, j < 5 → f' j = if j = k then b else f j) : ArrB (w.setCell ⟨g, k, none⟩ (.bool b)) g f' := by
  obtain ⟨cs, t, h1, h2⟩ := h
  refine ⟨_, t, blk_set h1 k _, fun j hj => ?_⟩
  rw [Array.getElem?_setIfInBounds, he j hj]
  have hc := h2 j hj
  have hs : j < cs.size := (Array.getElem?_eq_some_iff.1 hc).1
  by_cases hjk : k = j
  · subst hjk
    rw [if_pos rfl, if_pos hs, if_pos rfl]
  · rw [if_neg hjk, if_neg (by omega), hc]
theorem take_any {l : List Int} {B : List Bool} {q : Nat} (hq : q < l.length) : (l.take (q + 1)).any (hitB B) = ((l.take q).any (hitB B) || hitB B (ix l q)) := by
  rw [List.take_succ_eq_append_getElem hq, List.any_append, ix_get hq]
  simp

set_option maxRecDepth 100000 in
set_option maxHeartbeats 4000000 in
theorem walk (A : Option Addr) (n c : Nat) (T : List ANode) (i : Int) (B : Option Addr) (m d : Nat) (cs : List Int) (C : Option Addr) (K e : Nat) (H : List (List Bool)) (w : World) (h : IsTree w A n T) (hcs : IsU8 w B m cs) (he : K ≤ e ∧ e ≤ 9223372036854775807) (hH : IsBB w C K H) :
    Calls Try.prog 11 #[.agg #[.slice A n c], .int .i64 i, .slice B m d, .slice C K e] w fun e w' => e = .returned (.bool true) ∧ Below w.heap.size w w' := by
  have ho := hide h.2.2.2
  have hkl := hH.1
  obtain ⟨he1, he2⟩ := he
  have hcs' := hide hcs
  have hH' := hide hH
  clear hcs hH
  have hT := hide h
  have hl := h.1
  clear h
  have hB0 := below_alloc (Below.refl w.heap.size w) (.cells #[.slice A n c] 24)
  have hbox0 : (w.alloc (.cells #[.slice A n c] 24)).cell? ⟨w.heap.size, 0, none⟩ = some (.slice A n c) := by go_simp
  cases hs : small21 T cs H
  · have hs' := hide hs
    clear hs
    go_enter Try.func11, Try.ntmps11
    go_wp2_with fail
    refine (alive22_ok _).mono ?_
    rintro e w1 ⟨rfl, hb1⟩
    have hbox1 := cell_later hb1 hbox0
    have hB1 := Below.on hB0 hb1
    go_wp2_with fail
    have hx := great21_ok _ _ _ _ c _ d _ e T cs H _ (hT.out.below hB1) (hcs'.out.below hB1) (hH'.out.below hB1)
    rw [hs'.out] at hx
    refine hx.mono ?_
    clear hx
    rintro e1 w2 ⟨rfl, hb2⟩
    have hB2 := Below.on hB1 hb2
    have hbox2 := cell_later hb2 hbox1
    clear hb2 hbox1
    go_wp2
    go_ret
    exact ⟨rfl, hB2⟩
  · have hs' := hide hs
    clear hs
    by_cases hk0 : cask T i cs H = 0
    · obtain ⟨hg, hir, ht⟩ := cask_zero.1 hk0
      obtain ⟨ii, rfl⟩ := Int.eq_ofNat_of_zero_le hir.1
      have hii : ii < n := by omega
      have hiT : ii < T.length := by omega
      have hk0' := hide hk0
      clear hk0 hir
      have ht1 := ((toldB_iff _ _ _).1 ht)
      have hn64 : n ≤ 64 := by have := ((goodB_iff T).1 hg).2.1; omega
      have hK0 : 0 < K := by omega
      have hB0l : (rowB H 0).length = T.length := ht1.2.2.2.2 0 (by omega)
      have htk : H.take 1 = [rowB H 0] := by
        cases H with
        | nil => simp at hkl; omega
        | cons a l => rfl
      obtain ⟨V, hV⟩ : ∃ V : Nat → Bool, ∀ q : Nat, hasF T ii (q : Int) cs H = V q := ⟨fun q => hasF T ii (q : Int) cs H, fun _ => rfl⟩
      obtain ⟨N, hN⟩ : ∃ N : Nat → List Int, ∀ q : Nat, nearF T ii (q : Int) = N q := ⟨fun q => nearF T ii (q : Int), fun _ => rfl⟩
      obtain ⟨B0, hB0e⟩ : ∃ B0, rowB H 0 = B0 := ⟨_, rfl⟩
      rw [hB0e] at hB0l htk
      have hrz : ∀ q : Nat, 1 ≤ q → q ≤ 4 → rchC T ii (q : Int) = 0 := fun q h1 h4 => rchC_zero.2 ⟨hg, ⟨by omega, by omega⟩, by omega, by omega⟩
      have htd1 : toldB T.length [] [B0] = true := (toldB_iff _ _ _).2 ⟨by simp, by simp, by simp, by simp, fun j hj => by
        obtain rfl : j = 0 := by simp at hj; omega
        exact hB0l⟩
      have hE := hide (show ∀ q : Nat, 1 ≤ q → q ≤ 4 → hmE T ii (q : Int) cs H = 0 ∧ hmV T ii (q : Int) cs H = V q from fun q h1 h4 => by
        have e0 : hmE T ii (q : Int) cs H = 0 := by unfold hmE; rw [if_pos (hrz q h1 h4)]; exact cchk_zero.2 ⟨hg, ht⟩
        exact ⟨e0, by unfold hmV; rw [if_pos e0, Int.toNat_natCast, hV]⟩)
      have hE1 := hide (show ∀ q : Nat, 1 ≤ q → q ≤ 4 → hmE T ii (q : Int) [] (H.take 1) = 0 ∧ hmV T ii (q : Int) [] (H.take 1) = (N q).any (hitB B0) from fun q h1 h4 => by
        rw [htk]
        have e0 : hmE T ii (q : Int) [] [B0] = 0 := by unfold hmE; rw [if_pos (hrz q h1 h4)]; exact cchk_zero.2 ⟨hg, htd1⟩
        exact ⟨e0, by unfold hmV; rw [if_pos e0, Int.toNat_natCast, has_one hg hiT _ hB0l, hN]⟩)
      have hRr := hide (show ∀ q : Nat, 1 ≤ q → q ≤ 4 → rchC T ii (q : Int) = 0 ∧ rchX T ii (q : Int) = N q from fun q h1 h4 => by
        refine ⟨hrz q h1 h4, ?_⟩
        unfold rchX
        rw [if_pos (askI_ok hg (by simp; omega)), if_pos (ldE_zero.2 ⟨hg, by omega, by omega⟩), Int.toNat_natCast, hN])
      have hImp := hide (show ∀ q : Nat, V q = true → (N q).any (hitB B0) = true from fun q hv => by
        rw [← hN, ← hB0e]
        exact has_some hg hiT ht ((hV q).trans hv))
      have hNr := hide (show ∀ q : Nat, ∀ x ∈ N q, ∃ k : Nat, x = (k : Int) ∧ k < n from fun q x hx => by
        rw [← hN] at hx
        obtain ⟨k, h1, h2⟩ := near_range hg hiT hx
        exact ⟨k, h1, by omega⟩)
      have hNl := hide (show ∀ q : Nat, (N q).length ≤ 64 from fun q => by rw [← hN]; have := near_len hg hiT (q : Int); omega)
      have hV21 := hide (show V 2 = true → V 1 = true from fun h => (hV 1).symm.trans (near_mono hg (near_21 hg hiT) hiT ht ((hV 2).trans h)))
      have hV34 := hide (show V 3 = true → V 4 = true from fun h => (hV 4).symm.trans (near_mono hg near_34 hiT ht ((hV 3).trans h)))
      have hVn := hide (show par T ii < 0 → V 3 = false ∧ V 4 = false from fun h => ⟨(hV 3).symm.trans (has_no_par hg hiT h (.inl rfl) ht), (hV 4).symm.trans (has_no_par hg hiT h (.inr rfl) ht)⟩)
      have hVp := hide (show ∀ p : Nat, par T ii = p → p < T.length ∧ hmE T p 1 cs H = 0 ∧ hmV T p 1 cs H = hasF T p 1 cs H ∧ (V 1 = true → hasF T p 1 cs H = true) ∧ (V 4 = true → hasF T p 1 cs H = true) from fun p hp => by
        have hpl : p < T.length := by have := (good_par hg hiT).2; omega
        have e0 : hmE T p 1 cs H = 0 := by unfold hmE; rw [if_pos (rchC_zero.2 ⟨hg, ⟨by omega, by omega⟩, by omega, by omega⟩)]; exact cchk_zero.2 ⟨hg, ht⟩
        exact ⟨hpl, e0, by unfold hmV; rw [if_pos e0, Int.toNat_natCast], fun h => has_up hg hiT hp hpl ht ((hV 1).trans h), fun h => has_up hg hiT hp hpl ht ((hV 4).trans h)⟩)
      obtain ⟨bh, oh, hA, hC, rfl, hbh, hhc, hhr⟩ := hH'.out.2.2 hK0
      have hh0 := hhc 0 hK0
      have hr0 := (hhr 0 hK0).1
      rw [hB0e, hB0l, hl] at hh0 hr0
      generalize hA 0 = A0 at hh0 hr0
      generalize hC 0 = C0 at hh0
      obtain ⟨b0, o0, rfl, hb0, hc0⟩ := hr0.2.2 (by omega)
      have hc0' := hide hc0
      obtain ⟨b, off, aA, cA, aC, cC, rfl, hbl, -, -, c2, -, -, -⟩ := ho.out (by omega)
      have c2' := hide (c2 ii hii)
      have hpr := good_par hg hiT
      obtain ⟨pz, hpz0⟩ : ∃ pz, par T ii = pz := ⟨_, rfl⟩
      rw [hpz0] at c2' hpr hVn
      have hpz := hide hpz0
      clear hg ht ht1 htk hV hN hB0e hrz htd1 hc0 hr0 c2 ho hhc hhr hpz0 hB0l
      have q1 : (0 : Int) ≤ (ii : Int) := by omega
      have q2 : (ii : Int) < (n : Int) := by omega
      have q3 : (1 : Int) ≤ (e : Int) := by omega
      go_enter Try.func11, Try.ntmps11
      go_wp2_with fail
      refine (alive22_ok _).mono ?_
      rintro e w1 ⟨rfl, hb1⟩
      have hbox1 := cell_later hb1 hbox0
      have hB1 := Below.on hB0 hb1
      go_wp2_with fail
      have hx := great21_ok _ _ _ _ c _ d _ e T cs H _ (hT.out.below hB1) (hcs'.out.below hB1) (hH'.out.below hB1)
      rw [hs'.out] at hx
      refine hx.mono ?_
      clear hx
      rintro e1 w2 ⟨rfl, hb2⟩
      have hB2 := Below.on hB1 hb2
      have hbox2 := cell_later hb2 hbox1
      clear hb2 hbox1
      go_wp2_with fail
      have hx := rcask_ok _ _ _ _ c _ d _ e T ii cs H _ (hT.out.below hB2) (hcs'.out.below hB2) (hH'.out.below hB2)
      rw [hk0'.out] at hx
      refine hx.mono ?_
      clear hx
      rintro e1 w3 ⟨rfl, hb3⟩
      have hB3 := Below.on hB2 hb3
      have hbox3 := cell_later hb3 hbox2
      clear hb3 hbox2
      go_wp2
      go_loopw [11] (fun s wr => ∃ q : Nat, 1 ≤ q ∧ q ≤ 5 ∧ s = .int .u8 q ∧ Below w3.heap.size w3 wr ∧ ArrB wr w3.heap.size (fun j => decide (1 ≤ j) && decide (j < q) && V j)) (fun s _ => 5 - (intOf s).toNat)
      case atStart =>
        refine ⟨1, Nat.le_refl _, by omega, rfl, below_alloc (Below.refl _ _) _, _, _, blk_at _ _ _ _ rfl, fun j hj => ?_⟩
        rcases (by omega : j = 0 ∨ j = 1 ∨ j = 2 ∨ j = 3 ∨ j = 4) with rfl | rfl | rfl | rfl | rfl <;> rfl
      case round =>
        obtain ⟨q, hq1, hq5, rfl, hb, harr⟩ := hrel
        have hBr := Below.on hB3 hb
        have hboxr := cell_later hb hbox3
        by_cases hlt : q ≤ 4
        · obtain ⟨a1, a2⟩ := hE.out q hq1 hlt
          obtain ⟨a3, a4⟩ := hE1.out q hq1 hlt
          obtain ⟨a5, a6⟩ := hRr.out q hq1 hlt
          have a7 := hImp.out q
          have a8 := hide (hNr.out q)
          have a9 := hNl.out q
          obtain ⟨v, hv⟩ : ∃ v, V q = v := ⟨_, rfl⟩
          obtain ⟨L, hL⟩ : ∃ L, N q = L := ⟨_, rfl⟩
          rw [hv] at a2 a7
          rw [hL] at a4 a6 a7 a8 a9
          have hv' := hide hv
          obtain ⟨lm, hlm⟩ : ∃ lm, L.length = lm := ⟨_, rfl⟩
          have hlm' := hide hlm
          rw [hlm] at a9
          obtain ⟨y, hy⟩ : ∃ y, L.any (hitB B0) = y := ⟨_, rfl⟩
          rw [hy] at a4 a7
          have hy' := hide hy
          have a1' := hide a1
          have a2' := hide a2
          have a3' := hide a3
          have a4' := hide a4
          have a5' := hide a5
          have a6' := hide a6
          have a7' := hide a7
          have harr' := hide harr
          clear a1 a2 a3 a4 a5 a6 a7 hv hL hlm hy harr
          have r1 : (1 : Int) ≤ (q : Int) := by omega
          have r4 : (q : Int) ≤ 4 := by omega
          go_wp2_with fail
          refine (hMatch_at T ii q cs H v 0 a1'.out a2'.out _ _ _ _ c _ d _ e _ (hT.out.below hBr) (hcs'.out.below hBr) (hH'.out.below hBr) he1 he2).mono ?_
          rintro e5 w5 ⟨rfl, hb5⟩
          have hB5 := Below.on hBr hb5
          have hbox5 := cell_later hb5 hboxr
          have harr5 := hide (harr'.out.below hb5)
          have hz5 := Below.on hb hb5
          clear hb5 hboxr harr'
          have hB5d : Below w.heap.size w w5.drew := hB5.drew
          have hk6 := hide (hMatch_at T ii q [] (H.take 1) y 0 a3'.out a4'.out (some ⟨b, off, none⟩) none (some ⟨bh, oh, none⟩) n c 0 0 1 e w5.drew (hT.out.below hB5d) (isU8_nil _) ((hH'.out.take (by omega)).below hB5d) (by omega) he2)
          go_wp2
          go_region_held3 (fun X => X.cell? ⟨w.heap.size, 0, none⟩ = some (.slice (some ⟨b, off, none⟩) n c)) (first | exact hbox5 | exact r0) (first | (go_at_call 34; (with_reducible refine hk6.out.mono ?_); rintro e6 w6 ⟨rfl, hb6⟩; have r0 := cell_later hb6 hbox5))
          have hz6 : Below w5.heap.size w5 w6 := Below.on (w1 := w5.drew) (Below.refl _ _).drew hb6
          have hB6 := Below.on hB5 hz6
          have harr6 := hide (harr5.out.below hz6)
          have hz36 := Below.on hz5 hz6
          have hbox6 := cell_later hz6 hbox5
          clear hk6 hb6 r0 hB5d hbox5 harr5 hz6 hz5
          have hh6 := (old hB6 _ _ hbh).trans hh0
          rw [Nat.add_zero] at hh6
          go_wp2_with fail
          refine (hReach_at T ii q L 0 a5'.out a6'.out _ _ c _ (hT.out.below hB6)).mono ?_
          rintro e7 w7 ⟨A7, c7, rfl, hI7, hb7⟩
          rw [hlm'.out] at hI7 ⊢
          have hI7' := hide hI7
          have hB7 := Below.on hB6 hb7
          have hbox7 := cell_later hb7 hbox6
          have harr7 := hide (harr6.out.below hb7)
          have hz37 := Below.on hz36 hb7
          have hh7 := cell_later hb7 hh6
          clear hI7 hb7 hbox6 harr6 hz36 hh6
          go_wp2
          go_loopw [18, 19] (fun va s wr => ∃ p : Nat, p ≤ lm ∧ s = .int .i64 p ∧ va = .bool ((L.take p).any (hitB B0)) ∧ Below w7.heap.size w7 wr) (fun _ s _ => lm - (intOf s).toNat)
          case atStart => exact ⟨0, by omega, rfl, by simp, Below.refl _ _⟩
          case round =>
            obtain ⟨p, hp, rfl, rfl, hb⟩ := hrel
            have hBr := Below.on hB7 hb
            have hboxr := cell_later hb hbox7
            have hhr := cell_later hb hh7
            by_cases hlt2 : p < lm
            · obtain ⟨b7, o7, rfl, hb7, hc7⟩ := hI7'.out.2.2 (by omega)
              have gq := (old hb _ _ hb7).trans (hc7 p (by omega))
              obtain ⟨zz, hz1, hz2⟩ := a8.out (ix L p) (ix_mem (by have := hlm'.out; omega))
              rw [hz1] at gq
              have gz := (old hBr _ _ hb0).trans (hc0'.out zz hz2)
              have htk := take_any (l := L) (B := B0) (q := p) (by have := hlm'.out; omega)
              rw [hz1] at htk
              have hhz : hitB B0 (zz : Int) = bx B0 zz := by unfold hitB; rw [Int.toNat_natCast]
              rw [hhz] at htk
              obtain ⟨bz, hbz⟩ : ∃ bz, bx B0 zz = bz := ⟨_, rfl⟩
              rw [hbz] at gz htk
              obtain ⟨vn, hvn⟩ : ∃ vn, (L.take (p + 1)).any (hitB B0) = vn := ⟨_, rfl⟩
              rw [hvn] at htk
              have hvn' := hide hvn
              have z1 : (0 : Int) ≤ (zz : Int) := by omega
              have z2 : (zz : Int) < (n : Int) := by omega
              have z3 : (0 : Int) ≤ (p : Int) := by omega
              have z4 : (p : Int) < (lm : Int) := by omega
              have z5 : (0 : Int) < (K : Int) := by omega
              clear hc7 hz1 hhz hbz hvn
              generalize (L.take p).any (hitB B0) = va at htk ⊢
              go_wp2
              go_region_held3 (fun X => X.cell? ⟨w.heap.size, 0, none⟩ = some (.slice (some ⟨b, off, none⟩) n c) ∧ X.cell? ⟨b7, o7 + p, none⟩ = some (.int .i64 zz)) (first | exact ⟨hboxr, gq⟩) (first | fail)
              have hBd : Below wr.heap.size wr wr.drew := (Below.refl _ _).drew
              have hbox9 := cell_later hBd hboxr
              have hhr9 := cell_later hBd hhr
              have gq9 := cell_later hBd gq
              have gz9 := cell_later hBd gz
              have hb9 := hb.drew
              clear hBd hboxr hhr gq gz
              generalize wr.drew = wd at *
              cases va
              · go_wp2
                go_region_held3 (fun X => X.cell? ⟨bh, oh, none⟩ = some (.slice (some ⟨b0, o0, none⟩) n C0) ∧ X.cell? ⟨b7, o7 + p, none⟩ = some (.int .i64 zz) ∧ X.cell? ⟨b0, o0 + zz, none⟩ = some (.bool bz)) (first | exact ⟨hhr9, gq9, gz9⟩) (first | fail)
                go_wp2
                go_roundw
                case rel => exact ⟨p + 1, by omega, by go_num, by rw [hvn'.out, htk]; simp_all, hb9.drew⟩
                case measure => simp [intOf]; omega
              · go_wp2
                go_quiet (fail)
                go_wp2
                go_roundw
                case rel => exact ⟨p + 1, by omega, by go_num, by rw [hvn'.out, htk]; simp_all, below_drewN hb9 _⟩
                case measure => simp [intOf]; omega
            · obtain rfl : lm = p := by omega
              have e9 : (L.take lm).any (hitB B0) = y := by rw [← hlm'.out, List.take_length]; exact hy'.out
              rw [e9]
              have harr9 := hide (harr7.out.below hb)
              have hz39 := Below.on hz37 hb
              have hsz : w3.heap.size < wr.heap.size := harr9.out.lt
              have hfz := harr9.out.frozen q
              have hcell := harr9.out.cell (j := q) (by omega)
              have u1 : IntKind.u8.wrap ((q : Int) + 1) = ((q + 1 : Nat) : Int) := by
                rcases (by omega : q = 1 ∨ q = 2 ∨ q = 3 ∨ q = 4) with rfl | rfl | rfl | rfl <;> rfl
              have u2 : (0 : Int) ≤ (q : Int) := by omega
              have u3 : (q : Int) < 5 := by omega
              clear hb hlt2 hp e9
              have hend := hide (fun (bv : Bool) (hbv : V q = bv) => ArrB.set (f' := fun j => decide (1 ≤ j) && decide (j < q + 1) && V j) harr9.out q bv (fun j hj => by
                by_cases hjq : j = q
                · subst hjq
                  rw [if_pos rfl, decide_eq_true hq1, decide_eq_true (by omega), ← hbv]; rfl
                · rw [if_neg hjq]
                  congr 2
                  rw [decide_eq_decide]
                  omega))
              cases v
              · cases y
                all_goals
                  go_wp2
                  go_roundw
                  case rel => exact ⟨q + 1, by omega, by omega, by go_num, hz39.setCell (p := ⟨w3.heap.size, q, none⟩) (Nat.le_refl _) _, hend.out false hv'.out⟩
                  case measure => simp [intOf]; omega
              · have : y = true := a7'.out rfl
                subst this
                go_wp2
                go_roundw
                case rel => exact ⟨q + 1, by omega, by omega, by go_num, hz39.setCell (p := ⟨w3.heap.size, q, none⟩) (Nat.le_refl _) _, hend.out true hv'.out⟩
                case measure => simp [intOf]; omega
        · obtain rfl : q = 5 := by omega
          have k1 := harr.cell (j := 1) (by omega)
          have k2 := harr.cell (j := 2) (by omega)
          have k3 := harr.cell (j := 3) (by omega)
          have k4 := harr.cell (j := 4) (by omega)
          have hsz : w3.heap.size < wr.heap.size := harr.lt
          simp only [show (decide (1 ≤ 1) && decide (1 < 5)) = true from rfl, show (decide (1 ≤ 2) && decide (2 < 5)) = true from rfl, show (decide (1 ≤ 3) && decide (3 < 5)) = true from rfl, show (decide (1 ≤ 4) && decide (4 < 5)) = true from rfl, Bool.true_and] at k1 k2 k3 k4
          have f21 := hV21.out
          have f34 := hV34.out
          have fn := hVn.out
          have fp := hVp.out
          have gp := (old hBr _ _ hbl).trans c2'.out
          generalize V 1 = v1 at *
          generalize V 2 = v2 at *
          generalize V 3 = v3 at *
          generalize V 4 = v4 at *
          clear hE hE1 hRr hImp hNr hNl hV21 hV34 hVn hVp harr hc0' c2' hb hlt hq1 hq5
          by_cases hpneg : pz < 0
          · obtain ⟨rfl, rfl⟩ := fn hpneg
            clear fn fp f34
            cases v1 <;> cases v2
            all_goals first
              | exact absurd (f21 rfl) (by decide)
              | (clear f21
                 go_wp2
                 go_ret
                 exact ⟨rfl, hBr⟩)
          · obtain ⟨p, rfl⟩ := Int.eq_ofNat_of_zero_le (by omega : 0 ≤ pz)
            obtain ⟨-, e0, e1, g1, g4⟩ := fp p hpz.out
            obtain ⟨u, hu⟩ : ∃ u, hasF T p 1 cs H = u := ⟨_, rfl⟩
            rw [hu] at e1 g1 g4
            have e0' := hide e0
            have e1' := hide e1
            have hmm := hide (hMatch_at T p 1 cs H u 0 e0 e1 _ _ _ _ c _ d _ e _ (hT.out.below hBr) (hcs'.out.below hBr) (hH'.out.below hBr) he1 he2)
            clear fn fp e0 e1 hu
            cases v1 <;> cases v2 <;> cases v3 <;> cases v4 <;> cases u
            all_goals first
              | exact absurd (f21 rfl) (by decide)
              | exact absurd (f34 rfl) (by decide)
              | exact absurd (g1 rfl) (by decide)
              | exact absurd (g4 rfl) (by decide)
              | (clear f21 f34 g1 g4
                 go_wp2_with fail
                 refine hmm.out.mono ?_
                 rintro e9 w9 ⟨rfl, hb9⟩
                 have j1 := cell_later hb9 k1
                 have j4 := cell_later hb9 k4
                 have hB9 := Below.on hBr hb9
                 have hsz9 : w3.heap.size < w9.heap.size := Nat.lt_of_lt_of_le hsz hb9.size
                 clear hb9 k1 k2 k3 k4 gp
                 go_wp2
                 go_ret
                 exact ⟨rfl, hB9⟩)
    · have hk0' : (cask T i cs H != 0) = true := by simp [hk0]
      clear hk0
      go_enter Try.func11, Try.ntmps11
      go_wp2_with fail
      refine (alive22_ok _).mono ?_
      rintro e w1 ⟨rfl, hb1⟩
      have hbox1 := cell_later hb1 hbox0
      have hB1 := Below.on hB0 hb1
      go_wp2_with fail
      have hx := great21_ok _ _ _ _ c _ d _ e T cs H _ (hT.out.below hB1) (hcs'.out.below hB1) (hH'.out.below hB1)
      rw [hs'.out] at hx
      refine hx.mono ?_
      clear hx
      rintro e1 w2 ⟨rfl, hb2⟩
      have hB2 := Below.on hB1 hb2
      have hbox2 := cell_later hb2 hbox1
      clear hb2 hbox1
      go_wp2_with fail
      refine (rcask_ok _ _ _ _ c _ d _ e T i cs H _ (hT.out.below hB2) (hcs'.out.below hB2) (hH'.out.below hB2)).mono ?_
      rintro e1 w3 ⟨rfl, hb3⟩
      have hB3 := Below.on hB2 hb3
      go_wp2
      go_ret
      exact ⟨rfl, hB3⟩

set_option maxRecDepth 100000 in
theorem lifted (os : Os) (started : os.Started) (H : Type) (enc : TypeId × Value → H) :
    ReturnsInHanded {} Try.checked os 11 .any (Rows.hasMoreSpec.pre6 enc Try.prog Try.f11 Rows.hasMoreRow.domain false) (Rows.hasMoreSpec.post enc Try.prog Try.f11 false true false false) := by
  refine returnsInHanded_of_change (C := Try.checked) own started (by kernel_rfl) Try.func11
    (ChangeSpec.witness6 (enc := enc) (C := Try.checked) false ⟨#[], #[.agg #[.slice none 0 0], .int .i64 0, .slice none 0 0, .slice none 0 0], []⟩ 8 (by kernel_rfl) (by kernel_rfl) (by kernel_rfl) (by kernel_rfl)) ?_
  intro W base args ds gs before hval0 hW hcnd _
  have hval : ∀ (j : Nat) t v, Try.f11.params[j]? = some t → args[j]? = some v → Value.okWide Try.prog W .any base t v := hval0
  have hW' := hW
  obtain ⟨p, q, hA0, hV, rfl, hfz, hnd⟩ := hW
  have hA : DataW.TrodAll enc Try.prog W 0 (fun _ => true) true Try.f11.params.toList args.toList ds p := hA0
  rw [Try.params11] at hA hval
  obtain ⟨v0, vs0, d0, ds0, p0, q0, hargs, rfl, rfl, h0, r0⟩ := trodAll_cons hA
  obtain ⟨v1, vs1, d1, ds1, p1, q1, rfl, rfl, rfl, h1, r1⟩ := trodAll_cons r0
  obtain ⟨v2, vs2, d2, ds2, p2, q2, rfl, rfl, rfl, h2, r2⟩ := trodAll_cons r1
  obtain ⟨v3, vs3, d3, ds3, p3, q3, rfl, rfl, rfl, h3, r3⟩ := trodAll_cons r2
  obtain ⟨rfl, rfl, rfl⟩ := trodAll_nil r3
  obtain rfl : args = #[v0, v1, v2, v3] := by cases args; simp_all
  obtain ⟨rfl, rfl⟩ := trodVars_none hV
  have lt0 : ∀ x ∈ p0, x.block < W.heap.size := by obtain ⟨m, hm⟩ := h0; exact DataW.trod_lt m _ _ _ hm
  have k0 := h0
  have lt1 : ∀ x ∈ p1, x.block < W.heap.size := by obtain ⟨m, hm⟩ := h1; exact DataW.trod_lt m _ _ _ hm
  have k1 := h1
  have lt2 : ∀ x ∈ p2, x.block < W.heap.size := by obtain ⟨m, hm⟩ := h2; exact DataW.trod_lt m _ _ _ hm
  have k2 := h2
  have lt3 : ∀ x ∈ p3, x.block < W.heap.size := by obtain ⟨m, hm⟩ := h3; exact DataW.trod_lt m _ _ _ hm
  have k3 := h3
  obtain ⟨A0, n0, c0, T0, rfl, hT0⟩ := tree_open (hval 0 _ v0 rfl rfl) h0
  obtain ⟨a1, rfl, rfl, rfl, w1⟩ := open_int Try.underlying3 (hval 1 _ v1 rfl rfl) h1
  obtain ⟨A2, n2, c2, xs2, rfl, hU2⟩ := u8s_param (hval 2 _ v2 rfl rfl) h2
  obtain ⟨A3, n3, c3, xs3, rfl, hk3, hM3⟩ := bbs_param2 (hval 3 _ v3 rfl rfl) h3
  clear hA0 hval0
  refine (walk A0 n0 c0 T0 a1 A2 n2 c2 xs2 A3 n3 c3 xs3 W hT0  hU2 hk3 hM3).mono fun e W' ⟨he, bel⟩ => ?_
  subst he
  exact ⟨_, rfl, _, _, _, [], _, [], hW', trodAll_mk1 (shut_bool Try.underlying4 _), (trodAll_cons_mk (Below.trod laidOut (by kernel_rfl) (of_decide_eq_true (by kernel_rfl)) k0 bel lt0) (trodAll_cons_mk (Below.trod laidOut (by kernel_rfl) (of_decide_eq_true (by kernel_rfl)) k1 bel lt1) (trodAll_cons_mk (Below.trod laidOut (by kernel_rfl) (of_decide_eq_true (by kernel_rfl)) k2 bel lt2) (trodAll_cons_mk (Below.trod laidOut (by kernel_rfl) (of_decide_eq_true (by kernel_rfl)) k3 bel lt3) trodAll_mk0)))), rfl, bel.frame _, fun h => by cases h⟩

theorem proved : Rows.HasMoreSaid :=
  OpenClaim.holds_of_wide 11 Try.f11 rfl rfl rfl rfl rfl rfl rfl ⟨rfl, rfl, rfl, rfl, rfl⟩ rfl rfl rfl rfl rfl (by kernel_rfl) Try.func11 (by kernel_rfl)
    (of_decide_eq_true (by kernel_rfl)) (by unfold Func.isWrapper; first | (rw [if_pos (by decide +kernel)]; kernel_rfl) | (rw [if_neg (by decide +kernel)]; exact ⟨rfl, rfl⟩))
    (fun os started H enc _ => lifted os started H enc)
#print axioms proved
end Go.Proofs.Ytaliekkdamghbaa.hasMore
