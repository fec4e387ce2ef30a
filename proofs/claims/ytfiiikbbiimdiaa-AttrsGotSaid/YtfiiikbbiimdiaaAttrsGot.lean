/- For every tree, all numbers and all texts: what was set is got, all other attributes stay as they are, and setting a value that is there changes nothing; for a valid tree. No condition. -/
import Derived.Test.YtfiiikbbiimdiaaOpen
import Derived.Test.YtfiiikbbiimdiaaPla
import Derived.Test.YtfiiikbbiimdiaaFh
import Derived.Test.YtfiiikbbiimdiaaWl
namespace Go.Proofs.Ytfiiikbbiimdiaa.attrsGot
open Go.ChangeShapes Go.WideShapes Go.ChangeAt Go.RowKit

/-- What the law says of the tree with the attribute. -/
structure Got (T X : List ANode) (k : Nat) (m : Int) (s v o : ByteArray) (n : Nat) : Prop where
  set : setE T k s v = 0
  tree : setT T k s v = X
  good : chk X = 0
  len : X.length = n
  gotE : getE X k s = 0
  gotV : getV X k s = v
  otherE : ¬ ((k : Int) = m ∧ s = o) → getE X m o = getE T m o
  otherV : ¬ ((k : Int) = m ∧ s = o) → getV X m o = getV T m o
  againE : setE X k s v = 0
  again : setT X k s v = X
  same : getE T k s = 0 → getV T k s = v → X = T

theorem got_of {T : List ANode} {k n : Nat} {m : Int} {s v o : ByteArray} (hg : goodB T = true) (hk : k < T.length) (hl : T.length = n) (hm : askI T [m] = 0) (hs : namedB s = true) (hv : v.size ≤ 400) (h0 : setE T k s v = 0) : ∃ X, Got T X k m s v o n := by
  have hask : askI T [(k : Int)] = 0 := askI_ok hg (by simp; omega)
  have h16 : hasA (atl T k) s = false → (atl T k).length < 16 := fun hh => by
    unfold setE at h0
    rw [if_pos hask, if_pos hs, if_neg (by omega), Int.toNat_natCast] at h0
    have := (good_attrs hg hk).2
    split at h0
    · cases h0
    · rename_i h; rcases Nat.lt_or_ge (atl T k).length 16 with h1 | h1
      · exact h1
      · exact absurd ⟨hh, by omega⟩ h
  obtain ⟨u1, u2, u3, u4, u5, u6, u7⟩ := put_facts (good_atl hg hk) hs hv h16
  have hX : setT T k s v = setA T k (putL (atl T k) s v) := by unfold setT; rw [if_pos h0, Int.toNat_natCast]
  have hask1 : ∀ x, askI (setA T k (putL (atl T k) s v)) x = askI T x := askI_setA hg hk u1
  have hatl : atl (setA T k (putL (atl T k) s v)) k = putL (atl T k) s v := by rw [atl_setA hk, if_pos rfl]
  have hgE : getE (setA T k (putL (atl T k) s v)) k s = 0 := by unfold getE; rw [hask1, if_pos hask, Int.toNat_natCast, hatl, u2]; rfl
  have hoth : ¬ ((k : Int) = m ∧ s = o) → hasA (atl (setA T k (putL (atl T k) s v)) m.toNat) o = hasA (atl T m.toNat) o ∧ (hasA (atl T m.toNat) o = true → vl (atl (setA T k (putL (atl T k) s v)) m.toNat) (lowA (atl (setA T k (putL (atl T k) s v)) m.toNat) o) = vl (atl T m.toNat) (lowA (atl T m.toNat) o)) := fun hne => by
    rw [atl_setA hk]
    by_cases hkm : m.toNat = k
    · rw [if_pos hkm, hkm]
      have hmm := (askI_zero.1 hm).2 m (by simp)
      exact has_same (good_atl hg hk) u1 o (u5 o (fun e => hne ⟨by omega, e.symm⟩))
    · rw [if_neg hkm]; exact ⟨rfl, fun _ => rfl⟩
  have hoE : ¬ ((k : Int) = m ∧ s = o) → getE (setA T k (putL (atl T k) s v)) m o = getE T m o := fun hne => by
    unfold getE; rw [hask1, (hoth hne).1]
  refine ⟨_, h0, hX, chk_ok (good_setA hg hk u1), by rw [setA_len]; exact hl, hgE, ?_, hoE, fun hne => ?_, ?_, ?_, fun h1 h2 => ?_⟩
  · unfold getV; rw [if_pos hgE, Int.toNat_natCast, hatl, u3]
  · unfold getV
    rw [hoE hne]
    by_cases hz : getE T m o = 0
    · rw [if_pos hz, if_pos hz]; exact (hoth hne).2 (getE_zero.1 hz).2
    · rw [if_neg hz, if_neg hz]
  · unfold setE; rw [hask1, if_pos hask, if_pos hs, if_neg (by omega), if_neg]
    rw [Int.toNat_natCast, hatl, u2]; simp
  · have hz : setE (setA T k (putL (atl T k) s v)) k s v = 0 := by
      unfold setE; rw [hask1, if_pos hask, if_pos hs, if_neg (by omega), if_neg]
      rw [Int.toNat_natCast, hatl, u2]; simp
    unfold setT
    rw [if_pos hz, Int.toNat_natCast, setA_setA hk, hatl, u4]
  · obtain ⟨-, h4⟩ := getE_zero.1 h1
    rw [Int.toNat_natCast] at h4
    unfold getV at h2
    rw [if_pos h1, Int.toNat_natCast] at h2
    rw [u6 h4 h2, setA_self hk]

set_option maxRecDepth 100000 in
set_option maxHeartbeats 4000000 in
theorem walk (A : Option Addr) (n c : Nat) (T : List ANode) (i : Int) (s v : ByteArray) (m : Int) (o : ByteArray) (w : World) (h : IsTree w A n T) (hs : s.size ≤ 9223372036854775807) (hv : v.size ≤ 9223372036854775807) (_ : o.size ≤ 9223372036854775807) :
    Calls Try.prog 11 #[.agg #[.slice A n c], .int .i64 i, .string s, .string v, .int .i64 m, .string o] w fun e w' => e = .returned (.bool true) ∧ Below w.heap.size w w' := by
  have hT := hide h
  have hl := h.1
  clear h
  have hB0 := below_alloc (Below.refl w.heap.size w) (.cells #[.slice A n c] 24)
  have hbox0 : (w.alloc (.cells #[.slice A n c] 24)).cell? ⟨w.heap.size, 0, none⟩ = some (.slice A n c) := by go_simp
  by_cases h0 : askI T [i] = 0
  · have hq0 : (askI T [i] != 0) = false := by simp [h0]
    by_cases h1 : askI T [m] = 0
    · have hq1 : (askI T [m] != 0) = false := by simp [h1]
      obtain ⟨hg, hir⟩ := askI_zero.1 h0
      have hir := hir i (by simp)
      obtain ⟨k, rfl⟩ := Int.eq_ofNat_of_zero_le hir.1
      have hkT : k < T.length := by omega
      cases hnm : namedB s
      · clear h0 h1 hg hir
        go_enter Try.func11, Try.ntmps11
        go_wp2_with fail
        refine (alive14_ok _).mono ?_
        rintro e w1 ⟨rfl, hb1⟩
        have hbox1 := cell_later hb1 hbox0
        have hB1 := Below.on hB0 hb1
        go_wp2_with fail
        refine (rasked_ok _ _ _ T _ _ (hT.out.below hB1)).mono ?_
        rintro e w2 ⟨rfl, hb2⟩
        have hbox2 := cell_later hb2 hbox1
        have hB2 := Below.on hB1 hb2
        go_wp2_with fail
        refine (rasked_ok _ _ _ T _ _ (hT.out.below hB2)).mono ?_
        rintro e w3 ⟨rfl, hb3⟩
        have hbox3 := cell_later hb3 hbox2
        have hB3 := Below.on hB2 hb3
        go_wp2_with (go_at_call 49; refine (rnamed_ok _ _ hs).mono ?_; rintro e w4 ⟨rfl, rfl⟩)
        go_wp2
        go_ret
        exact ⟨rfl, hB3⟩
      · by_cases h4 : 400 < v.size
        · clear h0 h1 hg hir
          go_enter Try.func11, Try.ntmps11
          go_wp2_with fail
          refine (alive14_ok _).mono ?_
          rintro e w1 ⟨rfl, hb1⟩
          have hbox1 := cell_later hb1 hbox0
          have hB1 := Below.on hB0 hb1
          go_wp2_with fail
          refine (rasked_ok _ _ _ T _ _ (hT.out.below hB1)).mono ?_
          rintro e w2 ⟨rfl, hb2⟩
          have hbox2 := cell_later hb2 hbox1
          have hB2 := Below.on hB1 hb2
          go_wp2_with fail
          refine (rasked_ok _ _ _ T _ _ (hT.out.below hB2)).mono ?_
          rintro e w3 ⟨rfl, hb3⟩
          have hbox3 := cell_later hb3 hbox2
          have hB3 := Below.on hB2 hb3
          go_wp2_with (go_at_call 49; refine (rnamed_ok _ _ hs).mono ?_; rintro e w4 ⟨rfl, rfl⟩)
          go_wp2
          go_ret
          exact ⟨rfl, hB3⟩
        · by_cases hz : setE T k s v = 0
          · obtain ⟨X, G⟩ := got_of (o := o) hg hkT hl.symm.symm h1 hnm (by omega) hz
            have hsm : Hid (setE T k s v = 0) := G.set
            have htr : Hid (setT T k s v = X) := G.tree
            have hgd : Hid (chk X = 0) := G.good
            have hln : Hid (X.length = n) := G.len
            have hgE : Hid (getE X k s = 0) := G.gotE
            have hgV : Hid (getV X k s = v) := G.gotV
            have haE : Hid (setE X k s v = 0) := G.againE
            have haT : Hid (setT X k s v = X) := G.again
            obtain ⟨e1, he1⟩ : ∃ r, getE T (k : Int) s = r := ⟨_, rfl⟩
            obtain ⟨v1, hv1⟩ : ∃ r, getV T (k : Int) s = r := ⟨_, rfl⟩
            obtain ⟨e2, he2⟩ : ∃ r, getE T m o = r := ⟨_, rfl⟩
            obtain ⟨v2, hv2⟩ : ∃ r, getV T m o = r := ⟨_, rfl⟩
            obtain ⟨e3, he3⟩ : ∃ r, getE X m o = r := ⟨_, rfl⟩
            obtain ⟨v3, hv3⟩ : ∃ r, getV X m o = r := ⟨_, rfl⟩
            have hsame := G.same
            have hoE := G.otherE
            have hoV := G.otherV
            rw [he1, hv1] at hsame
            rw [he2, he3] at hoE
            rw [hv2, hv3] at hoV
            have he1' := hide he1
            have hv1' := hide hv1
            have he2' := hide he2
            have hv2' := hide hv2
            have he3' := hide he3
            have hv3' := hide hv3
            have hsame' := hide hsame
            have hoE' := hide hoE
            have hoV' := hide hoV
            clear he1 hv1 he2 hv2 he3 hv3 hsame hoE hoV G h0 h1 hg hir hz hkT
            go_enter Try.func11, Try.ntmps11
            go_wp2_with fail
            refine (alive14_ok _).mono ?_
            rintro e w1 ⟨rfl, hb1⟩
            have hbox1 := cell_later hb1 hbox0
            have hB1 := Below.on hB0 hb1
            go_wp2_with fail
            refine (rasked_ok _ _ _ T _ _ (hT.out.below hB1)).mono ?_
            rintro e w2 ⟨rfl, hb2⟩
            have hbox2 := cell_later hb2 hbox1
            have hB2 := Below.on hB1 hb2
            go_wp2_with fail
            refine (rasked_ok _ _ _ T _ _ (hT.out.below hB2)).mono ?_
            rintro e w3 ⟨rfl, hb3⟩
            have hbox3 := cell_later hb3 hbox2
            have hB3 := Below.on hB2 hb3
            go_wp2_with (go_at_call 49; refine (rnamed_ok _ _ hs).mono ?_; rintro e w4 ⟨rfl, rfl⟩)
            go_wp2_with fail
            have hx := get_ok _ _ c T k s _ (hT.out.below hB3)
            rw [he1'.out, hv1'.out] at hx
            refine hx.mono ?_
            clear hx
            rintro e w5 ⟨rfl, hb5⟩
            have hbox5 := cell_later hb5 hbox3
            have hB5 := Below.on hB3 hb5
            go_wp2_with fail
            have hx := aset_ok _ _ c T k s v _ (hT.out.below hB5) hs hv
            rw [hsm.out, htr.out] at hx
            refine hx.mono ?_
            clear hx
            rintro e w6 ⟨A6, c6, rfl, -, hX, hb6⟩
            rw [hln.out] at hX ⊢
            have hbox6 := cell_later (below_alloc hb6 (.cells #[.slice A6 n c6] 24)) hbox5
            have hB6 := below_alloc (Below.on hB5 hb6) (.cells #[.slice A6 n c6] 24)
            have hX' := hide (hX.below (below_alloc (Below.refl _ _) (.cells #[.slice A6 n c6] 24)))
            have hy6 : (w6.alloc (.cells #[.slice A6 n c6] 24)).cell? ⟨w6.heap.size, 0, none⟩ = some (.slice A6 n c6) := by clear hbox6; go_simp
            clear hX
            go_wp2_with fail
            have hx := rcheck_ok _ _ c6 X _ hX'.out
            rw [hgd.out] at hx
            refine hx.mono ?_
            clear hx
            rintro e w7 ⟨rfl, hb7⟩
            have hbox7 := cell_later hb7 hbox6
            have hy7 := cell_later hb7 hy6
            have hB7 := Below.on hB6 hb7
            have hX7 := hide (hX'.out.below hb7)
            go_wp2_with fail
            have hx := get_ok _ _ c6 X k s _ hX7.out
            rw [hgE.out, hgV.out] at hx
            refine hx.mono ?_
            clear hx
            rintro e w8 ⟨rfl, hb8⟩
            have hbox8 := cell_later hb8 hbox7
            have hy8 := cell_later hb8 hy7
            have hB8 := Below.on hB7 hb8
            have hX8 := hide (hX7.out.below hb8)
            go_wp2_with fail
            have hx := get_ok _ _ c T m o _ (hT.out.below hB8)
            rw [he2'.out, hv2'.out] at hx
            refine hx.mono ?_
            clear hx
            rintro e w9 ⟨rfl, hb9⟩
            have hbox9 := cell_later hb9 hbox8
            have hy9 := cell_later hb9 hy8
            have hB9 := Below.on hB8 hb9
            have hX9 := hide (hX8.out.below hb9)
            go_wp2_with fail
            have hx := get_ok _ _ c6 X m o _ hX9.out
            rw [he3'.out, hv3'.out] at hx
            refine hx.mono ?_
            clear hx
            rintro e w10 ⟨rfl, hb10⟩
            have hbox10 := cell_later hb10 hbox9
            have hy10 := cell_later hb10 hy9
            have hB10 := Below.on hB9 hb10
            have hX10 := hide (hX9.out.below hb10)
            clear hbox0 hB0 hb1 hbox1 hB1 hb2 hbox2 hB2 hb3 hbox3 hB3 hb5 hbox5 hB5 hb6 hbox6 hB6 hy6 hX' hb7 hbox7 hy7 hB7 hX7 hb8 hbox8 hy8 hB8 hX8 hb9 hbox9 hy9 hB9 hX9 hb10
            have hvv := str_eq (a := v) rfl
            by_cases hkm : (k : Int) = m
            · have j1 : ((k : Int) == m) = true := by simp [hkm]
              by_cases hso : s = o
              · have j2 := str_eq hso
                clear hkm hso hoE' hoV'
                go_wp2_with fail
                have hx := aset_ok _ _ c6 X k s v _ hX10.out hs hv
                rw [haE.out, haT.out] at hx
                refine hx.mono ?_
                clear hx
                rintro e w11 ⟨A11, c11, rfl, -, hY, hb11⟩
                rw [hln.out] at hY ⊢
                have hbox11 := cell_later (below_alloc hb11 (.cells #[.slice A11 n c11] 24)) hbox10
                have hy11 := cell_later (below_alloc hb11 (.cells #[.slice A11 n c11] 24)) hy10
                have hB11 := below_alloc (Below.on hB10 hb11) (.cells #[.slice A11 n c11] 24)
                have hX11 := hide (hX10.out.below (below_alloc hb11 (.cells #[.slice A11 n c11] 24)))
                have hY' := hide (hY.below (below_alloc (Below.refl _ _) (.cells #[.slice A11 n c11] 24)))
                have hz11 : (w11.alloc (.cells #[.slice A11 n c11] 24)).cell? ⟨w11.heap.size, 0, none⟩ = some (.slice A11 n c11) := by clear hbox11 hy11; go_simp
                clear hY hb11
                go_wp2_with fail
                refine (same_ok _ _ _ _ _ X _ hY'.out hX11.out).mono ?_
                rintro e w12 ⟨rfl, hb12⟩
                have hbox12 := cell_later hb12 hbox11
                have hy12 := cell_later hb12 hy11
                have hB12 := Below.on hB11 hb12
                by_cases he0 : e1 = 0
                · have j5 : (e1 != 0) = false := by simp [he0]
                  by_cases hw : v1 = v
                  · have j6 := str_eq hw
                    obtain rfl := hsame'.out he0 hw
                    clear he0 hw hsame'
                    go_wp2_with fail
                    refine (same_ok _ _ _ _ _ X _ (hX11.out.below hb12) (hT.out.below hB12)).mono ?_
                    rintro e w13 ⟨rfl, hb13⟩
                    go_wp2
                    go_ret
                    exact ⟨rfl, Below.on hB12 hb13⟩
                  · have j6 := str_ne hw
                    clear he0 hw hsame'
                    go_wp2
                    go_ret
                    exact ⟨rfl, hB12⟩
                · have j5 : (e1 != 0) = true := by simp [he0]
                  clear he0 hsame'
                  go_wp2
                  go_ret
                  exact ⟨rfl, hB12⟩
              · have j2 := str_ne hso
                obtain rfl : e3 = e2 := hoE'.out (fun h => hso h.2)
                obtain rfl : v3 = v2 := hoV'.out (fun h => hso h.2)
                have j3 := str_eq (a := v3) rfl
                clear hkm hso hoE' hoV'
                go_wp2_with fail
                have hx := aset_ok _ _ c6 X k s v _ hX10.out hs hv
                rw [haE.out, haT.out] at hx
                refine hx.mono ?_
                clear hx
                rintro e w11 ⟨A11, c11, rfl, -, hY, hb11⟩
                rw [hln.out] at hY ⊢
                have hbox11 := cell_later (below_alloc hb11 (.cells #[.slice A11 n c11] 24)) hbox10
                have hy11 := cell_later (below_alloc hb11 (.cells #[.slice A11 n c11] 24)) hy10
                have hB11 := below_alloc (Below.on hB10 hb11) (.cells #[.slice A11 n c11] 24)
                have hX11 := hide (hX10.out.below (below_alloc hb11 (.cells #[.slice A11 n c11] 24)))
                have hY' := hide (hY.below (below_alloc (Below.refl _ _) (.cells #[.slice A11 n c11] 24)))
                have hz11 : (w11.alloc (.cells #[.slice A11 n c11] 24)).cell? ⟨w11.heap.size, 0, none⟩ = some (.slice A11 n c11) := by clear hbox11 hy11; go_simp
                clear hY hb11
                go_wp2_with fail
                refine (same_ok _ _ _ _ _ X _ hY'.out hX11.out).mono ?_
                rintro e w12 ⟨rfl, hb12⟩
                have hbox12 := cell_later hb12 hbox11
                have hy12 := cell_later hb12 hy11
                have hB12 := Below.on hB11 hb12
                by_cases he0 : e1 = 0
                · have j5 : (e1 != 0) = false := by simp [he0]
                  by_cases hw : v1 = v
                  · have j6 := str_eq hw
                    obtain rfl := hsame'.out he0 hw
                    clear he0 hw hsame'
                    go_wp2_with fail
                    refine (same_ok _ _ _ _ _ X _ (hX11.out.below hb12) (hT.out.below hB12)).mono ?_
                    rintro e w13 ⟨rfl, hb13⟩
                    go_wp2
                    go_ret
                    exact ⟨rfl, Below.on hB12 hb13⟩
                  · have j6 := str_ne hw
                    clear he0 hw hsame'
                    go_wp2
                    go_ret
                    exact ⟨rfl, hB12⟩
                · have j5 : (e1 != 0) = true := by simp [he0]
                  clear he0 hsame'
                  go_wp2
                  go_ret
                  exact ⟨rfl, hB12⟩
            · have j1 : ((k : Int) == m) = false := by simp [hkm]
              obtain rfl : e3 = e2 := hoE'.out (fun h => hkm h.1)
              obtain rfl : v3 = v2 := hoV'.out (fun h => hkm h.1)
              have j3 := str_eq (a := v3) rfl
              clear hkm hoE' hoV'
              go_wp2_with fail
              have hx := aset_ok _ _ c6 X k s v _ hX10.out hs hv
              rw [haE.out, haT.out] at hx
              refine hx.mono ?_
              clear hx
              rintro e w11 ⟨A11, c11, rfl, -, hY, hb11⟩
              rw [hln.out] at hY ⊢
              have hbox11 := cell_later (below_alloc hb11 (.cells #[.slice A11 n c11] 24)) hbox10
              have hy11 := cell_later (below_alloc hb11 (.cells #[.slice A11 n c11] 24)) hy10
              have hB11 := below_alloc (Below.on hB10 hb11) (.cells #[.slice A11 n c11] 24)
              have hX11 := hide (hX10.out.below (below_alloc hb11 (.cells #[.slice A11 n c11] 24)))
              have hY' := hide (hY.below (below_alloc (Below.refl _ _) (.cells #[.slice A11 n c11] 24)))
              have hz11 : (w11.alloc (.cells #[.slice A11 n c11] 24)).cell? ⟨w11.heap.size, 0, none⟩ = some (.slice A11 n c11) := by clear hbox11 hy11; go_simp
              clear hY hb11
              go_wp2_with fail
              refine (same_ok _ _ _ _ _ X _ hY'.out hX11.out).mono ?_
              rintro e w12 ⟨rfl, hb12⟩
              have hbox12 := cell_later hb12 hbox11
              have hy12 := cell_later hb12 hy11
              have hB12 := Below.on hB11 hb12
              by_cases he0 : e1 = 0
              · have j5 : (e1 != 0) = false := by simp [he0]
                by_cases hw : v1 = v
                · have j6 := str_eq hw
                  obtain rfl := hsame'.out he0 hw
                  clear he0 hw hsame'
                  go_wp2_with fail
                  refine (same_ok _ _ _ _ _ X _ (hX11.out.below hb12) (hT.out.below hB12)).mono ?_
                  rintro e w13 ⟨rfl, hb13⟩
                  go_wp2
                  go_ret
                  exact ⟨rfl, Below.on hB12 hb13⟩
                · have j6 := str_ne hw
                  clear he0 hw hsame'
                  go_wp2
                  go_ret
                  exact ⟨rfl, hB12⟩
              · have j5 : (e1 != 0) = true := by simp [he0]
                clear he0 hsame'
                go_wp2
                go_ret
                exact ⟨rfl, hB12⟩
          · have hset : setE T k s v = 18 ∧ hasA (atl T k) s = false ∧ (atl T k).length = 16 := by
              have hq := hz
              unfold setE at hz ⊢
              rw [if_pos h0, if_pos hnm, if_neg h4, Int.toNat_natCast] at hz ⊢
              by_cases hc : hasA (atl T k) s = false ∧ (atl T k).length = 16
              · exact ⟨if_pos hc, hc⟩
              · rw [if_neg hc] at hz; exact absurd rfl hz
            obtain ⟨hs18, hh, hf⟩ := hset
            have hE : getE T k s = 6 := by unfold getE; rw [if_pos h0, Int.toNat_natCast, hh]; rfl
            have hST : setT T k s v = [] := by unfold setT; rw [if_neg hz]
            obtain ⟨b, off, aA, cA, aC, cC, rfl, hbl, -, c1, -, -, -, -⟩ := hT.out.2.2.2 (by omega)
            have c1' := hide (c1 k (by omega))
            change Hid (w.cell? ⟨b, off + k * 4 + 1, none⟩ = some (Value.slice (aA k) (atl T k).length (aC k))) at c1'
            rw [hf] at c1'
            generalize aA k = AA at c1'
            generalize aC k = ac at c1'
            have hkn : k < n := by omega
            have hE' := hide hE
            have hs18' := hide hs18
            have hST' := hide hST
            clear hE hs18 hST hh hf c1 h0 h1 hg hir hz
            go_enter Try.func11, Try.ntmps11
            go_wp2_with fail
            refine (alive14_ok _).mono ?_
            rintro e w1 ⟨rfl, hb1⟩
            have hbox1 := cell_later hb1 hbox0
            have hB1 := Below.on hB0 hb1
            go_wp2_with fail
            refine (rasked_ok _ _ _ T _ _ (hT.out.below hB1)).mono ?_
            rintro e w2 ⟨rfl, hb2⟩
            have hbox2 := cell_later hb2 hbox1
            have hB2 := Below.on hB1 hb2
            go_wp2_with fail
            refine (rasked_ok _ _ _ T _ _ (hT.out.below hB2)).mono ?_
            rintro e w3 ⟨rfl, hb3⟩
            have hbox3 := cell_later hb3 hbox2
            have hB3 := Below.on hB2 hb3
            go_wp2_with (go_at_call 49; refine (rnamed_ok _ _ hs).mono ?_; rintro e w4 ⟨rfl, rfl⟩)
            go_wp2_with fail
            have hx := get_ok _ _ c T k s _ (hT.out.below hB3)
            rw [hE'.out] at hx
            refine hx.mono ?_
            clear hx
            rintro e w5 ⟨rfl, hb5⟩
            have hbox5 := cell_later hb5 hbox3
            have hB5 := Below.on hB3 hb5
            go_wp2_with fail
            have hx := aset_ok _ _ c T k s v _ (hT.out.below hB5) hs hv
            rw [hs18'.out, hST'.out] at hx
            refine hx.mono ?_
            clear hx
            rintro e w6 ⟨A6, c6, rfl, -, -, hb6⟩
            have hbox6 := cell_later (below_alloc hb6 (.cells #[.slice A6 0 c6] 24)) hbox5
            have hB6 := below_alloc (Below.on hB5 hb6) (.cells #[.slice A6 0 c6] 24)
            have g1 := (old hB6 _ _ hbl).trans c1'.out
            go_wp2
            go_ret
            exact ⟨rfl, hB6⟩
    · have hq1 : (askI T [m] != 0) = true := by simp [h1]
      clear h0 h1
      go_enter Try.func11, Try.ntmps11
      go_wp2_with fail
      refine (alive14_ok _).mono ?_
      rintro e w1 ⟨rfl, hb1⟩
      have hbox1 := cell_later hb1 hbox0
      have hB1 := Below.on hB0 hb1
      go_wp2_with fail
      refine (rasked_ok _ _ _ T _ _ (hT.out.below hB1)).mono ?_
      rintro e w2 ⟨rfl, hb2⟩
      have hbox2 := cell_later hb2 hbox1
      have hB2 := Below.on hB1 hb2
      go_wp2_with fail
      refine (rasked_ok _ _ _ T _ _ (hT.out.below hB2)).mono ?_
      rintro e w3 ⟨rfl, hb3⟩
      have hbox3 := cell_later hb3 hbox2
      have hB3 := Below.on hB2 hb3
      go_wp2
      go_ret
      exact ⟨rfl, hB3⟩
  · have hq0 : (askI T [i] != 0) = true := by simp [h0]
    clear h0
    go_enter Try.func11, Try.ntmps11
    go_wp2_with fail
    refine (alive14_ok _).mono ?_
    rintro e w1 ⟨rfl, hb1⟩
    have hbox1 := cell_later hb1 hbox0
    have hB1 := Below.on hB0 hb1
    go_wp2_with fail
    refine (rasked_ok _ _ _ T _ _ (hT.out.below hB1)).mono ?_
    rintro e w2 ⟨rfl, hb2⟩
    have hbox2 := cell_later hb2 hbox1
    have hB2 := Below.on hB1 hb2
    go_wp2
    go_ret
    exact ⟨rfl, hB2⟩

set_option maxRecDepth 100000 in
theorem lifted (os : Os) (started : os.Started) (H : Type) (enc : TypeId × Value → H) :
    ReturnsInHanded {} Try.checked os 11 .any (Rows.attrsGotSpec.pre6 enc Try.prog Try.f11 Rows.attrsGotRow.domain false) (Rows.attrsGotSpec.post enc Try.prog Try.f11 false true false false) := by
  refine returnsInHanded_of_change (C := Try.checked) own started (by kernel_rfl) Try.func11
    (ChangeSpec.witness6 (enc := enc) (C := Try.checked) false ⟨#[], #[.agg #[.slice none 0 0], .int .i64 0, .string .empty, .string .empty, .int .i64 0, .string .empty], []⟩ 8 (by kernel_rfl) (by kernel_rfl) (by kernel_rfl) (by kernel_rfl)) ?_
  intro W base args ds gs before hval0 hW hcnd _
  have hval : ∀ (j : Nat) t v, Try.f11.params[j]? = some t → args[j]? = some v → Value.okWide Try.prog W .any base t v := hval0
  have hW' := hW
  obtain ⟨p, q, hA0, hV, rfl, hfz, hnd⟩ := hW
  have hA : DataW.TrodAll enc Try.prog W 0 (fun _ => true) true Try.f11.params.toList args.toList ds p := hA0
  rw [Try.params11] at hA hval
  obtain ⟨v0, vs0, d0, ds0, p0, q0, hargs, rfl, rfl, h0, r0⟩ := trodAll_cons hA
  obtain ⟨v1, vs1, d1, ds1, p1, q1, rfl, rfl, rfl, h1, r1⟩ := trodAll_cons r0
  obtain ⟨v2, vs2, d2, ds2, p2, q2, rfl, rfl, rfl, h2, r2⟩ := trodAll_cons r1
  obtain ⟨v3, vs3, d3, ds3, p3, q3, rfl, rfl, rfl, h3, r3⟩ := trodAll_cons r2
  obtain ⟨v4, vs4, d4, ds4, p4, q4, rfl, rfl, rfl, h4, r4⟩ := trodAll_cons r3
  obtain ⟨v5, vs5, d5, ds5, p5, q5, rfl, rfl, rfl, h5, r5⟩ := trodAll_cons r4
  obtain ⟨rfl, rfl, rfl⟩ := trodAll_nil r5
  obtain rfl : args = #[v0, v1, v2, v3, v4, v5] := by cases args; simp_all
  obtain ⟨rfl, rfl⟩ := trodVars_none hV
  have lt0 : ∀ x ∈ p0, x.block < W.heap.size := by obtain ⟨m, hm⟩ := h0; exact DataW.trod_lt m _ _ _ hm
  have k0 := h0
  have lt1 : ∀ x ∈ p1, x.block < W.heap.size := by obtain ⟨m, hm⟩ := h1; exact DataW.trod_lt m _ _ _ hm
  have k1 := h1
  have lt2 : ∀ x ∈ p2, x.block < W.heap.size := by obtain ⟨m, hm⟩ := h2; exact DataW.trod_lt m _ _ _ hm
  have k2 := h2
  have lt3 : ∀ x ∈ p3, x.block < W.heap.size := by obtain ⟨m, hm⟩ := h3; exact DataW.trod_lt m _ _ _ hm
  have k3 := h3
  have lt4 : ∀ x ∈ p4, x.block < W.heap.size := by obtain ⟨m, hm⟩ := h4; exact DataW.trod_lt m _ _ _ hm
  have k4 := h4
  have lt5 : ∀ x ∈ p5, x.block < W.heap.size := by obtain ⟨m, hm⟩ := h5; exact DataW.trod_lt m _ _ _ hm
  have k5 := h5
  obtain ⟨A0, n0, c0, T0, rfl, hT0⟩ := tree_open (hval 0 _ v0 rfl rfl) h0
  obtain ⟨a1, rfl, rfl, rfl, w1⟩ := open_int Try.underlying3 (hval 1 _ v1 rfl rfl) h1
  obtain ⟨a2, rfl, rfl, rfl, w2⟩ := Go.ChangeMaps.open_string Try.underlying9 (hval 2 _ v2 rfl rfl) h2
  have w2' : a2.size ≤ 9223372036854775807 := by unfold maxLen at w2; omega
  obtain ⟨a3, rfl, rfl, rfl, w3⟩ := Go.ChangeMaps.open_string Try.underlying9 (hval 3 _ v3 rfl rfl) h3
  have w3' : a3.size ≤ 9223372036854775807 := by unfold maxLen at w3; omega
  obtain ⟨a4, rfl, rfl, rfl, w4⟩ := open_int Try.underlying3 (hval 4 _ v4 rfl rfl) h4
  obtain ⟨a5, rfl, rfl, rfl, w5⟩ := Go.ChangeMaps.open_string Try.underlying9 (hval 5 _ v5 rfl rfl) h5
  have w5' : a5.size ≤ 9223372036854775807 := by unfold maxLen at w5; omega
  clear hA0 hval0
  refine (walk A0 n0 c0 T0 a1 a2 a3 a4 a5 W hT0  w2' w3'  w5').mono fun e W' ⟨he, bel⟩ => ?_
  subst he
  exact ⟨_, rfl, _, _, _, [], _, [], hW', trodAll_mk1 (shut_bool Try.underlying4 _), (trodAll_cons_mk (Below.trod laidOut (by kernel_rfl) (of_decide_eq_true (by kernel_rfl)) k0 bel lt0) (trodAll_cons_mk (Below.trod laidOut (by kernel_rfl) (of_decide_eq_true (by kernel_rfl)) k1 bel lt1) (trodAll_cons_mk (Below.trod laidOut (by kernel_rfl) (of_decide_eq_true (by kernel_rfl)) k2 bel lt2) (trodAll_cons_mk (Below.trod laidOut (by kernel_rfl) (of_decide_eq_true (by kernel_rfl)) k3 bel lt3) (trodAll_cons_mk (Below.trod laidOut (by kernel_rfl) (of_decide_eq_true (by kernel_rfl)) k4 bel lt4) (trodAll_cons_mk (Below.trod laidOut (by kernel_rfl) (of_decide_eq_true (by kernel_rfl)) k5 bel lt5) trodAll_mk0)))))), rfl, bel.frame _, fun h => by cases h⟩

theorem proved : Rows.AttrsGotSaid :=
  OpenClaim.holds_of_wide 11 Try.f11 rfl rfl rfl rfl rfl rfl rfl ⟨rfl, rfl, rfl, rfl, rfl⟩ rfl rfl rfl rfl rfl (by kernel_rfl) Try.func11 (by kernel_rfl)
    (of_decide_eq_true (by kernel_rfl)) (by unfold Func.isWrapper; first | (rw [if_pos (by decide +kernel)]; kernel_rfl) | (rw [if_neg (by decide +kernel)]; exact ⟨rfl, rfl⟩))
    (fun os started H enc _ => lifted os started H enc)
#print axioms proved
end Go.Proofs.Ytfiiikbbiimdiaa.attrsGot
