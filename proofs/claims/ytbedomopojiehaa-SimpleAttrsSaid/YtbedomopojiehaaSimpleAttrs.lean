/- An element that gets an attribute matches what the value suits, and one without it matches nothing about it; for every valid tree, number, small name, value of at most 400 bytes, operator and text. No condition. -/
import Derived.Test.YtbedomopojiehaaSt
import Derived.Test.YtbedomopojiehaaSal
import Derived.Test.YtbedomopojiehaaVa
import Derived.Test.YtbedomopojiehaaPla
import Derived.Deep.RegionHeld3
namespace Go.Proofs.Ytbedomopojiehaa.simpleAttrs
open Go.ChangeShapes Go.WideShapes Go.ChangeAt Go.RowKit

def sA (s : ByteArray) (op : Int) (q : ByteArray) : Sim := ⟨3, s, op, q, false, 0, 0, false, none, 0, 0⟩
/-- What the law says of the tree with the attribute. -/
structure Said (T X : List ANode) (k n : Nat) (s v : ByteArray) (op : Int) (q : ByteArray) : Prop where
  tree : setT T k s v = X
  len : X.length = n
  good : goodB X = true
  err : smatE X k (sA s op q) (-1) = 0
  val : smatV X k (sA s op q) (-1) = valV (sA s op q) v
  link : s = href → lkB X k = ((nd T k).tag.toList == ([97] : List UInt8))

theorem said_of {T : List ANode} {k n : Nat} {s v : ByteArray} {op : Int} {q : ByteArray} (hg : goodB T = true) (hk : k < T.length) (hl : T.length = n) (hck : chkS (sA s op q) = 0) (h0 : setE T k s v = 0) : ∃ X, Said T X k n s v op q := by
  have hask : askI T [(k : Int)] = 0 := askI_ok hg (by simp; omega)
  have hE := h0
  unfold setE at h0
  rw [if_pos hask, Int.toNat_natCast] at h0
  have hs : namedB s = true := by
    cases h : namedB s
    · rw [h] at h0; cases h0
    · rfl
  rw [if_pos hs] at h0
  have hv : v.size ≤ 400 := by
    rcases Nat.lt_or_ge 400 v.size with h | h
    · rw [if_pos h] at h0; cases h0
    · exact h
  rw [if_neg (by omega)] at h0
  have h16 : hasA (atl T k) s = false → (atl T k).length < 16 := fun hh => by
    have := (good_attrs hg hk).2
    rcases Nat.lt_or_ge (atl T k).length 16 with h1 | h1
    · exact h1
    · rw [if_pos ⟨hh, by omega⟩] at h0; cases h0
  obtain ⟨u1, u2, u3, u4, u5, u6, u7⟩ := put_facts (good_atl hg hk) hs hv h16
  have hX : setT T k s v = setA T k (putL (atl T k) s v) := by unfold setT; rw [if_pos hE, Int.toNat_natCast]
  have hatl : atl (setA T k (putL (atl T k) s v)) k = putL (atl T k) s v := by rw [atl_setA hk, if_pos rfl]
  have hgX := good_setA (k := k) (l := putL (atl T k) s v) hg hk u1
  have haX : askI (setA T k (putL (atl T k) s v)) [(k : Int)] = 0 := by rw [askI_setA hg hk u1]; exact hask
  have hgE : getE (setA T k (putL (atl T k) s v)) k s = 0 := by unfold getE; rw [if_pos haX, Int.toNat_natCast, hatl, if_pos u2]
  have hgV : getV (setA T k (putL (atl T k) s v)) k s = v := by unfold getV; rw [if_pos hgE, Int.toNat_natCast, hatl, u3]
  have hmE : smatE (setA T k (putL (atl T k) s v)) k (sA s op q) (-1) = 0 := by unfold smatE; rw [if_pos haX]; exact smE_zero.2 ⟨hgX, rfl, hck⟩
  have hvE : valE (sA s op q) v = 0 := by unfold valE; rw [if_pos hck, if_pos (show (sA s op q).kind = 3 from rfl), if_pos hv]
  refine ⟨_, hX, by rw [setA_len]; exact hl, hgX, hmE, ?_, fun hsh => ?_⟩
  · unfold smatV valV
    rw [if_pos hmE, if_pos hvE, Int.toNat_natCast]
    unfold matS
    rw [if_neg (show ¬ (sA s op q).kind = 1 by show ¬ (3 : Int) = 1; omega), if_neg (show ¬ (sA s op q).kind = 2 by show ¬ (3 : Int) = 2; omega), if_pos (show (sA s op q).kind = 3 from rfl), show (sA s op q).name = s from rfl, hgE, hgV]
    rfl
  · unfold lkB
    rw [hatl, tag_setA hk, ← hsh, u2]; rfl
/-- Without the attribute nothing about it matches. -/
theorem none_of {T : List ANode} {k : Nat} {s : ByteArray} {op : Int} {q : ByteArray} (h : ¬ getE T k s = 0) : smatV T k (sA s op q) (-1) = false := by
  unfold smatV
  split
  · rw [Int.toNat_natCast]
    unfold matS
    rw [if_neg (show ¬ (sA s op q).kind = 1 by show ¬ (3 : Int) = 1; omega), if_neg (show ¬ (sA s op q).kind = 2 by show ¬ (3 : Int) = 2; omega), if_pos (show (sA s op q).kind = 3 from rfl), show (sA s op q).name = s from rfl, decide_eq_false h]
    rfl
  · rfl
theorem href_list : href.toList = [104, 114, 101, 102] := by kernel_rfl
set_option maxRecDepth 100000 in
set_option maxHeartbeats 8000000 in
theorem walk (A : Option Addr) (n c : Nat) (T : List ANode) (i : Int) (s v : ByteArray) (op : Int) (want : ByteArray) (w : World) (h : IsTree w A n T) (hs : s.size ≤ 9223372036854775807) (hv : v.size ≤ 9223372036854775807) (_hq : want.size ≤ 9223372036854775807) (hmx : HasMax w) :
    Calls Try.prog 15 #[.agg #[.slice A n c], .int .i64 i, .string s, .string v, .int .u8 op, .string want] w fun r w' => r = .returned (.bool true) ∧ Below w.heap.size w w' := by
  have hm' := hide hmx
  have ho := hide h.2.2.2
  clear hmx
  have hT := hide h
  have hl := h.1
  clear h
  have hB0 := below_alloc (Below.refl w.heap.size w) (.cells #[.slice A n c] 43)
  have hbox0 : (w.alloc (.cells #[.slice A n c] 43)).cell? ⟨w.heap.size, 0, none⟩ = some (.slice A n c) := by go_simp
  by_cases h0 : askI T [i] = 0
  · have hia := hide h0
    obtain ⟨hg, hir⟩ := askI_zero.1 h0
    have hir := hir i (by simp)
    obtain ⟨j, rfl⟩ := Int.eq_ofNat_of_zero_le hir.1
    have hj : j < n := by omega
    cases hnm0 : namedB s
    · have hnm := hide hnm0
      clear h0 hg hir hnm0
      go_enter Try.func15, Try.ntmps15
      go_wp2_with fail
      refine (alive18_ok _ (hm'.out.below hB0)).mono ?_
      rintro e w1 ⟨rfl, hb1⟩
      have hA1 := hide (simAt_at w1 w1.heap.size rfl 3 s op want false 0 0 false none 0 0)
      have hz1 := below_alloc (Below.refl w1.heap.size w1) (.cells #[.int .u8 3, .string s, .int .u8 op, .string want, .bool false, .int .i64 0, .int .i64 0, .bool false, .slice none 0 0] 26)
      have hB1 := Below.on (Below.on hB0 hb1) hz1
      have hbox1 := cell_later hz1 (cell_later hb1 hbox0)
      clear hb1 hbox0 hz1
      go_wp2_with fail
      refine (rasked_at T j 0 hia.out _ _ c _ (hT.out.below hB1)).mono ?_
      rintro e w2 ⟨rfl, hb2⟩
      have hB2 := Below.on hB1 hb2
      have hbox2 := cell_later hb2 hbox1
      have hA2 := hide (hA1.out.later hb2)
      clear hb2 hbox1 hA1
      obtain ⟨s0, s1, s2, s3, s4, s5, s6, s7, s8⟩ := hA2.out
      go_wp2_with fail
      have hx := rnamed_ok s w2 hs
      rw [hnm.out] at hx
      refine hx.mono ?_
      clear hx
      rintro e w3 ⟨rfl, rfl⟩
      go_wp2
      go_ret
      exact ⟨rfl, hB2⟩
    · have hnm := hide hnm0
      rcases chkS_cases (sA s op want) with hck0 | hck0
      · have hck : Hid (chkS ⟨3, s, op, want, false, 0, 0, false, none, 0, 0⟩ = 0) := hck0
        by_cases h4 : 400 < v.size
        · have g4 : decide (400 < (v.size : Int)) = true := by rw [decide_eq_true_eq]; omega
          clear h0 hg hir hnm0 h4 hck0
          go_enter Try.func15, Try.ntmps15
          go_wp2_with fail
          refine (alive18_ok _ (hm'.out.below hB0)).mono ?_
          rintro e w1 ⟨rfl, hb1⟩
          have hA1 := hide (simAt_at w1 w1.heap.size rfl 3 s op want false 0 0 false none 0 0)
          have hz1 := below_alloc (Below.refl w1.heap.size w1) (.cells #[.int .u8 3, .string s, .int .u8 op, .string want, .bool false, .int .i64 0, .int .i64 0, .bool false, .slice none 0 0] 26)
          have hB1 := Below.on (Below.on hB0 hb1) hz1
          have hbox1 := cell_later hz1 (cell_later hb1 hbox0)
          clear hb1 hbox0 hz1
          go_wp2_with fail
          refine (rasked_at T j 0 hia.out _ _ c _ (hT.out.below hB1)).mono ?_
          rintro e w2 ⟨rfl, hb2⟩
          have hB2 := Below.on hB1 hb2
          have hbox2 := cell_later hb2 hbox1
          have hA2 := hide (hA1.out.later hb2)
          clear hb2 hbox1 hA1
          obtain ⟨s0, s1, s2, s3, s4, s5, s6, s7, s8⟩ := hA2.out
          go_wp2_with fail
          have hx := rnamed_ok s w2 hs
          rw [hnm.out] at hx
          refine hx.mono ?_
          clear hx
          rintro e w3 ⟨rfl, rfl⟩
          go_wp2_with fail
          have hx := rscheck_ok 3 s op want false 0 0 false none 0 0 w2
          rw [hck.out] at hx
          refine hx.mono ?_
          clear hx
          rintro e w3 ⟨rfl, hb3⟩
          clear s0 s1 s2 s3 s4 s5 s6 s7 s8
          have hB3 := Below.on hB2 hb3
          have hbox3 := cell_later hb3 hbox2
          have hA3 := hide (hA2.out.later hb3)
          clear hb3 hbox2 hA2
          obtain ⟨s0, s1, s2, s3, s4, s5, s6, s7, s8⟩ := hA3.out
          go_wp2
          go_ret
          exact ⟨rfl, hB3⟩
        · have g4 : decide (400 < (v.size : Int)) = false := by rw [decide_eq_false_iff_not]; omega
          have hwE : Hid (smatE T j ⟨3, s, op, want, false, 0, 0, false, none, 0, 0⟩ (-1) = 0) := by show _ = _; unfold smatE; rw [if_pos h0]; exact smE_zero.2 ⟨hg, rfl, hck0⟩
          obtain ⟨gE, hgE0⟩ : ∃ x, getE T j s = x := ⟨_, rfl⟩
          obtain ⟨gV, hgV0⟩ : ∃ x, getV T j s = x := ⟨_, rfl⟩
          obtain ⟨wV, hwV0⟩ : ∃ x, smatV T j ⟨3, s, op, want, false, 0, 0, false, none, 0, 0⟩ (-1) = x := ⟨_, rfl⟩
          obtain ⟨sE, hsE0⟩ : ∃ x, setE T j s v = x := ⟨_, rfl⟩
          have hgw : (gE = 0) ∨ ((gE != 0) = true ∧ (gE == 0) = false ∧ wV = false) := by
            by_cases hz : gE = 0
            · exact .inl hz
            · refine .inr ⟨by rw [bne_iff_ne]; exact hz, by rw [beq_eq_false_iff_ne]; exact hz, ?_⟩
              rw [← hwV0]
              exact none_of (by rw [hgE0]; exact hz)
          have hvE : Hid (valE ⟨3, s, op, want, false, 0, 0, false, none, 0, 0⟩ v = 0) := by
            show _ = _
            unfold valE
            rw [if_pos hck.out, if_pos rfl, if_pos (by omega)]
          have hsaid := fun hz : setE T j s v = 0 => said_of (n := n) hg (by omega : j < T.length) hl hck0 hz
          have hsX := fun hz : ¬ setE T j s v = 0 => (show setT T j s v = [] by unfold setT; rw [if_neg hz])
          rw [hsE0] at hsaid hsX
          have hgE := hide hgE0
          have hgV := hide hgV0
          have hwV := hide hwV0
          have hsE := hide hsE0
          obtain ⟨bb, off, aA, cA, aC, cC, rfl, hbl, c0, -, -, -, -, -⟩ := ho.out (by omega)
          obtain ⟨nt, hnt⟩ : ∃ x, (nd T j).tag = x := ⟨_, rfl⟩
          have c1 := c0 j hj
          rw [hnt] at c1
          have c0' := hide c1
          have q1 : (0 : Int) ≤ (j : Int) := by omega
          have q2 : (j : Int) < (n : Int) := by omega
          have hck0' := hide hck0
          have hgw' := hide hgw
          have hsaid' := hide hsaid
          have hsX' := hide hsX
          have hnt' := hide hnt
          clear h0 hg hir hnm0 h4 hck0 hgE0 hgV0 hwV0 hsE0 hgw hsaid hsX hnt c0 c1
          go_enter Try.func15, Try.ntmps15
          go_wp2_with fail
          refine (alive18_ok _ (hm'.out.below hB0)).mono ?_
          rintro e w1 ⟨rfl, hb1⟩
          have hA1 := hide (simAt_at w1 w1.heap.size rfl 3 s op want false 0 0 false none 0 0)
          have hz1 := below_alloc (Below.refl w1.heap.size w1) (.cells #[.int .u8 3, .string s, .int .u8 op, .string want, .bool false, .int .i64 0, .int .i64 0, .bool false, .slice none 0 0] 26)
          have hB1 := Below.on (Below.on hB0 hb1) hz1
          have hbox1 := cell_later hz1 (cell_later hb1 hbox0)
          clear hb1 hbox0 hz1
          go_wp2_with fail
          refine (rasked_at T j 0 hia.out _ _ c _ (hT.out.below hB1)).mono ?_
          rintro e w2 ⟨rfl, hb2⟩
          have hB2 := Below.on hB1 hb2
          have hbox2 := cell_later hb2 hbox1
          have hA2 := hide (hA1.out.later hb2)
          clear hb2 hbox1 hA1
          obtain ⟨s0, s1, s2, s3, s4, s5, s6, s7, s8⟩ := hA2.out
          go_wp2_with fail
          have hx := rnamed_ok s w2 hs
          rw [hnm.out] at hx
          refine hx.mono ?_
          clear hx
          rintro e w3 ⟨rfl, rfl⟩
          go_wp2_with fail
          have hx := rscheck_ok 3 s op want false 0 0 false none 0 0 w2
          rw [hck.out] at hx
          refine hx.mono ?_
          clear hx
          rintro e w3 ⟨rfl, hb3⟩
          clear s0 s1 s2 s3 s4 s5 s6 s7 s8
          have hB3 := Below.on hB2 hb3
          have hbox3 := cell_later hb3 hbox2
          have hA3 := hide (hA2.out.later hb3)
          clear hb3 hbox2 hA2
          obtain ⟨s0, s1, s2, s3, s4, s5, s6, s7, s8⟩ := hA3.out
          go_wp2_with fail
          have hx := get_ok _ n c T j s w3 (hT.out.below hB3)
          rw [hgE.out, hgV.out] at hx
          refine hx.mono ?_
          clear hx
          rintro e w4 ⟨rfl, hb4⟩
          clear s0 s1 s2 s3 s4 s5 s6 s7 s8
          have hB4 := Below.on hB3 hb4
          have hbox4 := cell_later hb4 hbox3
          have hA4 := hide (hA3.out.later hb4)
          clear hb4 hbox3 hA3
          obtain ⟨s0, s1, s2, s3, s4, s5, s6, s7, s8⟩ := hA4.out
          go_wp2_with fail
          refine (sMatch_at T j 3 s op want false 0 0 false none 0 0 (-1) wV 0 hwV.out hwE.out _ n c _ (hT.out.below hB4) (hm'.out.below hB4)).mono ?_
          rintro e w5 ⟨rfl, hb5⟩
          clear s0 s1 s2 s3 s4 s5 s6 s7 s8
          have hB5 := Below.on hB4 hb5
          have hbox5 := cell_later hb5 hbox4
          have hA5 := hide (hA4.out.later hb5)
          clear hb5 hbox4 hA4
          obtain ⟨s0, s1, s2, s3, s4, s5, s6, s7, s8⟩ := hA5.out
          by_cases hz : sE = 0
          · subst hz
            obtain ⟨X, G⟩ := hsaid'.out rfl
            have hX := hide G.tree
            have hXn := hide G.len
            have hXg := hide G.good
            have hXe := hide G.err
            have hXv := hide G.val
            have hXl := hide G.link
            rw [hnt'.out] at hXl
            obtain ⟨r, hr⟩ : ∃ x, valV (sA s op want) v = x := ⟨_, rfl⟩
            rw [hr] at hXv
            have hr' := hide hr
            clear G hr hsaid' hsX'
            go_wp2_with fail
            have hx := aset_ok _ n c T j s v w5 (hT.out.below hB5) hs hv
            rw [hsE.out, hX.out] at hx
            refine hx.mono ?_
            clear hx
            rintro e w6 ⟨A6, c6, rfl, -, hI6, hb6⟩
            rw [hXn.out] at hI6 ⊢
            have hz6 := below_alloc hb6 (.cells #[.slice A6 n c6] 43)
            have hB6 := Below.on hB5 hz6
            have hbox6 := cell_later hz6 hbox5
            have hA6 := hide (hA5.out.later hz6)
            have hI6' := hide (hI6.below (below_alloc (Below.refl _ _) (.cells #[.slice A6 n c6] 43)))
            have hy6 : (w6.alloc (.cells #[.slice A6 n c6] 43)).cell? ⟨w6.heap.size, 0, none⟩ = some (.slice A6 n c6) := by clear hbox6; go_simp
            clear hI6 hb6 hz6 hbox5 hA5 s0 s1 s2 s3 s4 s5 s6 s7 s8
            obtain ⟨s0, s1, s2, s3, s4, s5, s6, s7, s8⟩ := hA6.out
            generalize hw6 : w6.alloc (.cells #[.slice A6 n c6] 43) = u6 at *
            rcases hgw'.out with rfl | ⟨g1, g2, rfl⟩
            all_goals
              clear hgw'
              go_wp2_with fail
              refine (sMatch_at X j 3 s op want false 0 0 false none 0 0 (-1) r 0 hXv.out hXe.out _ n c6 _ hI6'.out (hm'.out.below hB6)).mono ?_
              rintro e w7 ⟨rfl, hb7⟩
              clear s0 s1 s2 s3 s4 s5 s6 s7 s8
              have hy7 := cell_later hb7 hy6
              have hI7 := hide (hI6'.out.below hb7)
              clear hy6 hI6'
              have hB7 := Below.on hB6 hb7
              have hbox7 := cell_later hb7 hbox6
              have hA7 := hide (hA6.out.later hb7)
              clear hb7 hbox6 hA6
              obtain ⟨s0, s1, s2, s3, s4, s5, s6, s7, s8⟩ := hA7.out
              go_wp2_with fail
              refine (value_at 3 s op want false 0 0 false none 0 0 v r 0 hr'.out hvE.out _ (hm'.out.below hB7)).mono ?_
              rintro e w8 ⟨rfl, hb8⟩
              clear s0 s1 s2 s3 s4 s5 s6 s7 s8
              have hy8 := cell_later hb8 hy7
              have hI8 := hide (hI7.out.below hb8)
              clear hy7 hI7
              have hB8 := Below.on hB7 hb8
              have hbox8 := cell_later hb8 hbox7
              have hA8 := hide (hA7.out.later hb8)
              clear hb8 hbox7 hA7
              obtain ⟨s0, s1, s2, s3, s4, s5, s6, s7, s8⟩ := hA8.out
              clear s0 s1 s2 s3 s4 s5 s6 s7 s8
              have g0 := (old hB8 _ _ hbl).trans c0'.out
              by_cases hsh : s = href
              · have j1 : (s.toList == href.toList) = true := str_eq hsh
                have j2 : (s.toList == [104, 114, 101, 102]) = true := by rw [← href_list]; exact j1
                have j3 : (s.toList != [104, 114, 101, 102]) = false := by rw [bne, j2]; rfl
                obtain ⟨g, hgg⟩ : ∃ x, (nt.toList == ([97] : List UInt8)) = x := ⟨_, rfl⟩
                have hlk := hXl.out hsh
                rw [hgg] at hlk
                have hk := hide (fun (W : World) (hW : Below w8.heap.size w8 W) => rlk_at X j g hlk _ n c6 W (hI8.out.below hW) hj hXg.out)
                clear hlk j1 hsh hXl
                cases r <;> cases g
                all_goals
                  go_wp2
                  go_region_held3 (fun Y => Y.cell? ⟨w6.heap.size, 0, none⟩ = some (.slice A6 n c6) ∧ Y.cell? ⟨w.heap.size, 0, none⟩ = some (.slice (some ⟨bb, off, none⟩) n c) ∧ Y.cell? ⟨bb, off + j * 4, none⟩ = some (.string nt)) (first | exact ⟨hy8, hbox8, g0⟩ | exact ⟨d0, d1, d2⟩) (first | (go_at_call 53; (with_reducible refine (hk.out _ (Below.refl _ _).drew).mono ?_); rintro e w9 ⟨rfl, hb9⟩; have d0 := cell_later hb9 hy8; have d1 := cell_later hb9 hbox8; have d2 := cell_later hb9 g0))
                  go_wp2
                  go_ret
                  exact ⟨rfl, Below.on (w1 := w8.drew) hB8.drew hb9⟩
              · have j1 : (s.toList == href.toList) = false := str_ne hsh
                have j2 : (s.toList == [104, 114, 101, 102]) = false := by rw [← href_list]; exact j1
                have j3 : (s.toList != [104, 114, 101, 102]) = true := by rw [bne, j2]; rfl
                clear j1 hsh hXl
                cases r
                all_goals
                  go_wp2
                  go_quiet (fail)
                  go_wp2
                  go_ret
                  exact ⟨rfl, below_drewN hB8 _⟩
          · have hzb : (sE != 0) = true := by rw [bne_iff_ne]; exact hz
            have hX := hide (hsX'.out hz)
            clear hsaid' hsX'
            go_wp2_with fail
            have hx := aset_ok _ n c T j s v w5 (hT.out.below hB5) hs hv
            rw [hsE.out, hX.out] at hx
            refine hx.mono ?_
            clear hx
            rintro e w6 ⟨A6, c6, rfl, -, hI6, hb6⟩
            have hB6 := below_alloc (Below.on hB5 hb6) (.cells #[.slice A6 0 c6] 43)
            rcases hgw'.out with rfl | ⟨g1, g2, rfl⟩
            · go_wp2
              go_ret
              exact ⟨rfl, hB6⟩
            · go_wp2
              go_ret
              exact ⟨rfl, hB6⟩
      · have hck : Hid (chkS ⟨3, s, op, want, false, 0, 0, false, none, 0, 0⟩ = 12) := hck0
        clear h0 hg hir hnm0 hck0
        go_enter Try.func15, Try.ntmps15
        go_wp2_with fail
        refine (alive18_ok _ (hm'.out.below hB0)).mono ?_
        rintro e w1 ⟨rfl, hb1⟩
        have hA1 := hide (simAt_at w1 w1.heap.size rfl 3 s op want false 0 0 false none 0 0)
        have hz1 := below_alloc (Below.refl w1.heap.size w1) (.cells #[.int .u8 3, .string s, .int .u8 op, .string want, .bool false, .int .i64 0, .int .i64 0, .bool false, .slice none 0 0] 26)
        have hB1 := Below.on (Below.on hB0 hb1) hz1
        have hbox1 := cell_later hz1 (cell_later hb1 hbox0)
        clear hb1 hbox0 hz1
        go_wp2_with fail
        refine (rasked_at T j 0 hia.out _ _ c _ (hT.out.below hB1)).mono ?_
        rintro e w2 ⟨rfl, hb2⟩
        have hB2 := Below.on hB1 hb2
        have hbox2 := cell_later hb2 hbox1
        have hA2 := hide (hA1.out.later hb2)
        clear hb2 hbox1 hA1
        obtain ⟨s0, s1, s2, s3, s4, s5, s6, s7, s8⟩ := hA2.out
        go_wp2_with fail
        have hx := rnamed_ok s w2 hs
        rw [hnm.out] at hx
        refine hx.mono ?_
        clear hx
        rintro e w3 ⟨rfl, rfl⟩
        go_wp2_with fail
        have hx := rscheck_ok 3 s op want false 0 0 false none 0 0 w2
        rw [hck.out] at hx
        refine hx.mono ?_
        clear hx
        rintro e w3 ⟨rfl, hb3⟩
        clear s0 s1 s2 s3 s4 s5 s6 s7 s8
        have hB3 := Below.on hB2 hb3
        have hbox3 := cell_later hb3 hbox2
        have hA3 := hide (hA2.out.later hb3)
        clear hb3 hbox2 hA2
        obtain ⟨s0, s1, s2, s3, s4, s5, s6, s7, s8⟩ := hA3.out
        go_wp2
        go_ret
        exact ⟨rfl, hB3⟩
  · obtain ⟨c1, hc1⟩ : ∃ x, askI T [i] = x := ⟨_, rfl⟩
    have hcz : ¬ c1 = 0 := by rw [← hc1]; exact h0
    have hia := hide hc1
    have hcb : (c1 != 0) = true := by rw [bne_iff_ne]; exact hcz
    clear h0 hc1 hcz
    go_enter Try.func15, Try.ntmps15
    go_wp2_with fail
    refine (alive18_ok _ (hm'.out.below hB0)).mono ?_
    rintro e w1 ⟨rfl, hb1⟩
    have hA1 := hide (simAt_at w1 w1.heap.size rfl 3 s op want false 0 0 false none 0 0)
    have hz1 := below_alloc (Below.refl w1.heap.size w1) (.cells #[.int .u8 3, .string s, .int .u8 op, .string want, .bool false, .int .i64 0, .int .i64 0, .bool false, .slice none 0 0] 26)
    have hB1 := Below.on (Below.on hB0 hb1) hz1
    have hbox1 := cell_later hz1 (cell_later hb1 hbox0)
    clear hb1 hbox0 hz1
    go_wp2_with fail
    refine (rasked_at T i c1 hia.out _ _ c _ (hT.out.below hB1)).mono ?_
    rintro e w2 ⟨rfl, hb2⟩
    have hB2 := Below.on hB1 hb2
    have hbox2 := cell_later hb2 hbox1
    have hA2 := hide (hA1.out.later hb2)
    clear hb2 hbox1 hA1
    obtain ⟨s0, s1, s2, s3, s4, s5, s6, s7, s8⟩ := hA2.out
    go_wp2
    go_ret
    exact ⟨rfl, hB2⟩

set_option maxRecDepth 100000 in
theorem lifted (os : Os) (started : os.Started) (H : Type) (enc : TypeId × Value → H) :
    ReturnsInHanded {} Try.checked os 15 .any (Rows.simpleAttrsSpec.pre6 enc Try.prog Try.f15 Rows.simpleAttrsRow.domain false) (Rows.simpleAttrsSpec.post enc Try.prog Try.f15 false true false false) := by
  refine returnsInHanded_of_change_shaped (C := Try.checked) own started (by kernel_rfl) Try.func15
    (ChangeSpec.witness6 (enc := enc) (C := Try.checked) false ⟨#[], #[.agg #[.slice none 0 0], .int .i64 0, .string .empty, .string .empty, .int .u8 0, .string .empty], []⟩ 8 (by kernel_rfl) (by kernel_rfl) (by kernel_rfl) (by kernel_rfl)) ?_
  intro W base args ds gs before hval0 hW hcnd hsz hsh _
  have hval : ∀ (j : Nat) t v, Try.f15.params[j]? = some t → args[j]? = some v → Value.okWide Try.prog W .any base t v := hval0
  have hW' := hW
  obtain ⟨p, q, hA0, hV, rfl, hfz, hnd⟩ := hW
  have hA : DataW.TrodAll enc Try.prog W 0 (fun _ => true) true Try.f15.params.toList args.toList ds p := hA0
  rw [Try.params15] at hA hval hsz
  obtain ⟨v0, vs0, d0, ds0, p0, q0, hargs, rfl, rfl, h0, r0⟩ := trodAll_cons hA
  obtain ⟨v1, vs1, d1, ds1, p1, q1, rfl, rfl, rfl, h1, r1⟩ := trodAll_cons r0
  obtain ⟨v2, vs2, d2, ds2, p2, q2, rfl, rfl, rfl, h2, r2⟩ := trodAll_cons r1
  obtain ⟨v3, vs3, d3, ds3, p3, q3, rfl, rfl, rfl, h3, r3⟩ := trodAll_cons r2
  obtain ⟨v4, vs4, d4, ds4, p4, q4, rfl, rfl, rfl, h4, r4⟩ := trodAll_cons r3
  obtain ⟨v5, vs5, d5, ds5, p5, q5, rfl, rfl, rfl, h5, r5⟩ := trodAll_cons r4
  obtain ⟨rfl, rfl, rfl⟩ := trodAll_nil r5
  obtain rfl : args = #[v0, v1, v2, v3, v4, v5] := by cases args; simp_all
  obtain ⟨rfl, rfl⟩ := trodVars_none hV
  have lt0 : ∀ x ∈ p0, x.block < W.heap.size := by obtain ⟨m, hm⟩ := h0; exact DataW.trod_lt m _ _ _ hm
  have k0 := h0
  have lt1 : ∀ x ∈ p1, x.block < W.heap.size := by obtain ⟨m, hm⟩ := h1; exact DataW.trod_lt m _ _ _ hm
  have k1 := h1
  have lt2 : ∀ x ∈ p2, x.block < W.heap.size := by obtain ⟨m, hm⟩ := h2; exact DataW.trod_lt m _ _ _ hm
  have k2 := h2
  have lt3 : ∀ x ∈ p3, x.block < W.heap.size := by obtain ⟨m, hm⟩ := h3; exact DataW.trod_lt m _ _ _ hm
  have k3 := h3
  have lt4 : ∀ x ∈ p4, x.block < W.heap.size := by obtain ⟨m, hm⟩ := h4; exact DataW.trod_lt m _ _ _ hm
  have k4 := h4
  have lt5 : ∀ x ∈ p5, x.block < W.heap.size := by obtain ⟨m, hm⟩ := h5; exact DataW.trod_lt m _ _ _ hm
  have k5 := h5
  obtain ⟨A0, n0, c0, T0, rfl, hT0⟩ := tree_open (hval 0 _ v0 rfl rfl) h0
  obtain ⟨a1, rfl, rfl, rfl, w1⟩ := open_int Try.underlying3 (hval 1 _ v1 rfl rfl) h1
  obtain ⟨a2, rfl, rfl, rfl, w2⟩ := Go.ChangeMaps.open_string Try.underlying9 (hval 2 _ v2 rfl rfl) h2
  have w2' : a2.size ≤ 9223372036854775807 := by unfold maxLen at w2; omega
  obtain ⟨a3, rfl, rfl, rfl, w3⟩ := Go.ChangeMaps.open_string Try.underlying9 (hval 3 _ v3 rfl rfl) h3
  have w3' : a3.size ≤ 9223372036854775807 := by unfold maxLen at w3; omega
  obtain ⟨a4, rfl, rfl, rfl, w4⟩ := open_int Try.underlying5 (hval 4 _ v4 rfl rfl) h4
  obtain ⟨a5, rfl, rfl, rfl, w5⟩ := Go.ChangeMaps.open_string Try.underlying9 (hval 5 _ v5 rfl rfl) h5
  have w5' : a5.size ≤ 9223372036854775807 := by unfold maxLen at w5; omega
  clear hA0 hval0
  refine (walk A0 n0 c0 T0 a1 a2 a3 a4 a5 W hT0  w2' w3'  w5' (hasMax_of hsh)).mono fun e W' ⟨he, bel⟩ => ?_
  subst he
  exact ⟨_, rfl, _, _, _, [], _, [], hW', trodAll_mk1 (shut_bool Try.underlying4 _), (trodAll_cons_mk (Below.trod laidOut (by kernel_rfl) (of_decide_eq_true (by kernel_rfl)) k0 bel lt0) (trodAll_cons_mk (Below.trod laidOut (by kernel_rfl) (of_decide_eq_true (by kernel_rfl)) k1 bel lt1) (trodAll_cons_mk (Below.trod laidOut (by kernel_rfl) (of_decide_eq_true (by kernel_rfl)) k2 bel lt2) (trodAll_cons_mk (Below.trod laidOut (by kernel_rfl) (of_decide_eq_true (by kernel_rfl)) k3 bel lt3) (trodAll_cons_mk (Below.trod laidOut (by kernel_rfl) (of_decide_eq_true (by kernel_rfl)) k4 bel lt4) (trodAll_cons_mk (Below.trod laidOut (by kernel_rfl) (of_decide_eq_true (by kernel_rfl)) k5 bel lt5) trodAll_mk0)))))), rfl, bel.frame _, fun h => by cases h⟩

theorem proved : Rows.SimpleAttrsSaid :=
  OpenClaim.holds_of_wide 15 Try.f15 rfl rfl rfl rfl rfl rfl rfl ⟨rfl, rfl, rfl, rfl, rfl⟩ rfl rfl rfl rfl rfl (by kernel_rfl) Try.func15 (by kernel_rfl)
    (of_decide_eq_true (by kernel_rfl)) (by unfold Func.isWrapper; first | (rw [if_pos (by decide +kernel)]; kernel_rfl) | (rw [if_neg (by decide +kernel)]; exact ⟨rfl, rfl⟩))
    (fun os started H enc _ => lifted os started H enc)
#print axioms proved
end Go.Proofs.Ytbedomopojiehaa.simpleAttrs
