/- For every tree, all numbers and all texts: an attribute other than href doesn't matter for links, and its value never does; for a valid tree. No condition. -/
import Derived.Test.YtfiiikbbiimdiaaOpen
import Derived.Test.YtfiiikbbiimdiaaPla
import Derived.Test.YtfiiikbbiimdiaaEx17
import Derived.Test.YtfiiikbbiimdiaaFe
namespace Go.Proofs.Ytfiiikbbiimdiaa.linkAttrs
open Go.ChangeShapes Go.WideShapes Go.ChangeAt Go.RowKit

theorem ups_setA {T : List ANode} {k : Nat} {l : List Att} (hk : k < T.length) (m : Nat) (x : Int) : ups (setA T k l) m x = ups T m x := by
  induction m generalizing x with
  | zero => rfl
  | succ m ih => simp only [ups, par_setA hk, ih]
theorem anc_setA {T : List ANode} {k : Nat} {l : List Att} (hk : k < T.length) (x : Int) : anc (setA T k l) x = anc T x := by unfold anc; rw [setA_len, ups_setA hk]
theorem find_same {α : Type} {p q : α → Bool} : ∀ {l : List α}, (∀ x ∈ l, p x = q x) → l.find? p = l.find? q
  | [], _ => rfl
  | x :: l, h => by
    rw [List.find?_cons, List.find?_cons, h x (by simp), find_same (fun y hy => h y (by simp [hy]))]
theorem near_same {T : List ANode} {k m : Nat} {l : List Att} (hg : goodB T = true) (hk : k < T.length) (hm : m < T.length) (h : ∀ j, j < T.length → lkB (setA T k l) j = lkB T j) : nearF (setA T k l) m = nearF T m := by
  unfold nearF
  rw [anc_setA hk, find_same (q := fun x => lkB T x.toNat)]
  intro x hx
  have := anc_mem hg (x := (m : Int)) (by omega) hx
  exact h _ (by omega)

/-- What the law says of the tree with the attribute. -/
structure Said (T X : List ANode) (k m n : Nat) (s v : ByteArray) : Prop where
  set : setE T k s v = 0
  tree : setT T k s v = X
  good : chk X = 0
  len : X.length = n
  ask1 : askI X [(k : Int)] = 0
  ask2 : askI X [(m : Int)] = 0
  other : s ≠ href ∨ lkB T k = true → lkB X k = lkB T k ∧ nearF X m = nearF T m
  href' : s = href → lkB X k = ((nd T k).tag.toList == ([97] : List UInt8)) ∧ (lkB T k = false → lkB X k = false → nearF X m = nearF T m)

theorem said_of {T : List ANode} {k m n : Nat} {s v : ByteArray} (hg : goodB T = true) (hk : k < T.length) (hm : m < T.length) (hl : T.length = n) (h0 : setE T k s v = 0) : ∃ X, Said T X k m n s v := by
  have hask : askI T [(k : Int)] = 0 := askI_ok hg (by simp; omega)
  have hask2 : askI T [(m : Int)] = 0 := askI_ok hg (by simp; omega)
  have hE := h0
  unfold setE at h0
  rw [if_pos hask, Int.toNat_natCast] at h0
  have hs : namedB s = true := by
    cases h : namedB s
    · rw [h] at h0; cases h0
    · rfl
  rw [if_pos hs] at h0
  have hv : v.size ≤ 400 := by
    rcases Nat.lt_or_ge 400 v.size with h | h
    · rw [if_pos h] at h0; cases h0
    · exact h
  rw [if_neg (by omega)] at h0
  have h16 : hasA (atl T k) s = false → (atl T k).length < 16 := fun hh => by
    have := (good_attrs hg hk).2
    rcases Nat.lt_or_ge (atl T k).length 16 with h1 | h1
    · exact h1
    · rw [if_pos ⟨hh, by omega⟩] at h0; cases h0
  obtain ⟨u1, u2, u3, u4, u5, u6, u7⟩ := put_facts (good_atl hg hk) hs hv h16
  have hX : setT T k s v = setA T k (putL (atl T k) s v) := by unfold setT; rw [if_pos hE, Int.toNat_natCast]
  have hatl : atl (setA T k (putL (atl T k) s v)) k = putL (atl T k) s v := by rw [atl_setA hk, if_pos rfl]
  have hfar : ∀ j, j ≠ k → lkB (setA T k (putL (atl T k) s v)) j = lkB T j := fun j hj => by
    unfold lkB; rw [atl_setA hk, if_neg hj, tag_setA hk]
  have hown : lkB (setA T k (putL (atl T k) s v)) k = (hasA (putL (atl T k) s v) href && ((nd T k).tag.toList == ([97] : List UInt8))) := by
    unfold lkB; rw [hatl, tag_setA hk]
  have hall : lkB (setA T k (putL (atl T k) s v)) k = lkB T k → nearF (setA T k (putL (atl T k) s v)) m = nearF T m := fun h => near_same hg hk hm fun j _ => by
    by_cases hj : j = k
    · rw [hj]; exact h
    · exact hfar j hj
  refine ⟨_, hE, hX, chk_ok (good_setA hg hk u1), by rw [setA_len]; exact hl, by rw [askI_setA hg hk u1]; exact hask, by rw [askI_setA hg hk u1]; exact hask2, fun h => ?_, fun h => ?_⟩
  · have : lkB (setA T k (putL (atl T k) s v)) k = lkB T k := by
      rw [hown]
      by_cases hsh : s = href
      · have hl : lkB T k = true := h.resolve_left (fun h => h hsh)
        rw [hl]
        unfold lkB at hl
        simp only [Bool.and_eq_true] at hl
        rw [← hsh, u2, hl.2]; rfl
      · unfold lkB
        rw [(has_same (good_atl hg hk) u1 href (u5 href (fun e => hsh e.symm))).1]
    exact ⟨this, hall this⟩
  · refine ⟨?_, fun h1 h2 => hall (by rw [h1, h2])⟩
    rw [hown, ← h, u2]; rfl

theorem href_list : href.toList = [104, 114, 101, 102] := by kernel_rfl
set_option maxRecDepth 100000 in
set_option maxHeartbeats 4000000 in
theorem walk (A : Option Addr) (n c : Nat) (T : List ANode) (i j : Int) (s v : ByteArray) (w : World) (h : IsTree w A n T) (hs : s.size ≤ 9223372036854775807) (hv : v.size ≤ 9223372036854775807) :
    Calls Try.prog 14 #[.agg #[.slice A n c], .int .i64 i, .int .i64 j, .string s, .string v] w fun e w' => e = .returned (.bool true) ∧ Below w.heap.size w w' := by
  have hT := hide h
  have hl := h.1
  clear h
  have hB0 := below_alloc (Below.refl w.heap.size w) (.cells #[.slice A n c] 24)
  have hbox0 : (w.alloc (.cells #[.slice A n c] 24)).cell? ⟨w.heap.size, 0, none⟩ = some (.slice A n c) := by go_simp
  by_cases h0 : askI T [i] = 0
  · have hq0 : (askI T [i] != 0) = false := by simp [h0]
    by_cases h1 : askI T [j] = 0
    · have hq1 : (askI T [j] != 0) = false := by simp [h1]
      obtain ⟨hg, hir⟩ := askI_zero.1 h0
      have hir := hir i (by simp)
      have hjr := (askI_zero.1 h1).2 j (by simp)
      obtain ⟨k, rfl⟩ := Int.eq_ofNat_of_zero_le hir.1
      obtain ⟨m, rfl⟩ := Int.eq_ofNat_of_zero_le hjr.1
      have hkT : k < T.length := by omega
      have hmT : m < T.length := by omega
      by_cases h4 : 100 < s.size
      · clear h0 h1 hg hir hjr
        go_enter Try.func14, Try.ntmps14
        go_wp2_with fail
        refine (alive17_ok _).mono ?_
        rintro e w1 ⟨rfl, hb1⟩
        have hbox1 := cell_later hb1 hbox0
        have hB1 := Below.on hB0 hb1
        go_wp2_with fail
        refine (rasked_ok _ _ _ T _ _ (hT.out.below hB1)).mono ?_
        rintro e w2 ⟨rfl, hb2⟩
        have hbox2 := cell_later hb2 hbox1
        have hB2 := Below.on hB1 hb2
        go_wp2_with fail
        refine (rasked_ok _ _ _ T _ _ (hT.out.below hB2)).mono ?_
        rintro e w3 ⟨rfl, hb3⟩
        have hbox3 := cell_later hb3 hbox2
        have hB3 := Below.on hB2 hb3
        go_wp2
        go_ret
        exact ⟨rfl, hB3⟩
      · have hi0 : isE T k = lkB T k := by unfold isE; rw [if_pos h0, Int.toNat_natCast]
        have hn0 : nearE T m = nearF T m := by unfold nearE; rw [if_pos h1]
        by_cases hz : setE T k s v = 0
        · obtain ⟨X, G⟩ := said_of (n := n) hg hkT hmT hl.symm.symm hz
          have hi1 : Hid (isE X k = lkB X k) := by show _ = _; unfold isE; rw [if_pos G.ask1, Int.toNat_natCast]
          have hn1 : Hid (nearE X m = nearF X m) := by show _ = _; unfold nearE; rw [if_pos G.ask2]
          have hi0' := hide hi0
          have hn0' := hide hn0
          have h0' := hide h0
          have h1' := hide h1
          have hsm := hide G.set
          have htr := hide G.tree
          have hgd := hide G.good
          have hln := hide G.len
          have ha1 := hide G.ask1
          have ha2 := hide G.ask2
          obtain ⟨b, off, aA, cA, aC, cC, rfl, hbl, c0, -, -, -, -, -⟩ := hT.out.2.2.2 (by omega)
          have c0' := hide (c0 k (by omega))
          have hkn : k < n := by omega
          obtain ⟨x0, hx0⟩ : ∃ r, lkB T k = r := ⟨_, rfl⟩
          obtain ⟨x1, hx1⟩ : ∃ r, lkB X k = r := ⟨_, rfl⟩
          obtain ⟨y0, hy0⟩ : ∃ r, nearF T m = r := ⟨_, rfl⟩
          obtain ⟨y1, hy1⟩ : ∃ r, nearF X m = r := ⟨_, rfl⟩
          have ho := G.other
          have hhr := G.href'
          rw [hx0, hx1, hy0, hy1] at ho
          rw [hx0, hx1, hy0, hy1] at hhr
          rw [hx0] at hi0'
          rw [hy0] at hn0'
          rw [hx1] at hi1
          rw [hy1] at hn1
          have ho' := hide ho
          have hhr' := hide hhr
          clear ho hhr hx0 hx1 hy0 hy1 c0 G hz hi0 hn0 h0 h1 hg hir hjr
          go_enter Try.func14, Try.ntmps14
          go_wp2_with fail
          refine (alive17_ok _).mono ?_
          rintro e w1 ⟨rfl, hb1⟩
          have hbox1 := cell_later hb1 hbox0
          have hB1 := Below.on hB0 hb1
          go_wp2_with fail
          refine (rasked_ok _ _ _ T _ _ (hT.out.below hB1)).mono ?_
          rintro e w2 ⟨rfl, hb2⟩
          have hbox2 := cell_later hb2 hbox1
          have hB2 := Below.on hB1 hb2
          go_wp2_with fail
          refine (rasked_ok _ _ _ T _ _ (hT.out.below hB2)).mono ?_
          rintro e w3 ⟨rfl, hb3⟩
          have hbox3 := cell_later hb3 hbox2
          have hB3 := Below.on hB2 hb3
          go_wp2_with fail
          have hx := linkIs_ok _ _ c T k _ (hT.out.below hB3)
          rw [hi0'.out, h0'.out] at hx
          refine hx.mono ?_
          clear hx
          rintro e w4 ⟨rfl, hb4⟩
          have hbox4 := cell_later hb4 hbox3
          have hB4 := Below.on hB3 hb4
          go_wp2_with fail
          have hx := linkRel_ok _ _ c T m _ (hT.out.below hB4)
          rw [hn0'.out, h1'.out] at hx
          refine hx.mono ?_
          clear hx
          rintro e w5 ⟨rfl, hb5⟩
          have hbox5 := cell_later hb5 hbox4
          have hB5 := Below.on hB4 hb5
          go_wp2_with fail
          have hx := aset_ok _ _ c T k s v _ (hT.out.below hB5) hs hv
          rw [hsm.out, htr.out] at hx
          refine hx.mono ?_
          clear hx
          rintro e w6 ⟨A6, c6, rfl, -, hX, hb6⟩
          rw [hln.out] at hX ⊢
          have hbox6 := cell_later (below_alloc hb6 (.cells #[.slice A6 n c6] 24)) hbox5
          have hB6 := below_alloc (Below.on hB5 hb6) (.cells #[.slice A6 n c6] 24)
          have hX' := hide (hX.below (below_alloc (Below.refl _ _) (.cells #[.slice A6 n c6] 24)))
          have hy6 : (w6.alloc (.cells #[.slice A6 n c6] 24)).cell? ⟨w6.heap.size, 0, none⟩ = some (.slice A6 n c6) := by clear hbox6; go_simp
          clear hX
          go_wp2_with fail
          have hx := rcheck_ok _ _ c6 X _ hX'.out
          rw [hgd.out] at hx
          refine hx.mono ?_
          clear hx
          rintro e w7 ⟨rfl, hb7⟩
          have hbox7 := cell_later hb7 hbox6
          have hy7 := cell_later hb7 hy6
          have hB7 := Below.on hB6 hb7
          have hX7 := hide (hX'.out.below hb7)
          go_wp2_with fail
          have hx := linkIs_ok _ _ c6 X k _ hX7.out
          rw [hi1.out, ha1.out] at hx
          refine hx.mono ?_
          clear hx
          rintro e w8 ⟨rfl, hb8⟩
          have hbox8 := cell_later hb8 hbox7
          have hy8 := cell_later hb8 hy7
          have hB8 := Below.on hB7 hb8
          have hX8 := hide (hX7.out.below hb8)
          go_wp2_with fail
          have hx := linkRel_ok _ _ c6 X m _ hX8.out
          rw [hn1.out, ha2.out] at hx
          refine hx.mono ?_
          clear hx
          rintro e w9 ⟨rfl, hb9⟩
          have hbox9 := cell_later hb9 hbox8
          have hB9 := Below.on hB8 hb9
          have g0 := (old hB9 _ _ hbl).trans c0'.out
          clear hbox0 hB0 hb1 hbox1 hB1 hb2 hbox2 hB2 hb3 hbox3 hB3 hb4 hbox4 hB4 hb5 hbox5 hB5 hb6 hbox6 hB6 hy6 hX' hb7 hbox7 hy7 hB7 hX7 hb8 hbox8 hB8 hX8 hb9
          by_cases hsh : s = href
          · have j1 : (s.toList == href.toList) = true := str_eq hsh
            have j1' : (s.toList == [104, 114, 101, 102]) = true := by rw [← href_list]; exact j1
            have hh := hhr'.out hsh
            cases x0
            · have ht : ((nd T k).tag.toList == ([97] : List UInt8)) = x1 := hh.1.symm
              cases x1
              · obtain rfl : y1 = y0 := hh.2 rfl rfl
                clear hh ho' hhr' hsh
                go_wp2
                go_ret
                exact ⟨rfl, hB9⟩
              · clear hh ho' hhr' hsh
                go_wp2
                go_ret
                exact ⟨rfl, hB9⟩
            · obtain ⟨rfl, rfl⟩ := ho'.out (.inr rfl)
              clear hh ho' hhr' hsh
              go_wp2
              go_ret
              exact ⟨rfl, hB9⟩
          · have j1 : (s.toList == href.toList) = false := str_ne hsh
            have j1' : (s.toList == [104, 114, 101, 102]) = false := by rw [← href_list]; exact j1
            obtain ⟨rfl, rfl⟩ := ho'.out (.inl hsh)
            clear ho' hhr' hsh
            go_wp2
            go_ret
            exact ⟨rfl, hB9⟩
        · have hST : setT T k s v = [] := by unfold setT; rw [if_neg hz]
          have hzq : (setE T k s v != 0) = true := by simp [hz]
          have hST' := hide hST
          have h0' := hide h0
          have h1' := hide h1
          clear hST hz h0 h1 hi0 hn0 hg hir hjr
          go_enter Try.func14, Try.ntmps14
          go_wp2_with fail
          refine (alive17_ok _).mono ?_
          rintro e w1 ⟨rfl, hb1⟩
          have hbox1 := cell_later hb1 hbox0
          have hB1 := Below.on hB0 hb1
          go_wp2_with fail
          refine (rasked_ok _ _ _ T _ _ (hT.out.below hB1)).mono ?_
          rintro e w2 ⟨rfl, hb2⟩
          have hbox2 := cell_later hb2 hbox1
          have hB2 := Below.on hB1 hb2
          go_wp2_with fail
          refine (rasked_ok _ _ _ T _ _ (hT.out.below hB2)).mono ?_
          rintro e w3 ⟨rfl, hb3⟩
          have hbox3 := cell_later hb3 hbox2
          have hB3 := Below.on hB2 hb3
          go_wp2_with fail
          have hx := linkIs_ok _ _ c T k _ (hT.out.below hB3)
          rw [h0'.out] at hx
          refine hx.mono ?_
          clear hx
          rintro e w4 ⟨rfl, hb4⟩
          have hbox4 := cell_later hb4 hbox3
          have hB4 := Below.on hB3 hb4
          go_wp2_with fail
          have hx := linkRel_ok _ _ c T m _ (hT.out.below hB4)
          rw [h1'.out] at hx
          refine hx.mono ?_
          clear hx
          rintro e w5 ⟨rfl, hb5⟩
          have hbox5 := cell_later hb5 hbox4
          have hB5 := Below.on hB4 hb5
          go_wp2_with fail
          have hx := aset_ok _ _ c T k s v _ (hT.out.below hB5) hs hv
          rw [hST'.out] at hx
          refine hx.mono ?_
          clear hx
          rintro e w6 ⟨A6, c6, rfl, -, -, hb6⟩
          have hB6 := below_alloc (Below.on hB5 hb6) (.cells #[.slice A6 0 c6] 24)
          go_wp2
          go_ret
          exact ⟨rfl, hB6⟩
    · have hq1 : (askI T [j] != 0) = true := by simp [h1]
      clear h0 h1
      go_enter Try.func14, Try.ntmps14
      go_wp2_with fail
      refine (alive17_ok _).mono ?_
      rintro e w1 ⟨rfl, hb1⟩
      have hbox1 := cell_later hb1 hbox0
      have hB1 := Below.on hB0 hb1
      go_wp2_with fail
      refine (rasked_ok _ _ _ T _ _ (hT.out.below hB1)).mono ?_
      rintro e w2 ⟨rfl, hb2⟩
      have hbox2 := cell_later hb2 hbox1
      have hB2 := Below.on hB1 hb2
      go_wp2_with fail
      refine (rasked_ok _ _ _ T _ _ (hT.out.below hB2)).mono ?_
      rintro e w3 ⟨rfl, hb3⟩
      have hbox3 := cell_later hb3 hbox2
      have hB3 := Below.on hB2 hb3
      go_wp2
      go_ret
      exact ⟨rfl, hB3⟩
  · have hq0 : (askI T [i] != 0) = true := by simp [h0]
    clear h0
    go_enter Try.func14, Try.ntmps14
    go_wp2_with fail
    refine (alive17_ok _).mono ?_
    rintro e w1 ⟨rfl, hb1⟩
    have hbox1 := cell_later hb1 hbox0
    have hB1 := Below.on hB0 hb1
    go_wp2_with fail
    refine (rasked_ok _ _ _ T _ _ (hT.out.below hB1)).mono ?_
    rintro e w2 ⟨rfl, hb2⟩
    have hbox2 := cell_later hb2 hbox1
    have hB2 := Below.on hB1 hb2
    go_wp2
    go_ret
    exact ⟨rfl, hB2⟩

set_option maxRecDepth 100000 in
theorem lifted (os : Os) (started : os.Started) (H : Type) (enc : TypeId × Value → H) :
    ReturnsInHanded {} Try.checked os 14 .any (Rows.linkAttrsSpec.pre6 enc Try.prog Try.f14 Rows.linkAttrsRow.domain false) (Rows.linkAttrsSpec.post enc Try.prog Try.f14 false true false false) := by
  refine returnsInHanded_of_change (C := Try.checked) own started (by kernel_rfl) Try.func14
    (ChangeSpec.witness6 (enc := enc) (C := Try.checked) false ⟨#[], #[.agg #[.slice none 0 0], .int .i64 0, .int .i64 0, .string .empty, .string .empty], []⟩ 8 (by kernel_rfl) (by kernel_rfl) (by kernel_rfl) (by kernel_rfl)) ?_
  intro W base args ds gs before hval0 hW hcnd _
  have hval : ∀ (j : Nat) t v, Try.f14.params[j]? = some t → args[j]? = some v → Value.okWide Try.prog W .any base t v := hval0
  have hW' := hW
  obtain ⟨p, q, hA0, hV, rfl, hfz, hnd⟩ := hW
  have hA : DataW.TrodAll enc Try.prog W 0 (fun _ => true) true Try.f14.params.toList args.toList ds p := hA0
  rw [Try.params14] at hA hval
  obtain ⟨v0, vs0, d0, ds0, p0, q0, hargs, rfl, rfl, h0, r0⟩ := trodAll_cons hA
  obtain ⟨v1, vs1, d1, ds1, p1, q1, rfl, rfl, rfl, h1, r1⟩ := trodAll_cons r0
  obtain ⟨v2, vs2, d2, ds2, p2, q2, rfl, rfl, rfl, h2, r2⟩ := trodAll_cons r1
  obtain ⟨v3, vs3, d3, ds3, p3, q3, rfl, rfl, rfl, h3, r3⟩ := trodAll_cons r2
  obtain ⟨v4, vs4, d4, ds4, p4, q4, rfl, rfl, rfl, h4, r4⟩ := trodAll_cons r3
  obtain ⟨rfl, rfl, rfl⟩ := trodAll_nil r4
  obtain rfl : args = #[v0, v1, v2, v3, v4] := by cases args; simp_all
  obtain ⟨rfl, rfl⟩ := trodVars_none hV
  have lt0 : ∀ x ∈ p0, x.block < W.heap.size := by obtain ⟨m, hm⟩ := h0; exact DataW.trod_lt m _ _ _ hm
  have k0 := h0
  have lt1 : ∀ x ∈ p1, x.block < W.heap.size := by obtain ⟨m, hm⟩ := h1; exact DataW.trod_lt m _ _ _ hm
  have k1 := h1
  have lt2 : ∀ x ∈ p2, x.block < W.heap.size := by obtain ⟨m, hm⟩ := h2; exact DataW.trod_lt m _ _ _ hm
  have k2 := h2
  have lt3 : ∀ x ∈ p3, x.block < W.heap.size := by obtain ⟨m, hm⟩ := h3; exact DataW.trod_lt m _ _ _ hm
  have k3 := h3
  have lt4 : ∀ x ∈ p4, x.block < W.heap.size := by obtain ⟨m, hm⟩ := h4; exact DataW.trod_lt m _ _ _ hm
  have k4 := h4
  obtain ⟨A0, n0, c0, T0, rfl, hT0⟩ := tree_open (hval 0 _ v0 rfl rfl) h0
  obtain ⟨a1, rfl, rfl, rfl, w1⟩ := open_int Try.underlying3 (hval 1 _ v1 rfl rfl) h1
  obtain ⟨a2, rfl, rfl, rfl, w2⟩ := open_int Try.underlying3 (hval 2 _ v2 rfl rfl) h2
  obtain ⟨a3, rfl, rfl, rfl, w3⟩ := Go.ChangeMaps.open_string Try.underlying9 (hval 3 _ v3 rfl rfl) h3
  have w3' : a3.size ≤ 9223372036854775807 := by unfold maxLen at w3; omega
  obtain ⟨a4, rfl, rfl, rfl, w4⟩ := Go.ChangeMaps.open_string Try.underlying9 (hval 4 _ v4 rfl rfl) h4
  have w4' : a4.size ≤ 9223372036854775807 := by unfold maxLen at w4; omega
  clear hA0 hval0
  refine (walk A0 n0 c0 T0 a1 a2 a3 a4 W hT0   w3' w4').mono fun e W' ⟨he, bel⟩ => ?_
  subst he
  exact ⟨_, rfl, _, _, _, [], _, [], hW', trodAll_mk1 (shut_bool Try.underlying4 _), (trodAll_cons_mk (Below.trod laidOut (by kernel_rfl) (of_decide_eq_true (by kernel_rfl)) k0 bel lt0) (trodAll_cons_mk (Below.trod laidOut (by kernel_rfl) (of_decide_eq_true (by kernel_rfl)) k1 bel lt1) (trodAll_cons_mk (Below.trod laidOut (by kernel_rfl) (of_decide_eq_true (by kernel_rfl)) k2 bel lt2) (trodAll_cons_mk (Below.trod laidOut (by kernel_rfl) (of_decide_eq_true (by kernel_rfl)) k3 bel lt3) (trodAll_cons_mk (Below.trod laidOut (by kernel_rfl) (of_decide_eq_true (by kernel_rfl)) k4 bel lt4) trodAll_mk0))))), rfl, bel.frame _, fun h => by cases h⟩

theorem proved : Rows.LinkAttrsSaid :=
  OpenClaim.holds_of_wide 14 Try.f14 rfl rfl rfl rfl rfl rfl rfl ⟨rfl, rfl, rfl, rfl, rfl⟩ rfl rfl rfl rfl rfl (by kernel_rfl) Try.func14 (by kernel_rfl)
    (of_decide_eq_true (by kernel_rfl)) (by unfold Func.isWrapper; first | (rw [if_pos (by decide +kernel)]; kernel_rfl) | (rw [if_neg (by decide +kernel)]; exact ⟨rfl, rfl⟩))
    (fun os started H enc _ => lifted os started H enc)
#print axioms proved
end Go.Proofs.Ytfiiikbbiimdiaa.linkAttrs
