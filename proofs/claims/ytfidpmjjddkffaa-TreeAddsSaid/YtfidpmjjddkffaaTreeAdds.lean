/- For every valid tree and every small name, an added element is its own top, has no depth, and all others stay as they are. No condition. -/
import Derived.Test.YtfidpmjjddkffaaOpen
import Derived.Test.YtfidpmjjddkffaaAddLaw
import Derived.Test.YtfidpmjjddkffaaWl
import Derived.Deep.RegionHeld3
namespace Go.Proofs.Ytfidpmjjddkffaa.treeAdds
open Go.ChangeShapes Go.WideShapes Go.ChangeAt Go.RowKit

set_option maxRecDepth 100000 in
set_option maxHeartbeats 8000000 in
theorem walk (A : Option Addr) (n c : Nat) (T : List ANode) (tag : ByteArray) (i : Int) (w : World) (h : IsTree w A n T) (hs : tag.size ≤ 9223372036854775807) :
    Calls Try.prog 7 #[.agg #[.slice A n c], .string tag, .int .i64 i] w fun e w' => e = .returned (.bool true) ∧ Below w.heap.size w w' := by
  have hT := hide h
  have hl := h.1
  clear h
  have hB0 := below_alloc (Below.refl w.heap.size w) (.cells #[.slice A n c] 24)
  have hbox0 : (w.alloc (.cells #[.slice A n c] 24)).cell? ⟨w.heap.size, 0, none⟩ = some (.slice A n c) := by go_simp
  by_cases h0 : askI T [i] = 0
  · cases hnm : namedB tag
    · go_enter Try.func7, Try.ntmps7
      go_wp2_with fail
      refine (alive_ok _).mono ?_
      rintro e w1 ⟨rfl, hb1⟩
      have hbox1 := cell_later hb1 hbox0
      have hB1 := Below.on hB0 hb1
      go_wp2_with fail
      refine (rasked_ok _ _ _ T _ _ (hT.out.below hB1)).mono ?_
      rintro e w2 ⟨rfl, hb2⟩
      have hbox2 := cell_later hb2 hbox1
      have hB2 := Below.on hB1 hb2
      go_wp2_with (go_at_call 26; refine (rnamed_ok _ _ hs).mono ?_; rintro e w3 ⟨rfl, rfl⟩)
      go_ret
      exact ⟨rfl, hB2⟩
    · obtain ⟨hg, hir⟩ := askI_zero.1 h0
      have hir := hir i (by simp)
      obtain ⟨i, rfl⟩ := Int.eq_ofNat_of_zero_le hir.1
      have hi : i < n := by omega
      have hn70 : n ≤ 70 := by have := ((goodB_iff T).1 hg).2.1; omega
      have hn64 : n ≤ 64 := by have := ((goodB_iff T).1 hg).2.1; omega
      have hf := hide (good_fits hg)
      by_cases h64 : n = 64
      · have he : addE T tag = 18 := by simp [addE, hg, hnm, hl, h64]
        have h64' : ((n : Int) == 64) = true := by simp [h64]
        clear hg hir h64 
        go_enter Try.func7, Try.ntmps7
        go_wp2_with fail
        refine (alive_ok _).mono ?_
        rintro e w1 ⟨rfl, hb1⟩
        have hbox1 := cell_later hb1 hbox0
        have hB1 := Below.on hB0 hb1
        go_wp2_with fail
        refine (rasked_ok _ _ _ T _ _ (hT.out.below hB1)).mono ?_
        rintro e w2 ⟨rfl, hb2⟩
        have hbox2 := cell_later hb2 hbox1
        have hB2 := Below.on hB1 hb2
        go_wp2_with (first | (go_at_call 26; refine (rnamed_ok _ _ hs).mono ?_; rintro e w3 ⟨rfl, rfl⟩) | (go_at_call 13; refine (add_ok _ _ _ T tag _ (hT.out.below hB2) hn70 hf.out hs).mono ?_; rintro e w3 ⟨A3, c3, rfl, hO3, hT3, hb3⟩; have hbox3 := cell_later hb3 hbox2; have lb3 : w.heap.size < w3.heap.size := cell_in hbox3; clear hO3 hT3))
        go_ret
        exact ⟨rfl, below_alloc (Below.on hB2 hb3) _⟩
      · have hlt : T.length < 64 := by omega
        have he : addE T tag = 0 := by simp [addE, hg, hnm]; omega
        have hX : addT T tag = T ++ [rootT tag] := by simp [addT, he]
        have hm : addN T tag = n := by simp [addN, he, hl]
        have h64' : ((n : Int) == 64) = false := by simp; omega
        have hlen : (T ++ [rootT tag]).length = n + 1 := by simp [hl]
        have hgX := good_add (tag := tag) hg hlt hnm
        have c1 : chk (T ++ [rootT tag]) = 0 := chk_ok hgX
        have a1 : askI (T ++ [rootT tag]) [(n : Int)] = 0 := askI_ok hgX (by intro x hx; simp at hx; subst hx; rw [hlen]; omega)
        have a2 : askI (T ++ [rootT tag]) [(i : Int), (n : Int)] = 0 := askI_ok hgX (by intro x hx; simp at hx; rw [hlen]; rcases hx with rfl | rfl <;> omega)
        have a3 : askI (T ++ [rootT tag]) [(i : Int)] = 0 := askI_ok hgX (by intro x hx; simp at hx; subst hx; rw [hlen]; omega)
        have t1 : topE (T ++ [rootT tag]) (n : Int) = n := by have := topE_add_at (tag := tag) hg hlt hnm; rwa [hl] at this
        have t2 : depE (T ++ [rootT tag]) (n : Int) = 0 := by have := depE_add_at (tag := tag) hg hlt hnm; rwa [hl] at this
        have t3 : belE (T ++ [rootT tag]) (i : Int) (n : Int) = false := by have := belE_add_at (tag := tag) hg hlt hnm (i := i) (by omega); rwa [hl] at this
        have t4 : topE (T ++ [rootT tag]) (i : Int) = topE T i := topE_add hg hlt hnm (by omega)
        have hnat : Hid (nd (T ++ [rootT tag]) n = rootT tag) := by have := nd_app_at T (rootT tag); rwa [hl] at this
        have hlen' := hide hlen
        clear hg hir h64 hgX hlen hlt
        go_enter Try.func7, Try.ntmps7
        go_wp2_with fail
        refine (alive_ok _).mono ?_
        rintro e w1 ⟨rfl, hb1⟩
        have hbox1 := cell_later hb1 hbox0
        have hB1 := Below.on hB0 hb1
        go_wp2_with fail
        refine (rasked_ok _ _ _ T _ _ (hT.out.below hB1)).mono ?_
        rintro e w2 ⟨rfl, hb2⟩
        have hbox2 := cell_later hb2 hbox1
        have hB2 := Below.on hB1 hb2
        go_wp2_with (go_at_call 26; refine (rnamed_ok _ _ hs).mono ?_; rintro e w3 ⟨rfl, rfl⟩)
        refine (add_ok _ _ _ T tag _ (hT.out.below hB2) hn70 hf.out hs).mono ?_
        rintro e w3 ⟨A3, c3, rfl, hO3, hT3, hb3⟩
        have hcap0 : n + 1 ≤ c3 := by
          obtain ⟨_, _, _, _, hrow, -, -, -, -⟩ := hO3
          have hXl : (addT T tag).length = n + 1 := by rw [hX]; exact hlen'.out
          rw [hXl] at hrow
          rcases hrow.2 with ⟨_, h⟩ | ⟨g, cap, cur, hv, _, _, h, _⟩
          · omega
          · injection hv with _ _ e3; omega
        clear hO3
        have hle := hlen'.out
        rw [hX, hle] at hT3
        simp only [hX, hle, hm, he]
        clear hX hm he hle
        have hbox3 := cell_later hb3 hbox2
        have lb3 : w.heap.size < w3.heap.size := cell_in hbox3
        have hB3 := Below.on hB2 hb3
        have hTX := hide hT3
        obtain ⟨b, off, aA, cA, aC, cC, rfl, hbl, x0, x1, -, x3, -, -⟩ := hT3.2.2.2 (by omega)
        have x0 := x0 n (by omega)
        have x1 := x1 n (by omega)
        have x3 := x3 n (by omega)
        rw [kids] at x3
        rw [hnat.out] at x0 x1 x3
        have x1 : w3.cell? ⟨b, off + n * 4 + 1, none⟩ = some (.slice (aA n) 0 (aC n)) := x1
        have x3 : w3.cell? ⟨b, off + n * 4 + 3, none⟩ = some (.slice (cA n) 0 (cC n)) := x3
        have x0 : w3.cell? ⟨b, off + n * 4, none⟩ = some (.string tag) := x0
        generalize aA n = qa at x1
        generalize aC n = qb at x1
        generalize cA n = qc at x3
        generalize cC n = qd at x3
        clear hT3
        have hBX := below_alloc (Below.refl w3.heap.size w3) (.cells #[.slice (some ⟨b, off, none⟩) (n + 1) c3] 24)
        have y0 : (w3.alloc (.cells #[.slice (some ⟨b, off, none⟩) (n + 1) c3] 24)).cell? ⟨w3.heap.size, 0, none⟩ = some (.slice (some ⟨b, off, none⟩) (n + 1) c3) := by go_simp
        have z0 := cell_later hBX hbox3
        have hBT := Below.on hB3 hBX
        go_wp2_with fail
        have hW0 := hBX
        refine (rcheck_ok _ _ _ (T ++ [rootT tag]) _ (hTX.out.below hW0)).mono ?_
        rintro e u0 ⟨rfl, hu0⟩
        have y1 := cell_later hu0 y0
        have z1 := cell_later hu0 z0
        have hW1 := Below.on hW0 hu0
        go_wp2_with fail
        refine (top_ok _ _ _ (T ++ [rootT tag]) _ _ (hTX.out.below hW1)).mono ?_
        rintro e u1 ⟨rfl, hu1⟩
        have y2 := cell_later hu1 y1
        have z2 := cell_later hu1 z1
        have hW2 := Below.on hW1 hu1
        go_wp2_with fail
        refine (depth_ok _ _ _ (T ++ [rootT tag]) _ _ (hTX.out.below hW2)).mono ?_
        rintro e u2 ⟨rfl, hu2⟩
        have y3 := cell_later hu2 y2
        have z3 := cell_later hu2 z2
        have hW3 := Below.on hW2 hu2
        go_wp2_with fail
        refine (below_ok _ _ _ (T ++ [rootT tag]) _ _ _ (hTX.out.below hW3)).mono ?_
        rintro e u3 ⟨rfl, hu3⟩
        have y4 := cell_later hu3 y3
        have z4 := cell_later hu3 z3
        have hW4 := Below.on hW3 hu3
        go_wp2_with fail
        refine (top_ok _ _ _ T _ _ (hT.out.below (Below.on hB3 hW4))).mono ?_
        rintro e u4 ⟨rfl, hu4⟩
        have y5 := cell_later hu4 y4
        have z5 := cell_later hu4 z4
        have hW5 := Below.on hW4 hu4
        go_wp2_with fail
        refine (top_ok _ _ _ (T ++ [rootT tag]) _ _ (hTX.out.below hW5)).mono ?_
        rintro e u5 ⟨rfl, hu5⟩
        have y6 := cell_later hu5 y5
        have z6 := cell_later hu5 z5
        have hW6 := Below.on hW5 hu5
        have p0 := cell_later hW6 x0
        have p1 := cell_later hW6 x1
        have p3 := cell_later hW6 x3
        have hXX := hide (hTX.out.below hW6)
        have hTT := hide (hT.out.below (Below.on hB3 hW6))
        have e1 : (tag == tag) = true := by rw [beq_toListBytes]; simp
        have hcap : Hid (n + 1 ≤ c3) := hcap0
        have k0 : (0 : Int) ≤ (n : Int) := by omega
        have k1 : (n : Int) ≤ (c3 : Int) := by omega
        have k2 : (n : Int) < ((n + 1 : Nat) : Int) := by omega
        have k3 : (n : Int) < (n : Int) + 1 := by omega
        have k4 : n ≤ c3 := by omega
        go_wp2
        simp only [List.append_eq, List.cons_append, List.nil_append]
        go_region_held3 (fun X => X.cell? ⟨w3.heap.size, 0, none⟩ = some (.slice (some ⟨b, off, none⟩) (n + 1) c3) ∧ X.cell? ⟨w.heap.size, 0, none⟩ = some (.slice A n c) ∧ X.cell? ⟨b, off + n * 4, none⟩ = some (.string tag) ∧ X.cell? ⟨b, off + n * 4 + 1, none⟩ = some (.slice qa 0 qb) ∧ X.cell? ⟨b, off + n * 4 + 3, none⟩ = some (.slice qc 0 qd)) (first | exact ⟨r0, r1, s0, s1, s3⟩ | exact ⟨y6, z6, p0, p1, p3⟩) (first | (go_at_call 15; refine (same_ok _ _ _ _ _ T _ ?_ ?_).mono ?_; (exact isTree_prefix hXX.out hl (by omega)); (exact hTT.out); rintro e v1 ⟨rfl, hv1⟩; have r0 := cell_later hv1 y6; have r1 := cell_later hv1 z6; have s0 := cell_later hv1 p0; have s1 := cell_later hv1 p1; have s3 := cell_later hv1 p3))
        all_goals
          go_wp2
          go_ret
          exact ⟨rfl, Below.on (Below.on hB3 hW6).drew hv1⟩
  · have hq : (askI T [i] != 0) = true := by simp [h0]
    clear h0
    go_enter Try.func7, Try.ntmps7
    go_wp2_with fail
    refine (alive_ok _).mono ?_
    rintro e w1 ⟨rfl, hb1⟩
    have hbox1 := cell_later hb1 hbox0
    have hB1 := Below.on hB0 hb1
    go_wp2_with fail
    refine (rasked_ok _ _ _ T _ _ (hT.out.below hB1)).mono ?_
    rintro e w2 ⟨rfl, hb2⟩
    have hbox2 := cell_later hb2 hbox1
    have hB2 := Below.on hB1 hb2
    go_wp2
    go_ret
    exact ⟨rfl, hB2⟩

set_option maxRecDepth 100000 in
theorem lifted (os : Os) (started : os.Started) (H : Type) (enc : TypeId × Value → H) :
    ReturnsInHanded {} Try.checked os 7 .any (Rows.treeAddsSpec.pre6 enc Try.prog Try.f7 Rows.treeAddsRow.domain false) (Rows.treeAddsSpec.post enc Try.prog Try.f7 false true false false) := by
  refine returnsInHanded_of_change (C := Try.checked) own started (by kernel_rfl) Try.func7
    (ChangeSpec.witness6 (enc := enc) (C := Try.checked) false ⟨#[], #[.agg #[.slice none 0 0], .string .empty, .int .i64 0], []⟩ 8 (by kernel_rfl) (by kernel_rfl) (by kernel_rfl) (by kernel_rfl)) ?_
  intro W base args ds gs before hval0 hW hcnd _
  have hval : ∀ (j : Nat) t v, Try.f7.params[j]? = some t → args[j]? = some v → Value.okWide Try.prog W .any base t v := hval0
  have hW' := hW
  obtain ⟨p, q, hA0, hV, rfl, hfz, hnd⟩ := hW
  have hA : DataW.TrodAll enc Try.prog W 0 (fun _ => true) true Try.f7.params.toList args.toList ds p := hA0
  rw [Try.params7] at hA hval
  obtain ⟨v0, vs0, d0, ds0, p0, q0, hargs, rfl, rfl, h0, r0⟩ := trodAll_cons hA
  obtain ⟨v1, vs1, d1, ds1, p1, q1, rfl, rfl, rfl, h1, r1⟩ := trodAll_cons r0
  obtain ⟨v2, vs2, d2, ds2, p2, q2, rfl, rfl, rfl, h2, r2⟩ := trodAll_cons r1
  obtain ⟨rfl, rfl, rfl⟩ := trodAll_nil r2
  obtain rfl : args = #[v0, v1, v2] := by cases args; simp_all
  obtain ⟨rfl, rfl⟩ := trodVars_none hV
  have lt0 : ∀ x ∈ p0, x.block < W.heap.size := by obtain ⟨m, hm⟩ := h0; exact DataW.trod_lt m _ _ _ hm
  have k0 := h0
  obtain ⟨A0, n0, c0, T0, rfl, hT0⟩ := tree_open (hval 0 _ v0 rfl rfl) h0
  obtain ⟨a1, rfl, rfl, rfl, w1⟩ := Go.ChangeMaps.open_string Try.underlying9 (hval 1 _ v1 rfl rfl) h1
  have w1' : a1.size ≤ 9223372036854775807 := by unfold maxLen at w1; omega
  obtain ⟨a2, rfl, rfl, rfl, w2⟩ := open_int Try.underlying3 (hval 2 _ v2 rfl rfl) h2
  clear hA0 hval0
  refine (walk A0 n0 c0 T0 a1 a2 W hT0 w1').mono fun e W' ⟨he, bel⟩ => ?_
  subst he
  exact ⟨_, rfl, _, _, _, [], _, [], hW', trodAll_mk1 (shut_bool Try.underlying4 _), (trodAll_cons_mk (Below.trod laidOut (by kernel_rfl) (of_decide_eq_true (by kernel_rfl)) k0 bel lt0) (trodAll_cons_mk (Go.ChangeMaps.shut_string Try.underlying9 w1) (trodAll_cons_mk (shut_int Try.underlying3 w2) trodAll_mk0))), rfl, bel.frame _, fun h => by cases h⟩

theorem proved : Rows.TreeAddsSaid :=
  OpenClaim.holds_of_wide 7 Try.f7 rfl rfl rfl rfl rfl rfl rfl ⟨rfl, rfl, rfl, rfl, rfl⟩ rfl rfl rfl rfl rfl (by kernel_rfl) Try.func7 (by kernel_rfl)
    (of_decide_eq_true (by kernel_rfl)) (by unfold Func.isWrapper; first | (rw [if_pos (by decide +kernel)]; kernel_rfl) | (rw [if_neg (by decide +kernel)]; exact ⟨rfl, rfl⟩))
    (fun os started H enc _ => lifted os started H enc)
#print axioms proved
end Go.Proofs.Ytfidpmjjddkffaa.treeAdds
