/- For every tree and all numbers: an element that is taken out is cut off, with what is below it, from the links above it, and no other relevant link changes; for a valid tree. No condition. -/
import Derived.Test.YtfiiikbbiimdiaaOpen
import Derived.Test.YtfiiikbbiimdiaaPlt
import Derived.Test.YtfiiikbbiimdiaaEx17
namespace Go.Proofs.Ytfiiikbbiimdiaa.linkTaken
open Go.ChangeShapes Go.WideShapes Go.ChangeAt Go.RowKit

structure Said (T X : List ANode) (k m n : Nat) : Prop where
  tk : takeE T k = 0
  tree : takeT T k = X
  len : X.length = n
  ask : askI X [(m : Int)] = 0
  near : nearF X m = if (k : Int) ∈ anc T m then (if 0 ≤ nearF T m ∧ (k : Int) ∈ anc T (nearF T m) then nearF T m else -1) else nearF T m

theorem said_of {T : List ANode} {k m n : Nat} (hg : goodB T = true) (hk : k < T.length) (hm : m < T.length) (hl : T.length = n) (h0 : takeE T k = 0) : ∃ X, Said T X k m n := by
  refine ⟨takenT T k, h0, by unfold takeT; rw [if_pos h0, Int.toNat_natCast], by rw [takenT_len]; exact hl, askI_ok (good_taken hg hk) (by rw [takenT_len]; simp; omega), near_taken hg hk hm⟩
theorem near_range {T : List ANode} (hg : goodB T = true) {m : Nat} (hm : m < T.length) : nearF T m = -1 ∨ ∃ q : Nat, nearF T m = q ∧ q < T.length := by
  rcases Int.lt_or_le (nearF T m) 0 with h | h
  · left
    unfold nearF at h ⊢
    cases hf : (anc T m).find? fun y => lkB T y.toNat with
    | none => rfl
    | some y => rw [hf] at h; have := (anc_mem hg (x := (m : Int)) (by omega) (List.mem_of_find?_eq_some hf)).1; have h : y < 0 := h; omega
  · have := anc_mem hg (x := (m : Int)) (by omega) (near_mem h)
    exact .inr ⟨(nearF T m).toNat, by omega, by omega⟩
theorem bel_anc {T : List ANode} (hg : goodB T = true) {m k : Nat} (hm : m < T.length) (hk : k < T.length) : belE T m k = decide ((k : Int) ∈ anc T (par T m)) ∧ askI T [(m : Int), (k : Int)] = 0 ∧ ((k : Int) ∈ anc T m ↔ belE T m k = true ∨ m = k) := by
  have h0 : askI T [(m : Int), (k : Int)] = 0 := askI_ok hg (by simp; omega)
  have h1 : belE T m k = decide ((k : Int) ∈ anc T (par T m)) := by simp [belE, h0]
  refine ⟨h1, h0, ?_⟩
  rw [h1, decide_eq_true_eq, anc_cons hg hm, List.mem_cons]
  constructor
  · rintro (h | h)
    · exact .inr (by omega)
    · exact .inl h
  · rintro (h | h)
    · exact .inr h
    · exact .inl (by omega)

set_option maxRecDepth 100000 in
set_option maxHeartbeats 4000000 in
theorem walk (A : Option Addr) (n c : Nat) (T : List ANode) (i j : Int) (w : World) (h : IsTree w A n T) :
    Calls Try.prog 8 #[.agg #[.slice A n c], .int .i64 i, .int .i64 j] w fun e w' => e = .returned (.bool true) ∧ Below w.heap.size w w' := by
  have hT := hide h
  have hl := h.1
  clear h
  have hB0 := below_alloc (Below.refl w.heap.size w) (.cells #[.slice A n c] 24)
  have hbox0 : (w.alloc (.cells #[.slice A n c] 24)).cell? ⟨w.heap.size, 0, none⟩ = some (.slice A n c) := by go_simp
  by_cases h0 : askI T [i] = 0
  · have hq0 : (askI T [i] != 0) = false := by simp [h0]
    by_cases h1 : askI T [j] = 0
    · have hq1 : (askI T [j] != 0) = false := by simp [h1]
      obtain ⟨hg, hir⟩ := askI_zero.1 h0
      have hir := hir i (by simp)
      have hjr := (askI_zero.1 h1).2 j (by simp)
      obtain ⟨k, rfl⟩ := Int.eq_ofNat_of_zero_le hir.1
      obtain ⟨m, rfl⟩ := Int.eq_ofNat_of_zero_le hjr.1
      have hkT : k < T.length := by omega
      have hmT : m < T.length := by omega
      by_cases hz : takeE T k = 0
      · obtain ⟨X, G⟩ := said_of (n := n) hg hkT hmT hl.symm.symm hz
        have h1' := hide h1
        have htk := hide G.tk
        have htr := hide G.tree
        have hln := hide G.len
        have ha2 := hide G.ask
        obtain ⟨-, hab0, hbi⟩ := bel_anc hg hmT hkT
        have hab := hide hab0
        have hN := G.near
        have hn1 : Hid (nearE X m = nearF X m) := by show _ = _; unfold nearE; rw [if_pos G.ask]
        have hn0 : Hid (nearE T m = nearF T m) := by show _ = _; unfold nearE; rw [if_pos h1]
        obtain ⟨bl, hble⟩ : ∃ r, belE T m k = r := ⟨_, rfl⟩
        have hbl := hide hble
        rw [hble] at hbi
        simp only [hbi] at hN
        have hr := near_range hg hmT
        generalize nearF T m = x0 at hn0 hN hr
        generalize nearF X m = y1 at hn1 hN
        rcases hr with rfl | ⟨q, rfl, hq⟩
        · have hy : y1 = -1 := by
            rw [hN]; split
            · rw [if_neg (by omega)]
            · rfl
          subst hy
          clear hN hbi hble hab0 G hz h0 h1 hg hir hjr
          cases bl
          · by_cases hmk : m = k
            · have hmk' : ((m : Int) == (k : Int)) = true := by simp [hmk]
              clear hmk
              go_enter Try.func8, Try.ntmps8
              go_wp2_with fail
              refine (alive17_ok _).mono ?_
              rintro e w1 ⟨rfl, hb1⟩
              have hbox1 := cell_later hb1 hbox0
              have hB1 := Below.on hB0 hb1
              go_wp2_with fail
              refine (rasked_ok _ _ _ T _ _ (hT.out.below hB1)).mono ?_
              rintro e w2 ⟨rfl, hb2⟩
              have hbox2 := cell_later hb2 hbox1
              have hB2 := Below.on hB1 hb2
              go_wp2_with fail
              refine (rasked_ok _ _ _ T _ _ (hT.out.below hB2)).mono ?_
              rintro e w3 ⟨rfl, hb3⟩
              have hbox3 := cell_later hb3 hbox2
              have hB3 := Below.on hB2 hb3
              go_wp2_with fail
              have hx := take_ok _ _ c T k _ (hT.out.below hB3)
              rw [htk.out, htr.out] at hx
              refine hx.mono ?_
              clear hx
              rintro e w4 ⟨A4, c4, rfl, -, hX, hb4⟩
              rw [hln.out] at hX ⊢
              have hbox4 := cell_later (below_alloc hb4 (.cells #[.slice A4 n c4] 24)) hbox3
              have hB4 := below_alloc (Below.on hB3 hb4) (.cells #[.slice A4 n c4] 24)
              have hX' := hide (hX.below (below_alloc (Below.refl _ _) (.cells #[.slice A4 n c4] 24)))
              have hy4 : (w4.alloc (.cells #[.slice A4 n c4] 24)).cell? ⟨w4.heap.size, 0, none⟩ = some (.slice A4 n c4) := by clear hbox4; go_simp
              clear hX
              go_wp2_with fail
              have hx := linkRel_ok _ _ c T m _ (hT.out.below hB4)
              rw [hn0.out, h1'.out] at hx
              refine hx.mono ?_
              clear hx
              rintro e w5 ⟨rfl, hb5⟩
              have hbox5 := cell_later hb5 hbox4
              have hy5 := cell_later hb5 hy4
              have hB5 := Below.on hB4 hb5
              have hX5 := hide (hX'.out.below hb5)
              go_wp2_with fail
              have hx := linkRel_ok _ _ c4 X m _ hX5.out
              rw [hn1.out, ha2.out] at hx
              refine hx.mono ?_
              clear hx
              rintro e w6 ⟨rfl, hb6⟩
              have hbox6 := cell_later hb6 hbox5
              have hB6 := Below.on hB5 hb6
              go_wp2_with fail
              have hx := below_ok _ _ c T m k _ (hT.out.below hB6)
              rw [hbl.out, hab.out] at hx
              refine hx.mono ?_
              clear hx
              rintro e w7 ⟨rfl, hb7⟩
              have hbox7 := cell_later hb7 hbox6
              have hB7 := Below.on hB6 hb7
              clear hbox0 hB0 hb1 hbox1 hB1 hb2 hbox2 hB2 hb3 hbox3 hB3 hb4 hbox4 hB4 hb5 hbox5 hB5 hb6 hbox6 hB6 hy4 hX' hy5 hX5 hb7
              go_wp2
              go_ret
              exact ⟨rfl, hB7⟩
            · have hmk' : ((m : Int) == (k : Int)) = false := by simp; omega
              clear hmk
              go_enter Try.func8, Try.ntmps8
              go_wp2_with fail
              refine (alive17_ok _).mono ?_
              rintro e w1 ⟨rfl, hb1⟩
              have hbox1 := cell_later hb1 hbox0
              have hB1 := Below.on hB0 hb1
              go_wp2_with fail
              refine (rasked_ok _ _ _ T _ _ (hT.out.below hB1)).mono ?_
              rintro e w2 ⟨rfl, hb2⟩
              have hbox2 := cell_later hb2 hbox1
              have hB2 := Below.on hB1 hb2
              go_wp2_with fail
              refine (rasked_ok _ _ _ T _ _ (hT.out.below hB2)).mono ?_
              rintro e w3 ⟨rfl, hb3⟩
              have hbox3 := cell_later hb3 hbox2
              have hB3 := Below.on hB2 hb3
              go_wp2_with fail
              have hx := take_ok _ _ c T k _ (hT.out.below hB3)
              rw [htk.out, htr.out] at hx
              refine hx.mono ?_
              clear hx
              rintro e w4 ⟨A4, c4, rfl, -, hX, hb4⟩
              rw [hln.out] at hX ⊢
              have hbox4 := cell_later (below_alloc hb4 (.cells #[.slice A4 n c4] 24)) hbox3
              have hB4 := below_alloc (Below.on hB3 hb4) (.cells #[.slice A4 n c4] 24)
              have hX' := hide (hX.below (below_alloc (Below.refl _ _) (.cells #[.slice A4 n c4] 24)))
              have hy4 : (w4.alloc (.cells #[.slice A4 n c4] 24)).cell? ⟨w4.heap.size, 0, none⟩ = some (.slice A4 n c4) := by clear hbox4; go_simp
              clear hX
              go_wp2_with fail
              have hx := linkRel_ok _ _ c T m _ (hT.out.below hB4)
              rw [hn0.out, h1'.out] at hx
              refine hx.mono ?_
              clear hx
              rintro e w5 ⟨rfl, hb5⟩
              have hbox5 := cell_later hb5 hbox4
              have hy5 := cell_later hb5 hy4
              have hB5 := Below.on hB4 hb5
              have hX5 := hide (hX'.out.below hb5)
              go_wp2_with fail
              have hx := linkRel_ok _ _ c4 X m _ hX5.out
              rw [hn1.out, ha2.out] at hx
              refine hx.mono ?_
              clear hx
              rintro e w6 ⟨rfl, hb6⟩
              have hbox6 := cell_later hb6 hbox5
              have hB6 := Below.on hB5 hb6
              go_wp2_with fail
              have hx := below_ok _ _ c T m k _ (hT.out.below hB6)
              rw [hbl.out, hab.out] at hx
              refine hx.mono ?_
              clear hx
              rintro e w7 ⟨rfl, hb7⟩
              have hbox7 := cell_later hb7 hbox6
              have hB7 := Below.on hB6 hb7
              clear hbox0 hB0 hb1 hbox1 hB1 hb2 hbox2 hB2 hb3 hbox3 hB3 hb4 hbox4 hB4 hb5 hbox5 hB5 hb6 hbox6 hB6 hy4 hX' hy5 hX5 hb7
              go_wp2
              go_ret
              exact ⟨rfl, hB7⟩
          · go_enter Try.func8, Try.ntmps8
            go_wp2_with fail
            refine (alive17_ok _).mono ?_
            rintro e w1 ⟨rfl, hb1⟩
            have hbox1 := cell_later hb1 hbox0
            have hB1 := Below.on hB0 hb1
            go_wp2_with fail
            refine (rasked_ok _ _ _ T _ _ (hT.out.below hB1)).mono ?_
            rintro e w2 ⟨rfl, hb2⟩
            have hbox2 := cell_later hb2 hbox1
            have hB2 := Below.on hB1 hb2
            go_wp2_with fail
            refine (rasked_ok _ _ _ T _ _ (hT.out.below hB2)).mono ?_
            rintro e w3 ⟨rfl, hb3⟩
            have hbox3 := cell_later hb3 hbox2
            have hB3 := Below.on hB2 hb3
            go_wp2_with fail
            have hx := take_ok _ _ c T k _ (hT.out.below hB3)
            rw [htk.out, htr.out] at hx
            refine hx.mono ?_
            clear hx
            rintro e w4 ⟨A4, c4, rfl, -, hX, hb4⟩
            rw [hln.out] at hX ⊢
            have hbox4 := cell_later (below_alloc hb4 (.cells #[.slice A4 n c4] 24)) hbox3
            have hB4 := below_alloc (Below.on hB3 hb4) (.cells #[.slice A4 n c4] 24)
            have hX' := hide (hX.below (below_alloc (Below.refl _ _) (.cells #[.slice A4 n c4] 24)))
            have hy4 : (w4.alloc (.cells #[.slice A4 n c4] 24)).cell? ⟨w4.heap.size, 0, none⟩ = some (.slice A4 n c4) := by clear hbox4; go_simp
            clear hX
            go_wp2_with fail
            have hx := linkRel_ok _ _ c T m _ (hT.out.below hB4)
            rw [hn0.out, h1'.out] at hx
            refine hx.mono ?_
            clear hx
            rintro e w5 ⟨rfl, hb5⟩
            have hbox5 := cell_later hb5 hbox4
            have hy5 := cell_later hb5 hy4
            have hB5 := Below.on hB4 hb5
            have hX5 := hide (hX'.out.below hb5)
            go_wp2_with fail
            have hx := linkRel_ok _ _ c4 X m _ hX5.out
            rw [hn1.out, ha2.out] at hx
            refine hx.mono ?_
            clear hx
            rintro e w6 ⟨rfl, hb6⟩
            have hbox6 := cell_later hb6 hbox5
            have hB6 := Below.on hB5 hb6
            go_wp2_with fail
            have hx := below_ok _ _ c T m k _ (hT.out.below hB6)
            rw [hbl.out, hab.out] at hx
            refine hx.mono ?_
            clear hx
            rintro e w7 ⟨rfl, hb7⟩
            have hbox7 := cell_later hb7 hbox6
            have hB7 := Below.on hB6 hb7
            clear hbox0 hB0 hb1 hbox1 hB1 hb2 hbox2 hB2 hb3 hbox3 hB3 hb4 hbox4 hB4 hb5 hbox5 hB5 hb6 hbox6 hB6 hy4 hX' hy5 hX5 hb7
            go_wp2
            go_ret
            exact ⟨rfl, hB7⟩
        · have hqn : q < n := by omega
          by_cases hB : bl = true ∨ m = k
          · rw [if_pos hB] at hN
            obtain ⟨-, haq0, hqi⟩ := bel_anc hg hq hkT
            have haq := hide haq0
            obtain ⟨bq, hbqe⟩ : ∃ r, belE T q k = r := ⟨_, rfl⟩
            have hbq := hide hbqe
            rw [hbqe] at hqi
            simp only [hqi] at hN
            have hqk : (((q : Int) == (k : Int)) = true ∧ q = k) ∨ (((q : Int) == (k : Int)) = false ∧ q ≠ k) := by
              by_cases h : q = k
              · exact .inl ⟨by simp [h], h⟩
              · exact .inr ⟨by simp; omega, h⟩
            have hmk : bl = true ∨ (bl = false ∧ ((m : Int) == (k : Int)) = true) := by
              cases bl
              · have h : m = k := by simpa using hB
                exact .inr ⟨rfl, by simp [h]⟩
              · exact .inl rfl
            clear hbi hble hab0 G hz h0 h1 hg hir hjr haq0 hbqe hqi hB
            cases bq
            · rcases hqk with ⟨hqk, he⟩ | ⟨hqk, he⟩
              · rw [if_pos ⟨by omega, .inr he⟩] at hN
                subst hN
                clear he
                rcases hmk with rfl | ⟨rfl, hmk⟩
                · go_enter Try.func8, Try.ntmps8
                  go_wp2_with fail
                  refine (alive17_ok _).mono ?_
                  rintro e w1 ⟨rfl, hb1⟩
                  have hbox1 := cell_later hb1 hbox0
                  have hB1 := Below.on hB0 hb1
                  go_wp2_with fail
                  refine (rasked_ok _ _ _ T _ _ (hT.out.below hB1)).mono ?_
                  rintro e w2 ⟨rfl, hb2⟩
                  have hbox2 := cell_later hb2 hbox1
                  have hB2 := Below.on hB1 hb2
                  go_wp2_with fail
                  refine (rasked_ok _ _ _ T _ _ (hT.out.below hB2)).mono ?_
                  rintro e w3 ⟨rfl, hb3⟩
                  have hbox3 := cell_later hb3 hbox2
                  have hB3 := Below.on hB2 hb3
                  go_wp2_with fail
                  have hx := take_ok _ _ c T k _ (hT.out.below hB3)
                  rw [htk.out, htr.out] at hx
                  refine hx.mono ?_
                  clear hx
                  rintro e w4 ⟨A4, c4, rfl, -, hX, hb4⟩
                  rw [hln.out] at hX ⊢
                  have hbox4 := cell_later (below_alloc hb4 (.cells #[.slice A4 n c4] 24)) hbox3
                  have hB4 := below_alloc (Below.on hB3 hb4) (.cells #[.slice A4 n c4] 24)
                  have hX' := hide (hX.below (below_alloc (Below.refl _ _) (.cells #[.slice A4 n c4] 24)))
                  have hy4 : (w4.alloc (.cells #[.slice A4 n c4] 24)).cell? ⟨w4.heap.size, 0, none⟩ = some (.slice A4 n c4) := by clear hbox4; go_simp
                  clear hX
                  go_wp2_with fail
                  have hx := linkRel_ok _ _ c T m _ (hT.out.below hB4)
                  rw [hn0.out, h1'.out] at hx
                  refine hx.mono ?_
                  clear hx
                  rintro e w5 ⟨rfl, hb5⟩
                  have hbox5 := cell_later hb5 hbox4
                  have hy5 := cell_later hb5 hy4
                  have hB5 := Below.on hB4 hb5
                  have hX5 := hide (hX'.out.below hb5)
                  go_wp2_with fail
                  have hx := linkRel_ok _ _ c4 X m _ hX5.out
                  rw [hn1.out, ha2.out] at hx
                  refine hx.mono ?_
                  clear hx
                  rintro e w6 ⟨rfl, hb6⟩
                  have hbox6 := cell_later hb6 hbox5
                  have hB6 := Below.on hB5 hb6
                  go_wp2_with fail
                  have hx := below_ok _ _ c T m k _ (hT.out.below hB6)
                  rw [hbl.out, hab.out] at hx
                  refine hx.mono ?_
                  clear hx
                  rintro e w7 ⟨rfl, hb7⟩
                  have hbox7 := cell_later hb7 hbox6
                  have hB7 := Below.on hB6 hb7
                  clear hbox0 hB0 hb1 hbox1 hB1 hb2 hbox2 hB2 hb3 hbox3 hB3 hb4 hbox4 hB4 hb5 hbox5 hB5 hb6 hbox6 hB6 hy4 hX' hy5 hX5 hb7
                  go_wp2_with fail
                  have hx := below_ok _ _ c T q k _ (hT.out.below hB7)
                  rw [hbq.out, haq.out] at hx
                  refine hx.mono ?_
                  clear hx
                  rintro e w8 ⟨rfl, hb8⟩
                  have hbox8 := cell_later hb8 hbox7
                  have hB8 := Below.on hB7 hb8
                  clear hbox7 hB7 hb8
                  go_wp2
                  go_ret
                  exact ⟨rfl, hB8⟩
                · go_enter Try.func8, Try.ntmps8
                  go_wp2_with fail
                  refine (alive17_ok _).mono ?_
                  rintro e w1 ⟨rfl, hb1⟩
                  have hbox1 := cell_later hb1 hbox0
                  have hB1 := Below.on hB0 hb1
                  go_wp2_with fail
                  refine (rasked_ok _ _ _ T _ _ (hT.out.below hB1)).mono ?_
                  rintro e w2 ⟨rfl, hb2⟩
                  have hbox2 := cell_later hb2 hbox1
                  have hB2 := Below.on hB1 hb2
                  go_wp2_with fail
                  refine (rasked_ok _ _ _ T _ _ (hT.out.below hB2)).mono ?_
                  rintro e w3 ⟨rfl, hb3⟩
                  have hbox3 := cell_later hb3 hbox2
                  have hB3 := Below.on hB2 hb3
                  go_wp2_with fail
                  have hx := take_ok _ _ c T k _ (hT.out.below hB3)
                  rw [htk.out, htr.out] at hx
                  refine hx.mono ?_
                  clear hx
                  rintro e w4 ⟨A4, c4, rfl, -, hX, hb4⟩
                  rw [hln.out] at hX ⊢
                  have hbox4 := cell_later (below_alloc hb4 (.cells #[.slice A4 n c4] 24)) hbox3
                  have hB4 := below_alloc (Below.on hB3 hb4) (.cells #[.slice A4 n c4] 24)
                  have hX' := hide (hX.below (below_alloc (Below.refl _ _) (.cells #[.slice A4 n c4] 24)))
                  have hy4 : (w4.alloc (.cells #[.slice A4 n c4] 24)).cell? ⟨w4.heap.size, 0, none⟩ = some (.slice A4 n c4) := by clear hbox4; go_simp
                  clear hX
                  go_wp2_with fail
                  have hx := linkRel_ok _ _ c T m _ (hT.out.below hB4)
                  rw [hn0.out, h1'.out] at hx
                  refine hx.mono ?_
                  clear hx
                  rintro e w5 ⟨rfl, hb5⟩
                  have hbox5 := cell_later hb5 hbox4
                  have hy5 := cell_later hb5 hy4
                  have hB5 := Below.on hB4 hb5
                  have hX5 := hide (hX'.out.below hb5)
                  go_wp2_with fail
                  have hx := linkRel_ok _ _ c4 X m _ hX5.out
                  rw [hn1.out, ha2.out] at hx
                  refine hx.mono ?_
                  clear hx
                  rintro e w6 ⟨rfl, hb6⟩
                  have hbox6 := cell_later hb6 hbox5
                  have hB6 := Below.on hB5 hb6
                  go_wp2_with fail
                  have hx := below_ok _ _ c T m k _ (hT.out.below hB6)
                  rw [hbl.out, hab.out] at hx
                  refine hx.mono ?_
                  clear hx
                  rintro e w7 ⟨rfl, hb7⟩
                  have hbox7 := cell_later hb7 hbox6
                  have hB7 := Below.on hB6 hb7
                  clear hbox0 hB0 hb1 hbox1 hB1 hb2 hbox2 hB2 hb3 hbox3 hB3 hb4 hbox4 hB4 hb5 hbox5 hB5 hb6 hbox6 hB6 hy4 hX' hy5 hX5 hb7
                  go_wp2_with fail
                  have hx := below_ok _ _ c T q k _ (hT.out.below hB7)
                  rw [hbq.out, haq.out] at hx
                  refine hx.mono ?_
                  clear hx
                  rintro e w8 ⟨rfl, hb8⟩
                  have hbox8 := cell_later hb8 hbox7
                  have hB8 := Below.on hB7 hb8
                  clear hbox7 hB7 hb8
                  go_wp2
                  go_ret
                  exact ⟨rfl, hB8⟩
              · rw [if_neg (fun h => h.2.elim (fun h => Bool.noConfusion h) he)] at hN
                subst hN
                clear he
                rcases hmk with rfl | ⟨rfl, hmk⟩
                · go_enter Try.func8, Try.ntmps8
                  go_wp2_with fail
                  refine (alive17_ok _).mono ?_
                  rintro e w1 ⟨rfl, hb1⟩
                  have hbox1 := cell_later hb1 hbox0
                  have hB1 := Below.on hB0 hb1
                  go_wp2_with fail
                  refine (rasked_ok _ _ _ T _ _ (hT.out.below hB1)).mono ?_
                  rintro e w2 ⟨rfl, hb2⟩
                  have hbox2 := cell_later hb2 hbox1
                  have hB2 := Below.on hB1 hb2
                  go_wp2_with fail
                  refine (rasked_ok _ _ _ T _ _ (hT.out.below hB2)).mono ?_
                  rintro e w3 ⟨rfl, hb3⟩
                  have hbox3 := cell_later hb3 hbox2
                  have hB3 := Below.on hB2 hb3
                  go_wp2_with fail
                  have hx := take_ok _ _ c T k _ (hT.out.below hB3)
                  rw [htk.out, htr.out] at hx
                  refine hx.mono ?_
                  clear hx
                  rintro e w4 ⟨A4, c4, rfl, -, hX, hb4⟩
                  rw [hln.out] at hX ⊢
                  have hbox4 := cell_later (below_alloc hb4 (.cells #[.slice A4 n c4] 24)) hbox3
                  have hB4 := below_alloc (Below.on hB3 hb4) (.cells #[.slice A4 n c4] 24)
                  have hX' := hide (hX.below (below_alloc (Below.refl _ _) (.cells #[.slice A4 n c4] 24)))
                  have hy4 : (w4.alloc (.cells #[.slice A4 n c4] 24)).cell? ⟨w4.heap.size, 0, none⟩ = some (.slice A4 n c4) := by clear hbox4; go_simp
                  clear hX
                  go_wp2_with fail
                  have hx := linkRel_ok _ _ c T m _ (hT.out.below hB4)
                  rw [hn0.out, h1'.out] at hx
                  refine hx.mono ?_
                  clear hx
                  rintro e w5 ⟨rfl, hb5⟩
                  have hbox5 := cell_later hb5 hbox4
                  have hy5 := cell_later hb5 hy4
                  have hB5 := Below.on hB4 hb5
                  have hX5 := hide (hX'.out.below hb5)
                  go_wp2_with fail
                  have hx := linkRel_ok _ _ c4 X m _ hX5.out
                  rw [hn1.out, ha2.out] at hx
                  refine hx.mono ?_
                  clear hx
                  rintro e w6 ⟨rfl, hb6⟩
                  have hbox6 := cell_later hb6 hbox5
                  have hB6 := Below.on hB5 hb6
                  go_wp2_with fail
                  have hx := below_ok _ _ c T m k _ (hT.out.below hB6)
                  rw [hbl.out, hab.out] at hx
                  refine hx.mono ?_
                  clear hx
                  rintro e w7 ⟨rfl, hb7⟩
                  have hbox7 := cell_later hb7 hbox6
                  have hB7 := Below.on hB6 hb7
                  clear hbox0 hB0 hb1 hbox1 hB1 hb2 hbox2 hB2 hb3 hbox3 hB3 hb4 hbox4 hB4 hb5 hbox5 hB5 hb6 hbox6 hB6 hy4 hX' hy5 hX5 hb7
                  go_wp2_with fail
                  have hx := below_ok _ _ c T q k _ (hT.out.below hB7)
                  rw [hbq.out, haq.out] at hx
                  refine hx.mono ?_
                  clear hx
                  rintro e w8 ⟨rfl, hb8⟩
                  have hbox8 := cell_later hb8 hbox7
                  have hB8 := Below.on hB7 hb8
                  clear hbox7 hB7 hb8
                  go_wp2
                  go_ret
                  exact ⟨rfl, hB8⟩
                · go_enter Try.func8, Try.ntmps8
                  go_wp2_with fail
                  refine (alive17_ok _).mono ?_
                  rintro e w1 ⟨rfl, hb1⟩
                  have hbox1 := cell_later hb1 hbox0
                  have hB1 := Below.on hB0 hb1
                  go_wp2_with fail
                  refine (rasked_ok _ _ _ T _ _ (hT.out.below hB1)).mono ?_
                  rintro e w2 ⟨rfl, hb2⟩
                  have hbox2 := cell_later hb2 hbox1
                  have hB2 := Below.on hB1 hb2
                  go_wp2_with fail
                  refine (rasked_ok _ _ _ T _ _ (hT.out.below hB2)).mono ?_
                  rintro e w3 ⟨rfl, hb3⟩
                  have hbox3 := cell_later hb3 hbox2
                  have hB3 := Below.on hB2 hb3
                  go_wp2_with fail
                  have hx := take_ok _ _ c T k _ (hT.out.below hB3)
                  rw [htk.out, htr.out] at hx
                  refine hx.mono ?_
                  clear hx
                  rintro e w4 ⟨A4, c4, rfl, -, hX, hb4⟩
                  rw [hln.out] at hX ⊢
                  have hbox4 := cell_later (below_alloc hb4 (.cells #[.slice A4 n c4] 24)) hbox3
                  have hB4 := below_alloc (Below.on hB3 hb4) (.cells #[.slice A4 n c4] 24)
                  have hX' := hide (hX.below (below_alloc (Below.refl _ _) (.cells #[.slice A4 n c4] 24)))
                  have hy4 : (w4.alloc (.cells #[.slice A4 n c4] 24)).cell? ⟨w4.heap.size, 0, none⟩ = some (.slice A4 n c4) := by clear hbox4; go_simp
                  clear hX
                  go_wp2_with fail
                  have hx := linkRel_ok _ _ c T m _ (hT.out.below hB4)
                  rw [hn0.out, h1'.out] at hx
                  refine hx.mono ?_
                  clear hx
                  rintro e w5 ⟨rfl, hb5⟩
                  have hbox5 := cell_later hb5 hbox4
                  have hy5 := cell_later hb5 hy4
                  have hB5 := Below.on hB4 hb5
                  have hX5 := hide (hX'.out.below hb5)
                  go_wp2_with fail
                  have hx := linkRel_ok _ _ c4 X m _ hX5.out
                  rw [hn1.out, ha2.out] at hx
                  refine hx.mono ?_
                  clear hx
                  rintro e w6 ⟨rfl, hb6⟩
                  have hbox6 := cell_later hb6 hbox5
                  have hB6 := Below.on hB5 hb6
                  go_wp2_with fail
                  have hx := below_ok _ _ c T m k _ (hT.out.below hB6)
                  rw [hbl.out, hab.out] at hx
                  refine hx.mono ?_
                  clear hx
                  rintro e w7 ⟨rfl, hb7⟩
                  have hbox7 := cell_later hb7 hbox6
                  have hB7 := Below.on hB6 hb7
                  clear hbox0 hB0 hb1 hbox1 hB1 hb2 hbox2 hB2 hb3 hbox3 hB3 hb4 hbox4 hB4 hb5 hbox5 hB5 hb6 hbox6 hB6 hy4 hX' hy5 hX5 hb7
                  go_wp2_with fail
                  have hx := below_ok _ _ c T q k _ (hT.out.below hB7)
                  rw [hbq.out, haq.out] at hx
                  refine hx.mono ?_
                  clear hx
                  rintro e w8 ⟨rfl, hb8⟩
                  have hbox8 := cell_later hb8 hbox7
                  have hB8 := Below.on hB7 hb8
                  clear hbox7 hB7 hb8
                  go_wp2
                  go_ret
                  exact ⟨rfl, hB8⟩
            · rw [if_pos ⟨by omega, .inl rfl⟩] at hN
              subst hN
              clear hqk
              rcases hmk with rfl | ⟨rfl, hmk⟩
              · go_enter Try.func8, Try.ntmps8
                go_wp2_with fail
                refine (alive17_ok _).mono ?_
                rintro e w1 ⟨rfl, hb1⟩
                have hbox1 := cell_later hb1 hbox0
                have hB1 := Below.on hB0 hb1
                go_wp2_with fail
                refine (rasked_ok _ _ _ T _ _ (hT.out.below hB1)).mono ?_
                rintro e w2 ⟨rfl, hb2⟩
                have hbox2 := cell_later hb2 hbox1
                have hB2 := Below.on hB1 hb2
                go_wp2_with fail
                refine (rasked_ok _ _ _ T _ _ (hT.out.below hB2)).mono ?_
                rintro e w3 ⟨rfl, hb3⟩
                have hbox3 := cell_later hb3 hbox2
                have hB3 := Below.on hB2 hb3
                go_wp2_with fail
                have hx := take_ok _ _ c T k _ (hT.out.below hB3)
                rw [htk.out, htr.out] at hx
                refine hx.mono ?_
                clear hx
                rintro e w4 ⟨A4, c4, rfl, -, hX, hb4⟩
                rw [hln.out] at hX ⊢
                have hbox4 := cell_later (below_alloc hb4 (.cells #[.slice A4 n c4] 24)) hbox3
                have hB4 := below_alloc (Below.on hB3 hb4) (.cells #[.slice A4 n c4] 24)
                have hX' := hide (hX.below (below_alloc (Below.refl _ _) (.cells #[.slice A4 n c4] 24)))
                have hy4 : (w4.alloc (.cells #[.slice A4 n c4] 24)).cell? ⟨w4.heap.size, 0, none⟩ = some (.slice A4 n c4) := by clear hbox4; go_simp
                clear hX
                go_wp2_with fail
                have hx := linkRel_ok _ _ c T m _ (hT.out.below hB4)
                rw [hn0.out, h1'.out] at hx
                refine hx.mono ?_
                clear hx
                rintro e w5 ⟨rfl, hb5⟩
                have hbox5 := cell_later hb5 hbox4
                have hy5 := cell_later hb5 hy4
                have hB5 := Below.on hB4 hb5
                have hX5 := hide (hX'.out.below hb5)
                go_wp2_with fail
                have hx := linkRel_ok _ _ c4 X m _ hX5.out
                rw [hn1.out, ha2.out] at hx
                refine hx.mono ?_
                clear hx
                rintro e w6 ⟨rfl, hb6⟩
                have hbox6 := cell_later hb6 hbox5
                have hB6 := Below.on hB5 hb6
                go_wp2_with fail
                have hx := below_ok _ _ c T m k _ (hT.out.below hB6)
                rw [hbl.out, hab.out] at hx
                refine hx.mono ?_
                clear hx
                rintro e w7 ⟨rfl, hb7⟩
                have hbox7 := cell_later hb7 hbox6
                have hB7 := Below.on hB6 hb7
                clear hbox0 hB0 hb1 hbox1 hB1 hb2 hbox2 hB2 hb3 hbox3 hB3 hb4 hbox4 hB4 hb5 hbox5 hB5 hb6 hbox6 hB6 hy4 hX' hy5 hX5 hb7
                go_wp2_with fail
                have hx := below_ok _ _ c T q k _ (hT.out.below hB7)
                rw [hbq.out, haq.out] at hx
                refine hx.mono ?_
                clear hx
                rintro e w8 ⟨rfl, hb8⟩
                have hbox8 := cell_later hb8 hbox7
                have hB8 := Below.on hB7 hb8
                clear hbox7 hB7 hb8
                go_wp2
                go_ret
                exact ⟨rfl, hB8⟩
              · go_enter Try.func8, Try.ntmps8
                go_wp2_with fail
                refine (alive17_ok _).mono ?_
                rintro e w1 ⟨rfl, hb1⟩
                have hbox1 := cell_later hb1 hbox0
                have hB1 := Below.on hB0 hb1
                go_wp2_with fail
                refine (rasked_ok _ _ _ T _ _ (hT.out.below hB1)).mono ?_
                rintro e w2 ⟨rfl, hb2⟩
                have hbox2 := cell_later hb2 hbox1
                have hB2 := Below.on hB1 hb2
                go_wp2_with fail
                refine (rasked_ok _ _ _ T _ _ (hT.out.below hB2)).mono ?_
                rintro e w3 ⟨rfl, hb3⟩
                have hbox3 := cell_later hb3 hbox2
                have hB3 := Below.on hB2 hb3
                go_wp2_with fail
                have hx := take_ok _ _ c T k _ (hT.out.below hB3)
                rw [htk.out, htr.out] at hx
                refine hx.mono ?_
                clear hx
                rintro e w4 ⟨A4, c4, rfl, -, hX, hb4⟩
                rw [hln.out] at hX ⊢
                have hbox4 := cell_later (below_alloc hb4 (.cells #[.slice A4 n c4] 24)) hbox3
                have hB4 := below_alloc (Below.on hB3 hb4) (.cells #[.slice A4 n c4] 24)
                have hX' := hide (hX.below (below_alloc (Below.refl _ _) (.cells #[.slice A4 n c4] 24)))
                have hy4 : (w4.alloc (.cells #[.slice A4 n c4] 24)).cell? ⟨w4.heap.size, 0, none⟩ = some (.slice A4 n c4) := by clear hbox4; go_simp
                clear hX
                go_wp2_with fail
                have hx := linkRel_ok _ _ c T m _ (hT.out.below hB4)
                rw [hn0.out, h1'.out] at hx
                refine hx.mono ?_
                clear hx
                rintro e w5 ⟨rfl, hb5⟩
                have hbox5 := cell_later hb5 hbox4
                have hy5 := cell_later hb5 hy4
                have hB5 := Below.on hB4 hb5
                have hX5 := hide (hX'.out.below hb5)
                go_wp2_with fail
                have hx := linkRel_ok _ _ c4 X m _ hX5.out
                rw [hn1.out, ha2.out] at hx
                refine hx.mono ?_
                clear hx
                rintro e w6 ⟨rfl, hb6⟩
                have hbox6 := cell_later hb6 hbox5
                have hB6 := Below.on hB5 hb6
                go_wp2_with fail
                have hx := below_ok _ _ c T m k _ (hT.out.below hB6)
                rw [hbl.out, hab.out] at hx
                refine hx.mono ?_
                clear hx
                rintro e w7 ⟨rfl, hb7⟩
                have hbox7 := cell_later hb7 hbox6
                have hB7 := Below.on hB6 hb7
                clear hbox0 hB0 hb1 hbox1 hB1 hb2 hbox2 hB2 hb3 hbox3 hB3 hb4 hbox4 hB4 hb5 hbox5 hB5 hb6 hbox6 hB6 hy4 hX' hy5 hX5 hb7
                go_wp2_with fail
                have hx := below_ok _ _ c T q k _ (hT.out.below hB7)
                rw [hbq.out, haq.out] at hx
                refine hx.mono ?_
                clear hx
                rintro e w8 ⟨rfl, hb8⟩
                have hbox8 := cell_later hb8 hbox7
                have hB8 := Below.on hB7 hb8
                clear hbox7 hB7 hb8
                go_wp2
                go_ret
                exact ⟨rfl, hB8⟩
          · rw [if_neg hB] at hN
            subst hN
            have hbf : bl = false := by cases bl <;> simp_all
            subst hbf
            have hmk : ((m : Int) == (k : Int)) = false := by
              have : m ≠ k := fun h => hB (.inr h)
              simp; omega
            clear hbi hble hab0 G hz h0 h1 hg hir hjr hB
            go_enter Try.func8, Try.ntmps8
            go_wp2_with fail
            refine (alive17_ok _).mono ?_
            rintro e w1 ⟨rfl, hb1⟩
            have hbox1 := cell_later hb1 hbox0
            have hB1 := Below.on hB0 hb1
            go_wp2_with fail
            refine (rasked_ok _ _ _ T _ _ (hT.out.below hB1)).mono ?_
            rintro e w2 ⟨rfl, hb2⟩
            have hbox2 := cell_later hb2 hbox1
            have hB2 := Below.on hB1 hb2
            go_wp2_with fail
            refine (rasked_ok _ _ _ T _ _ (hT.out.below hB2)).mono ?_
            rintro e w3 ⟨rfl, hb3⟩
            have hbox3 := cell_later hb3 hbox2
            have hB3 := Below.on hB2 hb3
            go_wp2_with fail
            have hx := take_ok _ _ c T k _ (hT.out.below hB3)
            rw [htk.out, htr.out] at hx
            refine hx.mono ?_
            clear hx
            rintro e w4 ⟨A4, c4, rfl, -, hX, hb4⟩
            rw [hln.out] at hX ⊢
            have hbox4 := cell_later (below_alloc hb4 (.cells #[.slice A4 n c4] 24)) hbox3
            have hB4 := below_alloc (Below.on hB3 hb4) (.cells #[.slice A4 n c4] 24)
            have hX' := hide (hX.below (below_alloc (Below.refl _ _) (.cells #[.slice A4 n c4] 24)))
            have hy4 : (w4.alloc (.cells #[.slice A4 n c4] 24)).cell? ⟨w4.heap.size, 0, none⟩ = some (.slice A4 n c4) := by clear hbox4; go_simp
            clear hX
            go_wp2_with fail
            have hx := linkRel_ok _ _ c T m _ (hT.out.below hB4)
            rw [hn0.out, h1'.out] at hx
            refine hx.mono ?_
            clear hx
            rintro e w5 ⟨rfl, hb5⟩
            have hbox5 := cell_later hb5 hbox4
            have hy5 := cell_later hb5 hy4
            have hB5 := Below.on hB4 hb5
            have hX5 := hide (hX'.out.below hb5)
            go_wp2_with fail
            have hx := linkRel_ok _ _ c4 X m _ hX5.out
            rw [hn1.out, ha2.out] at hx
            refine hx.mono ?_
            clear hx
            rintro e w6 ⟨rfl, hb6⟩
            have hbox6 := cell_later hb6 hbox5
            have hB6 := Below.on hB5 hb6
            go_wp2_with fail
            have hx := below_ok _ _ c T m k _ (hT.out.below hB6)
            rw [hbl.out, hab.out] at hx
            refine hx.mono ?_
            clear hx
            rintro e w7 ⟨rfl, hb7⟩
            have hbox7 := cell_later hb7 hbox6
            have hB7 := Below.on hB6 hb7
            clear hbox0 hB0 hb1 hbox1 hB1 hb2 hbox2 hB2 hb3 hbox3 hB3 hb4 hbox4 hB4 hb5 hbox5 hB5 hb6 hbox6 hB6 hy4 hX' hy5 hX5 hb7
            go_wp2
            go_ret
            exact ⟨rfl, hB7⟩
      · have hX : takeT T k = [] := by unfold takeT; rw [if_neg hz]
        have hzq : (takeE T k != 0) = true := by simp [hz]
        have hX' := hide hX
        clear hX hz h0 h1 hg hir hjr
        go_enter Try.func8, Try.ntmps8
        go_wp2_with fail
        refine (alive17_ok _).mono ?_
        rintro e w1 ⟨rfl, hb1⟩
        have hbox1 := cell_later hb1 hbox0
        have hB1 := Below.on hB0 hb1
        go_wp2_with fail
        refine (rasked_ok _ _ _ T _ _ (hT.out.below hB1)).mono ?_
        rintro e w2 ⟨rfl, hb2⟩
        have hbox2 := cell_later hb2 hbox1
        have hB2 := Below.on hB1 hb2
        go_wp2_with fail
        refine (rasked_ok _ _ _ T _ _ (hT.out.below hB2)).mono ?_
        rintro e w3 ⟨rfl, hb3⟩
        have hbox3 := cell_later hb3 hbox2
        have hB3 := Below.on hB2 hb3
        go_wp2_with fail
        have hx := take_ok _ _ c T k _ (hT.out.below hB3)
        rw [hX'.out] at hx
        refine hx.mono ?_
        clear hx
        rintro e w4 ⟨A4, c4, rfl, -, -, hb4⟩
        have hB4 := below_alloc (Below.on hB3 hb4) (.cells #[.slice A4 0 c4] 24)
        go_wp2
        go_ret
        exact ⟨rfl, hB4⟩
    · have hq1 : (askI T [j] != 0) = true := by simp [h1]
      clear h0 h1
      go_enter Try.func8, Try.ntmps8
      go_wp2_with fail
      refine (alive17_ok _).mono ?_
      rintro e w1 ⟨rfl, hb1⟩
      have hbox1 := cell_later hb1 hbox0
      have hB1 := Below.on hB0 hb1
      go_wp2_with fail
      refine (rasked_ok _ _ _ T _ _ (hT.out.below hB1)).mono ?_
      rintro e w2 ⟨rfl, hb2⟩
      have hbox2 := cell_later hb2 hbox1
      have hB2 := Below.on hB1 hb2
      go_wp2_with fail
      refine (rasked_ok _ _ _ T _ _ (hT.out.below hB2)).mono ?_
      rintro e w3 ⟨rfl, hb3⟩
      have hbox3 := cell_later hb3 hbox2
      have hB3 := Below.on hB2 hb3
      go_wp2
      go_ret
      exact ⟨rfl, hB3⟩
  · have hq0 : (askI T [i] != 0) = true := by simp [h0]
    clear h0
    go_enter Try.func8, Try.ntmps8
    go_wp2_with fail
    refine (alive17_ok _).mono ?_
    rintro e w1 ⟨rfl, hb1⟩
    have hbox1 := cell_later hb1 hbox0
    have hB1 := Below.on hB0 hb1
    go_wp2_with fail
    refine (rasked_ok _ _ _ T _ _ (hT.out.below hB1)).mono ?_
    rintro e w2 ⟨rfl, hb2⟩
    have hbox2 := cell_later hb2 hbox1
    have hB2 := Below.on hB1 hb2
    go_wp2
    go_ret
    exact ⟨rfl, hB2⟩

set_option maxRecDepth 100000 in
theorem lifted (os : Os) (started : os.Started) (H : Type) (enc : TypeId × Value → H) :
    ReturnsInHanded {} Try.checked os 8 .any (Rows.linkTakenSpec.pre6 enc Try.prog Try.f8 Rows.linkTakenRow.domain false) (Rows.linkTakenSpec.post enc Try.prog Try.f8 false true false false) := by
  refine returnsInHanded_of_change (C := Try.checked) own started (by kernel_rfl) Try.func8
    (ChangeSpec.witness6 (enc := enc) (C := Try.checked) false ⟨#[], #[.agg #[.slice none 0 0], .int .i64 0, .int .i64 0], []⟩ 8 (by kernel_rfl) (by kernel_rfl) (by kernel_rfl) (by kernel_rfl)) ?_
  intro W base args ds gs before hval0 hW hcnd _
  have hval : ∀ (j : Nat) t v, Try.f8.params[j]? = some t → args[j]? = some v → Value.okWide Try.prog W .any base t v := hval0
  have hW' := hW
  obtain ⟨p, q, hA0, hV, rfl, hfz, hnd⟩ := hW
  have hA : DataW.TrodAll enc Try.prog W 0 (fun _ => true) true Try.f8.params.toList args.toList ds p := hA0
  rw [Try.params8] at hA hval
  obtain ⟨v0, vs0, d0, ds0, p0, q0, hargs, rfl, rfl, h0, r0⟩ := trodAll_cons hA
  obtain ⟨v1, vs1, d1, ds1, p1, q1, rfl, rfl, rfl, h1, r1⟩ := trodAll_cons r0
  obtain ⟨v2, vs2, d2, ds2, p2, q2, rfl, rfl, rfl, h2, r2⟩ := trodAll_cons r1
  obtain ⟨rfl, rfl, rfl⟩ := trodAll_nil r2
  obtain rfl : args = #[v0, v1, v2] := by cases args; simp_all
  obtain ⟨rfl, rfl⟩ := trodVars_none hV
  have lt0 : ∀ x ∈ p0, x.block < W.heap.size := by obtain ⟨m, hm⟩ := h0; exact DataW.trod_lt m _ _ _ hm
  have k0 := h0
  have lt1 : ∀ x ∈ p1, x.block < W.heap.size := by obtain ⟨m, hm⟩ := h1; exact DataW.trod_lt m _ _ _ hm
  have k1 := h1
  have lt2 : ∀ x ∈ p2, x.block < W.heap.size := by obtain ⟨m, hm⟩ := h2; exact DataW.trod_lt m _ _ _ hm
  have k2 := h2
  obtain ⟨A0, n0, c0, T0, rfl, hT0⟩ := tree_open (hval 0 _ v0 rfl rfl) h0
  obtain ⟨a1, rfl, rfl, rfl, w1⟩ := open_int Try.underlying3 (hval 1 _ v1 rfl rfl) h1
  obtain ⟨a2, rfl, rfl, rfl, w2⟩ := open_int Try.underlying3 (hval 2 _ v2 rfl rfl) h2
  clear hA0 hval0
  refine (walk A0 n0 c0 T0 a1 a2 W hT0  ).mono fun e W' ⟨he, bel⟩ => ?_
  subst he
  exact ⟨_, rfl, _, _, _, [], _, [], hW', trodAll_mk1 (shut_bool Try.underlying4 _), (trodAll_cons_mk (Below.trod laidOut (by kernel_rfl) (of_decide_eq_true (by kernel_rfl)) k0 bel lt0) (trodAll_cons_mk (Below.trod laidOut (by kernel_rfl) (of_decide_eq_true (by kernel_rfl)) k1 bel lt1) (trodAll_cons_mk (Below.trod laidOut (by kernel_rfl) (of_decide_eq_true (by kernel_rfl)) k2 bel lt2) trodAll_mk0))), rfl, bel.frame _, fun h => by cases h⟩

theorem proved : Rows.LinkTakenSaid :=
  OpenClaim.holds_of_wide 8 Try.f8 rfl rfl rfl rfl rfl rfl rfl ⟨rfl, rfl, rfl, rfl, rfl⟩ rfl rfl rfl rfl rfl (by kernel_rfl) Try.func8 (by kernel_rfl)
    (of_decide_eq_true (by kernel_rfl)) (by unfold Func.isWrapper; first | (rw [if_pos (by decide +kernel)]; kernel_rfl) | (rw [if_neg (by decide +kernel)]; exact ⟨rfl, rfl⟩))
    (fun os started H enc _ => lifted os started H enc)
#print axioms proved
end Go.Proofs.Ytfiiikbbiimdiaa.linkTaken
