/- For all texts: what suits by AttrIs suits by AttrDash, and, if it is not empty, by AttrBegins, AttrEnds and AttrInside; what suits by any of these has it inside; folding both first is Fold; unless the texts are longer than the statement considers. No condition. -/
import Derived.Test.YtbedomopojiehaaSt
import Derived.Test.YtbedomopojiehaaSal
import Derived.Test.YtbedomopojiehaaPsu
namespace Go.Proofs.Ytbedomopojiehaa.simpleSuits
open Go.ChangeShapes Go.WideShapes Go.ChangeAt Go.RowKit

/-- An array of truth values. -/
def ArrS (w : World) (g : Nat) (f : Nat → Bool) : Prop := ∃ cs t, w.heap[g]? = some (.cells cs t (0, 0)) ∧ ∀ j, j < 7 → cs[j]? = some (.bool (f j))
theorem ArrS.cell {w : World} {g : Nat} {f : Nat → Bool} (h : ArrS w g f) {j : Nat} (hj : j < 7) : w.cell? ⟨g, j, none⟩ = some (.bool (f j)) := by
  obtain ⟨cs, t, h1, h2⟩ := h
  rw [blk_cell h1, h2 j hj]
theorem ArrS.frozen {w : World} {g : Nat} {f : Nat → Bool} (h : ArrS w g f) (j : Nat) : w.frozen? ⟨g, j, none⟩ = false := by
  obtain ⟨cs, t, h1, h2⟩ := h
  exact blk_frozen h1 _
theorem ArrS.lt {w : World} {g : Nat} {f : Nat → Bool} (h : ArrS w g f) : g < w.heap.size := by
  obtain ⟨cs, t, h1, h2⟩ := h
  exact blk_lt h1
theorem ArrS.below {w w' : World} {g : Nat} {f : Nat → Bool} (h : ArrS w g f) (hb : Below w.heap.size w w') : ArrS w' g f := by
  obtain ⟨cs, t, h1, h2⟩ := h
  exact ⟨cs, t, by rw [hb.block g (blk_lt h1)]; exact h1, h2⟩
theorem ArrS.set {w : World} {g : Nat} {f f' : Nat → Bool} (h : ArrS w g f) (k : Nat) (b : Bool) (he : ∀ j, j < 7 → f' j = if j = k then b else f j) : ArrS (w.setCell ⟨g, k, none⟩ (.bool b)) g f' := by
  obtain ⟨cs, t, h1, h2⟩ := h
  refine ⟨_, t, blk_set h1 k _, fun j hj => ?_⟩
  rw [Array.getElem?_setIfInBounds, he j hj]
  have hc := h2 j hj
  have hs : j < cs.size := (Array.getElem?_eq_some_iff.1 hc).1
  by_cases hjk : k = j
  · subst hjk
    rw [if_pos rfl, if_pos hs, if_pos rfl]
  · rw [if_neg hjk, if_neg (by omega), hc]

set_option maxRecDepth 100000 in
set_option maxHeartbeats 8000000 in
theorem walk (q v : ByteArray) (w : World) (hq : q.size ≤ 9223372036854775807) (hv : v.size ≤ 9223372036854775807) (hm0 : HasMax w) :
    Calls Try.prog 4 #[.string q, .string v] w fun r w' => r = .returned (.bool true) ∧ Below w.heap.size w w' := by
  have hm := hide hm0
  by_cases hq4 : q.size ≤ 400
  · have g1 : decide (400 < (q.size : Int)) = false := by rw [decide_eq_false_iff_not]; omega
    by_cases hv4 : v.size ≤ 400
    · have g2 : decide (400 < (v.size : Int)) = false := by rw [decide_eq_false_iff_not]; omega
      have hok : ∀ (x : Nat) (t : ByteArray) (fo : Bool), 1 ≤ x → x ≤ 6 → t.size ≤ 400 → ∀ y : ByteArray, y.size ≤ 400 → valE ⟨3, lang, (x : Int), t, fo, 0, 0, false, none, 0, 0⟩ y = 0 ∧ valV ⟨3, lang, (x : Int), t, fo, 0, 0, false, none, 0, 0⟩ y = suitsF x t fo y := fun x t fo h1 h6 ht y hy => by
        have hc : chkS ⟨3, lang, (x : Int), t, fo, 0, 0, false, none, 0, 0⟩ = 0 := chkS_yes (by
          have hl : lang.size = 4 := rfl
          have b0 : Bool.toNat false = 0 := rfl
          unfold okP
          dsimp only
          omega)
        have he : valE ⟨3, lang, (x : Int), t, fo, 0, 0, false, none, 0, 0⟩ y = 0 := by unfold valE; rw [if_pos hc, if_pos rfl, if_pos hy]
        exact ⟨he, by unfold valV; rw [if_pos he]⟩
      obtain ⟨V, hV⟩ : ∃ V : Nat → Bool, ∀ x : Nat, suitF (x : Int) q v = V x := ⟨fun x => suitF (x : Int) q v, fun _ => rfl⟩
      obtain ⟨F, hF⟩ : ∃ F : Nat → Bool, ∀ x : Nat, suitF (x : Int) (foldS q) (foldS v) = F x := ⟨fun x => suitF (x : Int) (foldS q) (foldS v), fun _ => rfl⟩
      have hA := hide (show ∀ x : Nat, 1 ≤ x → x ≤ 6 → valE ⟨3, lang, (x : Int), q, false, 0, 0, false, none, 0, 0⟩ v = 0 ∧ valV ⟨3, lang, (x : Int), q, false, 0, 0, false, none, 0, 0⟩ v = V x from fun x h1 h6 => by
        have := hok x q false h1 h6 hq4 v hv4
        rw [← hV]
        exact this)
      have hB := hide (show ∀ x : Nat, 1 ≤ x → x ≤ 6 → valE ⟨3, lang, (x : Int), q, true, 0, 0, false, none, 0, 0⟩ v = 0 ∧ valV ⟨3, lang, (x : Int), q, true, 0, 0, false, none, 0, 0⟩ v = F x from fun x h1 h6 => by
        have := hok x q true h1 h6 hq4 v hv4
        rw [← hF]
        exact this)
      have hC := hide (show ∀ x : Nat, 1 ≤ x → x ≤ 6 → valE ⟨3, lang, (x : Int), foldS q, false, 0, 0, false, none, 0, 0⟩ (foldS v) = 0 ∧ valV ⟨3, lang, (x : Int), foldS q, false, 0, 0, false, none, 0, 0⟩ (foldS v) = F x from fun x h1 h6 => by
        have := hok x (foldS q) false h1 h6 (by rw [foldS_size]; exact hq4) (foldS v) (by rw [foldS_size]; exact hv4)
        rw [← hF]
        exact this)
      have hImp := hide (show ∀ x : Nat, V x = true → F x = true from fun x h => by rw [← hF]; exact suit_fold ((hV x).trans h))
      have h1e : V 1 = decide (v = q) := (hV 1).symm.trans (suit_one q v)
      have h13 : V 1 = true → V 3 = true := fun h => (hV 3).symm.trans (suit_13 ((hV 1).trans h))
      have hem : q.size = 0 → V 2 = false ∧ V 4 = false ∧ V 5 = false ∧ V 6 = false := fun h => by
        have := suit_empty (v := v) h
        exact ⟨(hV 2).symm.trans this.1, (hV 4).symm.trans this.2.1, (hV 5).symm.trans this.2.2.1, (hV 6).symm.trans this.2.2.2⟩
      have h14 : ¬ q.size = 0 → V 1 = true → V 4 = true ∧ V 5 = true := fun hz h => by
        have := suit_14 hz ((hV 1).trans h)
        exact ⟨(hV 4).symm.trans this.1, (hV 5).symm.trans this.2⟩
      have h34 : ¬ q.size = 0 → V 3 = true → V 4 = true := fun hz h => (hV 4).symm.trans (suit_34 hz ((hV 3).trans h))
      have hin : ¬ q.size = 0 → (V 2 = true ∨ V 4 = true ∨ V 5 = true) → V 6 = true := fun hz h => (hV 6).symm.trans (suit_in hz (h.imp (hV 2).trans (Or.imp (hV 4).trans (hV 5).trans)))
      have h1e' := hide h1e
      have h13' := hide h13
      have hem' := hide hem
      have h14' := hide h14
      have h34' := hide h34
      have hin' := hide hin
      clear hm0 hok hV hF h1e h13 hem h14 h34 hin
      go_enter Try.func4, Try.ntmps4
      go_wp2_with fail
      refine (alive18_ok _ hm.out).mono ?_
      rintro e w1 ⟨rfl, hb1⟩
      have hB1 := hb1
      have hm1 := hide (hm.out.below hb1)
      clear hb1
      go_wp2
      go_loopw [7] (fun s wr => ∃ x : Nat, 1 ≤ x ∧ x ≤ 7 ∧ s = .int .u8 x ∧ Below w1.heap.size w1 wr ∧ ArrS wr w1.heap.size (fun j => decide (1 ≤ j) && decide (j < x) && V j)) (fun s _ => 7 - (intOf s).toNat)
      case atStart =>
        refine ⟨1, Nat.le_refl _, by omega, rfl, below_alloc (Below.refl _ _) _, _, _, blk_at _ _ _ _ rfl, fun j hj => ?_⟩
        rcases (by omega : j = 0 ∨ j = 1 ∨ j = 2 ∨ j = 3 ∨ j = 4 ∨ j = 5 ∨ j = 6) with rfl | rfl | rfl | rfl | rfl | rfl | rfl <;> rfl
      case round =>
        obtain ⟨x, hx1, hx7, rfl, hb, harr⟩ := hrel
        have hBr := Below.on hB1 hb
        by_cases hlt : x ≤ 6
        · obtain ⟨a1, a2⟩ := hA.out x hx1 hlt
          obtain ⟨a3, a4⟩ := hB.out x hx1 hlt
          obtain ⟨a5, a6⟩ := hC.out x hx1 hlt
          have a7 := hImp.out x
          obtain ⟨vx, hvx⟩ : ∃ z, V x = z := ⟨_, rfl⟩
          obtain ⟨fx, hfx⟩ : ∃ z, F x = z := ⟨_, rfl⟩
          rw [hvx] at a2 a7
          rw [hfx] at a4 a6 a7
          have a1' := hide a1
          have a2' := hide a2
          have a3' := hide a3
          have a4' := hide a4
          have a5' := hide a5
          have a6' := hide a6
          have a7' := hide a7
          have hvx' := hide hvx
          have harr' := hide harr
          have hmr := hide (hm1.out.below hb)
          have hz0 := Below.refl wr.heap.size wr
          have r1 : (1 : Int) ≤ (x : Int) := by omega
          have r6 : (x : Int) ≤ 6 := by omega
          clear a1 a2 a3 a4 a5 a6 a7 hvx hfx harr
          go_wp2_with fail
          refine (by_ok x q _).mono ?_
          rintro e w2 ⟨rfl, hb2⟩
          have hz2 := Below.on hz0 hb2
          clear hb2
          go_wp2_with fail
          refine (value_at 3 lang x q false 0 0 false none 0 0 v vx 0 a2'.out a1'.out _ (hmr.out.below hz2)).mono ?_
          rintro e w3 ⟨rfl, hb3⟩
          have hz3 := Below.on hz2 hb3
          clear hb3 hz2
          go_wp2_with fail
          refine (by_ok x q _).mono ?_
          rintro e w4 ⟨rfl, hb4⟩
          have hz4 := Below.on hz3 hb4
          clear hb4
          go_wp2_with fail
          have hz5 := below_alloc hz4 (.cells #[.int .u8 3, .string lang, .int .u8 x, .string q, .bool true, .int .i64 0, .int .i64 0, .bool false, .slice none 0 0] 26)
          refine (value_at 3 lang x q true 0 0 false none 0 0 v fx 0 a4'.out a3'.out _ (hmr.out.below hz5)).mono ?_
          rintro e w6 ⟨rfl, hb6⟩
          have hz6 := Below.on hz5 hb6
          clear hb6 hz5 hz4 hz3
          go_wp2_with fail
          refine (fold_ok q _ (by omega)).mono ?_
          rintro e w7 ⟨rfl, hb7⟩
          have hz7 := Below.on hz6 hb7
          clear hb7
          go_wp2_with fail
          refine (by_ok x (foldS q) _).mono ?_
          rintro e w8 ⟨rfl, hb8⟩
          have hz8 := Below.on hz7 hb8
          clear hb8
          go_wp2_with fail
          refine (fold_ok v _ (by omega)).mono ?_
          rintro e w9 ⟨rfl, hb9⟩
          have hz9 := Below.on hz8 hb9
          clear hb9
          go_wp2_with fail
          refine (value_at 3 lang x (foldS q) false 0 0 false none 0 0 (foldS v) fx 0 a6'.out a5'.out _ (hmr.out.below hz9)).mono ?_
          rintro e w10 ⟨rfl, hb10⟩
          have hz10 := Below.on hz9 hb10
          have harr9 := hide (harr'.out.below hz10)
          have hz39 := Below.on hb hz10
          have hsz : w1.heap.size < w10.heap.size := harr9.out.lt
          have hfz := harr9.out.frozen x
          have hcell := harr9.out.cell (j := x) (by omega)
          have u1 : IntKind.u8.wrap ((x : Int) + 1) = ((x + 1 : Nat) : Int) := by
            rcases (by omega : x = 1 ∨ x = 2 ∨ x = 3 ∨ x = 4 ∨ x = 5 ∨ x = 6) with rfl | rfl | rfl | rfl | rfl | rfl <;> rfl
          have u2 : (0 : Int) ≤ (x : Int) := by omega
          have u3 : (x : Int) < 7 := by omega
          have hend := hide (fun (bv : Bool) (hbv : V x = bv) => ArrS.set (f' := fun j => decide (1 ≤ j) && decide (j < x + 1) && V j) harr9.out x bv (fun j hj => by
            by_cases hjx : j = x
            · subst hjx
              rw [if_pos rfl, decide_eq_true hx1, decide_eq_true (by omega), ← hbv]; rfl
            · rw [if_neg hjx]
              congr 2
              rw [decide_eq_decide]
              omega))
          clear hb10 hz10 hz9 hz8 hz7 hz6 hb harr' hmr
          cases vx
          · cases fx
            all_goals
              go_wp2
              go_roundw
              case rel => exact ⟨x + 1, by omega, by omega, by go_num, hz39.setCell (p := ⟨w1.heap.size, x, none⟩) (Nat.le_refl _) _, hend.out false hvx'.out⟩
              case measure => simp [intOf]; omega
          · have : fx = true := a7'.out rfl
            subst this
            go_wp2
            go_roundw
            case rel => exact ⟨x + 1, by omega, by omega, by go_num, hz39.setCell (p := ⟨w1.heap.size, x, none⟩) (Nat.le_refl _) _, hend.out true hvx'.out⟩
            case measure => simp [intOf]; omega
        · obtain rfl : x = 7 := by omega
          have k1 := harr.cell (j := 1) (by omega)
          have k2 := harr.cell (j := 2) (by omega)
          have k3 := harr.cell (j := 3) (by omega)
          have k4 := harr.cell (j := 4) (by omega)
          have k5 := harr.cell (j := 5) (by omega)
          have k6 := harr.cell (j := 6) (by omega)
          have hsz : w1.heap.size < wr.heap.size := harr.lt
          simp only [show (decide (1 ≤ 1) && decide (1 < 7)) = true from rfl, show (decide (1 ≤ 2) && decide (2 < 7)) = true from rfl, show (decide (1 ≤ 3) && decide (3 < 7)) = true from rfl, show (decide (1 ≤ 4) && decide (4 < 7)) = true from rfl, show (decide (1 ≤ 5) && decide (5 < 7)) = true from rfl, show (decide (1 ≤ 6) && decide (6 < 7)) = true from rfl, Bool.true_and] at k1 k2 k3 k4 k5 k6
          have f1 := h1e'.out
          have f13 := h13'.out
          have fem := hem'.out
          have f14 := h14'.out
          have f34 := h34'.out
          have fin := hin'.out
          clear hA hB hC hImp h1e' h13' hem' h14' h34' hin' harr hb hlt hx1 hx7
          generalize V 1 = v1 at *
          generalize V 2 = v2 at *
          generalize V 3 = v3 at *
          generalize V 4 = v4 at *
          generalize V 5 = v5 at *
          generalize V 6 = v6 at *
          have heq : (q.toList == v.toList) = v1 := by
            rw [f1]
            by_cases h : v = q
            · rw [decide_eq_true h, h]; exact str_eq rfl
            · rw [decide_eq_false h]; exact str_ne fun h' => h h'.symm
          clear f1
          by_cases hz : q.size = 0
          · obtain ⟨rfl, rfl, rfl, rfl⟩ := fem hz
            have hqe := (toList_nil q).2 hz
            have hqi : q.toList.isEmpty = true := by rw [hqe]; rfl
            rw [hqe] at heq
            clear fem f14 f34 fin hz
            cases v1 <;> cases v3
            all_goals first
              | exact absurd (f13 rfl) (by decide)
              | (clear f13
                 go_wp2
                 go_ret
                 exact ⟨rfl, hBr⟩)
          · have hqe := mt (toList_nil q).1 hz
            have hqi : q.toList.isEmpty = false := by rw [List.isEmpty_eq_false_iff]; exact hqe
            have f14' := f14 hz
            have f34' := f34 hz
            have fin' := fin hz
            clear fem f14 f34 fin hz
            cases v1 <;> cases v3 <;> cases v4 <;> cases v5 <;> cases v2 <;> cases v6
            all_goals first
              | exact absurd (f13 rfl) (by decide)
              | exact absurd (f14' rfl).1 (by decide)
              | exact absurd (f14' rfl).2 (by decide)
              | exact absurd (f34' rfl) (by decide)
              | exact absurd (fin' (.inl rfl)) (by decide)
              | exact absurd (fin' (.inr (.inl rfl))) (by decide)
              | exact absurd (fin' (.inr (.inr rfl))) (by decide)
              | (clear f13 f14' f34' fin'
                 go_wp2
                 go_ret
                 exact ⟨rfl, hBr⟩)
    · have g2 : decide (400 < (v.size : Int)) = true := by rw [decide_eq_true_eq]; omega
      go_enter Try.func4, Try.ntmps4
      go_wp2_with fail
      refine (alive18_ok _ hm.out).mono ?_
      rintro e w1 ⟨rfl, hb1⟩
      go_wp2
      go_ret
      exact ⟨rfl, hb1⟩
  · have g1 : decide (400 < (q.size : Int)) = true := by rw [decide_eq_true_eq]; omega
    go_enter Try.func4, Try.ntmps4
    go_wp2_with fail
    refine (alive18_ok _ hm.out).mono ?_
    rintro e w1 ⟨rfl, hb1⟩
    go_wp2
    go_ret
    exact ⟨rfl, hb1⟩

set_option maxRecDepth 100000 in
theorem lifted (os : Os) (started : os.Started) (H : Type) (enc : TypeId × Value → H) :
    ReturnsInHanded {} Try.checked os 4 .any (Rows.simpleSuitsSpec.pre6 enc Try.prog Try.f4 Rows.simpleSuitsRow.domain false) (Rows.simpleSuitsSpec.post enc Try.prog Try.f4 false true false false) := by
  refine returnsInHanded_of_change_shaped (C := Try.checked) own started (by kernel_rfl) Try.func4
    (ChangeSpec.witness6 (enc := enc) (C := Try.checked) false ⟨#[], #[.string .empty, .string .empty], []⟩ 8 (by kernel_rfl) (by kernel_rfl) (by kernel_rfl) (by kernel_rfl)) ?_
  intro W base args ds gs before hval0 hW hcnd hsz hsh _
  have hval : ∀ (j : Nat) t v, Try.f4.params[j]? = some t → args[j]? = some v → Value.okWide Try.prog W .any base t v := hval0
  have hW' := hW
  obtain ⟨p, q, hA0, hV, rfl, hfz, hnd⟩ := hW
  have hA : DataW.TrodAll enc Try.prog W 0 (fun _ => true) true Try.f4.params.toList args.toList ds p := hA0
  rw [Try.params4] at hA hval hsz
  obtain ⟨v0, vs0, d0, ds0, p0, q0, hargs, rfl, rfl, h0, r0⟩ := trodAll_cons hA
  obtain ⟨v1, vs1, d1, ds1, p1, q1, rfl, rfl, rfl, h1, r1⟩ := trodAll_cons r0
  obtain ⟨rfl, rfl, rfl⟩ := trodAll_nil r1
  obtain rfl : args = #[v0, v1] := by cases args; simp_all
  obtain ⟨rfl, rfl⟩ := trodVars_none hV
  have lt0 : ∀ x ∈ p0, x.block < W.heap.size := by obtain ⟨m, hm⟩ := h0; exact DataW.trod_lt m _ _ _ hm
  have k0 := h0
  have lt1 : ∀ x ∈ p1, x.block < W.heap.size := by obtain ⟨m, hm⟩ := h1; exact DataW.trod_lt m _ _ _ hm
  have k1 := h1
  obtain ⟨a0, rfl, rfl, rfl, w0⟩ := Go.ChangeMaps.open_string Try.underlying9 (hval 0 _ v0 rfl rfl) h0
  have w0' : a0.size ≤ 9223372036854775807 := by unfold maxLen at w0; omega
  obtain ⟨a1, rfl, rfl, rfl, w1⟩ := Go.ChangeMaps.open_string Try.underlying9 (hval 1 _ v1 rfl rfl) h1
  have w1' : a1.size ≤ 9223372036854775807 := by unfold maxLen at w1; omega
  clear hA0 hval0
  refine (walk a0 a1 W w0' w1' (hasMax_of hsh)).mono fun e W' ⟨he, bel⟩ => ?_
  subst he
  exact ⟨_, rfl, _, _, _, [], _, [], hW', trodAll_mk1 (shut_bool Try.underlying4 _), (trodAll_cons_mk (Below.trod laidOut (by kernel_rfl) (of_decide_eq_true (by kernel_rfl)) k0 bel lt0) (trodAll_cons_mk (Below.trod laidOut (by kernel_rfl) (of_decide_eq_true (by kernel_rfl)) k1 bel lt1) trodAll_mk0)), rfl, bel.frame _, fun h => by cases h⟩

theorem proved : Rows.SimpleSuitsSaid :=
  OpenClaim.holds_of_wide 4 Try.f4 rfl rfl rfl rfl rfl rfl rfl ⟨rfl, rfl, rfl, rfl, rfl⟩ rfl rfl rfl rfl rfl (by kernel_rfl) Try.func4 (by kernel_rfl)
    (of_decide_eq_true (by kernel_rfl)) (by unfold Func.isWrapper; first | (rw [if_pos (by decide +kernel)]; kernel_rfl) | (rw [if_neg (by decide +kernel)]; exact ⟨rfl, rfl⟩))
    (fun os started H enc _ => lifted os started H enc)
#print axioms proved
end Go.Proofs.Ytbedomopojiehaa.simpleSuits
