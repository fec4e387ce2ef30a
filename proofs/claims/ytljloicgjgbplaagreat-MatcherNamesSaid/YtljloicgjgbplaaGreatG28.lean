/- Walks: whether a compound, a complex selector is right, by the program: what holds of simple selectors is given. Conditions as each states. -/
import Derived.Test.YtljloicgjgbplaaGreatG27
import Derived.Deep.CutRange
namespace Go.Proofs.YtljloicgjgbplaaGreat
open Go.RowKit

structure IsComp {X : Type} (V : Lies X) (w : World) (tag : ByteArray) (SA : Option Addr) (sn sc : Nat) (c : CompX X) : Prop where
  tg : tag = c.tag
  len : sn = c.sims.length
  row : IsSimL V w SA sn c.sims
  cap : sn ≤ sc ∧ sc ≤ 9223372036854775807
  tsz : tag.size ≤ 9223372036854775807
theorem IsComp.below {X : Type} {V : Lies X} (hV : Stays V) {w w' : World} {tag : ByteArray} {SA : Option Addr} {sn sc : Nat} {c : CompX X} (h : IsComp V w tag SA sn sc c) (hb : Below w.heap.size w w') : IsComp V w' tag SA sn sc c := { h with row := h.row.below hV hb }
set_option maxHeartbeats 1000000 in
theorem whole1_index {X : Type} {V : Lies X} (hV : Stays V) (A : Option Addr) (n c : Nat) (l : List (CompX X)) (p : CompX X → Bool) (pp : Nat) (w : World) (h : IsParts V w A n l)
    (hcl : ∀ (W : World) (tag : ByteArray) (SA : Option Addr) (sn sc : Nat) (x : CompX X), Below w.heap.size w W → IsComp V W tag SA sn sc x → Calls Tryz.prog 60 #[.agg #[.string tag, .slice SA sn sc], .pointer (some ⟨pp, 0, none⟩)] W fun e w' => e = .returned (.bool (p x)) ∧ Below W.heap.size W w') :
    Calls Tryz.prog 77 #[.slice A n c, .func (.func 60) #[] #[.pointer (some ⟨pp, 0, none⟩)]] w (MadeIx w (l.any p)) := by
  obtain ⟨hl, hn, ho⟩ := h
  have hcl' := hide hcl
  have ho' := hide ho
  clear hcl ho
  go_enter Tryz.func77, Tryz.ntmps77
  go_wp2
  go_loopw [5, 8] (fun _ i wr => ∃ k : Nat, k ≤ n ∧ i = .int .i64 k ∧ Hid (∀ (j : Nat) (x : CompX X), j < k → l[j]? = some x → p x = false) ∧ Below w.heap.size w wr) (fun _ i _ => n - (intOf i).toNat)
  case atStart => exact ⟨0, Nat.zero_le _, rfl, fun j x hj => absurd hj (by omega), Below.refl _ _⟩
  case round =>
    obtain ⟨q, hq, rfl, hne, hb⟩ := hrel
    by_cases hlt : q < n
    · obtain ⟨b, off, SA, SC, rfl, hbl, c0, c1, hc⟩ := ho'.out (by omega)
      have hx : l[q]? = some (px l q) := by rw [px, List.getD_eq_getElem?_getD, List.getElem?_eq_getElem (by omega)]; rfl
      obtain ⟨r1, r2, r3, r4⟩ := hc q hlt
      have g0 := cell_later hb (c0 q hlt)
      have g1 := cell_later hb (c1 q hlt)
      have hx' := hide hx
      have hk := hide (hcl'.out wr (px l q).tag (SA q) (px l q).sims.length (SC q) (px l q) hb ⟨rfl, rfl, r1.below hV hb, ⟨r2, r3⟩, r4⟩)
      clear hc c0 c1 hx r1 r2 r3 r4
      generalize px l q = x at *
      cases hp : p x
      · have hp' := hide hp
        rw [hp] at hk
        clear hp
        go_wp2_with (go_at_call 60; (with_reducible refine hk.out.mono ?_); rintro e w1 ⟨rfl, hb1⟩)
        go_roundw
        case rel => exact ⟨q + 1, by omega, by go_num, fun j y hj hy => by
          by_cases h : j = q
          · subst h
            rw [hx'.out] at hy; cases hy; exact hp'.out
          · exact hne.out j y (by omega) hy, Below.on hb hb1⟩
        case measure => simp [intOf]; omega
      · have hp' := hide hp
        rw [hp] at hk
        clear hp
        go_wp2_with (go_at_call 60; (with_reducible refine hk.out.mono ?_); rintro e w1 ⟨rfl, hb1⟩)
        go_ret
        exact ⟨_, rfl, by rw [any_hit hx'.out hp'.out]; simp, Below.on hb hb1⟩
    · obtain rfl : q = n := by omega
      have hm := hide (any_miss hl hne.out)
      clear hne
      go_wp2
      go_ret
      exact ⟨_, rfl, by rw [hm.out]; rfl, hb⟩
theorem whole1_any {X : Type} {V : Lies X} (hV : Stays V) (A : Option Addr) (n c : Nat) (l : List (CompX X)) (p : CompX X → Bool) (pp : Nat) (w : World) (h : IsParts V w A n l)
    (hcl : ∀ (W : World) (tag : ByteArray) (SA : Option Addr) (sn sc : Nat) (x : CompX X), Below w.heap.size w W → IsComp V W tag SA sn sc x → Calls Tryz.prog 60 #[.agg #[.string tag, .slice SA sn sc], .pointer (some ⟨pp, 0, none⟩)] W fun e w' => e = .returned (.bool (p x)) ∧ Below W.heap.size W w') :
    Calls Tryz.prog 59 #[.slice A n c, .func (.func 60) #[] #[.pointer (some ⟨pp, 0, none⟩)]] w fun e w' => e = .returned (.bool (l.any p)) ∧ Below w.heap.size w w' := by
  have hx := hide (whole1_index hV A n c l p pp w h hcl)
  clear h hcl
  go_enter Tryz.func59, Tryz.ntmps59
  go_wp2_with fail
  refine hx.out.mono ?_
  rintro e w1 ⟨z, rfl, hz, hb1⟩
  go_wp2
  go_ret
  exact ⟨rfl, hb1⟩
/-- The program tells whether simple selectors are right. -/
def SimT {X : Type} (V : Lies X) (Wf : Nat → Bool → Bool → X → Bool) : Prop := ∀ (d : Nat) (h : Bool) (s : Sim) (x : SimX X) (W : World), d ≤ 3 → SimRel V W s x →
  Calls Tryz.prog 79 #[.agg #[.int .u8 s.kind, .string s.name, .int .u8 s.op, .string s.val, .bool s.fold, .int .i64 s.a, .int .i64 s.b, .bool s.of, .slice s.LA s.ln s.lc], .agg #[.int .i64 d, .bool h]] W fun e w' => e = .returned (.bool (simB Wf d h x)) ∧ Below W.heap.size W w'
theorem wholeB_iff {X : Type} {Wf : Nat → Bool → Bool → X → Bool} {d : Nat} {h r : Bool} {c : CpxX X} : wholeB Wf d h r c = true ↔ r = decide (c.lead ≠ 0) ∧ c.lead ≤ 4 ∧ c.combs.length + 1 = c.parts.length ∧ c.parts.length ≤ 64 ∧ (∀ b ∈ c.combs, 1 ≤ b ∧ b ≤ 4) ∧ ∀ p ∈ c.parts, compB Wf d h p = true := by
  unfold wholeB
  simp only [Bool.and_eq_true, beq_iff_eq, decide_eq_true_eq, List.all_eq_true, and_assoc]
theorem wrap_len {k p : Nat} (hk : k ≤ 9223372036854775807) (hp : p ≤ 9223372036854775807) (h : wrap64 ((k : Int) + 1) = (p : Int)) : k + 1 = p := by
  unfold wrap64 at h
  omega
theorem wrap_len' {k p c : Nat} (hp : p ≤ c) (hc : c ≤ 9223372036854775807) (h : k + 1 = p) : wrap64 ((k : Int) + 1) = (p : Int) := by
  unfold wrap64
  omega
section
variable {X : Type} {V : Lies X} (hV : Stays V) {Wf : Nat → Bool → Bool → X → Bool} (hS : SimT V Wf)
include hV hS
set_option maxRecDepth 100000 in
set_option maxHeartbeats 2000000 in
theorem compT_ok (d : Nat) (h : Bool) (tag : ByteArray) (SA : Option Addr) (sn sc : Nat) (c : CompX X) (w : World) (hd : d ≤ 3) (hc : IsComp V w tag SA sn sc c) :
    Calls Tryz.prog 61 #[.agg #[.string tag, .slice SA sn sc], .agg #[.int .i64 d, .bool h]] w fun e w' => e = .returned (.bool (compB Wf d h c)) ∧ Below w.heap.size w w' := by
  obtain ⟨rfl, rfl, hrow, ⟨hc1, hc2⟩, hts⟩ := hc
  obtain ⟨-, S, hS0, hrel0⟩ := hrow
  have hrow' := hide (show IsSims w SA c.sims.length S ∧ ∀ j, j < c.sims.length → SimRel V w (sm S j) (sy c.sims j) from ⟨hS0, hrel0⟩)
  have hsm := fun W => smallT_ok c.tag W
  have hS' := hide hS
  have hV' := hide hV
  clear hS0 hrel0 hS hV
  have f0 : ((w.alloc (.cells #[.string c.tag, .slice SA c.sims.length sc] 70)).alloc (.cells #[.int .i64 d, .bool h] 83)).cell? ⟨w.heap.size, 0, none⟩ = some (.string c.tag) := by go_simp
  have f1 : ((w.alloc (.cells #[.string c.tag, .slice SA c.sims.length sc] 70)).alloc (.cells #[.int .i64 d, .bool h] 83)).cell? ⟨w.heap.size, 1, none⟩ = some (.slice SA c.sims.length sc) := by clear f0; go_simp
  have f2 : ((w.alloc (.cells #[.string c.tag, .slice SA c.sims.length sc] 70)).alloc (.cells #[.int .i64 d, .bool h] 83)).cell? ⟨w.heap.size + 1, 0, none⟩ = some (.int .i64 d) := by clear f0 f1; go_simp
  have f3 : ((w.alloc (.cells #[.string c.tag, .slice SA c.sims.length sc] 70)).alloc (.cells #[.int .i64 d, .bool h] 83)).cell? ⟨w.heap.size + 1, 1, none⟩ = some (.bool h) := by clear f0 f1 f2; go_simp
  have hB0 := below_alloc (below_alloc (Below.refl w.heap.size w) (.cells #[.string c.tag, .slice SA c.sims.length sc] 70)) (.cells #[.int .i64 d, .bool h] 83)
  obtain ⟨W0, hW0⟩ : ∃ W0, W0 = (w.alloc (.cells #[.string c.tag, .slice SA c.sims.length sc] 70)).alloc (.cells #[.int .i64 d, .bool h] 83) := ⟨_, rfl⟩
  rw [← hW0] at f0 f1 f2 f3 hB0
  go_enter Tryz.func61, Tryz.ntmps61
  go_upto_region 1 with fail
  rw [← hW0]
  clear hW0
  have hin : w.heap.size + 1 < W0.heap.size := cell_in f2
  go_cut [26] from 7 to 26 (fun v wx => v = .bool (!tagB c.tag || decide (64 < c.sims.length)) ∧ Below W0.heap.size W0 wx)
  case first =>
    by_cases h0 : c.tag.size = 0
    · have g0 := (toList_nil c.tag).2 h0
      have hr : Hid (tagB c.tag = true) := by show _ = _; unfold tagB; rw [decide_eq_true h0]; rfl
      clear h0
      go_wp2
      go_meet
      exact ⟨by rw [hr.out]; simp <;> omega, Below.refl _ _⟩
    · have g0 : ¬ c.tag.toList = [] := fun e => h0 ((toList_nil c.tag).1 e)
      by_cases h1 : c.tag = ⟨#[42]⟩
      · have g1 : c.tag.toList = [42] := by rw [h1, ByteArray.toList_eq]
        have hr : Hid (tagB c.tag = true) := by show _ = _; unfold tagB; rw [decide_eq_true h1]; simp
        clear h0 h1
        go_wp2
        go_meet
        exact ⟨by rw [hr.out]; simp <;> omega, Below.refl _ _⟩
      · have g1 : ¬ c.tag.toList = [42] := fun e => h1 (by rw [ByteArray.toList_eq] at e; exact Go.WideShapes.bytes_inj e)
        have hr : Hid (tagB c.tag = smB c.tag) := by show _ = _; unfold tagB; rw [decide_eq_false h0, decide_eq_false h1]; rfl
        clear h0 h1
        cases hs : smB c.tag
        · rw [hs] at hsm hr
          have hr := hide hr.out
          go_wp2_with (go_at_call 78; refine (hsm _).mono ?_; rintro e w1 ⟨rfl, hb1⟩; have p1 := cell_later hb1 f1)
          go_meet
          exact ⟨by rw [hr.out]; simp <;> omega, hb1⟩
        · rw [hs] at hsm hr
          have hr := hide hr.out
          go_wp2_with (go_at_call 78; refine (hsm _).mono ?_; rintro e w1 ⟨rfl, hb1⟩; have p1 := cell_later hb1 f1)
          go_meet
          exact ⟨by rw [hr.out]; simp <;> omega, hb1⟩
  case rest =>
  obtain ⟨rfl, hbc⟩ := hcut
  have q0 := cell_later hbc f0
  have q1 := cell_later hbc f1
  have q2 := cell_later hbc f2
  have q3 := cell_later hbc f3
  have hBc := Below.on hB0 hbc
  clear f0 f1 f2 f3 hB0 hin hbc
  have hlen := hrow'.out.1.2.1
  cases hb : (!tagB c.tag || decide (64 < c.sims.length))
  · obtain ⟨ht, h64⟩ : tagB c.tag = true ∧ ¬ 64 < c.sims.length := by
      simp only [Bool.or_eq_false_iff, Bool.not_eq_false', decide_eq_false_iff_not] at hb
      exact hb
    have hr : Hid (compB Wf d h c = (decide (0 < c.tag.size ∨ 0 < c.sims.length) && c.sims.all (simB Wf d h))) := by
      show _ = _
      unfold compB
      rw [ht, decide_eq_true (by omega : c.sims.length ≤ 64)]
      rfl
    obtain ⟨n, hn⟩ : ∃ n, n = c.sims.length := ⟨_, rfl⟩
    rw [← hn] at q1 hrow' hlen hr hc1
    have hn' := hide hn
    clear h64 hn hb ht
    go_wp2
    go_loopw [30] (fun i wr => ∃ k : Nat, k ≤ n ∧ i = .int .i64 k ∧ Hid (∀ j, j < k → simB Wf d h (sy c.sims j) = true) ∧ Below wc.heap.size wc wr) (fun i _ => n - (intOf i).toNat)
    case atStart => exact ⟨0, Nat.zero_le _, rfl, fun j hj => absurd hj (by omega), Below.refl _ _⟩
    case round =>
      obtain ⟨q, hq, rfl, hall, hb⟩ := hrel
      have hBr := Below.on hBc hb
      by_cases hlt : q < n
      · obtain ⟨b, off, rfl, hbl, hc⟩ := hrow'.out.1.2.2 (by omega)
        obtain ⟨c0, c1, c2, c3, c4, c5, c6, c7, c8⟩ := (hc q hlt).later hBr
        have hk := hide (fun (W : World) (hW : Below wr.heap.size wr W) => hS'.out d h (sm S q) (sy c.sims q) W hd ((hrow'.out.2 q hlt).below hV'.out (Below.on hBr hW)))
        have z2 := cell_later hb q2
        have z3 := cell_later hb q3
        have z2l : w.heap.size + 1 < wr.heap.size := cell_in z2
        clear hc
        cases hp : simB Wf d h (sy c.sims q)
        · rw [hp] at hk
          have hr2 : Hid (compB Wf d h c = false) := by
            show _ = _
            rw [hr.out, Bool.and_eq_false_iff]
            refine .inr (Bool.eq_false_iff.2 fun hal => ?_)
            have := List.all_eq_true.1 hal (sy c.sims q) (by
              have hqn : q < c.sims.length := by rw [← hn'.out]; exact hlt
              unfold sy; rw [List.getD_eq_getElem?_getD, List.getElem?_eq_getElem hqn]; exact List.getElem_mem _)
            rw [hp] at this; cases this
          clear hp hr hall
          go_wp2_with (go_at_call 79; (with_reducible refine (hk.out _ (below_alloc (Below.refl _ _) _)).mono ?_); rintro e w1 ⟨rfl, hb1⟩)
          go_ret
          exact ⟨ret_bool hr2.out.symm, Below.on hBr (Below.on (below_alloc (Below.refl _ _) _) hb1)⟩
        · rw [hp] at hk
          have hp' := hide hp
          clear hp
          go_wp2_with (go_at_call 79; (with_reducible refine (hk.out _ (below_alloc (Below.refl _ _) _)).mono ?_); rintro e w1 ⟨rfl, hb1⟩)
          exact ⟨⟨q + 1, by omega, by go_num, fun j hj => by
            by_cases h : j = q
            · subst h; exact hp'.out
            · exact hall.out j (by omega), Below.on hb (Below.on (below_alloc (Below.refl _ _) _) hb1)⟩, by simp [intOf]; omega⟩
      · obtain rfl : q = n := by omega
        have hal : c.sims.all (simB Wf d h) = true := List.all_eq_true.2 fun x hx => by
          obtain ⟨j, hj, rfl⟩ := List.getElem_of_mem hx
          have := hall.out j (by rw [hn'.out]; exact hj)
          unfold sy at this
          rwa [List.getD_eq_getElem?_getD, List.getElem?_eq_getElem hj] at this
        have hr2 : Hid (compB Wf d h c = decide (0 < c.tag.size ∨ 0 < q)) := by show _ = _; rw [hr.out, hal, Bool.and_true]
        have z0 := cell_later hb q0
        have z1 := cell_later hb q1
        clear hal hr hall q0 q1 q2 q3
        by_cases h0 : c.tag.size = 0
        · have g0 := (toList_nil c.tag).2 h0
          have hr3 : Hid (compB Wf d h c = decide (0 < q)) := by show _ = _; rw [hr2.out]; exact decide_eq_decide.2 (by omega)
          clear h0 hr2
          go_wp2
          go_ret
          exact ⟨ret_bool hr3.out.symm, hBr⟩
        · have g0 : ¬ c.tag.toList = [] := fun e => h0 ((toList_nil c.tag).1 e)
          have hr3 : Hid (compB Wf d h c = true) := by show _ = _; rw [hr2.out]; exact decide_eq_true (by omega)
          clear h0 hr2
          go_wp2
          go_ret
          exact ⟨ret_bool hr3.out.symm, hBr⟩
  · have hr : Hid (compB Wf d h c = false) := by
      show _ = _
      unfold compB
      simp only [Bool.or_eq_true, Bool.not_eq_true', decide_eq_true_eq] at hb
      rcases hb with hb | hb
      · rw [hb]; rfl
      · rw [decide_eq_false (by omega : ¬ c.sims.length ≤ 64)]; simp
    clear hb
    go_wp2
    go_ret
    exact ⟨ret_bool hr.out.symm, hBc⟩
theorem whole1_ok (d : Nat) (h : Bool) (tag : ByteArray) (SA : Option Addr) (sn sc : Nat) (c : CompX X) (pp : Nat) (w : World) (hd : d ≤ 3) (hc : IsComp V w tag SA sn sc c)
    (p0 : w.cell? ⟨pp, 0, none⟩ = some (.int .i64 d)) (p1 : w.cell? ⟨pp, 1, none⟩ = some (.bool h)) :
    Calls Tryz.prog 60 #[.agg #[.string tag, .slice SA sn sc], .pointer (some ⟨pp, 0, none⟩)] w fun e w' => e = .returned (.bool (!compB Wf d h c)) ∧ Below w.heap.size w w' := by
  have hk := hide (fun (W : World) (hW : Below w.heap.size w W) => compT_ok hV hS d h tag SA sn sc c W hd (hc.below hV hW))
  have hl : pp < w.heap.size := cell_in p0
  clear hc hV hS
  go_enter Tryz.func60, Tryz.ntmps60
  go_wp2_with (go_at_call 61; (with_reducible refine (hk.out _ (below_alloc (Below.refl _ _) _)).mono ?_); rintro e w1 ⟨rfl, hb1⟩)
  go_ret
  exact ⟨rfl, Below.on (below_alloc (Below.refl _ _) _) hb1⟩
set_option maxRecDepth 100000 in
set_option maxHeartbeats 2000000 in
theorem wholeT_ok (d : Nat) (h r : Bool) (ld : Int) (PA : Option Addr) (pn pc : Nat) (KA : Option Addr) (kn kc : Nat) (c : CpxX X) (w : World) (hd : d ≤ 3) (hc : IsCpx V w ld PA pn pc KA kn kc c) :
    Calls Tryz.prog 41 #[.agg #[.int .u8 ld, .slice PA pn pc, .slice KA kn kc], .agg #[.int .i64 d, .bool h], .bool r] w fun e w' => e = .returned (.bool (wholeB Wf d h r c)) ∧ Below w.heap.size w w' := by
  have hcp := hide hc
  obtain ⟨rfl, h8, rfl, rfl, -, -, ⟨hp1, hp2⟩, ⟨hk1, hk2⟩⟩ := hc
  have hV' := hide hV
  have hS' := hide hS
  clear hV hS
  go_enter Tryz.func41, Tryz.ntmps41
  go_wp2_with fail
  · rename_i h1 h2 h3 h4
    go_ret
    refine ⟨ret_bool (Eq.symm (Bool.eq_false_iff.2 fun e => ?_)), below_alloc (below_alloc (Below.refl _ _) _) _⟩
    obtain ⟨-, e2, -, e4, -⟩ := wholeB_iff.1 e
    omega
  · rename_i h1 h2 h3 h4 K1 K2
    have hcl := hide (wrap_len (by omega) (by omega) h3)
    have h1' := hide h1
    have h2' := hide h2
    have h4' := hide (show c.parts.length ≤ 64 by omega)
    clear h1 h2 h3 h4
    have f1 : ((w.alloc (.cells #[.int .u8 c.lead, .slice PA c.parts.length pc, .slice KA c.combs.length kc] 62)).alloc (.cells #[.int .i64 d, .bool h] 83)).cell? ⟨w.heap.size, 1, none⟩ = some (.slice PA c.parts.length pc) := by go_simp
    have f2 : ((w.alloc (.cells #[.int .u8 c.lead, .slice PA c.parts.length pc, .slice KA c.combs.length kc] 62)).alloc (.cells #[.int .i64 d, .bool h] 83)).cell? ⟨w.heap.size + 1, 0, none⟩ = some (.int .i64 d) := by clear f1; go_simp
    have f3 : ((w.alloc (.cells #[.int .u8 c.lead, .slice PA c.parts.length pc, .slice KA c.combs.length kc] 62)).alloc (.cells #[.int .i64 d, .bool h] 83)).cell? ⟨w.heap.size + 1, 1, none⟩ = some (.bool h) := by clear f1 f2; go_simp
    have hB0 := below_alloc (below_alloc (Below.refl w.heap.size w) (.cells #[.int .u8 c.lead, .slice PA c.parts.length pc, .slice KA c.combs.length kc] 62)) (.cells #[.int .i64 d, .bool h] 83)
    generalize (w.alloc (.cells #[.int .u8 c.lead, .slice PA c.parts.length pc, .slice KA c.combs.length kc] 62)).alloc (.cells #[.int .i64 d, .bool h] 83) = W0 at *
    go_loopw [38] (fun i wr => ∃ k : Nat, k ≤ c.combs.length ∧ i = .int .i64 k ∧ Hid (∀ j, j < k → 1 ≤ ix c.combs j ∧ ix c.combs j ≤ 4) ∧ W0 = wr) (fun i _ => c.combs.length - (intOf i).toNat)
    case atStart => exact ⟨0, Nat.zero_le _, rfl, fun j hj => absurd hj (by omega), rfl⟩
    case round =>
      obtain ⟨q, hq, rfl, hall, rfl⟩ := hrel
      by_cases hlt : q < c.combs.length
      · obtain ⟨-, -, -, hu⟩ := hcp.out.rowK
        obtain ⟨b, off, rfl, hbl, hcc⟩ := hu (by omega)
        have g0 := cell_later hB0 (hcc q hlt)
        clear hcc hu
        have hix : ix c.combs q ∈ c.combs := ix_mem hlt
        by_cases hok : 1 ≤ ix c.combs q ∧ ix c.combs q ≤ 4
        · have hok' := hide hok
          obtain ⟨o1, o2⟩ := hok
          have o3 : decide (ix c.combs q < 1) = false := decide_eq_false (by omega)
          have o4 : decide (4 < ix c.combs q) = false := decide_eq_false (by omega)
          clear o1 o2
          generalize ix c.combs q = y at g0 o3 o4
          go_wp2
          go_roundw
          case rel => exact ⟨q + 1, by omega, by go_num, fun j hj => by
            by_cases h : j = q
            · subst h; exact hok'.out
            · exact hall.out j (by omega), trivial⟩
          case measure => simp [intOf]; omega
        · have hr : Hid (wholeB Wf d h r c = false) := Bool.eq_false_iff.2 fun e => hok ((wholeB_iff.1 e).2.2.2.2.1 _ hix)
          clear hix hall
          by_cases o1 : ix c.combs q < 1
          · have o3 : decide (ix c.combs q < 1) = true := decide_eq_true o1
            generalize ix c.combs q = y at *
            clear hok o1
            go_wp2
            go_ret
            exact ⟨ret_bool hr.out.symm, hB0⟩
          · have o3 : decide (ix c.combs q < 1) = false := decide_eq_false o1
            have o4 : decide (4 < ix c.combs q) = true := decide_eq_true (by omega)
            generalize ix c.combs q = y at *
            clear hok o1
            go_wp2
            go_ret
            exact ⟨ret_bool hr.out.symm, hB0⟩
      · have hany := hide (fun W (hW : Below W0.heap.size W0 W) => whole1_any hV'.out PA c.parts.length pc c.parts (fun p => !compB Wf d h p) (w.heap.size + 1) W (hcp.out.rowP.below hV'.out (Below.on hB0 hW)) (fun W2 tag SA sn sc x hb hx => whole1_ok hV'.out hS'.out d h tag SA sn sc x _ W2 hd hx (cell_later (Below.on hW hb) f2) (cell_later (Below.on hW hb) f3)))
        have hr : Hid (wholeB Wf d h r c = !(c.parts.any fun p => !compB Wf d h p)) := by
          show _ = _
          have hb2 : ∀ b ∈ c.combs, 1 ≤ b ∧ b ≤ 4 := fun b hb => by
            obtain ⟨j, hj, rfl⟩ := mem_ix hb
            exact hall.out j (by omega)
          cases hv : c.parts.any (fun p => !compB Wf d h p)
          · refine wholeB_iff.2 ⟨by rw [h1'.out, Bool.eq_iff_iff]; simp, h2'.out, hcl.out, h4'.out, hb2, fun p hp => ?_⟩
            have := List.any_eq_false.1 hv p hp
            simpa using this
          · refine Bool.eq_false_iff.2 fun e => ?_
            obtain ⟨p, hp, hn⟩ := List.any_eq_true.1 hv
            rw [(wholeB_iff.1 e).2.2.2.2.2 p hp] at hn
            cases hn
        clear hall
        go_wp2_with (go_at_call 59; (with_reducible refine (hany.out _ (Below.refl _ _)).mono ?_); rintro e w1 ⟨rfl, hb1⟩)
        go_ret
        exact ⟨ret_bool hr.out.symm, Below.on hB0 hb1⟩
  · rename_i h1 h2 h3
    go_ret
    refine ⟨ret_bool (Eq.symm (Bool.eq_false_iff.2 fun e => ?_)), below_alloc (below_alloc (Below.refl _ _) _) _⟩
    obtain ⟨-, -, e3, -⟩ := wholeB_iff.1 e
    exact h3 (wrap_len' hp1 hp2 e3)
  · rename_i h1 h2
    go_ret
    refine ⟨ret_bool (Eq.symm (Bool.eq_false_iff.2 fun e => ?_)), below_alloc (below_alloc (Below.refl _ _) _) _⟩
    obtain ⟨-, e2, -⟩ := wholeB_iff.1 e
    omega
  · rename_i h1
    go_ret
    refine ⟨ret_bool (Eq.symm (Bool.eq_false_iff.2 fun e => ?_)), below_alloc (below_alloc (Below.refl _ _) _) _⟩
    obtain ⟨e1, -⟩ := wholeB_iff.1 e
    exact h1 (by rw [e1]; rw [Bool.eq_iff_iff]; simp)
end
end Go.Proofs.YtljloicgjgbplaaGreat
