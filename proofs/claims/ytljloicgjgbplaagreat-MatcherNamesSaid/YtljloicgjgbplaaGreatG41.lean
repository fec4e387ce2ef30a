/- Plain: the list in which each link is any link, and a visited one is none. No condition. -/
import Derived.Test.YtljloicgjgbplaaGreatG25
import Derived.Test.YtljloicgjgbplaaGreatG33
import Derived.Test.YtljloicgjgbplaaGreatG40
namespace Go.Proofs.YtljloicgjgbplaaGreat
open Go.RowKit

def plS {X : Type} (f : X → X) (s : SimX X) : SimX X := ⟨if s.kind = 4 then 6 else if s.kind = 5 then 9 else s.kind, s.name, s.op, s.val, s.fold, s.a, s.b, s.of, s.list.map f⟩
def plC {X : Type} (f : X → X) (c : CompX X) : CompX X := ⟨c.tag, c.sims.map (plS f)⟩
def plX {X : Type} (f : X → X) (x : CpxX X) : CpxX X := ⟨x.lead, x.parts.map (plC f), x.combs⟩
def plV : (n : Nat) → SelL n → SelL n
  | 0 => id
  | n + 1 => plX (X := SelL n) (plV n)
section
variable {X : Type} {W : Nat → Bool → Bool → X → Bool} {f : X → X} (hf : ∀ d h r x, W d h r x = true → W d h r (f x) = true)
include hf
theorem pl_listB {d : Nat} {h : Bool} {k : Int} {l : List X} (hl : listB W d h k l = true) : listB W d h k (l.map f) = true := by
  unfold listB at hl ⊢
  rw [Bool.and_eq_true, List.all_eq_true] at hl ⊢
  refine ⟨hl.1, fun x hx => ?_⟩
  obtain ⟨y, hy, rfl⟩ := List.mem_map.1 hx
  exact hf _ _ _ _ (hl.2 y hy)
theorem pl_simB {d : Nat} {h : Bool} {s : SimX X} (hs : simB W d h s = true) : simB W d h (plS f s) = true := by
  obtain ⟨k, nm, op, vl, fo, a, b, o, l⟩ := s
  by_cases h4 : k = 4
  · subst h4
    simp [simB, plS] at hs ⊢
    exact hs
  · by_cases h5 : k = 5
    · subst h5
      simp [simB, plS] at hs ⊢
      obtain ⟨h1, ⟨⟨rfl, rfl⟩, rfl⟩, rfl⟩ := hs
      simp [h1]
    · have hp : plS f ⟨k, nm, op, vl, fo, a, b, o, l⟩ = ⟨k, nm, op, vl, fo, a, b, o, l.map f⟩ := by simp [plS, h4, h5]
      rw [hp]
      unfold simB at hs ⊢
      simp only [List.length_map]
      cases hb : listB W d h k l
      · simp only [hb] at hs
        split
        · rename_i hk; rw [if_pos hk] at hs; exact hs
        · rename_i hk; rw [if_neg hk] at hs
          split
          · rename_i hk; rw [if_pos hk] at hs; exact hs
          · rename_i hk; rw [if_neg hk] at hs
            split
            · rename_i hk; rw [if_pos hk] at hs
              split
              · rename_i hk; rw [if_pos hk] at hs; exact hs
              · rename_i hk; rw [if_neg hk] at hs
                split
                · rename_i hk; rw [if_pos hk] at hs
                  split
                  · rename_i ho; rw [if_pos ho] at hs; simp at hs
                  · rename_i ho; rw [if_neg ho] at hs; exact hs
                · rename_i hk; rw [if_neg hk] at hs; simp at hs
            · rename_i hk; rw [if_neg hk] at hs; exact hs
      · rw [pl_listB hf hb]
        simp only [hb] at hs
        exact hs
theorem pl_compB {d : Nat} {h : Bool} {c : CompX X} (hc : compB W d h c = true) : compB W d h (plC f c) = true := by
  obtain ⟨h1, h2, h3, h4⟩ := compB_iff.1 hc
  refine compB_iff.2 ⟨h1, by simpa [plC] using h2, by simpa [plC] using h3, fun s hs => ?_⟩
  obtain ⟨y, hy, rfl⟩ := List.mem_map.1 hs
  exact pl_simB hf (h4 y hy)
theorem pl_wholeB {d : Nat} {h r : Bool} {x : CpxX X} (hx : wholeB W d h r x = true) : wholeB W d h r (plX f x) = true := by
  unfold wholeB at hx ⊢
  simp only [Bool.and_eq_true, beq_iff_eq, decide_eq_true_eq, List.all_eq_true, and_assoc] at hx ⊢
  obtain ⟨h1, h2, h3, h4, h5, h6⟩ := hx
  refine ⟨h1, h2, by simpa [plX] using h3, by simpa [plX] using h4, h5, fun c hc => ?_⟩
  obtain ⟨y, hy, rfl⟩ := List.mem_map.1 hc
  exact pl_compB hf (h6 y hy)
end
theorem pl_wholeV : ∀ (n d : Nat) (h r : Bool) (x : SelL n), wholeV n d h r x = true → wholeV n d h r (plV n x) = true
  | 0 => fun _ _ _ x _ => x.elim
  | n + 1 => fun _ _ _ _ hx => pl_wholeB (pl_wholeV n) hx
theorem pl_numL {X : Type} {N : List X → Nat} {f : X → X} (hN : ∀ l, N (l.map f) = N l) (l : List (CpxX X)) : numL N (l.map (plX f)) = numL N l := by
  have h1 : ∀ c : CpxX X, numParts N (plX f c).parts = numParts N c.parts := fun c => by
    unfold numParts numSims plX plC plS
    simp [Function.comp_def, hN]
  unfold numL
  simp [Function.comp_def, h1]
theorem pl_numV : ∀ (n : Nat) (l : List (SelL n)), numV n (l.map (plV n)) = numV n l
  | 0 => fun _ => rfl
  | n + 1 => fun l => pl_numL (pl_numV n) l
theorem pl_fineV {n : Nat} {l : List (SelL n)} (h : fineV n l = true) : fineV n (l.map (plV n)) = true := by
  unfold fineV at h ⊢
  simp only [Bool.and_eq_true, decide_eq_true_eq, List.all_eq_true, List.length_map] at h ⊢
  refine ⟨h.1, fun x hx => ?_⟩
  obtain ⟨y, hy, rfl⟩ := List.mem_map.1 hx
  exact pl_wholeV _ _ _ _ _ (h.2 y hy)
theorem chkV_zero {n : Nat} {l : List (SelL n)} : chkV n l = 0 ↔ fineV n l = true ∧ numV n l ≤ 64 := by
  unfold chkV
  by_cases h : fineV n l = true
  · rw [if_pos h]
    by_cases h2 : numV n l ≤ 64
    · rw [if_pos h2]; simp [h, h2]
    · rw [if_neg h2]; simp [h2]
  · rw [if_neg h]; simp [h]
theorem pl_chkV {n : Nat} {l : List (SelL n)} (h : chkV n l = 0) : chkV n (l.map (plV n)) = 0 := by
  obtain ⟨h1, h2⟩ := chkV_zero.1 h
  exact chkV_zero.2 ⟨pl_fineV h1, by rw [pl_numV]; exact h2⟩
theorem hasB_zero {p : Int} (h : 1 ≤ p) : hasB 0 0 p = false := by
  unfold hasB
  rw [if_neg (by omega), if_neg (by omega), beq_eq_false_iff_ne]
  omega
theorem matS_mode {T : List ANode} {i : Nat} {s : Sim} {m m' : Int} (h4 : s.kind ≠ 4) (h5 : s.kind ≠ 5) : matS T i s m = matS T i s m' := by
  unfold matS
  split
  · rfl
  · split
    · rfl
    · split
      · rfl
      · rfl
section
variable (T : List ANode) (m : Int) {X : Type} {W : Nat → Bool → Bool → X → Bool} (L : X → Int) (C : X → List Int) (R R' : X → List (List Bool)) {f : X → X}
    (hL : ∀ x, L (f x) = L x) (hC : ∀ x, C (f x) = C x) (hR : ∀ d h r x, W d h r x = true → R' (f x) = R x)
include hC hR
theorem pl_anyI {d : Nat} {h r : Bool} {l : List X} (hl : l.all (W d h r) = true) (i : Nat) : anyI T C R' (l.map f) i = anyI T C R l i := by
  unfold anyI
  rw [List.any_map, Bool.eq_iff_iff, List.any_eq_true, List.any_eq_true]
  have h1 : ∀ x ∈ l, isI T C R' (f x) i = isI T C R x i := fun x hx => by
    unfold isI
    rw [hC, hR _ _ _ x (List.all_eq_true.1 hl x hx)]
  constructor
  · rintro ⟨x, hx, h2⟩; exact ⟨x, hx, by rw [← h1 x hx]; exact h2⟩
  · rintro ⟨x, hx, h2⟩; exact ⟨x, hx, by simp only [Function.comp]; rw [h1 x hx]; exact h2⟩
include hL
theorem pl_anyH {d : Nat} {h r : Bool} {l : List X} (hl : l.all (W d h r) = true) (i : Nat) : anyH T L C R' (l.map f) i = anyH T L C R l i := by
  unfold anyH
  rw [List.any_map, Bool.eq_iff_iff, List.any_eq_true, List.any_eq_true]
  have h1 : ∀ x ∈ l, isH T L C R' (f x) i = isH T L C R x i := fun x hx => by
    unfold isH
    rw [hL, hC, hR _ _ _ x (List.all_eq_true.1 hl x hx)]
  constructor
  · rintro ⟨x, hx, h2⟩; exact ⟨x, hx, by rw [← h1 x hx]; exact h2⟩
  · rintro ⟨x, hx, h2⟩; exact ⟨x, hx, by simp only [Function.comp]; rw [h1 x hx]; exact h2⟩
theorem pl_simM {d : Nat} {h : Bool} {s : SimX X} (hs : simB W d h s = true) (i : Nat) : simM T m L C R' (plS f s) i = simM T (-1) L C R s i := by
  obtain ⟨k, nm, op, vl, fo, a, b, o, l⟩ := s
  by_cases hk : 9 ≤ k ∧ k ≤ 14
  · have hp : plS f ⟨k, nm, op, vl, fo, a, b, o, l⟩ = ⟨k, nm, op, vl, fo, a, b, o, l.map f⟩ := by simp only [plS]; rw [if_neg (by omega), if_neg (by omega)]
    have hl' : l.all (W (d + 1) (h || decide (k = 14)) (decide (k = 14))) = true := simR_list hs hk
    rw [hp]
    unfold simM
    simp only
    have hI := fun j => pl_anyI T C R R' hC hR hl' j
    rw [hI i, pl_anyH T L C R R' hL hC hR hl' i]
    simp only [hI]
    split
    · rfl
    · split
      · rfl
      · split
        · rfl
        · rw [if_pos (by omega), if_pos (by omega)]
  · by_cases h4 : k = 4
    · subst h4
      simp only [plS, if_true, simM, rawS, matS]
      simp
    · by_cases h5 : k = 5
      · subst h5
        simp [simB] at hs
        obtain ⟨-, ⟨⟨rfl, rfl⟩, rfl⟩, rfl⟩ := hs
        simp only [plS, simM, rawS, matS]
        simp
        unfold nmatF
        rw [Bool.and_eq_false_iff]
        by_cases hp : 1 ≤ atF T i false (rowOf T fun _ => true)
        · right
          simpa [anyI] using hasB_zero hp
        · left
          simpa [anyI] using hp
      · have hp : plS f ⟨k, nm, op, vl, fo, a, b, o, l⟩ = ⟨k, nm, op, vl, fo, a, b, o, l.map f⟩ := by simp only [plS]; rw [if_neg h4, if_neg h5]
        rw [hp, simM_plain _ _ _ _ _ hk, simM_plain _ _ _ _ _ hk]
        exact matS_mode (s := rawS ⟨k, nm, op, vl, fo, a, b, o, l⟩) h4 h5
theorem pl_rowsM {d : Nat} {h r : Bool} {x : CpxX X} (hx : wholeB W d h r x = true) : rowsM T m L C R' (plX f x) = rowsM T (-1) L C R x := by
  unfold wholeB at hx
  simp only [Bool.and_eq_true, List.all_eq_true] at hx
  unfold rowsM plX
  simp only [List.map_map]
  refine List.map_congr_left fun c hc => ?_
  obtain ⟨-, -, -, h4⟩ := compB_iff.1 (hx.2 c hc)
  refine rowOf_ext T fun i _ => ?_
  unfold compM plC
  simp only
  congr 1
  rw [List.all_map, Bool.eq_iff_iff, List.all_eq_true, List.all_eq_true]
  have h1 : ∀ s ∈ c.sims, simM T m L C R' (plS f s) i = simM T (-1) L C R s i := fun s hs => pl_simM T m L C R R' hL hC hR (h4 s hs) i
  constructor
  · intro h2 s hs; rw [← h1 s hs]; exact h2 s hs
  · intro h2 s hs; simp only [Function.comp]; rw [h1 s hs]; exact h2 s hs
end
theorem pl_ldV : ∀ (n : Nat) (x : SelL n), ldV n (plV n x) = ldV n x
  | 0 => fun x => x.elim
  | _ + 1 => fun _ => rfl
theorem pl_csV : ∀ (n : Nat) (x : SelL n), csV n (plV n x) = csV n x
  | 0 => fun x => x.elim
  | _ + 1 => fun _ => rfl
theorem pl_rwV (T : List ANode) (m : Int) : ∀ (n d : Nat) (h r : Bool) (x : SelL n), wholeV n d h r x = true → rwV T m n (plV n x) = rwV T (-1) n x
  | 0 => fun _ _ _ x _ => x.elim
  | n + 1 => fun _ _ _ _ hx => pl_rowsM T m (X := SelL n) (ldV n) (csV n) (rwV T (-1) n) (rwV T m n) (pl_ldV n) (pl_csV n) (pl_rwV T m n) hx
/-- Plain matching: in each mode, the matching of the list in which each link is any link, and a visited one none. -/
theorem pl_inV {T : List ANode} {m : Int} {n : Nat} {l : List (SelL n)} (h : fineV n l = true) (i : Nat) : inV T m n (l.map (plV n)) i = inV T (-1) n l i := by
  unfold fineV at h
  rw [Bool.and_eq_true] at h
  exact pl_anyI T (csV n) (rwV T (-1) n) (rwV T m n) (pl_csV n) (pl_rwV T m n) h.2 i
end Go.Proofs.YtljloicgjgbplaaGreat
/- Walks: chapter 23 by the program: Check, All, Match. Conditions: the list has at most 1000000 selectors in all; the variable of the library that strings.Contains reads holds a number. -/
namespace Go.Proofs.YtljloicgjgbplaaGreat
open Go.RowKit

theorem knowsV (T : List ANode) (m : Int) : ∀ n, Knows (IsV n) (wholeV n) T (ldV n) (csV n) (rwV T m n)
  | 0 => ⟨isV_stays 0, fun _ _ _ _ _ _ _ _ _ h => h.elim, fun _ _ _ x _ => x.elim⟩
  | n + 1 => ⟨isV_stays (n + 1), fun _ _ _ _ _ _ _ _ _ h => ⟨IsCpx.lead (X := SelL n) h, (IsCpx.l8 (X := SelL n) h).1, IsCpx.rowK (X := SelL n) h⟩, fun _ _ _ _ h => wholeB_told T m (X := SelL n) (ldV n) (csV n) (rwV T m n) h⟩
theorem partsV_ok {T : List ANode} {m : Int} (hg : goodB T = true) (hm : modeB T m = true) : ∀ n, PartsT (IsV n) (wholeV n) T m (rwV T m n)
  | 0 => fun _ _ _ _ _ _ _ _ _ _ _ _ _ _ h => h.elim
  | n + 1 => partsT_ok (knowsV T m n) (partsV_ok hg hm n) hg hm
theorem listV_ok {T : List ANode} {m : Int} (hg : goodB T = true) (hm : modeB T m = true) (n : Nat) : ListT (IsV n) (wholeV n) T m (csV n) (rwV T m n) := listT_ok (knowsV T m n) (partsV_ok hg hm n) hg
/-- The error of a tree, a list and a mode. -/
def aksE (T : List ANode) (m : Int) (N : Nat) (l : List (SelL N)) : Int := if goodB T = true then (if modeB T m = true then chkV N l else 2) else 8
theorem aksE_zero {T : List ANode} {m : Int} {N : Nat} {l : List (SelL N)} : aksE T m N l = 0 ↔ goodB T = true ∧ modeB T m = true ∧ chkV N l = 0 := by
  unfold aksE
  by_cases h : goodB T = true
  · rw [if_pos h]
    by_cases h2 : modeB T m = true
    · rw [if_pos h2]; simp [h, h2]
    · rw [if_neg h2]; simp [h2]
  · rw [if_neg h]; simp [h]
def mallV (T : List ANode) (m : Int) (N : Nat) (l : List (SelL N)) : List Bool := if aksE T m N l = 0 then rowOf T (inV T m N l) else []
def mmatE (T : List ANode) (i m : Int) (N : Nat) (l : List (SelL N)) : Int := if askI T [i] = 0 then aksE T m N l else askI T [i]
def mmatV (T : List ANode) (i m : Int) (N : Nat) (l : List (SelL N)) : Bool := if mmatE T i m N l = 0 then inV T m N l i.toNat else false
theorem mmatE_zero {T : List ANode} {i m : Int} {N : Nat} {l : List (SelL N)} : mmatE T i m N l = 0 ↔ askI T [i] = 0 ∧ aksE T m N l = 0 := by
  unfold mmatE
  by_cases h : askI T [i] = 0
  · rw [if_pos h]; simp [h]
  · rw [if_neg h]; simp [h]
theorem mCheck_ok (N : Nat) (LA : Option Addr) (ln lc : Nat) (l : List (SelL N)) (w : World) (hrow : IsRow (IsV N) w LA ln l) (hnum : numV N l ≤ 1000000) :
    Calls Tryz.prog 25 #[.slice LA ln lc] w fun e w' => e = .returned (.int .i64 (chkV N l)) ∧ Below w.heap.size w w' := by
  have hc := hide (fun W (hW : Below w.heap.size w W) => selCheck_ok N LA ln lc l W (hrow.below (isV_stays N) hW) hnum)
  clear hrow hnum
  go_enter Tryz.func25, Tryz.ntmps25
  go_wp2_with fail
  (with_reducible refine (hc.out _ (Below.refl _ _)).mono ?_)
  rintro e w1 ⟨rfl, hb1⟩
  go_wp2
  go_ret
  exact ⟨rfl, hb1⟩
theorem fineV_all {N : Nat} {l : List (SelL N)} (h : fineV N l = true) : l.all (wholeV N 0 false false) = true := by
  unfold fineV at h
  rw [Bool.and_eq_true] at h
  exact h.2
set_option maxRecDepth 100000 in
set_option maxHeartbeats 1000000 in
theorem mAll_ok (A : Option Addr) (n c : Nat) (T : List ANode) (N : Nat) (LA : Option Addr) (ln lc : Nat) (l : List (SelL N)) (m : Int) (w : World) (h : IsTree w A n T) (hmx : HasMax w) (hrow : IsRow (IsV N) w LA ln l) (hnum : numV N l ≤ 1000000) :
    Calls Tryz.prog 13 #[.agg #[.slice A n c], .slice LA ln lc, .int .i64 m] w (MadeB w (mallV T m N l) (aksE T m N l)) := by
  have hck := hide (fun W (hW : Below w.heap.size w W) => mCheck_ok N LA ln lc l W (hrow.below (isV_stays N) hW) hnum)
  have hs7 := hide (fun (c0 : Int) (h0 : smE T simK7 m = c0) W (hW : Below w.heap.size w W) => sAll7_ok T m c0 h0 A n c W (h.below hW) (hmx.below hW))
  have hls := hide (fun (hg : goodB T = true) (hm : modeB T m = true) (hf : fineV N l = true) W (hW : Below w.heap.size w W) => listV_ok hg hm N A n c LA ln lc l W (h.below hW) (hmx.below hW) (hrow.below (isV_stays N) hW) ⟨_, _, _, fineV_all hf⟩)
  have hl := h.1
  have hB0 := below_alloc (Below.refl w.heap.size w) (.cells #[.slice A n c] 24)
  have hbox0 : (w.alloc (.cells #[.slice A n c] 24)).cell? ⟨w.heap.size, 0, none⟩ = some (.slice A n c) := by go_simp
  clear h hmx hrow hnum
  obtain ⟨c0, hc0⟩ : ∃ c0, smE T simK7 m = c0 := ⟨_, rfl⟩
  have h7 := hide (hs7.out c0 hc0)
  rw [smE7] at hc0
  by_cases h0 : c0 = 0
  · subst h0
    have hg : goodB T = true := by
      by_cases hg : goodB T = true
      · exact hg
      · rw [if_neg hg] at hc0; cases hc0
    rw [if_pos hg] at hc0
    have hm : modeB T m = true := by
      by_cases hm : modeB T m = true
      · exact hm
      · rw [if_neg hm] at hc0; cases hc0
    have hE : Hid (aksE T m N l = chkV N l) := by show _ = _; unfold aksE; rw [if_pos hg, if_pos hm]
    have hn64 : n ≤ 64 := by have := ((goodB_iff T).1 hg).2.1; omega
    clear hc0
    obtain ⟨c1, hc1⟩ : ∃ c1, chkV N l = c1 := ⟨_, rfl⟩
    rw [hc1] at hck hE
    by_cases h1 : c1 = 0
    · subst h1
      have hls' := hide (hls.out hg hm (chkV_zero.1 hc1).1)
      have hV : Hid (mallV T m N l = rowOf T (inV T m N l)) := by show _ = _; unfold mallV; rw [if_pos hE.out]
      clear hg hm hc1 hls hs7
      rw [hV.out, hE.out]
      go_enter Tryz.func13, Tryz.ntmps13
      go_wp2_with fail
      (with_reducible refine (h7.out _ hB0).mono ?_)
      rintro e w1 ⟨A1, n1, c1, rfl, hb1⟩
      have hB1 := Below.on hB0 hb1
      have hbox1 := cell_later hb1 hbox0
      go_wp2_with fail
      (with_reducible refine (hck.out _ hB1).mono ?_)
      rintro e w2 ⟨rfl, hb2⟩
      have hB2 := Below.on hB1 hb2
      have hbox2 := cell_later hb2 hbox1
      go_wp2_with fail
      (with_reducible refine (hls'.out _ hB2).mono ?_)
      rintro e w3 ⟨g, rfl, hg0, hBs, hb3⟩
      have hB3 := Below.on hB2 hb3
      have hBs' := hide hBs
      clear hBs
      go_wp2
      go_ret2
      obtain ⟨A9, c9, h91, h92, h93, h94, h95⟩ := madeB1_row (f' := inV T m N l) hl hn64 hBs'.out hB3 (fun _ _ => rfl)
      injection h91 with h91
      exact ⟨A9, c9, by rw [← h91]; rfl, h92, h93, by unfold maxLen; omega, h95⟩
    · have hV : Hid (mallV T m N l = []) := by show _ = _; unfold mallV; rw [if_neg (by rw [hE.out]; exact h1)]
      have hcb : (c1 != 0) = true := by rw [bne_iff_ne]; exact h1
      clear hg hm hc1 hls hs7 h1
      rw [hV.out, hE.out]
      go_enter Tryz.func13, Tryz.ntmps13
      go_wp2_with fail
      (with_reducible refine (h7.out _ hB0).mono ?_)
      rintro e w1 ⟨A1, n1, c1, rfl, hb1⟩
      have hB1 := Below.on hB0 hb1
      have hbox1 := cell_later hb1 hbox0
      go_wp2_with fail
      (with_reducible refine (hck.out _ hB1).mono ?_)
      rintro e w2 ⟨rfl, hb2⟩
      have hB2 := Below.on hB1 hb2
      go_wp2
      go_ret2
      exact madeB_nil hB2
  · have hE : Hid (aksE T m N l = c0) := by
      show _ = _
      unfold aksE
      by_cases hg : goodB T = true
      · rw [if_pos hg] at hc0 ⊢
        by_cases hm : modeB T m = true
        · rw [if_pos hm] at hc0; exact absurd hc0.symm h0
        · rw [if_neg hm] at hc0 ⊢; exact hc0
      · rw [if_neg hg] at hc0 ⊢; exact hc0
    have hV : Hid (mallV T m N l = []) := by show _ = _; unfold mallV; rw [if_neg (by rw [hE.out]; exact h0)]
    have hcb : (c0 != 0) = true := by rw [bne_iff_ne]; exact h0
    clear hc0 hls hs7 h0
    rw [hV.out, hE.out]
    go_enter Tryz.func13, Tryz.ntmps13
    go_wp2_with fail
    (with_reducible refine (h7.out _ hB0).mono ?_)
    rintro e w1 ⟨A1, n1, c1, rfl, hb1⟩
    have hB1 := Below.on hB0 hb1
    go_wp2
    go_ret2
    exact madeB_nil hB1
set_option maxRecDepth 100000 in
set_option maxHeartbeats 1000000 in
theorem mMatch_ok (A : Option Addr) (n c : Nat) (T : List ANode) (i : Int) (N : Nat) (LA : Option Addr) (ln lc : Nat) (l : List (SelL N)) (m : Int) (w : World) (h : IsTree w A n T) (hmx : HasMax w) (hrow : IsRow (IsV N) w LA ln l) (hnum : numV N l ≤ 1000000) :
    Calls Tryz.prog 20 #[.agg #[.slice A n c], .int .i64 i, .slice LA ln lc, .int .i64 m] w fun e w' => e = .returned (.tuple #[.bool (mmatV T i m N l), .int .i64 (mmatE T i m N l)]) ∧ Below w.heap.size w w' := by
  have hal := hide (fun W (hW : Below w.heap.size w W) => mAll_ok A n c T N LA ln lc l m W (h.below hW) (hmx.below hW) (hrow.below (isV_stays N) hW) hnum)
  have hl := h.1
  clear hmx hrow hnum
  obtain ⟨c0, hc0⟩ : ∃ c0, askI T [i] = c0 := ⟨_, rfl⟩
  have hdp := hide (fun W (hW : Below w.heap.size w W) => (show Calls Tryz.prog 44 #[.agg #[.slice A n c], .int .i64 i] W fun e w' => e = .returned (.tuple #[.int .i64 (depE T i), .int .i64 c0]) ∧ Below W.heap.size W w' from by rw [← hc0]; exact depth_ok A n c T i W (h.below hW)))
  clear h
  have hB0 := below_alloc (Below.refl w.heap.size w) (.cells #[.slice A n c] 24)
  have hbox0 : (w.alloc (.cells #[.slice A n c] 24)).cell? ⟨w.heap.size, 0, none⟩ = some (.slice A n c) := by go_simp
  generalize depE T i = dd at *
  by_cases h0 : c0 = 0
  · subst h0
    obtain ⟨hg, hir⟩ := askI_zero.1 hc0
    have hir := hir i (by simp)
    obtain ⟨k, rfl⟩ := Int.eq_ofNat_of_zero_le hir.1
    have hk : k < n := by omega
    have hE : Hid (mmatE T k m N l = aksE T m N l) := if_pos hc0
    obtain ⟨c1, hc1⟩ : ∃ c1, aksE T m N l = c1 := ⟨_, rfl⟩
    by_cases h1 : c1 = 0
    · subst h1
      have hV : Hid (mmatV T k m N l = inV T m N l k) := by show _ = _; unfold mmatV; rw [if_pos (hE.out.trans hc1)]; rfl
      have hr : Hid (mallV T m N l = rowOf T (inV T m N l)) := by show _ = _; unfold mallV; rw [if_pos hc1]
      have hbx : Hid (bx (rowOf T (inV T m N l)) k = inV T m N l k) := rowOf_bx T _ (by omega)
      have hrl : Hid ((rowOf T (inV T m N l)).length = n) := by show _ = _; rw [rowOf_len, hl]
      rw [hc1, hr.out] at hal
      rw [hV.out, hE.out, hc1]
      generalize rowOf T (inV T m N l) = XL at *
      generalize inV T m N l k = rb at *
      clear hc0 hir hg hc1 hV hE hr
      go_enter Tryz.func20, Tryz.ntmps20
      go_wp2_with fail
      (with_reducible refine (hdp.out _ hB0).mono ?_)
      rintro e w1 ⟨rfl, hb1⟩
      have hB1 := Below.on hB0 hb1
      have hbox1 := cell_later hb1 hbox0
      go_wp2_with fail
      (with_reducible refine (hal.out _ hB1).mono ?_)
      rintro e w2 ⟨A2, c2, rfl, hI2, h21, h22, hb2⟩
      have hB2 := Below.on hB1 hb2
      rw [hrl.out] at hI2 h21 ⊢
      obtain ⟨b2, o2, rfl, hbl2, hc2⟩ := hI2.2.2 (by omega)
      have g2 := hc2 k hk
      rw [hbx.out] at g2
      clear hI2 hc2
      go_wp2
      go_ret2
      exact ⟨rfl, hB2⟩
    · have hV : Hid (mmatV T k m N l = false) := by show _ = _; unfold mmatV; rw [if_neg (by rw [hE.out, hc1]; exact h1)]
      have hr : Hid (mallV T m N l = []) := by show _ = _; unfold mallV; rw [if_neg (by rw [hc1]; exact h1)]
      have hcb : (c1 != 0) = true := by rw [bne_iff_ne]; exact h1
      rw [hc1, hr.out] at hal
      rw [hV.out, hE.out, hc1]
      clear hc0 hir hg hc1 hV hE hr h1
      go_enter Tryz.func20, Tryz.ntmps20
      go_wp2_with fail
      (with_reducible refine (hdp.out _ hB0).mono ?_)
      rintro e w1 ⟨rfl, hb1⟩
      have hB1 := Below.on hB0 hb1
      have hbox1 := cell_later hb1 hbox0
      go_wp2_with fail
      (with_reducible refine (hal.out _ hB1).mono ?_)
      rintro e w2 ⟨A2, c2, rfl, hI2, h21, h22, hb2⟩
      have hB2 := Below.on hB1 hb2
      clear hI2
      go_wp2
      go_ret2
      exact ⟨rfl, hB2⟩
  · have hE : Hid (mmatE T i m N l = c0) := by show _ = _; unfold mmatE; rw [if_neg (by rw [hc0]; exact h0), hc0]
    have hV : Hid (mmatV T i m N l = false) := by show _ = _; unfold mmatV; rw [if_neg (by rw [hE.out]; exact h0)]
    have hcb : (c0 != 0) = true := by rw [bne_iff_ne]; exact h0
    rw [hV.out, hE.out]
    clear hc0 h0 hE hV hal
    go_enter Tryz.func20, Tryz.ntmps20
    go_wp2_with fail
    (with_reducible refine (hdp.out _ hB0).mono ?_)
    rintro e w1 ⟨rfl, hb1⟩
    have hB1 := Below.on hB0 hb1
    go_wp2
    go_ret2
    exact ⟨rfl, hB1⟩
/-- An element matches the selector with an index. -/
def hitV (T : List ANode) (m : Int) (N : Nat) (l : List (SelL N)) (i k : Nat) : Bool := (l[k]?).any fun x => isI T (csV N) (rwV T m N) x i
/-- The indices of those that an element matches, among the first q. -/
def whiL (T : List ANode) (m : Int) (N : Nat) (l : List (SelL N)) (i q : Nat) : List Int := ((List.range q).filter (hitV T m N l i)).map fun k : Nat => (k : Int)
def whiV (T : List ANode) (i m : Int) (N : Nat) (l : List (SelL N)) : List Int := if mmatE T i m N l = 0 then whiL T m N l i.toNat l.length else []
theorem whiL_succ (T : List ANode) (m : Int) (N : Nat) (l : List (SelL N)) (i q : Nat) : whiL T m N l i (q + 1) = whiL T m N l i q ++ (if hitV T m N l i q = true then [(q : Int)] else []) := by
  unfold whiL
  rw [List.range_succ, List.filter_append, List.map_append]
  by_cases h : hitV T m N l i q = true
  · rw [if_pos h, List.filter_cons_of_pos h]; rfl
  · rw [if_neg h, List.filter_cons_of_neg h]; rfl
theorem whiL_len (T : List ANode) (m : Int) (N : Nat) (l : List (SelL N)) (i q : Nat) : (whiL T m N l i q).length ≤ q := by
  unfold whiL
  rw [List.length_map]
  exact Nat.le_trans (List.length_filter_le _ _) (by rw [List.length_range]; exact Nat.le_refl _)
/-- One selector of a list, as a list. -/
theorem IsRow.one {X : Type} {V : Lies X} {w : World} {b off n : Nat} {l : List X} (h : IsRow V w (some ⟨b, off, none⟩) n l) {q : Nat} (hq : q < n) (hl : l.length = n) : IsRow V w (some ⟨b, off + q * 3, none⟩) 1 [l[q]'(by omega)] := by
  obtain ⟨b', off', ld, PA, pn, pc, KA, kn, kc, hA, hbl, c0, c1, c2, hv⟩ := h.at hq hl
  injection hA with hA
  injection hA with h1 h2 h3
  subst h1 h2
  refine ⟨rfl, by omega, fun _ => ⟨b, off + q * 3, rfl, hbl, fun j x hx => ?_⟩⟩
  match j, hx with
  | 0, hx =>
    simp at hx
    subst hx
    exact ⟨ld, PA, pn, pc, KA, kn, kc, by simpa using c0, by simpa using c1, by simpa using c2, hv⟩
  | j + 1, hx => simp at hx
end Go.Proofs.YtljloicgjgbplaaGreat
/- Walks: the error of a tree, a list and a mode, by chapter 23's reference. Condition: a list has at most 1000000 selectors in all. -/
namespace Go.Proofs.YtljloicgjgbplaaGreat
open Go.RowKit

set_option maxRecDepth 100000 in
theorem rasked23_ok (A : Option Addr) (n c : Nat) (T : List ANode) (N : Nat) (LA : Option Addr) (ln lc : Nat) (l : List (SelL N)) (m : Int) (w : World) (h : IsTree w A n T) (hrow : IsRow (IsV N) w LA ln l) (hnum : numV N l ≤ 1000000) :
    Calls Tryz.prog 11 #[.agg #[.slice A n c], .slice LA ln lc, .int .i64 m] w fun e w' => e = .returned (.int .i64 (aksE T m N l)) ∧ Below w.heap.size w w' := by
  have hck := hide (fun W (hW : Below w.heap.size w W) => rsChk_ok N LA ln lc l W (hrow.below (isV_stays N) hW) hnum)
  have hch := hide (fun W (hW : Below w.heap.size w W) => rcheck_ok A n c T W (h.below hW))
  have hmd := hide (fun W (hg : goodB T = true) (hW : Below w.heap.size w W) => rmode_ok A n c T m W (h.below hW) hg)
  have hB0 := below_alloc (Below.refl w.heap.size w) (.cells #[.slice A n c] 24)
  have hbox0 : (w.alloc (.cells #[.slice A n c] 24)).cell? ⟨w.heap.size, 0, none⟩ = some (.slice A n c) := by go_simp
  clear h hrow hnum
  by_cases hg : goodB T = true
  · have hc0 : chk T = 0 := chk_ok hg
    rw [hc0] at hch
    have hE : Hid (aksE T m N l = if modeB T m = true then chkV N l else 2) := by show _ = _; unfold aksE; rw [if_pos hg]
    have hmd' := hide (fun W (hW : Below w.heap.size w W) => hmd.out W hg hW)
    clear hmd hc0 hg
    cases hm : modeB T m
    · rw [hm] at hmd'
      have hE2 : Hid (aksE T m N l = 2) := by show _ = _; rw [hE.out, hm]; rfl
      rw [hE2.out]
      clear hm hE
      go_enter Tryz.func11, Tryz.ntmps11
      go_wp2_with fail
      (with_reducible refine (hch.out _ hB0).mono ?_)
      rintro e w1 ⟨rfl, hb1⟩
      have hB1 := Below.on hB0 hb1
      have hbox1 := cell_later hb1 hbox0
      go_wp2_with fail
      (with_reducible refine (hmd'.out _ hB1).mono ?_)
      rintro e w2 ⟨rfl, hb2⟩
      go_wp2
      go_ret
      exact ⟨rfl, Below.on hB1 hb2⟩
    · rw [hm] at hmd'
      have hE2 : Hid (aksE T m N l = chkV N l) := by show _ = _; rw [hE.out, hm]; rfl
      rw [hE2.out]
      generalize chkV N l = cv at *
      clear hm hE
      go_enter Tryz.func11, Tryz.ntmps11
      go_wp2_with fail
      (with_reducible refine (hch.out _ hB0).mono ?_)
      rintro e w1 ⟨rfl, hb1⟩
      have hB1 := Below.on hB0 hb1
      have hbox1 := cell_later hb1 hbox0
      go_wp2_with fail
      (with_reducible refine (hmd'.out _ hB1).mono ?_)
      rintro e w2 ⟨rfl, hb2⟩
      have hB2 := Below.on hB1 hb2
      go_wp2_with fail
      (with_reducible refine (hck.out _ hB2).mono ?_)
      rintro e w3 ⟨rfl, hb3⟩
      go_wp2
      go_ret
      exact ⟨rfl, Below.on hB2 hb3⟩
  · have hc0 : chk T = 8 := chk_bad hg
    rw [hc0] at hch
    have hE : Hid (aksE T m N l = 8) := by show _ = _; unfold aksE; rw [if_neg hg]
    rw [hE.out]
    clear hmd hc0 hg hE
    go_enter Tryz.func11, Tryz.ntmps11
    go_wp2_with fail
    (with_reducible refine (hch.out _ hB0).mono ?_)
    rintro e w1 ⟨rfl, hb1⟩
    have hB1 := Below.on hB0 hb1
    have hbox1 := cell_later hb1 hbox0
    go_wp2_with fail
    (with_reducible refine (hch.out _ hB1).mono ?_)
    rintro e w2 ⟨rfl, hb2⟩
    go_wp2
    go_ret
    exact ⟨rfl, Below.on hB1 hb2⟩
end Go.Proofs.YtljloicgjgbplaaGreat
