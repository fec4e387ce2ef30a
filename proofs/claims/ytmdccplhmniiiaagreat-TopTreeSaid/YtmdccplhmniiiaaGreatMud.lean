/- Walks: putting an element below another one, by the program. Conditions: the tree is good, the elements are in it, the one that moves is not the first. -/
import Derived.Test.YtmdccplhmniiiaaGreatPlm
import Derived.Test.YtmdccplhmniiiaaGreatRoi
import Derived.Test.YtmdccplhmniiiaaGreatLaws
namespace Go.Proofs.YtmdccplhmniiiaaGreat
open Go.RowKit

def cycB (T : List ANode) (p k : Nat) : Bool := decide ((k : Int) ∈ anc T p)
def putE (T : List ANode) (p k : Nat) : Int := if cycB T p k = true then 40 else 0
def putV (T : List ANode) (p k : Nat) (nx : Int) : List ANode := if cycB T p k = true then [] else putT T p k nx
theorem cyc_bel {T : List ANode} (hg : goodB T = true) {p k : Nat} (hp : p < T.length) (hk : k < T.length) : cycB T p k = (belE T p k || decide (p = k)) := by
  unfold cycB
  rw [bel_iff hg hp hk, anc_cons hg hp, Bool.eq_iff_iff]
  simp only [List.mem_cons, decide_eq_true_eq, Bool.or_eq_true]
  constructor
  · rintro (h | h)
    · exact .inr (by omega)
    · exact .inl h
  · rintro (h | h)
    · exact .inr h
    · exact .inl (by omega)
theorem ints_ins (l : List Int) (x : Int) (m : Nat) : (ints l).take m ++ [Value.int .i64 x] ++ (ints l).drop m = ints (l.take m ++ [x] ++ l.drop m) := by
  simp [ints]

set_option maxRecDepth 100000 in
set_option maxHeartbeats 8000000 in
theorem put_ok (A : Option Addr) (n c : Nat) (T : List ANode) (p k : Nat) (nx : Int) (w : World) (h : IsTree w A n T) (hg : goodB T = true) (hp : p < n) (hk : k < n) (hk1 : 1 ≤ k) :
    Calls Tryz.prog 45 #[.agg #[.slice A n c], .int .i64 p, .int .i64 k, .int .i64 nx] w (MadeOwn2 w (putV T p k nx) (putE T p k)) := by
  have hT := hide h
  have hl := h.1
  clear h
  have hB0 : Below w.heap.size w ((w.alloc (.cells #[.slice A n c] 26)).alloc (.cells #[.slice none 0 0] 26)) := below_alloc (below_alloc (Below.refl _ _) _) _
  have hbox0 : ((w.alloc (.cells #[.slice A n c] 26)).alloc (.cells #[.slice none 0 0] 26)).cell? ⟨w.heap.size, 0, none⟩ = some (.slice A n c) := by go_simp
  have hr0 : ((w.alloc (.cells #[.slice A n c] 26)).alloc (.cells #[.slice none 0 0] 26)).heap[w.heap.size + 1]? = some (.cells #[.slice none 0 0] 26 (0, 0)) := blk_at _ _ _ _ (by simp)
  have h0 : askI T [(p : Int), (k : Int)] = 0 := askI_ok hg (by simp; omega)
  have hcb := cyc_bel hg (by omega : p < T.length) (by omega : k < T.length)
  cases hbl : belE T p k
  · by_cases hpk : p = k
    · have hc : cycB T p k = true := by rw [hcb, hbl, hpk]; simp
      have he : putE T p k = 40 := if_pos hc
      have ht : putV T p k nx = [] := if_pos hc
      rw [he, ht]
      have hpk' : ((p : Int) == (k : Int)) = true := by simp [hpk]
      clear hcb hc he ht hg hpk
      go_enter Tryz.func45, Tryz.ntmps45
      go_wp2_with fail
      refine (below_ok _ _ _ T _ _ _ (hT.out.below hB0)).mono ?_
      rintro e w1 ⟨rfl, hb1⟩
      have hbox1 := cell_later hb1 hbox0
      have hB1 := Below.on hB0 hb1
      have hr1 := (hb1.block (w.heap.size + 1) (blk_lt hr0)).trans hr0
      have q1 : w1.cell? ⟨w.heap.size + 1, 0, none⟩ = some (.slice none 0 0) := by rw [blk_cell hr1]; rfl
      have q2 : w1.frozen? ⟨w.heap.size + 1, 0, none⟩ = false := blk_frozen hr1 0
      go_wp2
      have hres := (blk_cell (blk_set hr1 0 (.slice none 0 0)) 0).trans (rfl : (#[Value.slice none 0 0].setIfInBounds 0 (.slice none 0 0))[0]? = some (.slice none 0 0))
      refine bodyPost_ret (v := .tuple #[.agg #[.slice none 0 0], .int .i64 40]) (by simp [results, Tryz.results45, go_sem, hres]) rfl (made2_nil rfl (hB1.setCell (p := ⟨w.heap.size + 1, 0, none⟩) (by show w.heap.size ≤ w.heap.size + 1; omega) _))
    · have hc : cycB T p k = false := by rw [hcb, hbl]; simp [hpk]
      have he : putE T p k = 0 := by unfold putE; rw [hc]; rfl
      have ht : putV T p k nx = putT T p k nx := by unfold putV; rw [hc]; rfl
      rw [he, ht]
      have hpk' : ((p : Int) == (k : Int)) = false := by simp; omega
      have hanc : (k : Int) ∉ anc T p := by unfold cycB at hc; simpa using hc
      have hfit := hide (good_fits hg)
      have hfitX := hide (good_fits (good_put hg (by omega) (by omega) hk1 nx hanc))
      have hn64 : n ≤ 64 := by have := ((goodB_iff T).1 hg).2.1; omega
      have htl := takenT_len T k
      have hkl : (kids (takenT T k) p).length ≤ 70 := (fits_setP (fits_cut hfit.out (k : Int)) (k := k) (by rw [cutT_len]; omega) (-1) (nd (takenT T k) p) (nd_mem (T := takenT T k) (i := p) (by omega))).2.2.1
      have hPut : putT T p k nx = setP (setK (takenT T k) p (insB (kids (takenT T k) p) k nx)) k p := rfl
      have hPut' := hide hPut
      obtain ⟨S, hS⟩ : ∃ S, takenT T k = S := ⟨_, rfl⟩
      have hS' := hide hS
      rw [hS] at hPut' hkl htl
      obtain ⟨X, hX⟩ : ∃ X, putT T p k nx = X := ⟨_, rfl⟩
      rw [hX] at hPut' hfitX ⊢
      have hX' := hide hX
      have hXl : X.length = n := by rw [← hX, putT_len]; exact hl
      obtain ⟨l, hla⟩ : ∃ l, kids S p = l := ⟨_, rfl⟩
      have hla' := hide hla
      rw [hla] at hPut' hkl
      obtain ⟨at', hat⟩ : ∃ m, insAt l nx = m := ⟨_, rfl⟩
      have hatl : at' ≤ l.length := by rw [← hat]; exact insAt_le _ _
      have hins0 : insB l k nx = l.take at' ++ [(k : Int)] ++ l.drop at' := by unfold insB; rw [hat]
      have hinsL : (insB l k nx).length = l.length + 1 := insB_len _ _ _
      rw [hins0] at hPut' hinsL
      have hpos : (posn l nx < 0 ∧ at' = l.length) ∨ (0 ≤ posn l nx ∧ posn l nx = (at' : Int)) := by
        unfold insAt at hat
        split at hat
        · exact .inl ⟨by assumption, hat.symm⟩
        · exact .inr ⟨by omega, by omega⟩
      have hinsL' := hide hinsL
      clear hcb hc he ht hg hpk hanc hPut hS hX hla hat hins0 hinsL
      go_enter Tryz.func45, Tryz.ntmps45
      go_wp2_with fail
      refine (below_ok _ _ _ T _ _ _ (hT.out.below hB0)).mono ?_
      rintro e w1 ⟨rfl, hb1⟩
      have hbox1 := cell_later hb1 hbox0
      have hB1 := Below.on hB0 hb1
      have hr1 := (hb1.block (w.heap.size + 1) (blk_lt hr0)).trans hr0
      have q1 : w1.cell? ⟨w.heap.size + 1, 0, none⟩ = some (.slice none 0 0) := by rw [blk_cell hr1]; rfl
      have q2 : w1.frozen? ⟨w.heap.size + 1, 0, none⟩ = false := blk_frozen hr1 0
      go_wp2_with fail
      refine (taken_ok _ n c T k _ (hT.out.below hB1) (by omega) hfit.out hk).mono ?_
      rw [hS'.out]
      rintro e w2 ⟨A2, c2, rfl, hO2, -, hb2⟩
      have hB2 := Below.on hB1 hb2
      have hr2 := (hb2.block (w.heap.size + 1) (blk_lt hr1)).trans hr1
      have q1 : w2.cell? ⟨w.heap.size + 1, 0, none⟩ = some (.slice none 0 0) := by rw [blk_cell hr2]; rfl
      have q2 : w2.frozen? ⟨w.heap.size + 1, 0, none⟩ = false := blk_frozen hr2 0
      have hO2a := hO2.below (below_alloc (Below.refl _ _) (.cells #[.slice A2 n c2] 26))
      obtain ⟨g, cap, A', ac', C', cc', N⟩ := hO2a.node hp (by omega)
      have hval := N.val
      injection hval with e1 e2 e3
      subst e1 e3
      have hr2a := blk_alloc hr2 (.cells #[.slice (some ⟨g, 0, none⟩) n c2] 26)
      have hk2a := blk_new w2 #[.slice (some ⟨g, 0, none⟩) n c2] 26
      have q1 : (w2.alloc (.cells #[.slice (some ⟨g, 0, none⟩) n c2] 26)).cell? ⟨w.heap.size + 1, 0, none⟩ = some (.slice none 0 0) := by rw [blk_cell hr2a]; rfl
      have q2 : (w2.alloc (.cells #[.slice (some ⟨g, 0, none⟩) n c2] 26)).frozen? ⟨w.heap.size + 1, 0, none⟩ = false := blk_frozen hr2a 0
      have hcl := N.c3
      rw [hla'.out] at hcl
      have hrowK := N.rowK
      rw [hla'.out] at hrowK
      have hfzc := N.fz (p * 4 + 3)
      have hgl := N.lt
      have hisK := N.isK
      have hlow := N.low
      have hroom := N.room
      have hcap := N.cap63
      obtain ⟨csN, hgN⟩ := N.typ
      have hN := hide N
      have hz2 := hb2.size
      have hz1 := hb1.size
      have hb12 : w.heap.size + 2 ≤ w1.heap.size := by simp at hz1; omega
      have hz2a : w1.heap.size ≤ (w2.alloc (.cells #[.slice (some ⟨g, 0, none⟩) n c2] 26)).drew.heap.size := by simp; omega
      have hIx := isInts_of_own hrowK (by omega)
      obtain ⟨A9, c9, hv9, hlc9, hcm9, hIl⟩ := hIx
      injection hv9 with h1 h2 h3
      subst h1 h3
      have hins := insI_ok C' l.length cc' at' w1.heap.size (ints l) [.int .i64 (k : Int)] (w2.alloc (.cells #[.slice (some ⟨g, 0, none⟩) n c2] 26)).drew hrowK hatl (by omega) rfl (by intro u hu; simp at hu; rcases hu with rfl; rfl) (ints_one _) hz2a
      rw [ints_ins, show (w2.alloc (.cells #[.slice (some ⟨g, 0, none⟩) n c2] 26)).drew.heap.size = w2.heap.size + 1 by simp] at hins
      have hins' : Hid (Calls Tryz.prog 69 #[.slice C' l.length cc', .int .i64 at', .slice (some ⟨w2.heap.size + 1, 0, none⟩) 1 1] (((w2.alloc (.cells #[.slice (some ⟨g, 0, none⟩) n c2] 26)).alloc (.cells #[.int .i64 (k : Int)] 3)).drew) (MadeRow (w2.alloc (.cells #[.slice (some ⟨g, 0, none⟩) n c2] 26)).drew w1.heap.size 3 1 (.slice C' l.length cc') (l.length + 1) (ints (l.take at' ++ [(k : Int)] ++ l.drop at')))) := hins
      have hrowK' := hide hrowK
      have hIl' := hide hIl
      have ng2 : ¬ (w2.heap.size = g) := blk_ne hk2a hgN (by decide)
      have ng4 : ¬ (w.heap.size + 1 = g) := by omega
      have hKb : C'.map (·.block) ≠ some w2.heap.size := own_apart hrowK hk2a (by decide)
      have f0 : (w2.alloc (.cells #[.slice (some ⟨g, 0, none⟩) n c2] 26)).cell? ⟨w2.heap.size, 0, none⟩ = some (.slice (some ⟨g, 0, none⟩) n c2) := by rw [blk_cell hk2a]; rfl
      have hB2a := hide (below_alloc hB2 (.cells #[.slice (some ⟨g, 0, none⟩) n c2] 26))
      have hr2' := hide hr2a
      have hk2' := hide hk2a
      have hgN' := hide hgN
      have hcm64 : cc' ≤ 9223372036854775807 := by unfold maxLen at hcm9; omega
      have hl63 : l.length ≤ 9223372036854775807 := by omega
      clear N hins hrowK hIl hO2a hO2 hb2 hB2 hr2 hr2a hk2a hgN hr1 hbox1 hB1 hb1 hr0 hbox0 hB0 hz1 hz2a e2 h2
      go_wp2_with fail
      refine (index_ok _ _ _ l nx _ hIl'.out).mono ?_
      rintro e w3 ⟨rfl, rfl⟩
      have j0 : (0 : Int) ≤ (p : Int) := by omega
      have j1 : (p : Int) < (n : Int) := by omega
      rcases hpos with ⟨hps, hpe⟩ | ⟨hps, hpe⟩
      · subst hpe
        have j2 : 0 ≤ (l.length : Int) := by omega
        go_wp2
        go_region_with (first | (go_at_call 69; (with_reducible refine hins'.out.mono ?_); rintro e w6 ⟨A6, c6, rfl, hown6, hG6⟩; have r0 : w6.cell? ⟨w2.heap.size, 0, none⟩ = some (.slice (some ⟨g, 0, none⟩) n c2) := (World.cell?_of_block (hG6.2.2.2.1 w2.heap.size (by simp) (by rw [ownBlock_slice]; exact hKb))).trans f0; have r1 : w6.cell? ⟨g, p * 4 + 3, none⟩ = some (.slice C' l.length cc') := (World.cell?_of_block (hG6.2.2.2.1 g hgl (by rw [ownBlock_slice]; exact hisK))).trans hcl; have r2 : w6.frozen? ⟨g, p * 4 + 3, none⟩ = false := (World.frozen?_of_block (hG6.2.2.2.1 g hgl (by rw [ownBlock_slice]; exact hisK))).trans hfzc))
        all_goals
          have hO6 := hN.out.onK w6 A6 c6 (l.take l.length ++ [(k : Int)] ++ l.drop l.length) (fun q hq hne => hG6.2.2.2.1 q hq (by rw [ownBlock_slice]; exact hne)) (by rw [hinsL'.out]; exact hown6) (fun q hq => by
            rcases hG6.2.2.2.2 q ((ownBlock_slice _ _ _).trans hq) with h | h
            · rw [ownBlock_slice] at h; exact .inl h
            · exact .inr (Nat.le_of_lt h))
          rw [hinsL'.out] at hO6
          have hgN6 := (hG6.2.2.2.1 g hgl (by rw [ownBlock_slice]; exact hisK)).trans hgN'.out
          have hk6 := (hG6.2.2.2.1 w2.heap.size (by simp) (by rw [ownBlock_slice]; exact hKb)).trans hk2'.out
          have hr6 := (hG6.keep (by omega) (show (w2.alloc (.cells #[.slice (some ⟨g, 0, none⟩) n c2] 26)).drew.heap[w.heap.size + 1]? = _ from hr2'.out))
          obtain ⟨g7, cap7, A7, ac7, C7, cc7, N7⟩ := hO6.node hk (by unfold setK; rw [List.length_set]; omega)
          have hv7 := N7.val
          injection hv7 with h1 hx1 hx2
          injection h1 with h1
          injection h1 with h1 hx3 hx4
          subst h1
          have hO8 := N7.onP p
          rw [← hPut'.out] at hO8
          have f16 : w6.frozen? ⟨g, k * 4 + 2, none⟩ = false := blk_frozen hgN6 _
          have hr8 := blk_far (p := ⟨g, k * 4 + 2, none⟩) (blk_far (p := ⟨g, p * 4 + 3, none⟩) hr6 ng4 (.slice A6 (l.length + 1) c6)) ng4 (.int .i64 (p : Int))
          have hB6 : Below w.heap.size w w6 := hG6.below (by omega) (show Below w.heap.size w (w2.alloc (.cells #[.slice (some ⟨g, 0, none⟩) n c2] 26)).drew from hB2a.out.drew)
          have hB9 := (hB6.setCell (p := ⟨g, p * 4 + 3, none⟩) (by show w.heap.size ≤ g; omega) (.slice A6 (l.length + 1) c6)).setCell (p := ⟨g, k * 4 + 2, none⟩) (by show w.heap.size ≤ g; omega) (.int .i64 (p : Int))
          have hO9 := (hO8.set_typed (i := 0) hr8 (.slice (some ⟨g, 0, none⟩) n c2)).base (base := w.heap.size) (by omega)
          obtain ⟨A8, c8, hv8, -, -, hT8⟩ := isTree_of_own hO9 hXl (by omega) hfitX.out
          injection hv8 with h1 hx5 hx6
          subst h1
          have hB10 := hB9.setCell (p := ⟨w.heap.size + 1, 0, none⟩) (by show w.heap.size ≤ w.heap.size + 1; omega) (.slice (some ⟨g, 0, none⟩) n c2)
          have hE : MadeOwn2 w X 0 (.returned (.tuple #[.agg #[.slice (some ⟨g, 0, none⟩) n c2], .int .i64 0])) _ := ⟨_, _, by rw [hXl], by rw [hXl]; exact hO9, by rw [hXl]; exact hT8, hB10⟩
          have hres : World.cell? _ ⟨w.heap.size + 1, 0, none⟩ = some (.slice (some ⟨g, 0, none⟩) n c2) := (blk_cell (blk_set hr8 0 (.slice (some ⟨g, 0, none⟩) n c2)) 0).trans rfl
          have k6c : w6.cell? ⟨w2.heap.size, 0, none⟩ = some (.slice (some ⟨g, 0, none⟩) n c2) := by rw [blk_cell hk6]; rfl
          have q1 : w6.cell? ⟨w.heap.size + 1, 0, none⟩ = some (.slice none 0 0) := by rw [blk_cell hr6]; rfl
          have q2 : w6.frozen? ⟨w.heap.size + 1, 0, none⟩ = false := blk_frozen hr6 0
          have q3 := N7.c2
          rw [World.cell?_setCell_other] at q3
          rotate_left
          · intro e; injection e with e1 e2; omega
          have hE' := hide hE
          have hres' := hide hres
          clear hE hres hB10 hT8 hO9 hB9 hB6 hr8 hO8 N7 hr6 hk6 hgN6 hO6 hown6 hG6 r0 r1 r2 hx1 hx2 hx3 hx4 hx5 hx6 hins'
          go_wp2
          exact bodyPost_ret (v := .tuple #[.agg #[.slice (some ⟨g, 0, none⟩) n c2], .int .i64 0]) (by simp [results, Tryz.results45, go_sem, hres'.out]) rfl hE'.out
      · rw [hpe]
        rw [hpe] at hps
        have hps' : decide ((at' : Int) < 0) = false := by simp
        go_wp2
        go_region_with (first | (go_at_call 69; (with_reducible refine hins'.out.mono ?_); rintro e w6 ⟨A6, c6, rfl, hown6, hG6⟩; have r0 : w6.cell? ⟨w2.heap.size, 0, none⟩ = some (.slice (some ⟨g, 0, none⟩) n c2) := (World.cell?_of_block (hG6.2.2.2.1 w2.heap.size (by simp) (by rw [ownBlock_slice]; exact hKb))).trans f0; have r1 : w6.cell? ⟨g, p * 4 + 3, none⟩ = some (.slice C' l.length cc') := (World.cell?_of_block (hG6.2.2.2.1 g hgl (by rw [ownBlock_slice]; exact hisK))).trans hcl; have r2 : w6.frozen? ⟨g, p * 4 + 3, none⟩ = false := (World.frozen?_of_block (hG6.2.2.2.1 g hgl (by rw [ownBlock_slice]; exact hisK))).trans hfzc))
        all_goals
          have hO6 := hN.out.onK w6 A6 c6 (l.take at' ++ [(k : Int)] ++ l.drop at') (fun q hq hne => hG6.2.2.2.1 q hq (by rw [ownBlock_slice]; exact hne)) (by rw [hinsL'.out]; exact hown6) (fun q hq => by
            rcases hG6.2.2.2.2 q ((ownBlock_slice _ _ _).trans hq) with h | h
            · rw [ownBlock_slice] at h; exact .inl h
            · exact .inr (Nat.le_of_lt h))
          rw [hinsL'.out] at hO6
          have hgN6 := (hG6.2.2.2.1 g hgl (by rw [ownBlock_slice]; exact hisK)).trans hgN'.out
          have hk6 := (hG6.2.2.2.1 w2.heap.size (by simp) (by rw [ownBlock_slice]; exact hKb)).trans hk2'.out
          have hr6 := (hG6.keep (by omega) (show (w2.alloc (.cells #[.slice (some ⟨g, 0, none⟩) n c2] 26)).drew.heap[w.heap.size + 1]? = _ from hr2'.out))
          obtain ⟨g7, cap7, A7, ac7, C7, cc7, N7⟩ := hO6.node hk (by unfold setK; rw [List.length_set]; omega)
          have hv7 := N7.val
          injection hv7 with h1 hx1 hx2
          injection h1 with h1
          injection h1 with h1 hx3 hx4
          subst h1
          have hO8 := N7.onP p
          rw [← hPut'.out] at hO8
          have f16 : w6.frozen? ⟨g, k * 4 + 2, none⟩ = false := blk_frozen hgN6 _
          have hr8 := blk_far (p := ⟨g, k * 4 + 2, none⟩) (blk_far (p := ⟨g, p * 4 + 3, none⟩) hr6 ng4 (.slice A6 (l.length + 1) c6)) ng4 (.int .i64 (p : Int))
          have hB6 : Below w.heap.size w w6 := hG6.below (by omega) (show Below w.heap.size w (w2.alloc (.cells #[.slice (some ⟨g, 0, none⟩) n c2] 26)).drew from hB2a.out.drew)
          have hB9 := (hB6.setCell (p := ⟨g, p * 4 + 3, none⟩) (by show w.heap.size ≤ g; omega) (.slice A6 (l.length + 1) c6)).setCell (p := ⟨g, k * 4 + 2, none⟩) (by show w.heap.size ≤ g; omega) (.int .i64 (p : Int))
          have hO9 := (hO8.set_typed (i := 0) hr8 (.slice (some ⟨g, 0, none⟩) n c2)).base (base := w.heap.size) (by omega)
          obtain ⟨A8, c8, hv8, -, -, hT8⟩ := isTree_of_own hO9 hXl (by omega) hfitX.out
          injection hv8 with h1 hx5 hx6
          subst h1
          have hB10 := hB9.setCell (p := ⟨w.heap.size + 1, 0, none⟩) (by show w.heap.size ≤ w.heap.size + 1; omega) (.slice (some ⟨g, 0, none⟩) n c2)
          have hE : MadeOwn2 w X 0 (.returned (.tuple #[.agg #[.slice (some ⟨g, 0, none⟩) n c2], .int .i64 0])) _ := ⟨_, _, by rw [hXl], by rw [hXl]; exact hO9, by rw [hXl]; exact hT8, hB10⟩
          have hres : World.cell? _ ⟨w.heap.size + 1, 0, none⟩ = some (.slice (some ⟨g, 0, none⟩) n c2) := (blk_cell (blk_set hr8 0 (.slice (some ⟨g, 0, none⟩) n c2)) 0).trans rfl
          have k6c : w6.cell? ⟨w2.heap.size, 0, none⟩ = some (.slice (some ⟨g, 0, none⟩) n c2) := by rw [blk_cell hk6]; rfl
          have q1 : w6.cell? ⟨w.heap.size + 1, 0, none⟩ = some (.slice none 0 0) := by rw [blk_cell hr6]; rfl
          have q2 : w6.frozen? ⟨w.heap.size + 1, 0, none⟩ = false := blk_frozen hr6 0
          have q3 := N7.c2
          rw [World.cell?_setCell_other] at q3
          rotate_left
          · intro e; injection e with e1 e2; omega
          have hE' := hide hE
          have hres' := hide hres
          clear hE hres hB10 hT8 hO9 hB9 hB6 hr8 hO8 N7 hr6 hk6 hgN6 hO6 hown6 hG6 r0 r1 r2 hx1 hx2 hx3 hx4 hx5 hx6 hins'
          go_wp2
          exact bodyPost_ret (v := .tuple #[.agg #[.slice (some ⟨g, 0, none⟩) n c2], .int .i64 0]) (by simp [results, Tryz.results45, go_sem, hres'.out]) rfl hE'.out
  · have hc : cycB T p k = true := by rw [hcb, hbl]; rfl
    have he : putE T p k = 40 := if_pos hc
    have ht : putV T p k nx = [] := if_pos hc
    rw [he, ht]
    clear hcb hc he ht hg
    go_enter Tryz.func45, Tryz.ntmps45
    go_wp2_with fail
    refine (below_ok _ _ _ T _ _ _ (hT.out.below hB0)).mono ?_
    rintro e w1 ⟨rfl, hb1⟩
    have hbox1 := cell_later hb1 hbox0
    have hB1 := Below.on hB0 hb1
    have hr1 := (hb1.block (w.heap.size + 1) (blk_lt hr0)).trans hr0
    have q1 : w1.cell? ⟨w.heap.size + 1, 0, none⟩ = some (.slice none 0 0) := by rw [blk_cell hr1]; rfl
    have q2 : w1.frozen? ⟨w.heap.size + 1, 0, none⟩ = false := blk_frozen hr1 0
    go_wp2
    have hres := (blk_cell (blk_set hr1 0 (.slice none 0 0)) 0).trans (rfl : (#[Value.slice none 0 0].setIfInBounds 0 (.slice none 0 0))[0]? = some (.slice none 0 0))
    refine bodyPost_ret (v := .tuple #[.agg #[.slice none 0 0], .int .i64 40]) (by simp [results, Tryz.results45, go_sem, hres]) rfl (made2_nil rfl (hB1.setCell (p := ⟨w.heap.size + 1, 0, none⟩) (by show w.heap.size ≤ w.heap.size + 1; omega) _))
end Go.Proofs.YtmdccplhmniiiaaGreat
