/- Walks: counted places and matches, by the reference; comparing lists of truth values. No condition but those of the inner functions. -/
import Derived.Test.YtljloicgjgbplaaGreatG23
import Derived.Test.YtljloicgjgbplaaGreatG09
import Derived.Test.YtljloicgjgbplaaGreatG48
namespace Go.Proofs.YtljloicgjgbplaaGreat
open Go.RowKit

end Go.Proofs.YtljloicgjgbplaaGreat
/- Walks: the counted place of an element, by chapter 23's reference. Conditions: the tree is good, the element is in it, the list is right. -/
namespace Go.Proofs.YtljloicgjgbplaaGreat
open Go.RowKit

def plcA (B : List Bool) (i : Int) (p q : Nat) : Int := if p < q ∧ inb B i = true then 1 else 0
def plcF (B : List Bool) (l : List Int) (i : Int) (p q : Nat) : Int := if p < q ∧ inb B i = true then (pfx B l p : Int) + 1 else 0
theorem plc_skip {B : List Bool} {l : List Int} {i : Int} {p q : Nat} (hp : ix l p = i) (h : inb B (ix l q) = false ∨ p ≠ q) : plcA B i p (q + 1) = plcA B i p q ∧ plcF B l i p (q + 1) = plcF B l i p q := by
  have e : (p < q + 1 ∧ inb B i = true) ↔ (p < q ∧ inb B i = true) := by
    constructor
    · rintro ⟨h1, h2⟩
      refine ⟨?_, h2⟩
      rcases h with h | h
      · by_cases hpq : p = q
        · subst hpq; rw [hp, h2] at h; cases h
        · omega
      · omega
    · rintro ⟨h1, h2⟩; exact ⟨by omega, h2⟩
  unfold plcA plcF
  by_cases h1 : p < q ∧ inb B i = true
  · rw [if_pos h1, if_pos (e.2 h1), if_pos h1, if_pos (e.2 h1)]; exact ⟨rfl, rfl⟩
  · rw [if_neg h1, if_neg (fun h2 => h1 (e.1 h2)), if_neg h1, if_neg (fun h2 => h1 (e.1 h2))]; exact ⟨rfl, rfl⟩
theorem plc_hit {B : List Bool} {l : List Int} {i : Int} {p : Nat} (hb : inb B i = true) : plcA B i p (p + 1) = 1 ∧ plcF B l i p (p + 1) = (pfx B l p : Int) + 1 := by
  unfold plcA plcF
  rw [if_pos ⟨by omega, hb⟩, if_pos ⟨by omega, hb⟩]; exact ⟨rfl, rfl⟩
section
variable {X : Type} {V : Lies X} {Wf : Nat → Bool → Bool → X → Bool} {T : List ANode} {m : Int} {C : X → List Int} {R : X → List (List Bool)}
set_option maxRecDepth 100000 in
set_option maxHeartbeats 2000000 in
theorem rplace23_ok (hV : Stays V) (hI : RInT V Wf T m C R) (hg : goodB T = true) (k : Int) (A : Option Addr) (n c i : Nat) (nm : ByteArray) (op : Int) (vl : ByteArray) (fo : Bool) (a b : Int) (f : Bool) (LA : Option Addr) (ln lc : Nat) (ls : List X) (w : World) (h : IsTree w A n T) (hrow : IsRow V w LA ln ls) (hal : ∃ d h r, ls.all (Wf d h r) = true) (hi : i < n) :
    Calls Tryz.prog 148 #[.agg #[.slice A n c], .int .i64 i, .agg #[.int .u8 k, .string nm, .int .u8 op, .string vl, .bool fo, .int .i64 a, .int .i64 b, .bool f, .slice LA ln lc], .int .i64 m] w fun e w' => e = .returned (.int .i64 (atF T i (decide (k = 10)) (rowOf T fun j => anyI T C R ls j || !f))) ∧ Below w.heap.size w w' := by
  obtain ⟨B, hBB⟩ : ∃ B, Hid (rowOf T (fun j => anyI T C R ls j || !f) = B) := ⟨_, rfl⟩
  rw [hBB.out]
  have hT := hide h
  have hTl := h.1
  have hg' := hide hg
  have hiT : i < T.length := by omega
  have hin := hide (fun (W : World) (j : Nat) (hj : j < n) (hW : Below w.heap.size w W) => hI A n c j LA ln lc ls W (h.below hW) (hrow.below hV hW) hal hj)
  have hmem : Hid (∀ k, k < (sibs T i).length → ∃ r : Nat, ix (sibs T i) k = r ∧ r < n) := fun k hk => by
    obtain ⟨r, h1, h2, _⟩ := sibs_mem hg hiT (ix_mem hk); exact ⟨r, h1, by omega⟩
  have hm64 := sibs_len hg hiT
  obtain ⟨p, hp, hpi, hpp⟩ := sibs_pos hg hiT
  have hat : Hid (atF T i (decide (k = 10)) B = if inb B i then (if k = 10 then ((pfx B (sibs T i) (sibs T i).length : Nat) : Int) - pfx B (sibs T i) p else (pfx B (sibs T i) p : Int) + 1) else 0) := by
    show _ = _
    unfold atF
    rw [hpp, Int.toNat_natCast]
    simp only [decide_eq_true_eq]
  have hnd := hide (sibs_nodup hg hiT)
  have hB0 := below_alloc (below_alloc (Below.refl w.heap.size w) (.cells #[.slice A n c] 24)) (.cells #[.int .u8 k, .string nm, .int .u8 op, .string vl, .bool fo, .int .i64 a, .int .i64 b, .bool f, .slice LA ln lc] 41)
  have hX : ((w.alloc (.cells #[.slice A n c] 24)).alloc (.cells #[.int .u8 k, .string nm, .int .u8 op, .string vl, .bool fo, .int .i64 a, .int .i64 b, .bool f, .slice LA ln lc] 41)).heap[w.heap.size + 1]? = some (.cells #[.int .u8 k, .string nm, .int .u8 op, .string vl, .bool fo, .int .i64 a, .int .i64 b, .bool f, .slice LA ln lc] 41 (0, 0)) := blk_at _ _ _ _ (by simp)
  have hbox0 : ((w.alloc (.cells #[.slice A n c] 24)).alloc (.cells #[.int .u8 k, .string nm, .int .u8 op, .string vl, .bool fo, .int .i64 a, .int .i64 b, .bool f, .slice LA ln lc] 41)).cell? ⟨w.heap.size, 0, none⟩ = some (.slice A n c) := blk_cell (blk_alloc (blk_new _ _ _) _) 0
  have k0 := blk_cell hX 0
  have f0 := blk_cell hX 7
  have l0 := blk_cell hX 8
  simp only [List.getElem?_toArray, List.getElem?_cons_succ, List.getElem?_cons_zero] at k0 f0 l0
  clear h hrow hal hI hV hg hX hpp
  go_enter Tryz.func148, Tryz.ntmps148
  go_wp2_with fail
  refine (rsiblings_ok _ _ _ T i _ (hT.out.below hB0) hi hg'.out).mono ?_
  rintro e w1 ⟨A1, c1, rfl, hI1, hb1⟩
  have hB1 := Below.on hB0 hb1
  have hbox1 := cell_later hb1 hbox0
  have k1 := cell_later hb1 k0
  have f1 := cell_later hb1 f0
  have l1 := cell_later hb1 l0
  generalize sibs T i = l at *
  obtain ⟨L, hL⟩ : ∃ L, l.length = L := ⟨_, rfl⟩
  rw [hL] at hI1 hm64 hmem hp hat ⊢
  have hl' := hide hL
  obtain ⟨b3, off3, rfl, hbl3, hc3⟩ := hI1.2.2 (by omega)
  have hc3' := hide hc3
  have hpi := hide hpi
  have hp := hide hp
  clear hL hc3 hI1 hbox0 k0 f0 l0 hb1 hB0
  go_wp2
  go_loopw [10, 11, 12, 13] (fun bf al at' s wr => ∃ q : Nat, q ≤ L ∧ s = .int .i64 q ∧ al = .int .i64 (pfx B l q) ∧ at' = .int .i64 (plcA B i p q) ∧ bf = .int .i64 (plcF B l i p q) ∧ Below w1.heap.size w1 wr) (fun _ _ _ s _ => L - (intOf s).toNat)
  case atStart => exact ⟨0, Nat.zero_le _, rfl, by rw [pfx_zero]; rfl, rfl, rfl, Below.refl _ _⟩
  case round =>
    obtain ⟨q, hq, rfl, rfl, rfl, rfl, hb⟩ := hrel
    by_cases hlt : q < L
    · have hBw := Below.on hB1 hb
      obtain ⟨z, hz, hzn⟩ := hmem.out q hlt
      have gk := (old hb _ _ hbl3).trans (hc3'.out q hlt)
      have hps := pfx_succ B l q (by have := hl'.out; omega)
      rw [hz] at gk hps
      have hib : Hid (inb B z = (anyI T C R ls z || !f)) := by show _ = _; unfold inb; rw [Int.toNat_natCast, ← hBB.out, rowOf_bx T _ (by omega)]
      have b0 := cell_later hb hbox1
      have s7 := cell_later hb f1
      have s8 := cell_later hb l1
      have hPq := pfx_le B l q
      have hPb : pfx B l q ≤ 64 := by omega
      have x0 : (0 : Int) ≤ (q : Int) := by omega
      have x1 : (q : Int) < (L : Int) := by omega
      have hzi : Hid (z = i ↔ p = q) := by
        constructor
        · rintro rfl
          exact nodup_ix hnd.out (by rw [hl'.out]; exact hp.out) (by rw [hl'.out]; exact hlt) (by rw [hpi.out, hz])
        · rintro rfl
          have := hpi.out
          rw [hz] at this
          omega
      have hz' := hide hz
      have hps' := hide hps
      clear hz hps
      cases f
      · have hinb : Hid (inb B z = true) := by show _ = _; rw [hib.out]; simp
        have hpf : Hid (pfx B l (q + 1) = pfx B l q + 1) := by show _ = _; rw [hps'.out, hinb.out]; rfl
        by_cases hpq : p = q
        · obtain rfl : z = i := hzi.out.2 hpq
          subst hpq
          have hh := plc_hit (B := B) (l := l) (i := z) (p := p) hinb.out
          have hh1 := hide hh.1
          have hh2 := hide hh.2
          clear hh
          generalize pfx B l p = P at *
          generalize plcA B z p p = PA at *
          generalize plcF B l z p p = PF at *
          go_wp2
          go_quiet (fail)
          go_wp2
          go_roundw
          case rel => exact ⟨p + 1, by omega, by go_num, by rw [hpf.out]; go_num, by rw [hh1.out], by rw [hh2.out], below_drewN hb _⟩
          case measure => simp [intOf]; omega
        · have hzn : ¬ z = i := fun h => hpq (hzi.out.1 h)
          have e1 : ((z : Int) == (i : Int)) = false := by rw [beq_eq_false_iff_ne]; omega
          have e2 : (z == i) = false := by rw [beq_eq_false_iff_ne]; omega
          have hsk := plc_skip (B := B) (l := l) (i := i) (p := p) (q := q) hpi.out (.inr hpq)
          have hh1 := hide hsk.1
          have hh2 := hide hsk.2
          clear hsk
          generalize pfx B l q = P at *
          generalize plcA B i p q = PA at *
          generalize plcF B l i p q = PF at *
          go_wp2
          go_quiet (fail)
          go_wp2
          go_roundw
          case rel => exact ⟨q + 1, by omega, by go_num, by rw [hpf.out]; go_num, by rw [hh1.out], by rw [hh2.out], below_drewN hb _⟩
          case measure => simp [intOf]; omega
      · have hx := hin.out wr.drew z hzn (show Below w.heap.size w wr.drew from hBw.drew)
        have hvi : Hid (inb B z = anyI T C R ls z) := by show _ = _; rw [hib.out]; simp
        cases hv : anyI T C R ls z
        · rw [hv] at hx
          have hx' := hide hx
          have hinb : Hid (inb B z = false) := by show _ = _; rw [hvi.out, hv]
          have hpf : Hid (pfx B l (q + 1) = pfx B l q) := by show _ = _; rw [hps'.out, hinb.out]; rfl
          have hsk := plc_skip (B := B) (l := l) (i := i) (p := p) (q := q) hpi.out (.inl (by rw [hz'.out]; exact hinb.out))
          have hh1 := hide hsk.1
          have hh2 := hide hsk.2
          clear hsk hv hx hvi
          generalize pfx B l q = P at *
          generalize plcA B i p q = PA at *
          generalize plcF B l i p q = PF at *
          go_wp2
          go_region_held3 (fun X => X.cell? ⟨w.heap.size, 0, none⟩ = some (.slice A n c) ∧ X.cell? ⟨w.heap.size + 1, 7, none⟩ = some (.bool true) ∧ X.cell? ⟨w.heap.size + 1, 8, none⟩ = some (.slice LA ln lc) ∧ X.cell? ⟨b3, off3 + q, none⟩ = some (.int .i64 z)) (first | exact ⟨b0, s7, s8, gk⟩ | exact ⟨r0, r7, r8, rk⟩) (first | (go_at_call 45; (with_reducible refine hx'.out.mono ?_); rintro e7 w7 ⟨rfl, hb7⟩; have r0 := cell_later hb7 b0; have r7 := cell_later hb7 s7; have r8 := cell_later hb7 s8; have rk := cell_later hb7 gk))
          have hb7' := hide (Below.on (w1 := wr.drew) hb.drew hb7)
          clear hb7 r0 r7 r8 rk
          go_wp2
          go_roundw
          case rel => exact ⟨q + 1, by omega, by go_num, by rw [hpf.out], by rw [hh1.out], by rw [hh2.out], hb7'.out⟩
          case measure => simp [intOf]; omega
        · rw [hv] at hx
          have hx' := hide hx
          have hinb : Hid (inb B z = true) := by show _ = _; rw [hvi.out, hv]
          have hpf : Hid (pfx B l (q + 1) = pfx B l q + 1) := by show _ = _; rw [hps'.out, hinb.out]; rfl
          clear hv hx hvi
          by_cases hpq : p = q
          · obtain rfl : z = i := hzi.out.2 hpq
            subst hpq
            have hh := plc_hit (B := B) (l := l) (i := z) (p := p) hinb.out
            have hh1 := hide hh.1
            have hh2 := hide hh.2
            clear hh
            generalize pfx B l p = P at *
            generalize plcA B z p p = PA at *
            generalize plcF B l z p p = PF at *
            go_wp2
            go_region_held3 (fun X => X.cell? ⟨w.heap.size, 0, none⟩ = some (.slice A n c) ∧ X.cell? ⟨w.heap.size + 1, 7, none⟩ = some (.bool true) ∧ X.cell? ⟨w.heap.size + 1, 8, none⟩ = some (.slice LA ln lc) ∧ X.cell? ⟨b3, off3 + p, none⟩ = some (.int .i64 z)) (first | exact ⟨b0, s7, s8, gk⟩ | exact ⟨r0, r7, r8, rk⟩) (first | (go_at_call 45; (with_reducible refine hx'.out.mono ?_); rintro e7 w7 ⟨rfl, hb7⟩; have r0 := cell_later hb7 b0; have r7 := cell_later hb7 s7; have r8 := cell_later hb7 s8; have rk := cell_later hb7 gk))
            have hb7' := hide (Below.on (w1 := wr.drew) hb.drew hb7)
            clear hb7 r0 r7 r8 rk
            go_wp2
            go_roundw
            case rel => exact ⟨p + 1, by omega, by go_num, by rw [hpf.out]; go_num, by rw [hh1.out], by rw [hh2.out], hb7'.out⟩
            case measure => simp [intOf]; omega
          · have hzn : ¬ z = i := fun h => hpq (hzi.out.1 h)
            have e1 : ((z : Int) == (i : Int)) = false := by rw [beq_eq_false_iff_ne]; omega
            have e2 : (z == i) = false := by rw [beq_eq_false_iff_ne]; omega
            have hsk := plc_skip (B := B) (l := l) (i := i) (p := p) (q := q) hpi.out (.inr hpq)
            have hh1 := hide hsk.1
            have hh2 := hide hsk.2
            clear hsk
            generalize pfx B l q = P at *
            generalize plcA B i p q = PA at *
            generalize plcF B l i p q = PF at *
            go_wp2
            go_region_held3 (fun X => X.cell? ⟨w.heap.size, 0, none⟩ = some (.slice A n c) ∧ X.cell? ⟨w.heap.size + 1, 7, none⟩ = some (.bool true) ∧ X.cell? ⟨w.heap.size + 1, 8, none⟩ = some (.slice LA ln lc) ∧ X.cell? ⟨b3, off3 + q, none⟩ = some (.int .i64 z)) (first | exact ⟨b0, s7, s8, gk⟩ | exact ⟨r0, r7, r8, rk⟩) (first | (go_at_call 45; (with_reducible refine hx'.out.mono ?_); rintro e7 w7 ⟨rfl, hb7⟩; have r0 := cell_later hb7 b0; have r7 := cell_later hb7 s7; have r8 := cell_later hb7 s8; have rk := cell_later hb7 gk))
            have hb7' := hide (Below.on (w1 := wr.drew) hb.drew hb7)
            clear hb7 r0 r7 r8 rk
            go_wp2
            go_roundw
            case rel => exact ⟨q + 1, by omega, by go_num, by rw [hpf.out]; go_num, by rw [hh1.out], by rw [hh2.out], hb7'.out⟩
            case measure => simp [intOf]; omega
    · obtain rfl : L = q := by omega
      have hBw := Below.on hB1 hb
      have kk := cell_later hb k1
      have hPL := pfx_le B l L
      have hPp := pfx_le B l p
      have hpL := hp.out
      have hp64 : pfx B l p ≤ 64 := by omega
      have hl64 : pfx B l L ≤ 64 := by omega
      cases hib : inb B (i : Int)
      · have h1 : plcA B i p L = 0 := by unfold plcA; rw [if_neg (by rw [hib]; simp)]
        have h2 : Hid (atF T i (decide (k = 10)) B = 0) := by show _ = _; rw [hat.out, hib]; rfl
        generalize plcA B i p L = PA at *
        generalize plcF B l i p L = PF at *
        generalize pfx B l L = PL at *
        subst h1
        clear hib hPL hPp hat
        go_wp2
        go_ret
        exact ⟨ret_int h2.out.symm, hBw⟩
      · have h1 : plcA B i p L = 1 := by unfold plcA; rw [if_pos ⟨hpL, hib⟩]
        have h3 : plcF B l i p L = (pfx B l p : Int) + 1 := by unfold plcF; rw [if_pos ⟨hpL, hib⟩]
        by_cases hk : k = 10
        · subst hk
          have h2 : Hid (atF T i (decide ((10 : Int) = 10)) B = (pfx B l L : Int) - pfx B l p) := by show _ = _; rw [hat.out, hib]; rfl
          generalize plcA B i p L = PA at *
          generalize plcF B l i p L = PF at *
          generalize pfx B l L = PL at *
          generalize pfx B l p = PP at *
          subst h1 h3
          clear hib hPL hPp hat
          go_wp2
          go_ret
          exact ⟨ret_int (by have e : atF T i true B = (PL : Int) - PP := h2.out; rw [e]; omega), hBw⟩
        · have h2 : Hid (atF T i (decide (k = 10)) B = (pfx B l p : Int) + 1) := by show _ = _; rw [hat.out, hib]; simp [hk]
          have hkb : (k == 10) = false := by rw [beq_eq_false_iff_ne]; exact hk
          generalize plcA B i p L = PA at *
          generalize plcF B l i p L = PF at *
          generalize pfx B l L = PL at *
          generalize pfx B l p = PP at *
          subst h1 h3
          clear hib hPL hPp hat hk
          go_wp2
          go_ret
          exact ⟨ret_int (by rw [h2.out]), hBw⟩
end
end Go.Proofs.YtljloicgjgbplaaGreat
