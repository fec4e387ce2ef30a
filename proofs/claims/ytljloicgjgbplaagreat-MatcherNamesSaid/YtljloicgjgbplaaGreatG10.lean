/- Words on memory: lists of bytes, lists of lists of truth values; what is told. No condition. -/
import Derived.Test.YtljloicgjgbplaaGreatG05
import Derived.Test.YtljloicgjgbplaaGreatG09
import Derived.Maps.Own
import Derived.Maps.OwnOps
import Derived.Maps.OwnSet
import Derived.Maps.Views
namespace Go.Proofs.YtljloicgjgbplaaGreat
open Go.RowKit

def rowB (H : List (List Bool)) (j : Nat) : List Bool := H.getD j []
def IsU8 (w : World) (A : Option Addr) (n : Nat) (xs : List Int) : Prop :=
  xs.length = n ∧ n ≤ 9223372036854775807 ∧ (∀ x ∈ xs, 0 ≤ x ∧ x ≤ 255) ∧ (0 < n → ∃ b off, A = some ⟨b, off, none⟩ ∧ b < w.heap.size ∧ ∀ j, j < n → w.cell? ⟨b, off + j, none⟩ = some (.int .u8 (ix xs j)))
def IsBB (w : World) (A : Option Addr) (n : Nat) (H : List (List Bool)) : Prop :=
  H.length = n ∧ n ≤ 9223372036854775807 ∧ (0 < n → ∃ (b off : Nat) (hA : Nat → Option Addr) (hC : Nat → Nat), A = some ⟨b, off, none⟩ ∧ b < w.heap.size ∧
    (∀ j, j < n → w.cell? ⟨b, off + j, none⟩ = some (.slice (hA j) (rowB H j).length (hC j))) ∧
    (∀ j, j < n → IsBools w (hA j) (rowB H j).length (rowB H j) ∧ (rowB H j).length ≤ hC j ∧ hC j ≤ 9223372036854775807))
section
variable {w w' : World} {A : Option Addr} {n : Nat}
theorem IsU8.below {xs : List Int} (h : IsU8 w A n xs) (hb : Below w.heap.size w w') : IsU8 w' A n xs := by
  obtain ⟨h1, h2, h2', h3⟩ := h
  refine ⟨h1, h2, h2', fun hn => ?_⟩
  obtain ⟨b, off, ha, hbl, hc⟩ := h3 hn
  exact ⟨b, off, ha, Nat.lt_of_lt_of_le hbl hb.size, fun j hj => (old hb _ _ hbl).trans (hc j hj)⟩
theorem IsBB.below {H : List (List Bool)} (h : IsBB w A n H) (hb : Below w.heap.size w w') : IsBB w' A n H := by
  obtain ⟨h1, h2, h3⟩ := h
  refine ⟨h1, h2, fun hn => ?_⟩
  obtain ⟨b, off, hA, hC, ha, hbl, hc, hr⟩ := h3 hn
  exact ⟨b, off, hA, hC, ha, Nat.lt_of_lt_of_le hbl hb.size, fun j hj => (old hb _ _ hbl).trans (hc j hj), fun j hj => ⟨(hr j hj).1.below hb, (hr j hj).2⟩⟩
end

/-- What is told is right, for a tree of so many elements. -/
def toldB (n : Nat) (cs : List Int) (H : List (List Bool)) : Bool :=
  decide (1 ≤ H.length) && decide (H.length ≤ 64) && decide (H.length = cs.length + 1) && decide (∀ j, j < cs.length → 1 ≤ ix cs j ∧ ix cs j ≤ 4) && decide (∀ j, j < H.length → (rowB H j).length = n)
theorem toldB_iff (n : Nat) (cs : List Int) (H : List (List Bool)) : toldB n cs H = true ↔ 1 ≤ H.length ∧ H.length ≤ 64 ∧ H.length = cs.length + 1 ∧ (∀ j, j < cs.length → 1 ≤ ix cs j ∧ ix cs j ≤ 4) ∧ ∀ j, j < H.length → (rowB H j).length = n := by
  simp only [toldB, Bool.and_eq_true, decide_eq_true_eq, and_assoc]
/-- The error of a tree and of what is told. -/
def cchk (T : List ANode) (cs : List Int) (H : List (List Bool)) : Int := if goodB T = true then (if toldB T.length cs H = true then 0 else 2) else 8
theorem cchk_zero {T : List ANode} {cs : List Int} {H : List (List Bool)} : cchk T cs H = 0 ↔ goodB T = true ∧ toldB T.length cs H = true := by
  unfold cchk
  by_cases h : goodB T = true
  · rw [if_pos h]; by_cases h2 : toldB T.length cs H = true
    · rw [if_pos h2]; simp [h, h2]
    · rw [if_neg h2]; simp [h2]
  · rw [if_neg h]; simp [h]
/-! ## The check, by the program -/
set_option maxRecDepth 100000 in
set_option maxHeartbeats 2000000 in
theorem ccheck_ok (A B C : Option Addr) (n c m d k e : Nat) (T : List ANode) (cs : List Int) (H : List (List Bool)) (w : World) (h : IsTree w A n T) (hcs : IsU8 w B m cs) (hH : IsBB w C k H) :
    Calls Tryz.prog 71 #[.agg #[.slice A n c], .slice B m d, .slice C k e] w fun r w' => r = .returned (.int .i64 (cchk T cs H)) ∧ Below w.heap.size w w' := by
  have hn63 : n ≤ 9223372036854775807 := h.2.1
  have hm63 : m ≤ 9223372036854775807 := hcs.2.1
  have hk63 : k ≤ 9223372036854775807 := hH.2.1
  have hml := hcs.1
  have hkl := hH.1
  have hcs' := hide hcs
  have hH' := hide hH
  clear hcs hH
  have hT := hide h
  have hl := h.1
  clear h
  have hB0 := below_alloc (Below.refl w.heap.size w) (.cells #[.slice A n c] 24)
  have hbox0 : (w.alloc (.cells #[.slice A n c] 24)).cell? ⟨w.heap.size, 0, none⟩ = some (.slice A n c) := by go_simp
  by_cases hg : goodB T = true
  · by_cases hk : 1 ≤ k ∧ k ≤ 64
    · obtain ⟨hk1, hk2⟩ := hk
      by_cases hmk : k = m + 1
      · have hc0 : chk T = 0 := chk_ok hg
        have hg' := hide hg
        clear hg
        have j1 : ((m : Int) != (k : Int) - 1) = false := by simp; omega
        subst hmk
        go_enter Tryz.func71, Tryz.ntmps71
        go_wp2_with fail
        refine (check_ok _ _ _ T _ (hT.out.below hB0)).mono ?_
        rintro e w1 ⟨rfl, hb1⟩
        have hbox1 := cell_later hb1 hbox0
        have hB1 := Below.on hB0 hb1
        go_wp2
        go_loop [9, 35] (fun _ s => ∃ q : Nat, q ≤ m ∧ s = .int .i64 q ∧ ∀ j, j < q → 1 ≤ ix cs j ∧ ix cs j ≤ 4) (fun _ s => m - (intOf s).toNat)
        case atStart => exact ⟨0, Nat.zero_le _, rfl, fun j hj => absurd hj (by omega)⟩
        case round =>
          obtain ⟨q, hq, rfl, hall⟩ := hrel
          have hall' := hide hall
          clear hall
          by_cases hlt : q < m
          · obtain ⟨b, off, rfl, hbl, hck⟩ := hcs'.out.2.2.2 (by omega)
            have gk := (old hB1 _ _ hbl).trans (hck q hlt)
            have hbr : b < w1.heap.size := Nat.lt_of_lt_of_le hbl hB1.size
            have hix := hide (rfl : ix cs q = ix cs q)
            obtain ⟨y, hy⟩ : ∃ y, ix cs q = y := ⟨_, rfl⟩
            rw [hy] at gk
            have hy' := hide hy
            clear hck hy hix
            by_cases hyr : 1 ≤ y ∧ y ≤ 4
            · obtain ⟨hy1, hy2⟩ := hyr
              go_wp2
              go_round
              case rel => exact ⟨q + 1, by omega, by go_num, fun j hj => by
                by_cases h : j = q
                · subst h; rw [hy'.out]; exact ⟨hy1, hy2⟩
                · exact hall'.out j (by omega)⟩
              case measure => simp [intOf]; omega
            · have hr : Hid (cchk T cs H = 2) := by
                show _ = _
                unfold cchk
                rw [if_pos hg'.out, if_neg]
                intro ht
                have := ((toldB_iff _ _ _).1 ht).2.2.2.1 q (by omega)
                rw [hy'.out] at this
                exact hyr this
              rcases (by omega : y < 1 ∨ (1 ≤ y ∧ 4 < y)) with h1 | ⟨h1, h2⟩
              all_goals
                clear hyr
                go_wp2
                go_ret
                exact ⟨ret_int hr.out.symm, hB1⟩
          · have hcall : Hid (∀ j, j < cs.length → 1 ≤ ix cs j ∧ ix cs j ≤ 4) := fun j hj => hall'.out j (by omega)
            clear hall'
            go_wp2
            go_loop [11, 48] (fun _ s => ∃ q : Nat, q ≤ m + 1 ∧ s = .int .i64 q ∧ ∀ j, j < q → (rowB H j).length = n) (fun _ s => m + 1 - (intOf s).toNat)
            case atStart => exact ⟨0, Nat.zero_le _, rfl, fun j hj => absurd hj (by omega)⟩
            case round =>
              obtain ⟨q', hq', rfl, hall⟩ := hrel
              have hall' := hide hall
              clear hall
              by_cases hlt2 : q' < m + 1
              · obtain ⟨b, off, hA, hC, rfl, hbl, hck, hrr⟩ := hH'.out.2.2 (by omega)
                have gk := (old hB1 _ _ hbl).trans (hck q' hlt2)
                have hbr : b < w1.heap.size := Nat.lt_of_lt_of_le hbl hB1.size
                have hrl : (rowB H q').length ≤ 9223372036854775807 := (hrr q' hlt2).1.2.1
                obtain ⟨y, hy⟩ : ∃ y, (rowB H q').length = y := ⟨_, rfl⟩
                rw [hy] at gk hrl
                have hy' := hide hy
                clear hck hy hrr
                by_cases hyn : y = n
                · have hyn' : ((y : Int) != (n : Int)) = false := by simp [hyn]
                  have hyq : Hid ((rowB H q').length = n) := by show _ = _; rw [hy'.out, hyn]
                  clear hyn
                  go_wp2
                  go_round
                  case rel => exact ⟨q' + 1, by omega, by go_num, fun j hj => by
                    by_cases h : j = q'
                    · subst h; exact hyq.out
                    · exact hall'.out j (by omega)⟩
                  case measure => simp [intOf]; omega
                · have hyn' : ((y : Int) != (n : Int)) = true := by simp; omega
                  have hr : Hid (cchk T cs H = 2) := by
                    show _ = _
                    unfold cchk
                    rw [if_pos hg'.out, if_neg]
                    intro ht
                    have := ((toldB_iff _ _ _).1 ht).2.2.2.2 q' (by omega)
                    have h2 := hy'.out
                    omega
                  clear hyn
                  go_wp2
                  go_ret
                  exact ⟨ret_int hr.out.symm, hB1⟩
              · have hr : Hid (cchk T cs H = 0) := by
                  show _ = _
                  rw [cchk_zero]
                  refine ⟨hg'.out, ?_⟩
                  rw [toldB_iff]
                  exact ⟨by omega, by omega, by omega, hcall.out, fun j hj => by rw [hall'.out j (by omega), hl]⟩
                go_wp2
                go_ret
                exact ⟨ret_int hr.out.symm, hB1⟩
      · have hbad : ¬ toldB T.length cs H = true := fun ht => by have := ((toldB_iff _ _ _).1 ht).2.2.1; omega
        have hq : Hid (cchk T cs H = 2) := by show _ = _; unfold cchk; rw [if_pos hg, if_neg hbad]
        have hc0 : chk T = 0 := chk_ok hg
        have j1 : ((m : Int) != (k : Int) - 1) = true := by simp; omega
        clear hg hbad
        go_enter Tryz.func71, Tryz.ntmps71
        go_wp2_with fail
        refine (check_ok _ _ _ T _ (hT.out.below hB0)).mono ?_
        rintro e w1 ⟨rfl, hb1⟩
        have hbox1 := cell_later hb1 hbox0
        have hB1 := Below.on hB0 hb1
        go_wp2
        go_ret
        exact ⟨ret_int hq.out.symm, hB1⟩
    · have hbad : ¬ toldB T.length cs H = true := fun ht => by have := (toldB_iff _ _ _).1 ht; omega
      have hq : Hid (cchk T cs H = 2) := by show _ = _; unfold cchk; rw [if_pos hg, if_neg hbad]
      have hc0 : chk T = 0 := chk_ok hg
      rcases (by omega : k < 1 ∨ (1 ≤ k ∧ 64 < k)) with h1 | ⟨h1, h2⟩
      all_goals
        clear hg hbad hk
        go_enter Tryz.func71, Tryz.ntmps71
        go_wp2_with fail
        refine (check_ok _ _ _ T _ (hT.out.below hB0)).mono ?_
        rintro e w1 ⟨rfl, hb1⟩
        have hbox1 := cell_later hb1 hbox0
        have hB1 := Below.on hB0 hb1
        go_wp2
        go_ret
        exact ⟨ret_int hq.out.symm, hB1⟩
  · have hc0 : chk T = 8 := chk_bad hg
    have hq : Hid (cchk T cs H = 8) := if_neg hg
    clear hg
    go_enter Tryz.func71, Tryz.ntmps71
    go_wp2_with fail
    refine (check_ok _ _ _ T _ (hT.out.below hB0)).mono ?_
    rintro e w1 ⟨rfl, hb1⟩
    have hbox1 := cell_later hb1 hbox0
    have hB1 := Below.on hB0 hb1
    go_wp2
    go_ret
    exact ⟨ret_int hq.out.symm, hB1⟩
end Go.Proofs.YtljloicgjgbplaaGreat
/- Walks: a row of numbers that the call has made, turned around in its place; a copy of a list of truth values. Conditions: at most 1000 elements. -/
namespace Go.Proofs.YtljloicgjgbplaaGreat
open Go.RowKit

/-- The list after so many swaps from both ends. -/
def rvA (xs : List Int) (q : Nat) : List Int := (List.range xs.length).map fun t => if t < q ∨ xs.length - 1 - t < q then ix xs (xs.length - 1 - t) else ix xs t
theorem rvA_len (xs : List Int) (q : Nat) : (rvA xs q).length = xs.length := by simp [rvA]
theorem rvA_ix (xs : List Int) (q t : Nat) (h : t < xs.length) : ix (rvA xs q) t = if t < q ∨ xs.length - 1 - t < q then ix xs (xs.length - 1 - t) else ix xs t := by
  rw [ix_get (by rw [rvA_len]; exact h)]
  unfold rvA
  rw [List.getElem_map, List.getElem_range]
theorem ints_ext {xs ys : List Int} (hl : xs.length = ys.length) (h : ∀ t, t < xs.length → ix xs t = ix ys t) : xs = ys := by
  refine List.ext_getElem hl fun t h1 h2 => ?_
  have := h t h1
  rwa [ix_get h1, ix_get h2] at this
theorem ix_set (xs : List Int) {a : Nat} (x : Int) (t : Nat) (ha : a < xs.length) : ix (xs.set a x) t = if t = a then x else ix xs t := by
  unfold ix
  rw [List.getD_eq_getElem?_getD, List.getD_eq_getElem?_getD, List.getElem?_set]
  by_cases h : a = t
  · subst h; rw [if_pos rfl, if_pos ha, if_pos rfl]; rfl
  · rw [if_neg h, if_neg (fun e => h e.symm)]
theorem rvA_zero (xs : List Int) : rvA xs 0 = xs := by
  refine ints_ext (rvA_len _ _) fun t ht => ?_
  rw [rvA_len] at ht
  rw [rvA_ix _ _ _ ht, if_neg (by omega)]
theorem rvA_step {xs : List Int} {q : Nat} (h : q < xs.length - 1 - q) : ((rvA xs q).set q (ix (rvA xs q) (xs.length - 1 - q))).set (xs.length - 1 - q) (ix (rvA xs q) q) = rvA xs (q + 1) := by
  refine ints_ext (by rw [List.length_set, List.length_set, rvA_len, rvA_len]) fun t ht => ?_
  rw [List.length_set, List.length_set, rvA_len] at ht
  rw [ix_set _ _ _ (by rw [List.length_set, rvA_len]; omega), ix_set _ _ _ (by rw [rvA_len]; omega), rvA_ix _ _ _ (by omega), rvA_ix _ _ _ (by omega), rvA_ix _ _ _ ht, rvA_ix _ _ _ ht]
  rw [if_neg (by omega : ¬ (xs.length - 1 - q < q ∨ xs.length - 1 - (xs.length - 1 - q) < q)), if_neg (by omega : ¬ (q < q ∨ xs.length - 1 - q < q))]
  by_cases h1 : t = xs.length - 1 - q
  · rw [if_pos h1, if_pos (by omega)]; congr 1; omega
  · rw [if_neg h1]
    by_cases h2 : t = q
    · rw [if_pos h2, if_pos (by omega)]; congr 1; omega
    · rw [if_neg h2]
      by_cases h3 : t < q ∨ xs.length - 1 - t < q
      · rw [if_pos h3, if_pos (by omega)]
      · rw [if_neg h3, if_neg (by omega)]
theorem rvA_end {xs : List Int} {q : Nat} (h : ¬ q < xs.length - 1 - q) (h2 : 2 * q ≤ xs.length + 1) : rvA xs q = xs.reverse := by
  refine ints_ext (by rw [rvA_len, List.length_reverse]) fun t ht => ?_
  rw [rvA_len] at ht
  rw [rvA_ix _ _ _ ht]
  have e : ix xs.reverse t = ix xs (xs.length - 1 - t) := by
    rw [ix_get (by rw [List.length_reverse]; exact ht), ix_get (by omega), List.getElem_reverse]
  rw [e]
  split
  · rfl
  · congr 1; omega

def RevI (W : World) (base : Nat) (A : Option Addr) (n c : Nat) (ys : List Int) (en : Ending) (w' : World) : Prop :=
  en = .returned (.tuple #[]) ∧ w'.ownsRow base 3 1 (.slice A n c) n (ints ys) ∧ W.grownBy w' (A.map (·.block))

theorem own_blk {w : World} {base size n : Nat} {e : TypeId} {v : Value} {xs : List Value} (h : w.ownsRow base e size v n xs) (hn : 0 < n) : ∃ g cap cs, v = .slice (some ⟨g, 0, none⟩) n cap ∧ n ≤ cap ∧ cap ≤ maxLen ∧ base ≤ g ∧ w.heap[g]? = some (.cells cs e (0, 0)) := by
  rcases h.2 with ⟨-, h0⟩ | ⟨g, cap, cur, h0, hb, hg, hn, hm, hs, ht⟩
  · omega
  · exact ⟨g, cap, cur, h0, hn, hm, hb, hg⟩
theorem own_upd {w : World} {base size n g cap o : Nat} {e : TypeId} {xs : List Value} (h : w.ownsRow base e size (.slice (some ⟨g, 0, none⟩) n cap) n xs) (u : Value) : (w.setCell ⟨g, o, none⟩ u).ownsRow base e size (.slice (some ⟨g, 0, none⟩) n cap) n (xs.set o u) := by
  rcases h.2 with ⟨h0, -⟩ | ⟨g', cap', cur, h0, hb, hg, hn, hm, hs, ht⟩
  · cases h0
  · cases h0
    have hx := h.1
    refine ⟨by rw [List.length_set]; exact hx, .inr ⟨g, cap, cur.setIfInBounds o u, rfl, hb, blk_set hg o u, hn, hm, by simpa using hs, ?_⟩⟩
    rw [Array.toList_setIfInBounds, List.take_set, ht]
theorem grown_cell (w : World) (g o : Nat) (u : Value) : w.grownBy (w.setCell ⟨g, o, none⟩ u) (some g) :=
  ⟨rfl, rfl, rfl, by simp [World.setCell], fun k _ hk => Below.heap_setCell _ _ _ _ fun h => hk (by rw [h])⟩
theorem grown_trans {a b c : World} {row : Option Nat} (h : a.grownBy b row) (k : b.grownBy c row) : a.grownBy c row :=
  ⟨k.os.trans h.os, k.tape.trans h.tape, k.output.trans h.output, Nat.le_trans h.size k.size, fun q hq hne => (k.block q (Nat.lt_of_lt_of_le hq h.size) hne).trans (h.block q hq hne)⟩

set_option maxRecDepth 100000 in
set_option maxHeartbeats 2000000 in
theorem rev_ok (A : Option Addr) (n c base : Nat) (xs : List Int) (W : World) (hown : W.ownsRow base 3 1 (.slice A n c) n (ints xs)) (hn : n ≤ 1000) :
    Calls Tryz.prog 133 #[.slice A n c] W (RevI W base A n c xs.reverse) := by
  have hxl : xs.length = n := by have := hown.1; simpa [ints] using this
  have hown' := hide hown
  clear hown
  have hxl' := hide hxl
  clear hxl
  go_enter Tryz.func133, Tryz.ntmps133
  go_wp2
  go_loopw [2, 3] (fun i j wr => ∃ q : Nat, 2 * q ≤ n + 1 ∧ i = .int .i64 q ∧ j = .int .i64 ((n : Int) - 1 - q) ∧ wr.ownsRow base 3 1 (.slice A n c) n (ints (rvA xs q)) ∧ W.grownBy wr (A.map (·.block))) (fun i _ _ => n + 1 - (intOf i).toNat)
  case atStart => exact ⟨0, by omega, rfl, by go_num, by rw [rvA_zero]; exact hown'.out, World.grownBy.refl _ _⟩
  case round =>
    obtain ⟨q, hq, rfl, rfl, hro, hg⟩ := hrel
    by_cases hlt : q < n - 1 - q
    · have hcells := hro
      obtain ⟨g, cap, cs, hv, hnc, hcm, hbg, hgb⟩ := own_blk hro (by omega)
      injection hv with e1 e2 e3
      subst e1 e3
      have hgl : g < wr.heap.size := by
        rcases Nat.lt_or_ge g wr.heap.size with h | h
        · exact h
        · rw [Array.getElem?_eq_none h] at hgb; cases hgb
      have x1 : wr.cell? ⟨g, q, none⟩ = some (.int .i64 (ix (rvA xs q) q)) := by
        rw [World.ownsRow.cellAt hro q (by omega), ints_get (by rw [rvA_len, hxl'.out]; omega)]
      have x2 : wr.cell? ⟨g, n - 1 - q, none⟩ = some (.int .i64 (ix (rvA xs q) (n - 1 - q))) := by
        rw [World.ownsRow.cellAt hro (n - 1 - q) (by omega), ints_get (by rw [rvA_len, hxl'.out]; omega)]
      have x3 : wr.frozen? ⟨g, q, none⟩ = false := blk_frozen hgb _
      have x4 : wr.frozen? ⟨g, n - 1 - q, none⟩ = false := blk_frozen hgb _
      have hs := rvA_step (xs := xs) (q := q) (by rw [hxl'.out]; exact hlt)
      rw [hxl'.out] at hs
      have hs' := hide hs
      clear hs
      have ejn : (n : Int) - 1 - (q : Int) = ((n - 1 - q : Nat) : Int) := by omega
      rw [ejn]
      obtain ⟨z, hz⟩ : ∃ z, n - 1 - q = z := ⟨_, rfl⟩
      rw [hz] at x2 x4 hlt hs' ⊢
      have hzn : z < n := by omega
      have hne : q ≠ z := by omega
      have hz' := hide hz
      have hc63 : c ≤ 9223372036854775807 := by unfold maxLen at hcm; omega
      clear hz ejn
      go_wp2
      go_region
      go_wp2
      go_roundw
      case rel =>
        have hr2 := own_upd (o := z) (own_upd (o := q) hro (.int .i64 (ix (rvA xs q) z))) (.int .i64 (ix (rvA xs q) q))
        have hg2 := grown_trans hg (grown_trans (grown_cell wr g q (.int .i64 (ix (rvA xs q) z))) (grown_cell _ g z (.int .i64 (ix (rvA xs q) q))))
        have hz2 := hz'.out
        refine ⟨q + 1, by omega, by go_num, by congr 1; omega, ?_, ⟨hg2.os, hg2.tape, hg2.output, hg2.size, hg2.block⟩⟩
        rw [← hs'.out]
        unfold ints at hr2 ⊢
        rw [List.map_set, List.map_set]
        exact hr2
      case measure => simp [intOf]; omega
    · have he := hide (rvA_end (xs := xs) (q := q) (by rw [hxl'.out]; exact hlt) (by rw [hxl'.out]; exact hq))
      have hlt' : ¬ (q : Int) < (n : Int) - 1 - (q : Int) := by omega
      go_wp2
      go_end0
      exact ⟨rfl, by rw [← he.out]; exact hro, hg⟩
/-! ## A copy of a list of truth values -/
def MadeBoolRow (w : World) (n : Nat) (xs : List Bool) (e : Ending) (w' : World) : Prop :=
  ∃ (A : Option Addr) (c : Nat), e = .returned (.slice A n c) ∧ w'.ownsRow w.heap.size 4 1 (.slice A n c) n (bools xs) ∧ Below w.heap.size w w'
theorem bools_none {w : World} {A : Option Addr} {n : Nat} {xs : List Bool} (h : IsBools w A n xs) (ha : A = none) : n = 0 := by
  rcases Nat.eq_zero_or_pos n with h0 | h0
  · exact h0
  · obtain ⟨b, off, hA, -⟩ := h.2.2 h0
    rw [ha] at hA; cases hA
theorem bools_at {w : World} {A : Option Addr} {n : Nat} {xs : List Bool} (h : IsBools w A n xs) : ∀ ad, A = some ad → ∀ j u, (bools xs)[j]? = some u → w.cell? (ad.add j) = some u := by
  intro ad had j u hj
  have hjl : j < xs.length := by
    rcases Nat.lt_or_ge j xs.length with h0 | h0
    · exact h0
    · rw [List.getElem?_eq_none (by simp [bools]; omega)] at hj; cases hj
  have hn : j < n := by have := h.1; omega
  obtain ⟨b, off, hA, hb, hc⟩ := h.2.2 (by omega)
  rw [hA] at had
  injection had with had
  subst had
  rw [bools_get hjl] at hj
  have hk := hc j hn
  rw [show (⟨b, off, none⟩ : Addr).add j = ⟨b, off + j, none⟩ by unfold Addr.add; split <;> simp_all, hk]
  exact hj
theorem cloneBools_ok (A : Option Addr) (n c : Nat) (xs : List Bool) (w : World) (h : IsBools w A n xs) (hn : n ≤ 1000) :
    Calls Tryz.prog 95 #[.slice A n c] w (MadeBoolRow w n xs) := by
  obtain ⟨i0, hI, hz0, hz1, hz2⟩ := info_parts info_bool'
  have he := fun W => Lib.run_eql_slice_nil (P := Tryz.prog) W 30 4 A n c 0 0 Tryz.underlying30
  have hi := hide h
  clear h
  cases A with
  | none =>
    obtain rfl := bools_none hi.out rfl
    go_enter Tryz.func95, Tryz.ntmps95
    go_wp2
    go_ret
    obtain rfl : xs = [] := List.eq_nil_of_length_eq_zero hi.out.1
    exact ⟨none, 0, rfl, World.ownsRow_nil _ _ _ _, Below.refl _ _⟩
  | some ad =>
    have hlen : (bools xs).length = n * 1 := by simp [bools, hi.out.1]
    have hlen' := hide hlen
    clear hlen
    go_enter Tryz.func95, Tryz.ntmps95
    go_wp2_with (at_builtin; refine wpList_append_from rfl _ _ 30 rfl w.heap.size 4 i0 (.bool false) 1 1 Tryz.underlying30 hI hz0 hz1 hz2 rfl (by decide) _ _ _ rfl (World.ownsRow_lit w #[] 0 (Nat.le_refl _) (Nat.zero_le _) rfl) (some ad) n c (bools xs) rfl ?c0 ?c1 ?c2 ?c3 ?c4 ?c5 ?c6 ?_)
    case c0 => exact hlen'.out
    case c1 => exact fun h => by cases h
    case c2 => exact bools_at (hi.out.below (below_alloc (Below.refl _ _) _))
    case c3 => exact bools_one _
    case c4 => unfold maxLen; omega
    case c5 => omega
    case c6 => simp
    · intro v' w1 hown' hgrow
      have hown2 : w1.ownsRow w.heap.size 4 1 v' n (bools xs) := by simpa using hown'
      obtain ⟨A', c', rfl⟩ := own_slice hown2
      have hb := (below_alloc (Below.refl w.heap.size w) (.cells #[] 4)).grown hgrow (by simp) (fun k hk => by simp [Value.ownBlock] at hk; omega)
      clear hown' hgrow
      go_wp2
      go_ret
      exact ⟨A', c', rfl, hown2, hb⟩
end Go.Proofs.YtljloicgjgbplaaGreat
/- A list of lists of truth values that the call has made. Condition: not great. -/
namespace Go.Proofs.YtljloicgjgbplaaGreat
open Go.RowKit

theorem info_bb : (Tryz.prog.info? 30).map (fun i => (i.zero, i.size, i.bytes)) = some (some (.slice none 0 0), 1, 24) := by kernel_rfl
def slicesR (R : List (List Bool)) (aA : Nat → Option Addr) (aC : Nat → Nat) (k : Nat) : List Value := (List.range k).map fun j => .slice (aA j) (rowB R j).length (aC j)
theorem slicesR_len (R : List (List Bool)) (aA : Nat → Option Addr) (aC : Nat → Nat) (k : Nat) : (slicesR R aA aC k).length = k := by simp [slicesR]
theorem slicesR_get (R : List (List Bool)) (aA : Nat → Option Addr) (aC : Nat → Nat) {k j : Nat} (h : j < k) : (slicesR R aA aC k)[j]? = some (.slice (aA j) (rowB R j).length (aC j)) := by simp [slicesR, h]
def OwnBB (w : World) (base : Nat) (v : Value) (k : Nat) (R : List (List Bool)) : Prop :=
  ∃ (aA : Nat → Option Addr) (aC : Nat → Nat), w.ownsRow base 30 1 v k (slicesR R aA aC k) ∧ ∀ j, j < k → w.ownsRow base 4 1 (.slice (aA j) (rowB R j).length (aC j)) (rowB R j).length (bools (rowB R j))
theorem OwnBB.below {w w' : World} {base k : Nat} {v : Value} {R : List (List Bool)} (h : OwnBB w base v k R) (hb : Below w.heap.size w w') : OwnBB w' base v k R := by
  obtain ⟨aA, aC, h1, h2⟩ := h
  exact ⟨aA, aC, own_below h1 hb, fun j hj => own_below (h2 j hj) hb⟩
theorem OwnBB.base {w : World} {base base' k : Nat} {v : Value} {R : List (List Bool)} (h : OwnBB w base' v k R) (hb : base ≤ base') : OwnBB w base v k R := by
  obtain ⟨aA, aC, h1, h2⟩ := h
  exact ⟨aA, aC, own_base h1 hb, fun j hj => own_base (h2 j hj) hb⟩
theorem own_typed {w : World} {base size n g i : Nat} {e t : TypeId} {v : Value} {xs : List Value} {cs : Array Value} (h : w.ownsRow base e size v n xs) (hb : w.heap[g]? = some (.cells cs t (0, 0))) (hne : e ≠ t) (u : Value) : (w.setCell ⟨g, i, none⟩ u).ownsRow base e size v n xs := by
  refine ⟨h.1, h.2.imp id ?_⟩
  rintro ⟨g', cap, cur, rfl, hbg, hg, r⟩
  refine ⟨g', cap, cur, rfl, hbg, ?_, r⟩
  have : g' ≠ g := fun e => by subst e; rw [hg] at hb; injection hb with hb; injection hb with _ h2; exact hne h2
  rw [Below.heap_setCell _ _ _ _ this]; exact hg
theorem OwnBB.set {w : World} {base k g i : Nat} {v : Value} {R : List (List Bool)} {t : TypeId} {cs : Array Value} (h : OwnBB w base v k R) (hb : w.heap[g]? = some (.cells cs t (0, 0))) (h1 : 30 ≠ t) (h2 : 4 ≠ t) (u : Value) : OwnBB (w.setCell ⟨g, i, none⟩ u) base v k R := by
  obtain ⟨aA, aC, q1, q2⟩ := h
  exact ⟨aA, aC, own_typed q1 hb h1 u, fun j hj => own_typed (q2 j hj) hb h2 u⟩
theorem own_apart2 {w : World} {base base' size size' n n' : Nat} {e e' : TypeId} {v v' : Value} {xs xs' : List Value} (h : w.ownsRow base e size v n xs) (h' : w.ownsRow base' e' size' v' n' xs') (hne : e ≠ e') : Apart v v' := fun k hk hk' => by
  rcases own_ne h h' hne with h1 | h1
  · rw [hk] at h1; cases h1
  · exact h1 (by rw [hk, hk'])

section
variable {W : World} {ops : Array Oper} {rest : List Oper} {o : Oper} {a : Act} {Q : Exit → Act → World → Prop}
set_option maxRecDepth 100000 in
theorem wpList_pushBB (hgd : o.guard = none) (s x : Operand) (ho : o.op = .call { callee := .builtin .append, args := #[s, x], argTypes := #[65, 65] })
    {base k : Nat} {v : Value} {R : List (List Bool)} (hown : OwnBB W base v k R) (A : Option Addr) (n c : Nat) (hn : n = (rowB R k).length) (hrow : W.ownsRow base 4 1 (.slice A n c) n (bools (rowB R k))) (tt : TypeId) (hs : a.eval s = v) (hx : a.eval x = .slice (some ⟨W.heap.size, 0, none⟩) 1 1)
    (hk : k ≤ 1000000) (hbase : base ≤ W.heap.size)
    (h : ∀ A' c' w', OwnBB w' base (.slice A' (k + 1) c') (k + 1) R → Grew W w' base v (.slice A' (k + 1) c') → wpList Tryz.prog ops Q rest (a.put o.dst (.slice A' (k + 1) c')) w') :
    wpList Tryz.prog ops Q (o :: rest) a (W.alloc (.cells #[.slice A n c] tt)) := by
  obtain ⟨i0, hI, hz0, hz1, hz2⟩ := info_parts info_bb
  obtain ⟨aA, aC, q1, q2⟩ := hown
  refine wpList_append_mine hgd s x 65 ho 30 i0 (.slice none 0 0) 1 24 Tryz.underlying65 hI hz0 hz1 hz2 rfl (by decide) (World.ownsRow.alloc q1 _) hs ⟨W.heap.size, 0, none⟩ 1 1 [.slice A n c] hx rfl (fun j u hj => one_at W _ tt hj) (fun u hu => by simp at hu; subst hu; rfl) (by decide) (by unfold maxLen; omega) (by omega) (by simp; omega) ?_
  intro v' w' hown' hg hw
  obtain ⟨A', c', rfl, _, _⟩ := sl_of_own hown'
  have hG := grew_of q1 hbase hg (by simpa using hw)
  refine h A' c' w' ⟨fun j => if j = k then A else aA j, fun j => if j = k then c else aC j, ?_, fun j hj => ?_⟩ hG
  · have e : slicesR R (fun j => if j = k then A else aA j) (fun j => if j = k then c else aC j) (k + 1) = slicesR R aA aC k ++ [.slice A n c] := by
      unfold slicesR
      rw [List.range_succ, List.map_append]
      congr 1
      · refine List.map_congr_left fun j hj => ?_
        have : j ≠ k := by have := List.mem_range.1 hj; omega
        simp [this]
      · simp [hn]
    rw [e]
    exact hown'
  · by_cases hjk : j = k
    · subst hjk
      simp only [if_pos]
      rw [← hn]
      exact (hG.own hrow (own_apart2 hrow q1 (by decide))).1
    · simp only [if_neg hjk]
      exact (hG.own (q2 j (by omega)) (own_apart2 (q2 j (by omega)) q1 (by decide))).1
end
/-- Row j of it, to read. -/
theorem OwnBB.open {w : World} {base k : Nat} {v : Value} {R : List (List Bool)} (h : OwnBB w base v k R) (hk : 0 < k) (hR : ∀ j, j < k → (rowB R j).length ≤ 1000000) : ∃ (g cap : Nat), v = .slice (some ⟨g, 0, none⟩) k cap ∧ k ≤ cap ∧ cap ≤ maxLen ∧ base ≤ g ∧ g < w.heap.size ∧
    ∀ j, j < k → ∃ (A : Option Addr) (c : Nat), w.cell? ⟨g, 0 + j, none⟩ = some (.slice A (rowB R j).length c) ∧ IsBools w A (rowB R j).length (rowB R j) ∧ (rowB R j).length ≤ c ∧ c ≤ maxLen := by
  obtain ⟨aA, aC, q1, q2⟩ := h
  obtain ⟨g, cap, cs, rfl, h1, h2, h3, h4⟩ := own_blk q1 hk
  refine ⟨g, cap, rfl, h1, h2, h3, blk_lt h4, fun j hj => ?_⟩
  obtain ⟨A, c, hv, hc1, hc2, hI⟩ := OwnB.isBools (xs := rowB R j) (q2 j hj) (hR j hj)
  injection hv with e1 e2 e3
  refine ⟨aA j, aC j, ?_, by rw [e1]; exact hI, by omega, by omega⟩
  rw [Nat.zero_add, World.ownsRow.cellAt q1 j (by omega), slicesR_get _ _ _ hj]
end Go.Proofs.YtljloicgjgbplaaGreat
/- A list of lists of truth values that the call has made, to read; copies of such lists. Condition: not great. -/
namespace Go.Proofs.YtljloicgjgbplaaGreat
open Go.RowKit

theorem ownBB_nil (w : World) (base : Nat) (H : List (List Bool)) : OwnBB w base (.slice none 0 0) 0 H :=
  ⟨fun _ => none, fun _ => 0, World.ownsRow_nil _ _ _ _, fun _ h => absurd h (by omega)⟩
theorem OwnBB.isBB {w : World} {base k : Nat} {v : Value} {H : List (List Bool)} (h : OwnBB w base v k H) (hl : H.length = k) (hk : k ≤ 1000000) (hR : ∀ j, j < k → (rowB H j).length ≤ 1000000) : ∃ (A : Option Addr) (c : Nat), v = .slice A k c ∧ k ≤ c ∧ c ≤ maxLen ∧ IsBB w A k H := by
  obtain ⟨aA, aC, q1, q2⟩ := h
  rcases Nat.eq_zero_or_pos k with rfl | h0
  · obtain ⟨A, c, hv, h1, h2⟩ := sl_of_own q1
    exact ⟨A, c, hv, h1, h2, hl, by omega, fun h => absurd h (by omega)⟩
  · obtain ⟨g, cap, cs, rfl, h1, h2, h3, h4⟩ := own_blk q1 h0
    refine ⟨_, cap, rfl, h1, h2, hl, by omega, fun _ => ⟨g, 0, aA, aC, rfl, blk_lt h4, fun j hj => ?_, fun j hj => ?_⟩⟩
    · rw [Nat.zero_add, World.ownsRow.cellAt q1 j (by omega), slicesR_get _ _ _ hj]
    · obtain ⟨A, c, hv, hc1, hc2, hI⟩ := OwnB.isBools (xs := rowB H j) (q2 j hj) (hR j hj)
      injection hv with e1 e2 e3
      unfold maxLen at hc2
      exact ⟨by rw [e1]; exact hI, by omega, by omega⟩
end Go.Proofs.YtljloicgjgbplaaGreat
/- A map of numbers to truth values that the call has made: what it is good for. No condition. -/
namespace Go.Proofs.YtljloicgjgbplaaGreat
open Go.RowKit Go.Maps Go.ChangeMaps

theorem int_law : Keyed Tryz.prog 3 := int_keyed Tryz.underlying3
theorem zero_bool (w : World) : (zeroValue 4).run Tryz.prog w = .ok (.bool false) w := by kernel_rfl
theorem i64_wf {a : Int} (h0 : 0 ≤ a) (h1 : a ≤ 1000000) : (Lit.int .i64 a).wf = true := WalkArith.wf_i64 (by omega)
/-- Block b is a map of at most k entries that reads as f: false where nothing is laid. -/
def OwnMB (w : World) (b k : Nat) (f : Int → Bool) : Prop :=
  ∃ D : DataW Unit, w.ownsMap Tryz.prog 3 (plainElem Tryz.prog 4) b k D ∧ ∀ x, D.atKey (.int .i64 x) (.lit (.bool false)) = .lit (.bool (f x))
theorem OwnMB.made (w : World) (g : Nat) (hg : g = w.heap.size) : OwnMB (w.alloc (.map #[] 0)) g 0 fun _ => false := by
  subst hg
  exact ⟨.map [], World.ownsMap_made _ _ _ _, fun x => rfl⟩
theorem OwnMB.lt {w : World} {b k : Nat} {f : Int → Bool} (h : OwnMB w b k f) : b < w.heap.size := by
  obtain ⟨D, h1, -⟩ := h
  exact h1.lt
theorem OwnMB.below {w w' : World} {b k : Nat} {f : Int → Bool} (h : OwnMB w b k f) (hb : Below w.heap.size w w') : OwnMB w' b k f := by
  have hlt := h.lt
  obtain ⟨D, ⟨es, clock, hh, r⟩, h2⟩ := h
  exact ⟨D, ⟨es, clock, (hb.block b hlt).trans hh, r⟩, h2⟩
theorem OwnMB.heap {w w' : World} {b k : Nat} {f : Int → Bool} (h : OwnMB w b k f) (hb : w'.heap[b]? = w.heap[b]?) : OwnMB w' b k f := by
  obtain ⟨D, ⟨es, clock, hh, r⟩, h2⟩ := h
  exact ⟨D, ⟨es, clock, hb.trans hh, r⟩, h2⟩
set_option maxRecDepth 100000 in
theorem plain_bool_inv {v : Value} {z : DataW Unit × List MemPlace} (h : plainElem Tryz.prog 4 v = some z) : ∃ x, v = .bool x ∧ z = (.lit (.bool x), []) := by
  unfold plainElem at h
  rw [Tryz.underlying4] at h
  cases v <;> simp at h
  exact ⟨_, rfl, h.symm⟩
section
variable {W : World} {ops : Array Oper} {rest : List Oper} {o : Oper} {a : Act} {Q : Exit → Act → World → Prop}
set_option maxRecDepth 100000 in
theorem wpList_mapB {t : TypeId} (hgd : o.guard = none) (m x v : Operand) (ho : o.op = Op.mapUpdate t m x v) (ht : Tryz.prog.underlying t = some (.map 3 4)) {b k : Nat} {f : Int → Bool} (hown : OwnMB W b k f) (hk : k ≤ 1000000) (y : Int) (hy0 : 0 ≤ y) (hy1 : y ≤ 1000000) (c : Bool)
    (hm : a.eval m = .map (some b)) (hx : a.eval x = .int .i64 y) (hv : a.eval v = .bool c) (h : ∀ w', OwnMB w' b (k + 1) (fun z => if z = y then c else f z) → W.grownBy w' (some b) → wpList Tryz.prog ops Q rest (a.put o.dst undef) w') :
    wpList Tryz.prog ops Q (o :: rest) a W := by
  obtain ⟨D, h1, h2⟩ := hown
  have hkey := keyOf_int_mk Tryz.underlying3 (i64_wf hy0 hy1)
  refine wpList_mapUpdate_own W hgd m x v t ho 3 4 int_law ht _ b k D hm h1 (by unfold maxLen; omega) _ _ _ hx hv hkey _ _ (plainElem_bool Tryz.underlying4 c) fun w' q1 q2 => h w' ⟨_, q1, fun z => ?_⟩ q2
  show _ = DataW.lit (Lit.bool (if z = y then c else f z))
  by_cases hz : z = y
  · subst hz
    rw [if_pos rfl]
    exact Maps.atKey_put_same h1.isMap (int_law.key hkey) _ _
  · rw [if_neg hz, Maps.atKey_put_other (fun e => hz (by injection e))]
    exact h2 z
set_option maxRecDepth 100000 in
theorem wpList_lookB {t : TypeId} (hgd : o.guard = none) (m x : Operand) (ho : o.op = Op.lookup t m x false) (ht : Tryz.prog.underlying t = some (.map 3 4)) {b k : Nat} {f : Int → Bool} (hown : OwnMB W b k f) (y : Int) (hy0 : 0 ≤ y) (hy1 : y ≤ 1000000)
    (hm : a.eval m = .map (some b)) (hx : a.eval x = .int .i64 y) (h : wpList Tryz.prog ops Q rest (a.put o.dst (.bool (f y))) W) :
    wpList Tryz.prog ops Q (o :: rest) a W := by
  obtain ⟨D, h1, h2⟩ := hown
  have hkey := keyOf_int_mk Tryz.underlying3 (i64_wf hy0 hy1)
  obtain ⟨v, ps, hrun, hR⟩ := h1.lookup int_law ht (zero_bool W) (plainElem_bool Tryz.underlying4 false) hkey
  rw [h2 y] at hR
  obtain ⟨c, rfl, hc⟩ := plain_bool_inv hR
  have hc2 : c = f y := by
    injection hc with hc _
    injection hc with hc
    injection hc with hc
    exact hc.symm
  subst hc2
  refine wpList_plain hgd fun K' hK' => ?_
  unfold Oper.wp
  simp [execOp, ho, hm, hx, hrun, Result.andThen]
  exact hK' _ _ h
end
end Go.Proofs.YtljloicgjgbplaaGreat
