/- Walks: the reference's check of a tree, which answers as the program's. No condition. -/
import Derived.Test.YtbedomopojiehaaWd
namespace Go.Proofs.Ytbedomopojiehaa
open Go.RowKit

theorem nodup_range_le : ∀ (n : Nat) (l : List Int), l.Nodup → (∀ x ∈ l, 0 ≤ x ∧ x < n) → l.length ≤ n
  | 0, l, _, h => by
    cases l with
    | nil => simp
    | cons a l => have := h a (by simp); omega
  | n + 1, l, hd, h => by
    have h1 := nodup_range_le n (l.erase (n : Int)) (hd.erase _) (fun x hx => by
      have hm := List.mem_of_mem_erase hx
      have h2 := h x hm
      have h3 : x ≠ (n : Int) := fun e => by subst e; exact (List.Nodup.not_mem_erase hd) hx
      omega)
    have h2 : l.length ≤ (l.erase (n : Int)).length + 1 := by rw [List.length_erase]; split <;> omega
    omega

theorem take_nodup {l : List Int} (h : ∀ j, j < l.length → ix l j ∉ l.take j) : l.Nodup := by
  rw [List.nodup_iff_pairwise_ne, List.pairwise_iff_getElem]
  intro i j hi hj hij e
  refine h j hj ?_
  rw [ix_get hj, ← e]
  exact List.mem_take_iff_getElem.2 ⟨i, by omega, rfl⟩

theorem nodup_take {l : List Int} (h : l.Nodup) (j : Nat) (hj : j < l.length) : ix l j ∉ l.take j := by
  intro hm
  obtain ⟨i, hi, e⟩ := List.mem_take_iff_getElem.1 hm
  rw [ix_get hj] at e
  have h2 := List.pairwise_iff_getElem.1 (List.nodup_iff_pairwise_ne.1 h) i j (by omega) hj (by omega)
  exact h2 e

/-- What the reference asks of a tree. -/
def refGood (T : List ANode) : Prop :=
  1 ≤ T.length ∧ T.length ≤ 64 ∧ par T 0 = -1 ∧
  (∀ i, i < T.length → (namedB (nd T i).tag = true ∧ attrsB (nd T i).attrs = true ∧ -1 ≤ par T i ∧ par T i < T.length ∧ (kids T i).length ≤ T.length) ∧ ∀ j, j < (kids T i).length → 0 ≤ ix (kids T i) j ∧ ix (kids T i) j < T.length) ∧
  (∀ i, i < T.length → ∀ k, k < T.length → (kids T i).count (k : Int) = if par T k = i then 1 else 0) ∧
  ∀ i, i < T.length → outB T i = true

theorem mem_ix {l : List Int} {x : Int} (h : x ∈ l) : ∃ j, j < l.length ∧ ix l j = x := by
  obtain ⟨j, hj, e⟩ := List.getElem_of_mem h
  exact ⟨j, hj, by rw [ix_get hj, e]⟩
theorem ix_mem {l : List Int} {j : Nat} (h : j < l.length) : ix l j ∈ l := by rw [ix_get h]; exact List.getElem_mem _

theorem good_ref (T : List ANode) : goodB T = true ↔ refGood T := by
  rw [goodB_iff]
  constructor
  · rintro ⟨h1, h2, h3, h4⟩
    have hL : ∀ i, i < T.length → _ := fun i hi => (linkedB_iff T i).1 (h3 i hi).2.2
    refine ⟨h1, h2, (hL 0 (by omega)).2.2.1 rfl, fun i hi => ⟨⟨(h3 i hi).1, (h3 i hi).2.1, (hL i hi).1, (hL i hi).2.1, ?_⟩, fun j hj => ⟨((hL i hi).2.2.2.2 j hj).1, ((hL i hi).2.2.2.2 j hj).2.1⟩⟩, fun i hi k hk => ?_, h4⟩
    · refine nodup_range_le _ _ (take_nodup fun j hj => ((hL i hi).2.2.2.2 j hj).2.2.2) fun x hx => ?_
      obtain ⟨j, hj, rfl⟩ := mem_ix hx
      exact ⟨((hL i hi).2.2.2.2 j hj).1, ((hL i hi).2.2.2.2 j hj).2.1⟩
    · have hnd : (kids T i).Nodup := take_nodup fun j hj => ((hL i hi).2.2.2.2 j hj).2.2.2
      have hmem : (k : Int) ∈ kids T i ↔ par T k = i := by
        constructor
        · intro hm
          obtain ⟨j, hj, e⟩ := mem_ix hm
          have := ((hL i hi).2.2.2.2 j hj).2.2.1
          rw [e] at this
          simpa using this
        · intro e
          have := (hL k hk).2.2.2.1 (by omega)
          rw [e] at this
          simpa using this
      by_cases hp : par T k = i
      · rw [if_pos hp, hnd.count, if_pos (hmem.2 hp)]
      · rw [if_neg hp, hnd.count, if_neg (fun h => hp (hmem.1 h))]
  · rintro ⟨h1, h2, h0, h3, h5, h4⟩
    refine ⟨h1, h2, fun i hi => ⟨(h3 i hi).1.1, (h3 i hi).1.2.1, (linkedB_iff T i).2 ⟨(h3 i hi).1.2.2.1, (h3 i hi).1.2.2.2.1, fun e => by subst e; exact h0, fun hp => ?_, fun j hj => ?_⟩⟩, h4⟩
    · have hlt := (h3 i hi).1.2.2.2.1
      have := h5 (par T i).toNat (by omega) i hi
      rw [if_pos (by omega)] at this
      exact List.count_pos_iff.1 (by omega)
    · have hr := (h3 i hi).2 j hj
      obtain ⟨x, hx⟩ := Int.eq_ofNat_of_zero_le hr.1
      have hmem : (x : Int) ∈ kids T i := by rw [← hx]; exact ix_mem hj
      have hc := h5 i hi x (by omega)
      have hpos := List.count_pos_iff.2 hmem
      have hp : par T x = i := by
        by_cases hp : par T x = i
        · exact hp
        · rw [if_neg hp] at hc; omega
      refine ⟨hr.1, hr.2, by rw [hx]; exact hp, ?_⟩
      have hnd : (kids T i).Nodup := by
        rw [List.nodup_iff_count]
        intro a
        by_cases ha : a ∈ kids T i
        case neg => rw [List.count_eq_zero_of_not_mem ha]; omega
        obtain ⟨j', hj', e⟩ := mem_ix ha
        have hr' := (h3 i hi).2 j' hj'
        obtain ⟨y, hy⟩ := Int.eq_ofNat_of_zero_le hr'.1
        have := h5 i hi y (by omega)
        rw [← e, hy, this]
        split <;> omega
      exact nodup_take hnd j hj

theorem chk_ref {T : List ANode} (h : ¬ refGood T) : chk T = 8 := chk_bad fun hg => h ((good_ref T).1 hg)
theorem chk_ref_ok {T : List ANode} (h : refGood T) : chk T = 0 := chk_ok ((good_ref T).2 h)

set_option maxRecDepth 100000 in
set_option maxHeartbeats 4000000 in
theorem rcheck_ok (A : Option Addr) (n c : Nat) (T : List ANode) (w : World) (h : IsTree w A n T) :
    Calls Try.prog 30 #[.agg #[.slice A n c]] w fun e w' => e = .returned (.int .i64 (chk T)) ∧ Below w.heap.size w w' := by
  have hT := hide h
  obtain ⟨hl, hn, hs, ho⟩ := h
  by_cases hn1 : 1 ≤ n ∧ n ≤ 64
  · obtain ⟨hn1, hn2⟩ := hn1
    obtain ⟨b, off, aA, cA, aC, cC, rfl, hbl, c0, c1, c2, c3, hA, hC⟩ := ho (by omega)
    clear ho hs
    have c0' := hide c0
    have c1' := hide c1
    have c2' := hide c2
    have c3' := hide c3
    have hA' := hide hA
    have hC' := hide hC
    have hT' := hide hT
    have gz := c2 0 (by omega)
    simp only [Nat.zero_mul, Nat.add_zero] at gz
    clear c0 c1 c2 c3 hA hC hT
    by_cases hz : par T 0 = -1
    · have hzq : (par T 0 != -1) = false := by simp [hz]
      have hz' := hide hz
      clear hz
      go_enter Try.func30, Try.ntmps30
      go_wp2
      clear gz
      go_loopw [4] (fun s wr => ∃ k : Nat, k ≤ n ∧ s = .int .i64 k ∧ Below w.heap.size w wr ∧ wr.cell? ⟨w.heap.size, 0, none⟩ = some (.slice (some ⟨b, off, none⟩) n c) ∧
          ∀ i, i < k → (namedB (nd T i).tag = true ∧ attrsB (nd T i).attrs = true ∧ -1 ≤ par T i ∧ par T i < T.length ∧ (kids T i).length ≤ T.length) ∧ ∀ j, j < (kids T i).length → 0 ≤ ix (kids T i) j ∧ ix (kids T i) j < T.length) (fun s _ => n - (intOf s).toNat)
      case atStart => exact ⟨0, Nat.zero_le _, rfl, below_alloc (Below.refl _ _) _, by go_simp, fun j hj => absurd hj (by omega)⟩
      case round =>
        obtain ⟨k, hk, rfl, hb, hbox, hne⟩ := hrel
        have hne' := hide hne
        clear hne
        by_cases hlt : k < n
        · have g0 := (old hb _ _ hbl).trans (c0'.out k hlt)
          have g1 := (old hb _ _ hbl).trans (c1'.out k hlt)
          have g2 := (old hb _ _ hbl).trans (c2'.out k hlt)
          have g3 := (old hb _ _ hbl).trans (c3'.out k hlt)
          have hgC := hide (hC'.out k hlt).1
          generalize cA k = CA at g3 hgC
          have hbr : b < wr.heap.size := Nat.lt_of_lt_of_le hbl hb.size
          have hbw : w.heap.size < wr.heap.size := cell_in hbox
          have hsz1 : (nd T k).tag.size ≤ 9223372036854775807 := by
            have := hT'.out.out.2.2.1 (nd T k) (by unfold nd; rw [List.getD_eq_getElem?_getD, List.getElem?_eq_getElem (by omega)]; exact List.getElem_mem _)
            exact this
          have hgA := hide (hA'.out k hlt).1
          have hkn : (kids T k).length ≤ 9223372036854775807 := hgC.out.2.1
          have hbad : Hid (¬ (namedB (nd T k).tag = true ∧ attrsB (nd T k).attrs = true ∧ -1 ≤ par T k ∧ par T k < T.length ∧ (kids T k).length ≤ T.length) → chk T = 8) := fun hx => chk_ref fun hg => hx (hg.2.2.2.1 k (by omega)).1
          cases h1 : namedB (nd T k).tag
          · have hr : Hid (chk T = 8) := hbad.out fun hx => by rw [h1] at hx; cases hx.1
            clear hbad
            go_wp2_with (go_at_call 50; refine (rnamed_ok _ _ hsz1).mono ?_; rintro e w1 ⟨rfl, rfl⟩)
            go_ret
            exact ⟨ret_int hr.out.symm, below_alloc hb _⟩
          · cases h2 : attrsB (nd T k).attrs
            · have hr : Hid (chk T = 8) := hbad.out fun hx => by rw [h2] at hx; cases hx.2.1
              clear hbad
              go_wp2_with (first | (go_at_call 50; refine (rnamed_ok _ _ hsz1).mono ?_; rintro e w1 ⟨rfl, rfl⟩) | (go_at_call 61; refine (rattributes_ok _ _ _ _ _ (hgA.out.below (below_alloc hb _))).mono ?_; rintro e w1 ⟨rfl, q, rfl⟩))
              go_ret
              exact ⟨ret_int hr.out.symm, below_drewN (below_alloc hb _) _⟩
            · by_cases h3 : -1 ≤ par T k ∧ par T k < n ∧ (kids T k).length ≤ n
              · obtain ⟨h3, h4, h5⟩ := h3
                clear hbad
                go_wp2_with (first | (go_at_call 50; refine (rnamed_ok _ _ hsz1).mono ?_; rintro e w1 ⟨rfl, rfl⟩) | (go_at_call 61; refine (rattributes_ok _ _ _ _ _ (hgA.out.below (below_alloc hb _))).mono ?_; rintro e w1 ⟨rfl, q, rfl⟩))
                have hbw2 : Hid (∀ q, Below w.heap.size w ((wr.alloc (Obj.cells #[.string (nd T k).tag, .slice (aA k) (nd T k).attrs.length (aC k), .int .i64 (par T k), .slice CA (kids T k).length (cC k)] 86)).drewN q)) := fun q => below_drewN (below_alloc hb _) q
                go_loop [6] (fun s => ∃ j : Nat, j ≤ (kids T k).length ∧ s = .int .i64 j ∧ ∀ i, i < j → 0 ≤ ix (kids T k) i ∧ ix (kids T k) i < T.length) (fun s => (kids T k).length - (intOf s).toNat)
                case atStart => exact ⟨0, Nat.zero_le _, rfl, fun j hj => absurd hj (by omega)⟩
                case round =>
                  obtain ⟨j, hj, rfl, hje⟩ := hrel
                  have hje' := hide hje
                  clear hje
                  by_cases hltj : j < (kids T k).length
                  · obtain ⟨b', off', rfl, hb', hck⟩ := hgC.out.2.2 (by omega)
                    have gk := (old hb _ _ hb').trans (hck j hltj)
                    have hbr' : b' < wr.heap.size := Nat.lt_of_lt_of_le hb' hb.size
                    clear hck
                    by_cases hx : 0 ≤ ix (kids T k) j ∧ ix (kids T k) j < n
                    · obtain ⟨hx1, hx2⟩ := hx
                      go_wp2
                      go_round
                      case rel => exact ⟨j + 1, by omega, by go_num, fun i hi => by
                        by_cases h : i = j
                        · subst h; exact ⟨hx1, by omega⟩
                        · have h2 := hje'.out i (by omega); exact ⟨h2.1, by omega⟩⟩
                      case measure => simp [intOf]; omega
                    · have hr : Hid (chk T = 8) := chk_ref fun hg => hx (by have := (hg.2.2.2.1 k (by omega)).2 j hltj; omega)
                      have hx' : ix (kids T k) j < 0 ∨ (0 ≤ ix (kids T k) j ∧ (n : Int) ≤ ix (kids T k) j) := by omega
                      clear hx
                      rcases hx' with h | ⟨h, h'⟩
                      · go_wp2
                        go_ret
                        exact ⟨ret_int hr.out.symm, hbw2.out _⟩
                      · go_wp2
                        go_ret
                        exact ⟨ret_int hr.out.symm, hbw2.out _⟩
                  · go_wp2
                    go_roundw
                    case rel => exact ⟨k + 1, by omega, by go_num, hbw2.out _, by go_simp, fun i hi => by
                      by_cases h : i = k
                      · subst h; exact ⟨⟨h1, h2, h3, by omega, by omega⟩, fun j' hj' => hje'.out j' (by omega)⟩
                      · exact hne'.out i (by omega)⟩
                    case measure => simp [intOf]; omega
              · have hr : Hid (chk T = 8) := hbad.out fun hx => h3 ⟨hx.2.2.1, by have := hx.2.2.2.1; omega, by have := hx.2.2.2.2; omega⟩
                have h3' : par T k < -1 ∨ (-1 ≤ par T k ∧ (n : Int) ≤ par T k) ∨ (-1 ≤ par T k ∧ par T k < n ∧ n < (kids T k).length) := by omega
                clear h3 hbad
                rcases h3' with h | ⟨h, h'⟩ | ⟨h, h', h''⟩
                all_goals
                  go_wp2_with (first | (go_at_call 50; refine (rnamed_ok _ _ hsz1).mono ?_; rintro e w1 ⟨rfl, rfl⟩) | (go_at_call 61; refine (rattributes_ok _ _ _ _ _ (hgA.out.below (below_alloc hb _))).mono ?_; rintro e w1 ⟨rfl, q, rfl⟩))
                  go_ret
                  exact ⟨ret_int hr.out.symm, below_drewN (below_alloc hb _) _⟩
        · have hall : Hid (∀ i, i < n → (namedB (nd T i).tag = true ∧ attrsB (nd T i).attrs = true ∧ -1 ≤ par T i ∧ par T i < T.length ∧ (kids T i).length ≤ T.length) ∧ ∀ j, j < (kids T i).length → 0 ≤ ix (kids T i) j ∧ ix (kids T i) j < T.length) := fun i hi => hne'.out i (by omega)
          have hrg : Hid (∀ i, i < T.length → par T i < T.length) := fun i hi => (hall.out i (by omega)).1.2.2.2.1
          clear hne'
          go_wp2
          go_loop [7] (fun s => ∃ i : Nat, i ≤ n ∧ s = .int .i64 i ∧ ∀ j, j < i → ∀ k, k < T.length → (kids T j).count (k : Int) = if par T k = j then 1 else 0) (fun s => n - (intOf s).toNat)
          case atStart => exact ⟨0, Nat.zero_le _, rfl, fun j hj => absurd hj (by omega)⟩
          case round =>
            obtain ⟨i, hi, rfl, hne⟩ := hrel
            have hne' := hide hne
            clear hne
            by_cases hlt2 : i < n
            · have gi := (old hb _ _ hbl).trans (c3'.out i hlt2)
              have hgi := hide (hC'.out i hlt2).1
              go_wp2
              go_loop [8] (fun s => ∃ k : Nat, k ≤ n ∧ s = .int .i64 k ∧ ∀ j, j < k → (kids T i).count (j : Int) = if par T j = i then 1 else 0) (fun s => n - (intOf s).toNat)
              case atStart => exact ⟨0, Nat.zero_le _, rfl, fun j hj => absurd hj (by omega)⟩
              case round =>
                obtain ⟨k, hk, rfl, hke⟩ := hrel
                have hke' := hide hke
                clear hke
                by_cases hlt3 : k < n
                · have gk := (old hb _ _ hbl).trans (c2'.out k hlt3)
                  have hcl : (kids T i).count (k : Int) ≤ 9223372036854775807 := Nat.le_trans List.count_le_length hgi.out.2.1
                  by_cases hp : par T k = i
                  · have hp' : (par T k == (i : Int)) = true := by simp [hp]
                    have hpe := hide hp
                    clear hp
                    by_cases hc1 : (kids T i).count (k : Int) = 1
                    · have hc' : ((((kids T i).count (k : Int) : Nat) : Int) != 1) = false := by simp [hc1]
                      have hce := hide hc1
                      clear hc1
                      go_wp2_with (go_at_call 62; refine (times_ok _ _ _ _ _ _ (hgi.out.below hb)).mono ?_; rintro e w1 ⟨rfl, rfl⟩)
                      go_round
                      case rel => exact ⟨k + 1, by omega, by go_num, fun j hj => by
                        by_cases h : j = k
                        · subst h; rw [if_pos hpe.out]; exact hce.out
                        · exact hke'.out j (by omega)⟩
                      case measure => simp [intOf]; omega
                    · have hc' : ((((kids T i).count (k : Int) : Nat) : Int) != 1) = true := by simp; omega
                      have hr : Hid (chk T = 8) := chk_ref fun hg => by
                        have h1 := hg.2.2.2.2.1 i (by omega) k (by omega)
                        rw [if_pos hpe.out] at h1
                        exact hc1 h1
                      clear hc1
                      go_wp2_with (go_at_call 62; refine (times_ok _ _ _ _ _ _ (hgi.out.below hb)).mono ?_; rintro e w1 ⟨rfl, rfl⟩)
                      go_ret
                      exact ⟨ret_int hr.out.symm, hb⟩
                  · have hp' : (par T k == (i : Int)) = false := by simp [hp]
                    have hpe := hide hp
                    clear hp
                    by_cases hc1 : (kids T i).count (k : Int) = 0
                    · have hc' : ((((kids T i).count (k : Int) : Nat) : Int) != 0) = false := by simp [hc1]
                      have hce := hide hc1
                      clear hc1
                      go_wp2_with (go_at_call 62; refine (times_ok _ _ _ _ _ _ (hgi.out.below hb)).mono ?_; rintro e w1 ⟨rfl, rfl⟩)
                      go_round
                      case rel => exact ⟨k + 1, by omega, by go_num, fun j hj => by
                        by_cases h : j = k
                        · subst h; rw [if_neg hpe.out]; exact hce.out
                        · exact hke'.out j (by omega)⟩
                      case measure => simp [intOf]; omega
                    · have hc' : ((((kids T i).count (k : Int) : Nat) : Int) != 0) = true := by simp; omega
                      have hr : Hid (chk T = 8) := chk_ref fun hg => by
                        have h1 := hg.2.2.2.2.1 i (by omega) k (by omega)
                        rw [if_neg hpe.out] at h1
                        exact hc1 h1
                      clear hc1
                      go_wp2_with (go_at_call 62; refine (times_ok _ _ _ _ _ _ (hgi.out.below hb)).mono ?_; rintro e w1 ⟨rfl, rfl⟩)
                      go_ret
                      exact ⟨ret_int hr.out.symm, hb⟩
                · go_wp2
                  go_round
                  case rel => exact ⟨i + 1, by omega, by go_num, fun j hj => by
                    by_cases h : j = i
                    · subst h; intro k' hk'; exact hke'.out k' (by omega)
                    · exact hne'.out j (by omega)⟩
                  case measure => simp [intOf]; omega
            · have hcnt : Hid (∀ j, j < n → ∀ k, k < T.length → (kids T j).count (k : Int) = if par T k = j then 1 else 0) := fun j hj => hne'.out j (by omega)
              clear hne'
              go_wp2
              go_loop [10] (fun s => ∃ i : Nat, i ≤ n ∧ s = .int .i64 i ∧ ∀ j, j < i → outB T j = true) (fun s => n - (intOf s).toNat)
              case atStart => exact ⟨0, Nat.zero_le _, rfl, fun j hj => absurd hj (by omega)⟩
              case round =>
                obtain ⟨i, hi, rfl, hne⟩ := hrel
                have hne' := hide hne
                clear hne
                by_cases hlt4 : i < n
                · go_wp2
                  go_loop [11, 12] (fun q s => ∃ m : Nat, m ≤ n ∧ s = .int .i64 m ∧ q = .int .i64 (up T m i)) (fun _ s => n - (intOf s).toNat)
                  case atStart => exact ⟨0, Nat.zero_le _, rfl, rfl⟩
                  case round =>
                    obtain ⟨m, hm, rfl, rfl⟩ := hrel
                    have hul := up_lt hrg.out m i (by omega)
                    by_cases hq : up T m i < 0
                    · have hout : Hid (outB T i = true) := by
                        show outB T i = true
                        simp only [outB, decide_eq_true_eq]
                        exact up_stay T (by omega) _ hq
                      go_wp2
                      all_goals
                        go_round
                        case rel => exact ⟨i + 1, by omega, by go_num, fun j hj => by
                          by_cases h : j = i
                          · subst h; exact hout.out
                          · exact hne'.out j (by omega)⟩
                        case measure => simp [intOf]; omega
                    · by_cases hmn : m < n
                      · obtain ⟨q, hqe⟩ := Int.eq_ofNat_of_zero_le (show 0 ≤ up T m i by omega)
                        have hqn : q < n := by omega
                        have hus := hide (up_succ T m i)
                        have gq := (old hb _ _ hbl).trans (c2'.out q hqn)
                        have hqe' := hide hqe
                        go_wp2
                        go_round
                        case rel => exact ⟨m + 1, by omega, by go_num, by rw [hus.out, if_neg (by rw [hqe'.out]; omega), hqe'.out]; rfl⟩
                        case measure => simp [intOf]; omega
                      · have hr : Hid (chk T = 8) := chk_ref fun hg => by
                          have h1 := hg.2.2.2.2.2 i (by omega)
                          simp only [outB, decide_eq_true_eq] at h1
                          rw [show T.length = m by omega] at h1
                          omega
                        go_wp2
                        go_ret
                        exact ⟨ret_int hr.out.symm, hb⟩
                · have hr : Hid (chk T = 0) := chk_ref_ok ⟨by omega, by omega, hz'.out, fun j hj => hall.out j (by omega), fun j hj => hcnt.out j (by omega), fun j hj => hne'.out j (by omega)⟩
                  go_wp2
                  go_ret
                  exact ⟨ret_int hr.out.symm, hb⟩
    · have hr : Hid (chk T = 8) := chk_ref fun hg => hz hg.2.2.1
      have hzq : (par T 0 != -1) = true := by simp [hz]
      clear hz
      go_enter Try.func30, Try.ntmps30
      go_wp2
      go_ret
      exact ⟨ret_int hr.out.symm, below_alloc (Below.refl _ _) _⟩
  · have hr : Hid (chk T = 8) := chk_ref fun hg => hn1 ⟨by have := hg.1; omega, by have := hg.2.1; omega⟩
    have hn1' : n < 1 ∨ 64 < n := by omega
    clear hn1 ho hs hT
    rcases hn1' with h | h
    · go_enter Try.func30, Try.ntmps30
      go_wp2
      go_ret
      exact ⟨ret_int hr.out.symm, below_alloc (Below.refl _ _) _⟩
    · go_enter Try.func30, Try.ntmps30
      go_wp2
      go_ret
      exact ⟨ret_int hr.out.symm, below_alloc (Below.refl _ _) _⟩
end Go.Proofs.Ytbedomopojiehaa
