/- For every tree and every number: a child has its own link or the relevant link of its parent, and all links are just those elements whose relevant link is themselves. No condition. -/
import Derived.Test.YtfiiikbbiimdiaaOpen
import Derived.Test.YtfiiikbbiimdiaaEx17
import Derived.Deep.RegionHeld3
import Derived.Deep.QuietTactic
import Derived.BigQuiet
namespace Go.Proofs.Ytfiiikbbiimdiaa.linkBelow
open Go.ChangeShapes Go.WideShapes Go.ChangeAt Go.RowKit

theorem is_at (T : List ANode) (i : Int) (v : Bool) (c0 : Int) (h0 : askI T [i] = c0) (hl : isE T i = v) (A : Option Addr) (n c : Nat) (w : World) (h : IsTree w A n T) :
    Calls Try.prog 25 #[.agg #[.slice A n c], .int .i64 i] w fun e w' => e = .returned (.tuple #[.bool v, .int .i64 c0]) ∧ Below w.heap.size w w' := by
  have := linkIs_ok A n c T i w h
  rw [hl, h0] at this
  exact this
theorem below_at (T : List ANode) (i k : Int) (v : Bool) (h0 : askI T [i, k] = 0) (hl : belE T i k = v) (A : Option Addr) (n c : Nat) (w : World) (h : IsTree w A n T) :
    Calls Try.prog 37 #[.agg #[.slice A n c], .int .i64 i, .int .i64 k] w fun e w' => e = .returned (.tuple #[.bool v, .int .i64 0]) ∧ Below w.heap.size w w' := by
  have := below_ok A n c T i k w h
  rw [hl, h0] at this
  exact this
theorem sub_len {l m : List Int} (hn : l.Nodup) (h : ∀ x ∈ l, x ∈ m) : l.length ≤ m.length := by
  induction l generalizing m with
  | nil => simp
  | cons a l ih =>
    obtain ⟨h1, h2⟩ := List.nodup_cons.1 hn
    have ha := h a (by simp)
    have := ih (m := m.erase a) h2 fun x hx => (List.mem_erase_of_ne (by rintro rfl; exact h1 hx)).2 (h x (by simp [hx]))
    have h3 : 0 < m.length := List.length_pos_of_mem ha
    rw [List.length_erase_of_mem ha] at this
    simp only [List.length_cons]
    omega
/-- How many of the first k elements are links, and the element i or below it. -/
def inL (T : List ANode) (i k : Nat) : Bool := decide ((k : Int) ∈ preT T i) && lkB T k
def cntL (T : List ANode) (i k : Nat) : Nat := ((List.range k).filter (inL T i)).length
theorem cntL_succ (T : List ANode) (i k : Nat) : cntL T i (k + 1) = cntL T i k + (if inL T i k = true then 1 else 0) := by
  unfold cntL
  rw [List.range_succ, List.filter_append, List.length_append]
  congr 1
  by_cases hb : inL T i k = true
  · rw [if_pos hb, List.filter_cons, if_pos hb]; rfl
  · rw [if_neg hb, List.filter_cons, if_neg hb]; rfl
theorem cntL_le (T : List ANode) (i : Nat) {j k : Nat} (h : j ≤ k) : cntL T i j ≤ cntL T i k := by
  induction k with
  | zero => have : j = 0 := by omega
            subst this; exact Nat.le_refl _
  | succ k ih =>
    rcases Nat.lt_or_ge k j with h1 | h1
    · have : j = k + 1 := by omega
      subst this; exact Nat.le_refl _
    · have := ih h1
      rw [cntL_succ]; omega
theorem cntL_all {T : List ANode} (hg : goodB T = true) {i : Nat} (hi : i < T.length) : cntL T i T.length = ((preT T i).filter fun x => lkB T x.toNat).length := by
  have h1 : (((List.range T.length).filter (inL T i)).map (fun k : Nat => (k : Int))).Nodup := by
    rw [List.nodup_iff_pairwise_ne, List.pairwise_map]
    refine ((List.nodup_iff_pairwise_ne.1 List.nodup_range).filter _).imp fun hne he => hne (by omega)
  have h2 : ((preT T i).filter fun x => lkB T x.toNat).Nodup := (preT_nodup hg hi).filter _
  have a := sub_len h1 (m := (preT T i).filter fun x => lkB T x.toNat) fun x hx => by
    obtain ⟨k, hk, rfl⟩ := List.mem_map.1 hx
    have := (List.mem_filter.1 hk).2
    unfold inL at this
    simp only [Bool.and_eq_true, decide_eq_true_eq] at this
    exact List.mem_filter.2 ⟨this.1, by simpa using this.2⟩
  have b := sub_len h2 (m := ((List.range T.length).filter (inL T i)).map (fun k : Nat => (k : Int))) fun x hx => by
    obtain ⟨h3, h4⟩ := List.mem_filter.1 hx
    obtain ⟨y, rfl, hy, -⟩ := pre_mem hg _ hi h3
    refine List.mem_map.2 ⟨y, List.mem_filter.2 ⟨List.mem_range.2 hy, ?_⟩, rfl⟩
    unfold inL
    simp only [Bool.and_eq_true, decide_eq_true_eq]
    exact ⟨h3, by simpa using h4⟩
  rw [List.length_map] at a b
  unfold cntL
  omega
theorem near_self {T : List ANode} (hg : goodB T = true) {q : Nat} (hq : q < T.length) : (nearF T q == (q : Int)) = lkB T q := by
  cases h : lkB T q
  · rw [Bool.eq_false_iff]
    intro he
    have he : nearF T q = q := by simpa using he
    unfold nearF at he
    cases hf : (anc T q).find? fun x => lkB T x.toNat with
    | none =>
      rw [hf] at he
      have he : (-1 : Int) = q := he
      omega
    | some x =>
      rw [hf] at he
      simp at he
      have := List.find?_some hf
      rw [he] at this
      simp [h] at this
  · rw [near_yes hg hq h]; simp
theorem seen_is {T : List ANode} (hg : goodB T = true) {i k : Nat} (hi : i < T.length) (hk : k < T.length) : decide ((k : Int) ∈ preT T i) = (belE T k i || ((k : Int) == (i : Int))) := by
  rw [Bool.eq_iff_iff]
  simp only [decide_eq_true_eq, Bool.or_eq_true, beq_iff_eq]
  rw [mem_preT hg hi hk, anc_cons hg hk, List.mem_cons, bel_iff hg hk hi]
  simp only [decide_eq_true_eq]
  constructor
  · rintro (h | h)
    · exact .inr h.symm
    · exact .inl h
  · rintro (h | h)
    · exact .inr h
    · exact .inl h.symm

set_option maxRecDepth 100000 in
set_option maxHeartbeats 4000000 in
theorem walk (A : Option Addr) (n c : Nat) (T : List ANode) (i : Int) (w : World) (h : IsTree w A n T) :
    Calls Try.prog 7 #[.agg #[.slice A n c], .int .i64 i] w fun e w' => e = .returned (.bool true) ∧ Below w.heap.size w w' := by
  have ho := hide h.2.2.2
  have hT := hide h
  have hl := h.1
  clear h
  have hB0 := below_alloc (Below.refl w.heap.size w) (.cells #[.slice A n c] 24)
  have hbox0 : (w.alloc (.cells #[.slice A n c] 24)).cell? ⟨w.heap.size, 0, none⟩ = some (.slice A n c) := by go_simp
  by_cases q1 : askI T [i] = 0
  · obtain ⟨hg, hir⟩ := askI_zero.1 q1
    have hir := hir i (by simp)
    obtain ⟨k, rfl⟩ := Int.eq_ofNat_of_zero_le hir.1
    have hk : k < n := by omega
    have hkT : k < T.length := by omega
    have hn64 : n ≤ 64 := by have := ((goodB_iff T).1 hg).2.1; omega
    obtain ⟨b, off, aA, cA, aC, cC, rfl, hbl, -, -, -, c3, -, hC⟩ := ho.out (by omega)
    have g3h := hide (c3 k hk)
    have hIk := hide (hC k hk).1
    generalize cA k = CA at g3h hIk
    generalize cC k = cc at g3h
    have hg' := hide hg
    have q1' := hide q1
    have e1 : Hid (nearE T k = nearF T k) := if_pos q1
    have e2 : Hid (linksE T k = (preT T k).filter fun x => lkB T x.toNat) := if_pos q1
    have hkids : Hid (∀ j, j < (kids T k).length → ∃ r : Nat, ix (kids T k) j = r ∧ r < n ∧ par T r = k) := fun j hj => by
      obtain ⟨r, h1, h2, h3⟩ := good_kid hg hkT (ix_mem hj); exact ⟨r, h1, by omega, h3⟩
    have hkl : (kids T k).length ≤ n := by
      have := ((good_ref T).1 hg).2.2.2.1 k hkT
      omega
    obtain ⟨m, hm⟩ : ∃ m, (kids T k).length = m := ⟨_, rfl⟩
    rw [hm] at g3h hIk hkids hkl
    have hasked : Hid (∀ r : Nat, r < n → askI T [(r : Int)] = 0) := fun r hr => askI_ok hg (by simp; omega)
    have hnr : Hid (∀ r : Nat, r < n → nearE T r = nearF T r) := fun r hr => if_pos (hasked.out r hr)
    have hlinks : Hid (∀ j, j < (linksE T k).length → ∃ r : Nat, ix (linksE T k) j = r ∧ r < n ∧ lkB T r = true) := fun j hj => by
      have := ix_mem hj
      rw [e2.out] at this
      obtain ⟨h3, h4⟩ := List.mem_filter.1 this
      obtain ⟨y, h5, hy, -⟩ := pre_mem hg _ hkT h3
      rw [← e2.out] at h5 h4
      exact ⟨y, h5, by omega, by rw [h5] at h4; simpa using h4⟩
    have hall : Hid (cntL T k n = (linksE T k).length) := by show _ = _; rw [e2.out, ← hl]; exact cntL_all hg hkT
    clear hir hg c3 hC ho hm
    go_enter Try.func7, Try.ntmps7
    go_wp2_with fail
    refine (alive17_ok _).mono ?_
    rintro e w1 ⟨rfl, hb1⟩
    have hbox1 := cell_later hb1 hbox0
    have hB1 := Below.on hB0 hb1
    have hbox1 := cell_later hb1 hbox0
    go_wp2_with fail
    refine (rasked_ok _ _ _ T _ _ (hT.out.below hB1)).mono ?_
    rintro e w2 ⟨rfl, hb2⟩
    have hbox2 := cell_later hb2 hbox1
    have hB2 := Below.on hB1 hb2
    clear q1 hb1 hb2 hbox0 hbox1 hB0 hB1
    go_wp2_with fail
    refine (near_at T k (nearF T k) 0 q1'.out e1.out _ _ _ _ (hT.out.below hB2)).mono ?_
    rintro e w3 ⟨rfl, hb3⟩
    have hB3 := Below.on hB2 hb3
    have hbox3 := cell_later hb3 hbox2
    go_wp2_with fail
    refine (links_at T k (linksE T k) 0 q1'.out rfl _ _ _ _ (hT.out.below hB3)).mono ?_
    rintro e w4 ⟨A4, c4, rfl, hI4, hb4⟩
    have hB4 := Below.on hB3 hb4
    have hbox4 := cell_later hb4 hbox3
    obtain ⟨L, hL⟩ : ∃ L, linksE T k = L := ⟨_, rfl⟩
    rw [hL] at hI4 hlinks hall ⊢
    obtain ⟨p, hp⟩ : ∃ p, L.length = p := ⟨_, rfl⟩
    rw [hp] at hI4 hlinks hall ⊢
    have hI4' := hide hI4
    generalize hN : nearF T (k : Int) = N at *
    have hN' := hide hN
    clear hI4 hL hp hN hb3 hb4 hbox2 hbox3 hB2 hB3
    go_wp2
    go_loopw [10] (fun x wr => ∃ j : Nat, j ≤ m ∧ x = .int .i64 j ∧ Below w4.heap.size w4 wr) (fun x _ => m - (intOf x).toNat)
    case atStart => exact ⟨0, Nat.zero_le _, rfl, Below.refl _ _⟩
    case round =>
      obtain ⟨j, hj, rfl, hb⟩ := hrel
      have hBw := Below.on hB4 hb
      have hbx := cell_later hb hbox4
      have g3 := (old hBw _ _ hbl).trans g3h.out
      by_cases hlt : j < m
      · obtain ⟨r, hr, hrn, hrp⟩ := hkids.out j hlt
        obtain ⟨bk, ok, rfl, hbkl, hck⟩ := hIk.out.2.2 (by omega)
        have gk := (old hBw _ _ hbkl).trans (hck j hlt)
        rw [hr] at gk
        have hra := hide (hasked.out r hrn)
        have hrv : Hid (isE T r = lkB T r) := by show _ = _; unfold isE; rw [if_pos hra.out, Int.toNat_natCast]
        clear hck hr
        cases hlk : lkB T r
        · have i1 : Hid (isE T r = false) := by show _ = _; rw [hrv.out, hlk]
          have i2 : Hid (nearE T r = N) := by show _ = _; rw [hnr.out r hrn, near_no hg'.out (by omega) hlk, hrp, hN'.out]
          clear hlk hrp
          go_wp2_with fail
          refine (is_at T r false 0 hra.out i1.out _ _ _ _ (hT.out.below hBw)).mono ?_
          rintro e w5 ⟨rfl, hb5⟩
          have hbx5 := cell_later hb5 hbx
          go_wp2_with fail
          refine (near_at T r N 0 hra.out i2.out _ _ _ _ (hT.out.below (Below.on hBw hb5))).mono ?_
          rintro e w6 ⟨rfl, hb6⟩
          have hbx6 := cell_later hb6 hbx5
          go_wp2
          go_roundw
          case rel => exact ⟨j + 1, by omega, by go_num, Below.on (Below.on hb hb5) hb6⟩
          case measure => simp [intOf]; omega
        · have i1 : Hid (isE T r = true) := by show _ = _; rw [hrv.out, hlk]
          have i2 : Hid (nearE T r = r) := by show _ = _; rw [hnr.out r hrn, near_yes hg'.out (by omega) hlk]
          clear hlk hrp
          go_wp2_with fail
          refine (is_at T r true 0 hra.out i1.out _ _ _ _ (hT.out.below hBw)).mono ?_
          rintro e w5 ⟨rfl, hb5⟩
          have hbx5 := cell_later hb5 hbx
          go_wp2_with fail
          refine (near_at T r r 0 hra.out i2.out _ _ _ _ (hT.out.below (Below.on hBw hb5))).mono ?_
          rintro e w6 ⟨rfl, hb6⟩
          have hbx6 := cell_later hb6 hbx5
          go_wp2
          go_roundw
          case rel => exact ⟨j + 1, by omega, by go_num, Below.on (Below.on hb hb5) hb6⟩
          case measure => simp [intOf]; omega
      · obtain rfl : m = j := by omega
        clear hbox4 hB4
        go_wp2
        clear g3 g3h hIk hkids hkl
        obtain ⟨wo, hwo⟩ : ∃ wo : World, wr = wo := ⟨_, rfl⟩
        rw [hwo]
        rw [hwo] at hb hBw hbx
        clear hwo
        go_loopw [16, 17] (fun x y wr => ∃ q : Nat, q ≤ n ∧ y = .int .i64 q ∧ x = .int .i64 (cntL T k q : Nat) ∧ Below wo.heap.size wo wr) (fun _ y _ => n - (intOf y).toNat)
        case atStart => exact ⟨0, Nat.zero_le _, rfl, rfl, Below.refl _ _⟩
        case round =>
          obtain ⟨q, hq, rfl, rfl, hc⟩ := hrel
          have hCw := Below.on hBw hc
          have hcx := cell_later hc hbx
          have hle : cntL T k q ≤ p := by rw [← hall.out]; exact cntL_le T k hq
          have hp64 : p ≤ 64 := by
            rw [← hall.out]
            have := List.length_filter_le (inL T k) (List.range n)
            rw [List.length_range] at this
            exact Nat.le_trans this hn64
          by_cases hlt2 : q < n
          · have hqT : q < T.length := by omega
            have hra := hide (hasked.out q hlt2)
            have hask2 := hide (askI_ok hg'.out (l := [(q : Int), (k : Int)]) (by simp; omega))
            have hnq := hide (hnr.out q hlt2)
            have hself := near_self hg'.out hqT
            have hseen := hide (seen_is hg'.out hkT hqT)
            have hsucc := hide (cntL_succ T k q)
            have hle2 : Hid (cntL T k (q + 1) ≤ p) := by show _ ≤ _; rw [← hall.out]; exact cntL_le T k hlt2
            generalize hNq : nearF T (q : Int) = Nq at hnq hself
            generalize hbe : belE T q k = be at hseen
            generalize hqk : ((q : Int) == (k : Int)) = bq at hseen
            have hbe' := hide hbe
            have hin : Hid (inL T k q = ((be || bq) && lkB T q)) := by show _ = _; unfold inL; rw [hseen.out]
            clear hNq hbe
            generalize cntL T k q = cq at *
            go_wp2_with fail
            refine (below_at T q k be hask2.out hbe'.out _ _ _ _ (hT.out.below hCw)).mono ?_
            rintro e w5 ⟨rfl, hb5⟩
            have hbx5 := cell_later hb5 hcx
            go_wp2_with fail
            refine (near_at T q Nq 0 hra.out hnq.out _ _ _ _ (hT.out.below (Below.on hCw hb5))).mono ?_
            rintro e w6 ⟨rfl, hb6⟩
            have hbx6 := cell_later hb6 hbx5
            cases hlk : lkB T q <;> cases be <;> cases bq
            all_goals
              rw [hlk] at hself
              have hn2 : Hid (cntL T k (q + 1) = cq + (if inL T k q = true then 1 else 0)) := hsucc
              rw [hin.out, hlk] at hn2
              have hn3 := hide (by simpa using hn2.out)
              have hn4 := hn3.out
              have hle3 := hle2.out
              rw [hn4] at hle3
              clear hn4 hlk hn2
              go_wp2
              go_roundw
              case rel => exact ⟨q + 1, by omega, by go_num, by first | (rw [hn3.out]; done) | (rw [hn3.out]; go_num), Below.on (Below.on hc hb5) hb6⟩
              case measure => simp [intOf]; omega
          · obtain rfl : n = q := by omega
            rw [hall.out]
            clear hle
            obtain ⟨wq, hwq⟩ : ∃ wq : World, wr = wq := ⟨_, rfl⟩
            rw [hwq]
            rw [hwq] at hc hCw hcx
            clear hwq
            have hIq := hide ((hI4'.out.below hb).below hc)
            go_wp2
            go_loopw [22] (fun x wr => ∃ j : Nat, j ≤ p ∧ x = .int .i64 j ∧ Below wq.heap.size wq wr) (fun x _ => p - (intOf x).toNat)
            case atStart => exact ⟨0, Nat.zero_le _, rfl, Below.refl _ _⟩
            case round =>
              obtain ⟨j, hj2, rfl, hd⟩ := hrel
              have hDw := Below.on hCw hd
              have hdx := cell_later hd hcx
              by_cases hlt3 : j < p
              · obtain ⟨r, hr, hrn, hrl⟩ := hlinks.out j hlt3
                obtain ⟨bl, ol, rfl, hbll, hcl⟩ := hIq.out.2.2 (by omega)
                have gk := (old hd _ _ hbll).trans (hcl j hlt3)
                rw [hr] at gk
                have hra := hide (hasked.out r hrn)
                have i2 : Hid (nearE T r = r) := by show _ = _; rw [hnr.out r hrn, near_yes hg'.out (by omega) hrl]
                have hx0 : (0 : Int) ≤ (j : Int) := by omega
                have hx1 : (j : Int) < (p : Int) := by omega
                clear hcl hr hrl
                go_wp2
                go_quiet (fail)
                have hD2 := below_drewN (Below.refl wr.heap.size wr) nq
                have hdx2 := cell_later hD2 hdx
                have gk2 := cell_later hD2 gk
                have hDw2 := Below.on hDw hD2
                have hd2 := Below.on hd hD2
                clear hdx gk hDw hd hD2
                generalize wr.drewN nq = wz at *
                go_wp2
                go_region_held3 (fun X => X.cell? ⟨w.heap.size, 0, none⟩ = some (.slice (some ⟨b, off, none⟩) n c) ∧ X.cell? ⟨bl, ol + j, none⟩ = some (.int .i64 r)) (first | exact ⟨hdx2, gk2⟩ | exact ⟨r0, r1⟩) (first | (go_at_call 29; refine (near_at T r r 0 hra.out i2.out _ _ _ _ ?_).mono ?_; (exact hT.out.below (show Below w.heap.size w wz.drew from hDw2.drew)); rintro e w8 ⟨rfl, hb8⟩; have r0 := cell_later hb8 hdx2; have r1 := cell_later hb8 gk2))
                go_wp2
                go_roundw
                case rel => exact ⟨j + 1, by omega, by go_num, Below.on hd2.drew hb8⟩
                case measure => simp [intOf]; omega
              · obtain rfl : p = j := by omega
                go_wp2
                go_ret
                exact ⟨rfl, hDw⟩
  · have j1 : (askI T [i] != 0) = true := by simp [q1]
    clear q1 ho
    go_enter Try.func7, Try.ntmps7
    go_wp2_with fail
    refine (alive17_ok _).mono ?_
    rintro e w1 ⟨rfl, hb1⟩
    have hbox1 := cell_later hb1 hbox0
    have hB1 := Below.on hB0 hb1
    have hbox1 := cell_later hb1 hbox0
    go_wp2_with fail
    refine (rasked_ok _ _ _ T _ _ (hT.out.below hB1)).mono ?_
    rintro e w2 ⟨rfl, hb2⟩
    have hbox2 := cell_later hb2 hbox1
    have hB2 := Below.on hB1 hb2
    go_wp2
    go_ret
    exact ⟨rfl, hB2⟩

set_option maxRecDepth 100000 in
theorem lifted (os : Os) (started : os.Started) (H : Type) (enc : TypeId × Value → H) :
    ReturnsInHanded {} Try.checked os 7 .any (Rows.linkBelowSpec.pre6 enc Try.prog Try.f7 Rows.linkBelowRow.domain false) (Rows.linkBelowSpec.post enc Try.prog Try.f7 false true false false) := by
  refine returnsInHanded_of_change (C := Try.checked) own started (by kernel_rfl) Try.func7
    (ChangeSpec.witness6 (enc := enc) (C := Try.checked) false ⟨#[], #[.agg #[.slice none 0 0], .int .i64 0], []⟩ 8 (by kernel_rfl) (by kernel_rfl) (by kernel_rfl) (by kernel_rfl)) ?_
  intro W base args ds gs before hval0 hW hcnd _
  have hval : ∀ (j : Nat) t v, Try.f7.params[j]? = some t → args[j]? = some v → Value.okWide Try.prog W .any base t v := hval0
  have hW' := hW
  obtain ⟨p, q, hA0, hV, rfl, hfz, hnd⟩ := hW
  have hA : DataW.TrodAll enc Try.prog W 0 (fun _ => true) true Try.f7.params.toList args.toList ds p := hA0
  rw [Try.params7] at hA hval
  obtain ⟨v0, vs0, d0, ds0, p0, q0, hargs, rfl, rfl, h0, r0⟩ := trodAll_cons hA
  obtain ⟨v1, vs1, d1, ds1, p1, q1, rfl, rfl, rfl, h1, r1⟩ := trodAll_cons r0
  obtain ⟨rfl, rfl, rfl⟩ := trodAll_nil r1
  obtain rfl : args = #[v0, v1] := by cases args; simp_all
  obtain ⟨rfl, rfl⟩ := trodVars_none hV
  have lt0 : ∀ x ∈ p0, x.block < W.heap.size := by obtain ⟨m, hm⟩ := h0; exact DataW.trod_lt m _ _ _ hm
  have k0 := h0
  have lt1 : ∀ x ∈ p1, x.block < W.heap.size := by obtain ⟨m, hm⟩ := h1; exact DataW.trod_lt m _ _ _ hm
  have k1 := h1
  obtain ⟨A0, n0, c0, T0, rfl, hT0⟩ := tree_open (hval 0 _ v0 rfl rfl) h0
  obtain ⟨a1, rfl, rfl, rfl, w1⟩ := open_int Try.underlying3 (hval 1 _ v1 rfl rfl) h1
  clear hA0 hval0
  refine (walk A0 n0 c0 T0 a1 W hT0 ).mono fun e W' ⟨he, bel⟩ => ?_
  subst he
  exact ⟨_, rfl, _, _, _, [], _, [], hW', trodAll_mk1 (shut_bool Try.underlying4 _), (trodAll_cons_mk (Below.trod laidOut (by kernel_rfl) (of_decide_eq_true (by kernel_rfl)) k0 bel lt0) (trodAll_cons_mk (Below.trod laidOut (by kernel_rfl) (of_decide_eq_true (by kernel_rfl)) k1 bel lt1) trodAll_mk0)), rfl, bel.frame _, fun h => by cases h⟩

theorem proved : Rows.LinkBelowSaid :=
  OpenClaim.holds_of_wide 7 Try.f7 rfl rfl rfl rfl rfl rfl rfl ⟨rfl, rfl, rfl, rfl, rfl⟩ rfl rfl rfl rfl rfl (by kernel_rfl) Try.func7 (by kernel_rfl)
    (of_decide_eq_true (by kernel_rfl)) (by unfold Func.isWrapper; first | (rw [if_pos (by decide +kernel)]; kernel_rfl) | (rw [if_neg (by decide +kernel)]; exact ⟨rfl, rfl⟩))
    (fun os started H enc _ => lifted os started H enc)
#print axioms proved
end Go.Proofs.Ytfiiikbbiimdiaa.linkBelow
