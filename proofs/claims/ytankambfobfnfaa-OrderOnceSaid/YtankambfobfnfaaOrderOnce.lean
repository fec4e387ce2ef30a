/- For every tree and every number, the list of an element has it and all below it, each one once, in the order that Compare tells, and is a part of the list of its parent without a gap. No condition. -/
import Derived.Test.YtankambfobfnfaaOpen
import Derived.Test.YtankambfobfnfaaEx16
import Derived.Deep.QuietTactic
import Derived.BigQuiet
import Derived.Deep.RegionHeld3
import Derived.IntWalk
namespace Go.Proofs.Ytankambfobfnfaa.orderOnce
open Go.ChangeShapes Go.WideShapes Go.ChangeAt Go.RowKit

theorem rowIs_below {w w' : World} {b : Nat} {t : TypeId} {n : Nat} {f : Nat → Value} (h : w.rowIs b t n f) (hb : Below w.heap.size w w') : w'.rowIs b t n f := by
  obtain ⟨c, h1, h2, h3⟩ := h
  exact ⟨c, (hb.block b (lt_of_block h1)).trans h1, h2, h3⟩
theorem rowIs_made (w : World) (z : Value) (n : Nat) (t : TypeId) (g : Nat) (hg : g = w.heap.size) : (w.alloc (.cells (madeCells #[z] n) t)).rowIs g t n (fun _ => z) := by
  subst hg; exact World.rowIs_made w z n t

theorem consec {T : List ANode} (hg : goodB T = true) {i : Nat} (hi : i < T.length) {k : Nat} (hk : k + 1 < (preT T i).length) :
    cmpE T (ix (preT T i) k) (ix (preT T i) (k + 1)) = 0 ∧ cmpV T (ix (preT T i) k) (ix (preT T i) (k + 1)) = -1 := by
  obtain ⟨x, hx, hxl, hxa⟩ := pre_mem hg _ hi (ix_mem (l := preT T i) (j := k) (by omega))
  obtain ⟨y, hy, hyl, hya⟩ := pre_mem hg _ hi (ix_mem (l := preT T i) (j := k + 1) hk)
  have hs := sub_get hk
  rw [hx, hy] at hs ⊢
  have h1 := cmp_parts (askI_ok hg (l := [(x : Int)]) (by simp; omega)) (askI_ok hg (l := [(y : Int)]) (by simp; omega))
  rw [top_same hg hi hxl hxa, top_same hg hi hyl hya, if_pos rfl] at h1
  refine ⟨h1, ?_⟩
  unfold cmpV
  rw [if_pos h1]
  exact cmpF_sub hg hi hxl hxa hs

theorem at_infix {P Q l L : List Int} {x : Int} {m : Nat} (h : P ++ l ++ Q = L) (hn : L.Nodup) (hm : l.length = m) (h0 : 0 < m) (hx : ix l 0 = x) : (∀ j, j < P.length → ix L j ≠ x) ∧ ix L P.length = x := by
  subst h hm
  cases l with
  | nil => simp at h0
  | cons y l =>
    simp [ix] at hx
    subst hx
    constructor
    · intro j hj he
      have h1 : ix (P ++ y :: l ++ Q) j = P[j] := by
        rw [ix_get (by simp; omega)]
        simp [hj]
      rw [h1] at he
      rw [List.append_assoc] at hn
      have := (List.nodup_append.1 hn).2.2 P[j] (List.getElem_mem _) y (by simp)
      exact this he
    · simp [ix]
theorem isInts_sub {w : World} {b off n a m : Nat} {xs ys : List Int} (h : IsInts w (some ⟨b, off, none⟩) n xs) (ha : a + m ≤ n) (he : (xs.drop a).take m = ys) (hm : ys.length = m) : IsInts w (some ⟨b, off + a, none⟩) m ys := by
  refine ⟨hm, by have := h.2.1; omega, fun h0 => ?_⟩
  obtain ⟨b', off', e, hb, hc⟩ := h.2.2 (by omega)
  injection e with e
  injection e with e1 e2
  subst e1 e2
  refine ⟨b, off + a, rfl, hb, fun j hj => ?_⟩
  rw [Nat.add_assoc, hc (a + j) (by omega), ← he]
  have hl := h.1
  simp [ix, List.getElem?_drop, hj]
theorem seen_is {T : List ANode} (hg : goodB T = true) {i k : Nat} (hi : i < T.length) (hk : k < T.length) : decide ((k : Int) ∈ preT T i) = (belE T k i || ((k : Int) == (i : Int))) := by
  rw [Bool.eq_iff_iff]
  simp only [decide_eq_true_eq, Bool.or_eq_true, beq_iff_eq]
  rw [mem_preT hg hi hk, anc_cons hg hk, List.mem_cons, bel_iff hg hk hi]
  simp only [decide_eq_true_eq]
  constructor
  · rintro (h | h)
    · exact .inr h.symm
    · exact .inl h
  · rintro (h | h)
    · exact .inr h
    · exact .inl h.symm
theorem below_at (T : List ANode) (i k : Int) (v : Bool) (h0 : askI T [i, k] = 0) (hl : belE T i k = v) (A : Option Addr) (n c : Nat) (w : World) (h : IsTree w A n T) :
    Calls Try.prog 33 #[.agg #[.slice A n c], .int .i64 i, .int .i64 k] w fun e w' => e = .returned (.tuple #[.bool v, .int .i64 0]) ∧ Below w.heap.size w w' := by
  have := below_ok A n c T i k w h
  rw [hl, h0] at this
  exact this

set_option maxRecDepth 100000 in
set_option maxHeartbeats 4000000 in
theorem walk (A : Option Addr) (n c : Nat) (T : List ANode) (i : Int) (w : World) (h : IsTree w A n T) :
    Calls Try.prog 8 #[.agg #[.slice A n c], .int .i64 i] w fun e w' => e = .returned (.bool true) ∧ Below w.heap.size w w' := by
  have ho := hide h.2.2.2
  have hT := hide h
  have hl := h.1
  clear h
  have hB0 := below_alloc (Below.refl w.heap.size w) (.cells #[.slice A n c] 24)
  have hbox0 : (w.alloc (.cells #[.slice A n c] 24)).cell? ⟨w.heap.size, 0, none⟩ = some (.slice A n c) := by go_simp
  by_cases q1 : askI T [i] = 0
  · obtain ⟨hg, hir⟩ := askI_zero.1 q1
    have hir := hir i (by simp)
    obtain ⟨i, rfl⟩ := Int.eq_ofNat_of_zero_le hir.1
    have hin : i < n := by omega
    have hiT : i < T.length := by omega
    have hg' := hide hg
    have hn64 : n ≤ 64 := by have := ((goodB_iff T).1 hg).2.1; omega
    have hpl : (preT T i).length ≤ n := by have := preT_len hg hiT; omega
    have hp0 : 0 < (preT T i).length := by rw [preT_cons hg hiT]; simp
    have hix0 : ix (preT T i) 0 = i := by rw [preT_cons hg hiT]; rfl
    have hmk := mk_bools n (by omega)
    have q1' := hide q1
    obtain ⟨b, off, aA, cA, aC, cC, rfl, hbl, -, -, c2, -, -, -⟩ := ho.out (by omega)
    have c2' := hide c2
    clear hg hir ho c2
    go_enter Try.func8, Try.ntmps8
    go_wp2_with fail
    refine (alive16_ok _).mono ?_
    rintro e w1 ⟨rfl, hb1⟩
    have hbox1 := cell_later hb1 hbox0
    have hB1 := Below.on hB0 hb1
    have hbox1 := cell_later hb1 hbox0
    go_wp2_with fail
    refine (rasked_ok _ _ _ T _ _ (hT.out.below hB1)).mono ?_
    rintro e w2 ⟨rfl, hb2⟩
    have hbox2 := cell_later hb2 hbox1
    have hB2 := Below.on hB1 hb2
    clear hb1 hb2 hbox0 hbox1 hB0 hB1
    go_wp2_with fail
    refine (listF_ok _ _ _ T _ _ (hT.out.below hB2) q1'.out).mono ?_
    rintro e w3 ⟨A3, c3, rfl, hI3, h31, h32, hb3⟩
    have hbox3 := cell_later hb3 hbox2
    have hB3 := Below.on hB2 hb3
    clear hb3 hbox2 hB2
    generalize hm : (preT T (i : Int)).length = m at *
    have hm' := hide hm
    clear hm
    have hz : ((m : Int) == 0) = false := by simp; omega
    obtain ⟨b3, off3, rfl, hbl3, hc3⟩ := hI3.2.2 hp0
    have hI3' := hide hI3
    have g0 := hc3 0 hp0
    rw [hix0] at g0
    rw [Nat.add_zero] at g0
    have hc3' := hide hc3
    have hix' := hide hix0
    clear hc3 hI3 q1 hix0
    go_wp2
    clear hz g0 hmk
    go_loopw [9] (fun s wr => ∃ k : Nat, k ≤ m ∧ s = .int .i64 k ∧ Below w3.heap.size w3 wr ∧ wr.rowIs w3.heap.size 4 n (fun x => .bool (decide ((x : Int) ∈ (preT T i).take k)))) (fun s _ => m - (intOf s).toNat)
    case atStart => exact ⟨0, Nat.zero_le _, rfl, below_alloc (Below.refl _ _) _, (rowIs_made _ _ _ _ _ rfl).congr (fun x _ => by simp)⟩
    case round =>
      obtain ⟨k, hk, rfl, hb, hrow⟩ := hrel
      have hbw : w.heap.size < w3.heap.size := cell_in hbox3
      have hbx := cell_later hb hbox3
      have hBw := Below.on hB3 hb
      by_cases hlt : k < m
      · obtain ⟨q, hq, hqn, hqa⟩ := pre_mem hg'.out _ hiT (ix_mem (l := preT T i) (j := k) (by have := hm'.out; omega))
        have gk := (old hb _ _ hbl3).trans (hc3'.out k hlt)
        change ix (preT T i) k = q at hq
        rw [hq] at gk
        have hnk : decide ((q : Int) ∈ (preT T i).take k) = false := by
          have := nodup_take (preT_nodup hg'.out hiT) k (by have := hm'.out; omega)
          rw [hq] at this
          simpa using this
        have hqn' : q < n := by omega
        have gs := hrow.cell hqn'
        rw [hnk] at gs
        have gf := hrow.frozen q
        have hrow' := hide hrow
        have hq' := hide hq
        have hset : Hid (∀ N, ((wr.drewN N).setCell ⟨w3.heap.size, q, none⟩ (.bool true)).rowIs w3.heap.size 4 n (fun x => .bool (decide ((x : Int) ∈ (preT T i).take (k + 1))))) := by
          intro N
          refine ((rowIs_below hrow'.out (below_drewN (Below.refl _ _) N)).set q (.bool true)).congr fun y hy => ?_
          simp only [mem_take_succ (xs := preT T i) (k := k) (by have := hm'.out; omega), hq'.out]
          by_cases hyx : y = q
          · simp [hyx]
          · have hyx' : ¬ ((y : Int) = (q : Int)) := by omega
            simp [hyx, hyx']
        clear hrow hqn hq
        have hlt3 : w3.heap.size < wr.heap.size := by obtain ⟨cc, h9, _⟩ := hrow'.out; exact lt_of_block h9
        by_cases hk0 : 0 < k
        · have gk1 := (old hb _ _ hbl3).trans (hc3'.out (k - 1) (by omega))
          have e1 : ((k : Int) - 1) = ((k - 1 : Nat) : Int) := by omega
          go_wp2
          go_quiet (fail)
          go_wp2
          have hWB : Hid (Below w3.heap.size w3 ((wr.drewN nq).setCell ⟨w3.heap.size, q, none⟩ (.bool true))) := (below_drewN hb _).setCell (by simp) _
          have hWr := hide (hset.out nq)
          have f0 : ((wr.drewN nq).setCell ⟨w3.heap.size, q, none⟩ (.bool true)).cell? ⟨w.heap.size, 0, none⟩ = some (.slice (some ⟨b, off, none⟩) n c) := cell_later hWB.out hbox3
          have f1 := (old hWB.out _ _ hbl3).trans (hc3'.out (k - 1) (by omega))
          have f2 := (old hWB.out _ _ hbl3).trans (hc3'.out k hlt)
          obtain ⟨h91, h92⟩ := consec hg'.out hiT (k := k - 1) (by have := hm'.out; omega)
          rw [show k - 1 + 1 = k by omega] at h91 h92
          have h91' := hide h91
          have h92' := hide h92
          clear h91 h92 gk gk1 hbx gs gf hset hb
          generalize (wr.drewN nq).setCell ⟨w3.heap.size, q, none⟩ (.bool true) = W at *
          have hx0 : (0 : Int) ≤ ((k - 1 : Nat) : Int) := by omega
          have hx1 : ((k - 1 : Nat) : Int) < (m : Int) := by omega
          have hx2 : k - 1 < m := by omega
          have hx3 : (k : Int) < (m : Int) := by omega
          have hx4 : (0 : Int) ≤ (k : Int) := by omega
          have hx5 : 1 ≤ k := hk0
          have e1' : IntKind.i64.wrap ((k : Int) - 1) = ((k - 1 : Nat) : Int) := by rw [← e1]; exact IntWalk.i64_in _ (by omega)
          clear e1
          go_region_held3 (fun X => X.cell? ⟨w.heap.size, 0, none⟩ = some (.slice (some ⟨b, off, none⟩) n c) ∧ X.cell? ⟨b3, off3 + (k - 1), none⟩ = some (.int .i64 (ix (preT T i) (k - 1))) ∧ X.cell? ⟨b3, off3 + k, none⟩ = some (.int .i64 (ix (preT T i) k))) (first | exact ⟨f0, f1, f2⟩ | exact ⟨r0, r1, r2⟩) (first | (go_at_call 26; refine (compare_at T _ _ (-1) 0 h91'.out h92'.out _ _ _ _ ?_).mono ?_; (exact hT.out.below (show Below w.heap.size w W.drew from (Below.on hB3 hWB.out).drew)); rintro e u1 ⟨rfl, hu1⟩; have r0 := cell_later hu1 f0; have r1 := cell_later hu1 f1; have r2 := cell_later hu1 f2))
          all_goals
            go_wp2
            go_roundw
            case rel => exact ⟨k + 1, by omega, by go_num, Below.on hWB.out.drew hu1, rowIs_below (show W.drew.rowIs _ _ _ _ from hWr.out) hu1⟩
            case measure => simp [intOf]; omega
        · obtain rfl : k = 0 := by omega
          rw [Nat.add_zero] at gk
          go_wp2
          go_quiet (fail)
          go_wp2
          go_roundw
          case rel => exact ⟨0 + 1, by omega, by go_num, (below_drewN hb _).setCell (by simp) _, hset.out _⟩
          case measure => simp [intOf]; omega
      · obtain rfl : m = k := by omega
        have hrow' := hide (hrow.congr (g := fun x => .bool (decide ((x : Int) ∈ preT T i))) fun x _ => by rw [← hm'.out, List.take_length])
        clear hrow
        go_wp2
        go_loopw [12] (fun s wr => ∃ k : Nat, k ≤ n ∧ s = .int .i64 k ∧ Below w3.heap.size w3 wr ∧ wr.rowIs w3.heap.size 4 n (fun x => .bool (decide ((x : Int) ∈ preT T i)))) (fun s _ => n - (intOf s).toNat)
        case atStart => exact ⟨0, Nat.zero_le _, rfl, hb, hrow'.out⟩
        case round =>
          clear hb hrow' hbx hBw hk hlt
          obtain ⟨j, hj, rfl, hb, hrow⟩ := hrel
          have hbx := cell_later hb hbox3
          have hBw := Below.on hB3 hb
          by_cases hltj : j < n
          · have hjT : j < T.length := by omega
            have hv : decide ((j : Int) ∈ preT T i) = (belE T j i || ((j : Int) == (i : Int))) := seen_is hg'.out hiT hjT
            have hq2 := hide (askI_ok hg'.out (l := [(j : Int), (i : Int)]) (by simp; omega))
            have hrow' := hide hrow
            clear hrow
            generalize hbe : belE T j i = be at hv
            generalize hji : ((j : Int) == (i : Int)) = bj at hv
            have hbe' := hide hbe
            clear hbe
            go_wp2_with fail
            refine (below_at T j i be hq2.out hbe'.out _ _ _ _ (hT.out.below hBw)).mono ?_
            rintro e w5 ⟨rfl, hb5⟩
            have gs := (rowIs_below hrow'.out hb5).cell hltj
            rw [hv] at gs
            clear hv
            cases be <;> cases bj
            all_goals
              go_wp2
              go_roundw
              case rel => exact ⟨j + 1, by omega, by go_num, Below.on hb hb5, rowIs_below hrow'.out hb5⟩
              case measure => simp [intOf]; omega
          · obtain rfl : n = j := by omega
            clear hrow
            have gp := (old hBw _ _ hbl).trans (c2'.out i hin)
            by_cases hp : par T i < 0
            · go_wp2
              go_ret
              exact ⟨rfl, hBw⟩
            · obtain ⟨p, hpp⟩ := Int.eq_ofNat_of_zero_le (show 0 ≤ par T i by omega)
              have hpT : p < T.length := by have := (good_par hg'.out hiT).2; omega
              rw [hpp] at gp
              have hpk : (i : Int) ∈ kids T p := by have h9 := par_kid hg'.out hiT (by omega); rw [hpp] at h9; simpa using h9
              obtain ⟨P, Q, hPQ⟩ := kid_preT hg'.out hpT hpk
              have hnd := preT_nodup hg'.out hpT
              obtain ⟨hP1, hP2⟩ := at_infix hPQ hnd hm'.out hp0 hix'.out
              have hPQ' := hide hPQ
              have hP1' := hide hP1
              have hP2' := hide hP2
              have hlen : P.length + m ≤ (preT T p).length := by rw [← hPQ]; simp only [List.length_append, hm'.out]; omega
              have hn6 := preT_len hg'.out hpT
              have hq2 := hide (askI_ok hg'.out (l := [(p : Int)]) (by simp; omega))
              have hps : Hid ((((preT T p).drop P.length).take m) = preT T i) := by
                show _ = _
                rw [← hPQ, List.append_assoc, List.drop_left, ← hm'.out, List.take_left]
              clear hp hpk hPQ hnd hP1 hP2 hpp
              go_wp2_with fail
              refine (listF_ok _ _ _ T _ _ (hT.out.below hBw) hq2.out).mono ?_
              rintro e w6 ⟨A6, c6, rfl, hI6, h61, h62, hb6⟩
              have hB6 := Below.on hBw hb6
              generalize hn6' : (preT T (p : Int)).length = n6 at *
              obtain ⟨b6, off6, rfl, hbl6, hc6⟩ := hI6.2.2 (by omega)
              have hI6' := hide hI6
              have hc6' := hide hc6
              have hc6m : c6 ≤ 9223372036854775807 := by unfold maxLen at h62; omega
              have hI3w := hide ((hI3'.out.below hb).below hb6)
              clear hI6 hc6 hn6' h62 h32 gp
              generalize hPl : P.length = pl at *
              go_wp2
              go_loop [18] (fun s => ∃ j : Nat, j ≤ pl ∧ s = .int .i64 j) (fun s => pl - (intOf s).toNat)
              case atStart => exact ⟨0, Nat.zero_le _, rfl⟩
              case round =>
                obtain ⟨j, hj, rfl⟩ := hrel
                by_cases hjp : j < pl
                · have gj := hc6'.out j (by omega)
                  have hne : (ix (preT T p) j != (i : Int)) = true := by simpa using hP1'.out j hjp
                  go_wp2
                  go_round
                  case rel => exact ⟨j + 1, by omega, by go_num⟩
                  case measure => simp [intOf]; omega
                · obtain rfl : pl = j := by omega
                  have gj := hc6'.out pl (by omega)
                  rw [hP2'.out] at gj
                  have hsub := hide (isInts_sub hI6'.out hlen hps.out hm'.out)
                  go_wp2_with fail
                  refine (sameInts_yes _ _ m m _ _ (preT T i) _ hsub.out hI3w.out).mono ?_
                  rintro e w7 ⟨rfl, hb7⟩
                  go_wp2
                  go_ret
                  exact ⟨rfl, Below.on hB6 hb7⟩
  · have j1 : (askI T [i] != 0) = true := by simp [q1]
    clear q1 ho
    go_enter Try.func8, Try.ntmps8
    go_wp2_with fail
    refine (alive16_ok _).mono ?_
    rintro e w1 ⟨rfl, hb1⟩
    have hbox1 := cell_later hb1 hbox0
    have hB1 := Below.on hB0 hb1
    have hbox1 := cell_later hb1 hbox0
    go_wp2_with fail
    refine (rasked_ok _ _ _ T _ _ (hT.out.below hB1)).mono ?_
    rintro e w2 ⟨rfl, hb2⟩
    have hbox2 := cell_later hb2 hbox1
    have hB2 := Below.on hB1 hb2
    go_wp2
    go_ret
    exact ⟨rfl, hB2⟩

set_option maxRecDepth 100000 in
theorem lifted (os : Os) (started : os.Started) (H : Type) (enc : TypeId × Value → H) :
    ReturnsInHanded {} Try.checked os 8 .any (Rows.orderOnceSpec.pre6 enc Try.prog Try.f8 Rows.orderOnceRow.domain false) (Rows.orderOnceSpec.post enc Try.prog Try.f8 false true false false) := by
  refine returnsInHanded_of_change (C := Try.checked) own started (by kernel_rfl) Try.func8
    (ChangeSpec.witness6 (enc := enc) (C := Try.checked) false ⟨#[], #[.agg #[.slice none 0 0], .int .i64 0], []⟩ 8 (by kernel_rfl) (by kernel_rfl) (by kernel_rfl) (by kernel_rfl)) ?_
  intro W base args ds gs before hval0 hW hcnd _
  have hval : ∀ (j : Nat) t v, Try.f8.params[j]? = some t → args[j]? = some v → Value.okWide Try.prog W .any base t v := hval0
  have hW' := hW
  obtain ⟨p, q, hA0, hV, rfl, hfz, hnd⟩ := hW
  have hA : DataW.TrodAll enc Try.prog W 0 (fun _ => true) true Try.f8.params.toList args.toList ds p := hA0
  rw [Try.params8] at hA hval
  obtain ⟨v0, vs0, d0, ds0, p0, q0, hargs, rfl, rfl, h0, r0⟩ := trodAll_cons hA
  obtain ⟨v1, vs1, d1, ds1, p1, q1, rfl, rfl, rfl, h1, r1⟩ := trodAll_cons r0
  obtain ⟨rfl, rfl, rfl⟩ := trodAll_nil r1
  obtain rfl : args = #[v0, v1] := by cases args; simp_all
  obtain ⟨rfl, rfl⟩ := trodVars_none hV
  have lt0 : ∀ x ∈ p0, x.block < W.heap.size := by obtain ⟨m, hm⟩ := h0; exact DataW.trod_lt m _ _ _ hm
  have k0 := h0
  have lt1 : ∀ x ∈ p1, x.block < W.heap.size := by obtain ⟨m, hm⟩ := h1; exact DataW.trod_lt m _ _ _ hm
  have k1 := h1
  obtain ⟨A0, n0, c0, T0, rfl, hT0⟩ := tree_open (hval 0 _ v0 rfl rfl) h0
  obtain ⟨a1, rfl, rfl, rfl, w1⟩ := open_int Try.underlying3 (hval 1 _ v1 rfl rfl) h1
  clear hA0 hval0
  refine (walk A0 n0 c0 T0 a1 W hT0 ).mono fun e W' ⟨he, bel⟩ => ?_
  subst he
  exact ⟨_, rfl, _, _, _, [], _, [], hW', trodAll_mk1 (shut_bool Try.underlying4 _), (trodAll_cons_mk (Below.trod laidOut (by kernel_rfl) (of_decide_eq_true (by kernel_rfl)) k0 bel lt0) (trodAll_cons_mk (Below.trod laidOut (by kernel_rfl) (of_decide_eq_true (by kernel_rfl)) k1 bel lt1) trodAll_mk0)), rfl, bel.frame _, fun h => by cases h⟩

theorem proved : Rows.OrderOnceSaid :=
  OpenClaim.holds_of_wide 8 Try.f8 rfl rfl rfl rfl rfl rfl rfl ⟨rfl, rfl, rfl, rfl, rfl⟩ rfl rfl rfl rfl rfl (by kernel_rfl) Try.func8 (by kernel_rfl)
    (of_decide_eq_true (by kernel_rfl)) (by unfold Func.isWrapper; first | (rw [if_pos (by decide +kernel)]; kernel_rfl) | (rw [if_neg (by decide +kernel)]; exact ⟨rfl, rfl⟩))
    (fun os started H enc _ => lifted os started H enc)
#print axioms proved
end Go.Proofs.Ytankambfobfnfaa.orderOnce
