/- For every two texts: the words of the words in a row are the same, none has a space or is empty, no two are the same, and they're just the classes; for a text that isn't longer than the statement considers. No condition. -/
import Derived.Test.YtfiiikbbiimdiaaOpen
import Derived.Test.YtfiiikbbiimdiaaPlg
import Derived.Test.YtfiiikbbiimdiaaPlw
import Derived.Test.YtfiiikbbiimdiaaFh
import Derived.Deep.QuietTactic
import Derived.BigQuiet
namespace Go.Proofs.Ytfiiikbbiimdiaa.attrsOnce
open Go.ChangeShapes Go.WideShapes Go.ChangeAt Go.RowKit

theorem jl_take (l : List ByteArray) (i : Nat) : jl (l.take i) ≤ jl l := by
  induction l generalizing i with
  | nil => simp
  | cons x l ih =>
    cases i with
    | zero => simp [jl]
    | succ i => have := ih i; unfold jl at this ⊢; simp only [List.take_succ_cons, List.map_cons, List.sum_cons]; omega
theorem joinB_le (l : List ByteArray) : (joinB l).length ≤ jl l := by
  by_cases h : l = []
  · rw [h]; simp [joinB]
  · have := joinB_len l h; omega
theorem text_next {L : List ByteArray} {i : Nat} (hi : i < L.length) (h0 : 0 < i) : bs (joinB (L.take i)) ++ ⟨#[32]⟩ ++ sx L i = bs (joinB (L.take (i + 1))) := by
  rw [List.take_succ_eq_append_getElem hi, joinB_snoc, if_neg (by intro e; have := congrArg List.length e; rw [List.length_take, List.length_nil] at this; omega), sx_get hi]
  apply Go.WideShapes.bytes_inj
  simp [bs]
theorem text_first {L : List ByteArray} (hi : 0 < L.length) : bs (joinB (L.take 0)) ++ sx L 0 = bs (joinB (L.take (0 + 1))) := by
  rw [List.take_succ_eq_append_getElem hi, joinB_snoc, if_pos (by simp), sx_get hi]
  apply Go.WideShapes.bytes_inj
  simp [bs, joinB]
theorem mem_next {L : List ByteArray} {i : Nat} (hi : i < L.length) (t : ByteArray) : t ∈ L.take (i + 1) ↔ t ∈ L.take i ∨ sx L i = t := by
  rw [List.take_succ_eq_append_getElem hi, List.mem_append, List.mem_singleton, sx_get hi]
  exact ⟨fun h => h.imp id Eq.symm, fun h => h.imp id Eq.symm⟩
theorem ex_set {s : ByteArray} (hs : s.size ≤ 400) : ∃ X, Got ex14T X 0 0 clsN s clsN 1 ∧ clsE X 0 = (fun t => decide (t ∈ wordsS s)) ∧ askI X [0] = 0 := by
  have hE : setE ex14T ((0 : Nat) : Int) clsN s = 0 := by
    unfold setE
    rw [if_pos (by kernel_rfl), if_pos (by kernel_rfl), if_neg (by omega), if_neg]
    intro h
    have : hasA (atl ex14T (((0 : Nat) : Int)).toNat) clsN = true := by kernel_rfl
    rw [this] at h
    exact absurd h.1 (by decide)
  obtain ⟨X, G⟩ := got_of (T := ex14T) (k := 0) (n := 1) (m := 0) (o := clsN) (by kernel_rfl) (by decide) rfl (by kernel_rfl) (by kernel_rfl) hs hE
  have hgX : goodB X = true := by
    have := G.good
    unfold chk at this
    split at this
    · assumption
    · cases this
  have ha : askI X [0] = 0 := askI_ok hgX (by simp; have := G.len; omega)
  refine ⟨X, G, ?_, ha⟩
  funext t
  unfold clsE clsB
  rw [if_pos ha]
  have := G.gotV
  rw [show (0 : Int).toNat = 0 from rfl, this]

set_option maxRecDepth 100000 in
set_option maxHeartbeats 4000000 in
theorem walk (s t : ByteArray) (w : World) (hs : s.size ≤ 9223372036854775807) (_ : t.size ≤ 9223372036854775807) :
    Calls Try.prog 10 #[.string s, .string t] w fun e w' => e = .returned (.bool true) ∧ Below w.heap.size w w' := by
  by_cases h4 : 400 < s.size
  · go_enter Try.func10, Try.ntmps10
    go_wp2_with fail
    refine (alive14_ok _).mono ?_
    rintro e w1 ⟨rfl, hb1⟩
    go_wp2
    go_ret
    exact ⟨rfl, hb1⟩
  · have hV : wordsV s = wordsS s := if_neg h4
    have hEE : wordsE s = 0 := if_neg h4
    have hgood := words_good s
    have hnod := words_nodup s
    have hjoin := words_join s
    have hjs := words_size s
    have hwl := words_len s
    have hjt : ∀ i, (bs (joinB ((wordsS s).take i))).size ≤ 402 ∧ ∀ j, (sx (wordsS s) j).size ≤ 402 := fun i => by
      have hjl : jl (wordsS s) ≤ 0 + 0 + s.data.toList.length + 1 := split_jl s.data.toList [] []
      have h3 : s.data.toList.length = s.size := by simp
      refine ⟨?_, fun j => ?_⟩
      · rw [bs_size]
        have := joinB_le ((wordsS s).take i)
        have := jl_take (wordsS s) i
        omega
      · by_cases hj : j < (wordsS s).length
        · rw [sx_get hj]
          have : ∀ (l : List ByteArray) (x : ByteArray), x ∈ l → x.size ≤ jl l := fun l x hx => by
            induction l with
            | nil => simp at hx
            | cons y l ih =>
              unfold jl at ih ⊢
              simp only [List.map_cons, List.sum_cons]
              rcases List.mem_cons.1 hx with rfl | hx
              · omega
              · have := ih hx; omega
          have := this _ _ (List.getElem_mem hj)
          omega
        · unfold sx; rw [List.getD_eq_getElem?_getD, List.getElem?_eq_none (by omega)]; decide
    obtain ⟨X, G, hcls, hask⟩ := ex_set (s := s) (by omega)
    have hsm := hide G.set
    have htr := hide G.tree
    have hln := hide G.len
    have hcls' := hide (congrFun hcls t)
    have hask' := hide hask
    obtain ⟨L, hL⟩ : ∃ L, wordsS s = L := ⟨_, rfl⟩
    have hWJ := hide hjoin
    rw [hL] at hV hgood hnod hjs hwl hcls' hjt hWJ
    obtain ⟨m, hm⟩ : ∃ m, L.length = m := ⟨_, rfl⟩
    have hV' := hide hV
    have hEE' := hide hEE
    have hgood' := hide hgood
    have hnod' := hide hnod
    have hjt' := hide hjt
    have hm' := hide hm
    have hjs2 : (bs (joinB L)).size ≤ s.size := by rw [bs_size]; exact hjs
    have hm4 : m ≤ 401 := by omega
    clear hV hEE hgood hnod hjoin hjs hwl hjt G hcls hask hL hm
    go_enter Try.func10, Try.ntmps10
    go_wp2_with fail
    refine (alive14_ok _).mono ?_
    rintro e w1 ⟨rfl, hb1⟩
    go_wp2_with fail
    have hx := Words_ok s w1 (by omega)
    rw [hV'.out, hEE'.out] at hx
    refine hx.mono ?_
    clear hx
    rintro e w2 ⟨A2, c2, rfl, hI, hb2⟩
    have hB2 := Below.on hb1 hb2
    have hI2 := hide hI
    rw [hm'.out] at hI2 ⊢
    clear hI
    go_wp2
    go_loopw [8, 9, 10] (fun x y z wr => ∃ i : Nat, i ≤ m ∧ z = .int .i64 i ∧ x = .string (bs (joinB (L.take i))) ∧ y = .bool (decide (t ∈ L.take i)) ∧ Below w2.heap.size w2 wr) (fun _ _ z _ => m - (intOf z).toNat)
    case atStart => exact ⟨0, Nat.zero_le _, rfl, rfl, by simp, Below.refl _ _⟩
    case round =>
      obtain ⟨i, hi, rfl, rfl, rfl, hb⟩ := hrel
      have hIr := hide (hI2.out.below hb)
      by_cases hlt : i < m
      · obtain ⟨bl, ol, rfl, hbl, hc⟩ := hIr.out.2.2 (by omega)
        have gi := hc i hlt
        have hc' := hide hc
        have hgi := hgood'.out (sx L i) (by rw [sx_get (by rw [hm'.out]; exact hlt)]; exact List.getElem_mem _)
        have hsz := (hjt'.out i).2 i
        have htz := (hjt'.out i).1
        have hgi' := hide hgi
        clear hc hgi
        go_wp2
        obtain ⟨wo, rfl⟩ : ∃ wo : World, wo = wr := ⟨_, rfl⟩
        go_loop [11] (fun x => ∃ q : Nat, q ≤ (sx L i).size ∧ x = .int .i64 q) (fun x => (sx L i).size - (intOf x).toNat)
        case atStart => exact ⟨0, Nat.zero_le _, rfl⟩
        case round =>
          obtain ⟨q, hq, rfl⟩ := hrel
          by_cases hql : q < (sx L i).size
          · have hsp : spI ((((sx L i)[q]'hql).toNat : Int)) = false := hgi'.out.2 _ (by show (sx L i).data[q] ∈ _; exact Array.mem_toList_iff.2 (Array.getElem_mem _))
            go_wp2_with (go_at_call 47; refine (rspace_ok _ _).mono ?_; rintro e w3 ⟨rfl, rfl⟩)
            go_round
            case rel => exact ⟨q + 1, by omega, by go_num⟩
            case measure => simp [intOf]; omega
          · go_wp2
            go_loopw [12] (fun x wr => ∃ q : Nat, q ≤ i ∧ x = .int .i64 q ∧ Below wo.heap.size wo wr) (fun x _ => i - (intOf x).toNat)
            case atStart => exact ⟨0, Nat.zero_le _, rfl, Below.refl _ _⟩
            case round =>
              obtain ⟨q2, hq2, rfl, hbq⟩ := hrel
              have fi := (old hbq _ _ hbl).trans gi
              by_cases hqi : q2 < i
              · have fq := (old hbq _ _ hbl).trans (hc'.out q2 (by omega))
                have hne := str_ne (a := sx L q2) (b := sx L i) (fun e => by
                  have hn := hnod'.out
                  rw [sx_get (by rw [hm'.out]; omega), sx_get (by rw [hm'.out]; omega)] at e
                  exact List.pairwise_iff_getElem.1 hn q2 i (by rw [hm'.out]; omega) (by rw [hm'.out]; omega) hqi e)
                go_wp2
                go_quiet (fail)
                go_wp2
                go_roundw
                case rel => exact ⟨q2 + 1, by omega, by go_num, below_drewN hbq _⟩
                case measure => simp [intOf]; omega
              · have hbo := Below.on hb hbq
                obtain ⟨e1, e2⟩ : (sx L i).toList ≠ [] ∧ (sx L i).toList.isEmpty = false := by
                  have h1 : (sx L i).toList ≠ [] := by rw [ByteArray.toList_eq]; exact hgi'.out.1
                  refine ⟨h1, ?_⟩
                  cases hh : (sx L i).toList with
                  | nil => exact absurd hh h1
                  | cons => rfl
                have hmn := hide (mem_next (L := L) (i := i) (by rw [hm'.out]; exact hlt) t)
                have hsz1 : ¬ 9223372036854775807 < (bs (joinB (List.take i L))).size + 1 := by omega
                have hsz2 : ¬ 9223372036854775807 < (bs (joinB (List.take i L))).size + (sx L i).size := by omega
                have hsz3 : ¬ 9223372036854775807 < (bs (joinB (List.take i L)) ++ (⟨#[32]⟩ : ByteArray)).size + (sx L i).size := by rw [ByteArray.size_append]; show ¬ _ < _ + 1 + _; omega
                have hsz4 : ¬ 9223372036854775807 < (bs (joinB (List.take i L))).size + 1 + (sx L i).size := by omega
                by_cases h0 : 0 < i
                · have htx := hide (text_next (L := L) (i := i) (by rw [hm'.out]; exact hlt) h0)
                  by_cases ht : t ∈ L.take i
                  · have hd : decide (t ∈ L.take i) = true := decide_eq_true ht
                    have hd2 : Hid (decide (t ∈ L.take (i + 1)) = true) := decide_eq_true (hmn.out.2 (.inl ht))
                    clear ht
                    go_wp2
                    go_roundw
                    case rel => exact ⟨i + 1, by omega, by go_num, by rw [← htx.out], by rw [hd2.out], hbo⟩
                    case measure => simp [intOf]; omega
                  · have hd : decide (t ∈ L.take i) = false := decide_eq_false ht
                    by_cases hx : sx L i = t
                    · have hxe := str_eq hx
                      have hd2 : Hid (decide (t ∈ L.take (i + 1)) = true) := decide_eq_true (hmn.out.2 (.inr hx))
                      clear ht hx
                      go_wp2
                      go_roundw
                      case rel => exact ⟨i + 1, by omega, by go_num, by rw [← htx.out], by rw [hd2.out], hbo⟩
                      case measure => simp [intOf]; omega
                    · have hxe := str_ne hx
                      have hd2 : Hid (decide (t ∈ L.take (i + 1)) = false) := decide_eq_false (fun h => (hmn.out.1 h).elim ht hx)
                      clear ht hx
                      go_wp2
                      go_roundw
                      case rel => exact ⟨i + 1, by omega, by go_num, by rw [← htx.out], by rw [hd2.out], hbo⟩
                      case measure => simp [intOf]; omega
                · have htx : Hid (bs (joinB (L.take i)) ++ sx L i = bs (joinB (L.take (i + 1)))) := by
                    have h1 : i = 0 := by omega
                    have := text_first (L := L) (by rw [hm'.out]; omega)
                    show _ = _
                    rw [h1]; exact this
                  have hd : decide (t ∈ L.take i) = false := by
                    have h1 : i = 0 := by omega
                    rw [h1]; simp
                  have hnt : Hid (t ∉ L.take i) := by show _ ∉ _; simpa using hd
                  by_cases hx : sx L i = t
                  · have hxe := str_eq hx
                    have hd2 : Hid (decide (t ∈ L.take (i + 1)) = true) := decide_eq_true (hmn.out.2 (.inr hx))
                    clear hx
                    go_wp2
                    go_roundw
                    case rel => exact ⟨i + 1, by omega, by go_num, by rw [← htx.out], by rw [hd2.out], hbo⟩
                    case measure => simp [intOf]; omega
                  · have hxe := str_ne hx
                    have hd2 : Hid (decide (t ∈ L.take (i + 1)) = false) := decide_eq_false (fun h => (hmn.out.1 h).elim hnt.out hx)
                    clear hx
                    go_wp2
                    go_roundw
                    case rel => exact ⟨i + 1, by omega, by go_num, by rw [← htx.out], by rw [hd2.out], hbo⟩
                    case measure => simp [intOf]; omega
      · obtain rfl : m = i := by omega
        have htk : L.take m = L := by rw [← hm'.out]; exact List.take_length
        rw [htk]
        have hBr := Below.on hB2 hb
        have hsz9 : (bs (joinB L)).size ≤ 400 := by omega
        have hw1 : Hid (wordsE (bs (joinB L)) = 0) := if_neg (by omega)
        have hw2 : Hid (wordsV (bs (joinB L)) = L) := by show _ = _; unfold wordsV; rw [if_neg (by omega)]; exact hWJ.out
        clear htk hi hlt
        go_wp2_with fail
        have hx := Words_ok (bs (joinB L)) wr (by omega)
        rw [hw1.out, hw2.out] at hx
        refine hx.mono ?_
        clear hx
        rintro e w3 ⟨A3, c3, rfl, hI3, hb3⟩
        have hB3 := Below.on hBr hb3
        have hI3' := hide hI3
        have hIr3 := hide (hIr.out.below hb3)
        clear hI3
        go_wp2_with fail
        refine (example14_ok _).mono ?_
        rintro e w4 ⟨A4, c4, rfl, hT4, hb4⟩
        have hB4 := Below.on hB3 hb4
        have hT4' := hide hT4
        have hI4 := hide (hI3'.out.below hb4)
        have hIr4 := hide (hIr3.out.below hb4)
        clear hT4
        go_wp2_with fail
        have hx := aset_ok A4 1 c4 ex14T 0 clsN s w4 hT4'.out (by decide) (by omega)
        rw [show setE ex14T 0 clsN s = 0 from hsm.out, show setT ex14T 0 clsN s = X from htr.out] at hx
        refine hx.mono ?_
        clear hx
        rintro e w5 ⟨A5, c5, rfl, -, hX, hb5⟩
        rw [hln.out] at hX ⊢
        have hz5 := below_alloc hb5 (.cells #[.slice A5 1 c5] 24)
        have hB5 := Below.on hB4 hz5
        have hI5 := hide (hI4.out.below hz5)
        have hIr5 := hide (hIr4.out.below hz5)
        have hX5 := hide (hX.below (below_alloc (Below.refl _ _) (.cells #[.slice A5 1 c5] 24)))
        clear hX
        go_wp2_with fail
        have hx := class_ok A5 1 c5 X 0 t _ hX5.out
        rw [hcls'.out, hask'.out] at hx
        refine hx.mono ?_
        clear hx
        rintro e w6 ⟨rfl, hb6⟩
        have hB6 := Below.on hB5 hb6
        go_wp2_with fail
        refine (sameS_yes _ _ m _ _ _ L _ (hIr5.out.below hb6) (hI5.out.below hb6)).mono ?_
        rintro e w7 ⟨rfl, hb7⟩
        go_wp2
        go_ret
        exact ⟨rfl, Below.on hB6 hb7⟩

set_option maxRecDepth 100000 in
theorem lifted (os : Os) (started : os.Started) (H : Type) (enc : TypeId × Value → H) :
    ReturnsInHanded {} Try.checked os 10 .any (Rows.attrsOnceSpec.pre6 enc Try.prog Try.f10 Rows.attrsOnceRow.domain false) (Rows.attrsOnceSpec.post enc Try.prog Try.f10 false true false false) := by
  refine returnsInHanded_of_change (C := Try.checked) own started (by kernel_rfl) Try.func10
    (ChangeSpec.witness6 (enc := enc) (C := Try.checked) false ⟨#[], #[.string .empty, .string .empty], []⟩ 8 (by kernel_rfl) (by kernel_rfl) (by kernel_rfl) (by kernel_rfl)) ?_
  intro W base args ds gs before hval0 hW hcnd _
  have hval : ∀ (j : Nat) t v, Try.f10.params[j]? = some t → args[j]? = some v → Value.okWide Try.prog W .any base t v := hval0
  have hW' := hW
  obtain ⟨p, q, hA0, hV, rfl, hfz, hnd⟩ := hW
  have hA : DataW.TrodAll enc Try.prog W 0 (fun _ => true) true Try.f10.params.toList args.toList ds p := hA0
  rw [Try.params10] at hA hval
  obtain ⟨v0, vs0, d0, ds0, p0, q0, hargs, rfl, rfl, h0, r0⟩ := trodAll_cons hA
  obtain ⟨v1, vs1, d1, ds1, p1, q1, rfl, rfl, rfl, h1, r1⟩ := trodAll_cons r0
  obtain ⟨rfl, rfl, rfl⟩ := trodAll_nil r1
  obtain rfl : args = #[v0, v1] := by cases args; simp_all
  obtain ⟨rfl, rfl⟩ := trodVars_none hV
  have lt0 : ∀ x ∈ p0, x.block < W.heap.size := by obtain ⟨m, hm⟩ := h0; exact DataW.trod_lt m _ _ _ hm
  have k0 := h0
  have lt1 : ∀ x ∈ p1, x.block < W.heap.size := by obtain ⟨m, hm⟩ := h1; exact DataW.trod_lt m _ _ _ hm
  have k1 := h1
  obtain ⟨a0, rfl, rfl, rfl, w0⟩ := Go.ChangeMaps.open_string Try.underlying9 (hval 0 _ v0 rfl rfl) h0
  have w0' : a0.size ≤ 9223372036854775807 := by unfold maxLen at w0; omega
  obtain ⟨a1, rfl, rfl, rfl, w1⟩ := Go.ChangeMaps.open_string Try.underlying9 (hval 1 _ v1 rfl rfl) h1
  have w1' : a1.size ≤ 9223372036854775807 := by unfold maxLen at w1; omega
  clear hA0 hval0
  refine (walk a0 a1 W w0' w1').mono fun e W' ⟨he, bel⟩ => ?_
  subst he
  exact ⟨_, rfl, _, _, _, [], _, [], hW', trodAll_mk1 (shut_bool Try.underlying4 _), (trodAll_cons_mk (Below.trod laidOut (by kernel_rfl) (of_decide_eq_true (by kernel_rfl)) k0 bel lt0) (trodAll_cons_mk (Below.trod laidOut (by kernel_rfl) (of_decide_eq_true (by kernel_rfl)) k1 bel lt1) trodAll_mk0)), rfl, bel.frame _, fun h => by cases h⟩

theorem proved : Rows.AttrsOnceSaid :=
  OpenClaim.holds_of_wide 10 Try.f10 rfl rfl rfl rfl rfl rfl rfl ⟨rfl, rfl, rfl, rfl, rfl⟩ rfl rfl rfl rfl rfl (by kernel_rfl) Try.func10 (by kernel_rfl)
    (of_decide_eq_true (by kernel_rfl)) (by unfold Func.isWrapper; first | (rw [if_pos (by decide +kernel)]; kernel_rfl) | (rw [if_neg (by decide +kernel)]; exact ⟨rfl, rfl⟩))
    (fun os started H enc _ => lifted os started H enc)
#print axioms proved
end Go.Proofs.Ytfiiikbbiimdiaa.attrsOnce
