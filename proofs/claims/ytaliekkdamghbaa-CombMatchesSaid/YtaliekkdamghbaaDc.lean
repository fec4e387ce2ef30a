/- Walks: Matches, Match, All and Ways, by the reference. Condition: none but where it stands. -/
import Derived.Test.YtaliekkdamghbaaCz
import Derived.Test.YtaliekkdamghbaaCu
namespace Go.Proofs.Ytaliekkdamghbaa
open Go.RowKit

set_option maxRecDepth 100000 in
theorem rmatches_ok (A B C : Option Addr) (n c m d e0 : Nat) (T : List ANode) (cs : List Int) (H : List (List Bool)) (hg : goodB T = true) (ht : toldB T.length cs H = true) (i : Nat) (w : World) (h : IsTree w A n T) (hcs : IsU8 w B m cs) (hH : IsBB w C (m + 1) H) (hi : i < n) :
    Calls Try.prog 48 #[.agg #[.slice A n c], .int .i64 i, .slice B m d, .slice C (m + 1) e0] w fun r w' => r = .returned (.bool (rchF T cs H m i)) ∧ Below w.heap.size w w' := by
  have hml := hcs.1
  have hm63 := hcs.2.1
  have hcs' := hide hcs
  have hH' := hide hH
  clear hcs hH
  have hT := hide h
  have hl := h.1
  clear h
  have hB0 := below_alloc (Below.refl w.heap.size w) (.cells #[.slice A n c] 24)
  have hbox0 : (w.alloc (.cells #[.slice A n c] 24)).cell? ⟨w.heap.size, 0, none⟩ = some (.slice A n c) := by go_simp
  have hx := hide (rway_ok A n c m d e0 T cs H hg ht hml m i B C _ (hT.out.below hB0) (hcs'.out.below hB0) (hH'.out.below hB0) hi (Nat.le_refl _))
  have hwl := wayF_len T cs H m i
  cases hr : rchF T cs H m i
  · have e : wayV T cs H m i = [] := if_neg (by rw [hr]; decide)
    rw [e] at hx
    have hneq := fun W c' => run_neq_slice_nil_any (P := Try.prog) W 44 3 none 0 c' 0 0 Try.underlying44
    clear e hwl hr hg ht
    go_enter Try.func48, Try.ntmps48
    go_wp2_with fail
    refine hx.out.mono ?_
    rintro e w1 ⟨A1, c1, rfl, hO1, hb1, hnil1, -, -, -⟩
    obtain ⟨rfl, rfl⟩ := hnil1 (by trivial)
    clear hO1
    go_wp2
    go_ret
    exact ⟨rfl, Below.on hB0 hb1⟩
  · have e : wayV T cs H m i = wayF T cs H m i := if_pos hr
    rw [e] at hx
    obtain ⟨Y, hY⟩ : ∃ Y, wayF T cs H m i = Y := ⟨_, rfl⟩
    rw [hY] at hx hwl
    have hwl' := hide hwl
    clear e hwl hr hg ht hY
    go_enter Try.func48, Try.ntmps48
    go_wp2_with fail
    refine hx.out.mono ?_
    rintro e w1 ⟨A1, c1, rfl, hO1, hb1, hnil1, -, -, hI1⟩
    obtain ⟨b7, o7, rfl, -, -⟩ := hI1.2.2 (by rw [hwl'.out]; omega)
    have hneq := fun W c' => run_neq_slice_nil_any (P := Try.prog) W 44 3 (some ⟨b7, o7, none⟩) Y.length c' 0 0 Try.underlying44
    clear hO1 hI1 hnil1
    go_wp2
    go_ret
    exact ⟨rfl, Below.on hB0 hb1⟩

set_option maxRecDepth 100000 in
theorem rmatch_ok (A B C : Option Addr) (n c m d k e : Nat) (T : List ANode) (i : Int) (cs : List Int) (H : List (List Bool)) (w : World) (h : IsTree w A n T) (hcs : IsU8 w B m cs) (hH : IsBB w C k H) :
    Calls Try.prog 22 #[.agg #[.slice A n c], .int .i64 i, .slice B m d, .slice C k e] w fun r w' => r = .returned (.tuple #[.bool (matE T i cs H), .int .i64 (cask T i cs H)]) ∧ Below w.heap.size w w' := by
  have hcs' := hide hcs
  have hH' := hide hH
  have hml := hcs.1
  have hkl := hH.1
  clear hcs hH
  have hT := hide h
  have hl := h.1
  clear h
  have hB0 := below_alloc (Below.refl w.heap.size w) (.cells #[.slice A n c] 24)
  have hbox0 : (w.alloc (.cells #[.slice A n c] 24)).cell? ⟨w.heap.size, 0, none⟩ = some (.slice A n c) := by go_simp
  by_cases h0 : cask T i cs H = 0
  · obtain ⟨hg, hir, ht⟩ := cask_zero.1 h0
    obtain ⟨ht1, ht2⟩ := told_len ht
    obtain ⟨j, rfl⟩ := Int.eq_ofNat_of_zero_le hir.1
    have hj : j < n := by omega
    obtain rfl : k = m + 1 := by omega
    have hq : Hid (matE T j cs H = rchF T cs H m j) := by show _ = _; unfold matE; rw [if_pos h0, hml, Int.toNat_natCast]
    have h0' := hide h0
    have hg' := hide hg
    have ht' := hide ht
    rw [h0, hq.out]
    clear h0 hg ht hir
    go_enter Try.func22, Try.ntmps22
    go_wp2_with fail
    have hx := rcask_ok _ _ _ _ c _ d _ e T j cs H _ (hT.out.below hB0) (hcs'.out.below hB0) (hH'.out.below hB0)
    rw [h0'.out] at hx
    refine hx.mono ?_
    clear hx
    rintro e1 w1 ⟨rfl, hb1⟩
    have hbox1 := cell_later hb1 hbox0
    have hB1 := Below.on hB0 hb1
    go_wp2_with fail
    refine (rmatches_ok _ _ _ _ c _ d e T cs H hg'.out ht'.out j _ (hT.out.below hB1) (hcs'.out.below hB1) (hH'.out.below hB1) hj).mono ?_
    rintro e2 w2 ⟨rfl, hb2⟩
    have hB2 := Below.on hB1 hb2
    go_wp2
    go_ret2
    exact ⟨rfl, hB2⟩
  · have hq : Hid (matE T i cs H = false) := if_neg h0
    have h0' : (cask T i cs H != 0) = true := by simp [h0]
    rw [hq.out]
    clear h0
    go_enter Try.func22, Try.ntmps22
    go_wp2_with fail
    refine (rcask_ok _ _ _ _ _ _ _ _ _ T _ cs H _ (hT.out.below hB0) (hcs'.out.below hB0) (hH'.out.below hB0)).mono ?_
    rintro e w1 ⟨rfl, hb1⟩
    have hbox1 := cell_later hb1 hbox0
    have hB1 := Below.on hB0 hb1
    go_wp2_with fail
    refine (rcask_ok _ _ _ _ _ _ _ _ _ T _ cs H _ (hT.out.below hB1) (hcs'.out.below hB1) (hH'.out.below hB1)).mono ?_
    rintro e w2 ⟨rfl, hb2⟩
    have hbox2 := cell_later hb2 hbox1
    have hB2 := Below.on hB1 hb2
    go_wp2
    go_ret2
    exact ⟨rfl, hB2⟩

theorem take_rchL (T : List ANode) (cs : List Int) (H : List (List Bool)) (m : Nat) {q : Nat} (hq : q < T.length) : (rchL T cs H m).take (q + 1) = (rchL T cs H m).take q ++ [rchF T cs H m q] := by
  rw [take_snoc' _ _ (by rw [rchL_len]; exact hq)]
  congr 2
  simp [rchL]

set_option maxRecDepth 100000 in
set_option maxHeartbeats 1000000 in
theorem rall_ok (A B C : Option Addr) (n c m d k e : Nat) (T : List ANode) (cs : List Int) (H : List (List Bool)) (w : World) (h : IsTree w A n T) (hcs : IsU8 w B m cs) (hH : IsBB w C k H) :
    Calls Try.prog 23 #[.agg #[.slice A n c], .slice B m d, .slice C k e] w (MadeBoolsE w (allE T cs H) (cchk T cs H)) := by
  have hn63 : n ≤ 9223372036854775807 := h.2.1
  have hcs' := hide hcs
  have hH' := hide hH
  have hml := hcs.1
  have hkl := hH.1
  clear hcs hH
  have hT := hide h
  have hl := h.1
  clear h
  have hB0 := below_alloc (Below.refl w.heap.size w) (.cells #[.slice A n c] 24)
  have hbox0 : (w.alloc (.cells #[.slice A n c] 24)).cell? ⟨w.heap.size, 0, none⟩ = some (.slice A n c) := by go_simp
  by_cases h0 : cchk T cs H = 0
  · obtain ⟨hg, ht⟩ := cchk_zero.1 h0
    obtain ⟨ht1, ht2⟩ := told_len ht
    obtain rfl : k = m + 1 := by omega
    have hq : Hid (allE T cs H = rchL T cs H m) := by show _ = _; unfold allE; rw [if_pos h0, hml]
    have h0' := hide h0
    have hg' := hide hg
    have ht' := hide ht
    have hrl := hide (rchL_len T cs H m)
    have hts := hide (fun q (hq : q < n) => take_rchL T cs H m (q := q) (by omega))
    have hn64 : T.length ≤ 64 := ((goodB_iff T).1 hg).2.1
    rw [h0, hq.out]
    clear h0 hg ht
    go_enter Try.func23, Try.ntmps23
    go_wp2_with fail
    have hx := rccheck_ok _ _ _ _ c _ d _ e T cs H _ (hT.out.below hB0) (hcs'.out.below hB0) (hH'.out.below hB0)
    rw [h0'.out] at hx
    refine hx.mono ?_
    clear hx
    rintro e1 w1 ⟨rfl, hb1⟩
    have hbox1 := cell_later hb1 hbox0
    have hB1 := Below.on hB0 hb1
    go_wp2
    go_loopw [8, 9] (fun v s wr => ∃ q : Nat, q ≤ n ∧ s = .int .i64 q ∧ OwnB wr w1.heap.size v ((rchL T cs H m).take q) ∧ Below w1.heap.size w1 wr) (fun _ s _ => n - (intOf s).toNat)
    case atStart => exact ⟨0, Nat.zero_le _, rfl, by rw [List.take_zero]; exact OwnB.nil _ _, Below.refl _ _⟩
    case round =>
      obtain ⟨q, hq, rfl, hown, hb⟩ := hrel
      have hbx := cell_later hb hbox1
      have hBw := Below.on hB1 hb
      have hlq : ((rchL T cs H m).take q).length ≤ 64 := by rw [List.length_take, hrl.out]; omega
      by_cases hlt : q < n
      · have hx := hide (rmatches_ok A B C n c m d e T cs H hg'.out ht'.out q wr (hT.out.below hBw) (hcs'.out.below hBw) (hH'.out.below hBw) hlt)
        obtain ⟨rb, hrb⟩ : ∃ rb, rchF T cs H m q = rb := ⟨_, rfl⟩
        have hts1 := hts.out q hlt
        rw [hrb] at hx hts1
        have hts1' := hide hts1
        clear hrb hts1
        go_wp2_with fail
        (with_reducible refine hx.out.mono ?_)
        rintro e2 w2 ⟨rfl, hb2⟩
        have hown2 := hown.below hb2
        have hB2 := hide (Below.on hb hb2)
        have hsz2 : w1.heap.size ≤ w2.heap.size := hB2.out.size
        clear hown hb2
        go_wp2_with (at_builtin; refine wpList_pushB rfl _ _ rfl hown2 rb _ rfl rfl (by omega) hsz2 ?_)
        intro A5 c5 w5 hown5 hgr
        have hB5 := hide (hgr.below (Nat.le_refl _) hB2.out)
        have hown5' := hide hown5
        clear hgr hown5 hown2
        go_wp2
        go_roundw
        case rel => exact ⟨q + 1, by omega, by go_num, by rw [hts1'.out]; exact hown5'.out, hB5.out⟩
        case measure => simp [intOf]; omega
      · have he : Hid ((rchL T cs H m).take q = rchL T cs H m) := List.take_of_length_le (by rw [hrl.out]; omega)
        rw [he.out] at hown
        obtain ⟨A5, c5, rfl, h51, h52, hI5⟩ := hown.isBools (by rw [hrl.out]; omega)
        have hI5' := hide hI5
        clear hI5 hown
        go_wp2
        go_ret2
        exact ⟨A5, c5, rfl, hI5'.out, h51, h52, hBw⟩
  · have hq : Hid (allE T cs H = []) := if_neg h0
    have h0' : (cchk T cs H != 0) = true := by simp [h0]
    rw [hq.out]
    clear h0
    go_enter Try.func23, Try.ntmps23
    go_wp2_with fail
    refine (rccheck_ok _ _ _ _ _ _ _ _ _ T cs H _ (hT.out.below hB0) (hcs'.out.below hB0) (hH'.out.below hB0)).mono ?_
    rintro e w1 ⟨rfl, hb1⟩
    have hbox1 := cell_later hb1 hbox0
    have hB1 := Below.on hB0 hb1
    go_wp2_with fail
    refine (rccheck_ok _ _ _ _ _ _ _ _ _ T cs H _ (hT.out.below hB1) (hcs'.out.below hB1) (hH'.out.below hB1)).mono ?_
    rintro e w2 ⟨rfl, hb2⟩
    have hbox2 := cell_later hb2 hbox1
    have hB2 := Below.on hB1 hb2
    go_wp2
    go_ret2
    exact madeBoolsE_nil hB2

set_option maxRecDepth 100000 in
set_option maxHeartbeats 1000000 in
theorem rways_ok (A B C : Option Addr) (n c m d k e : Nat) (T : List ANode) (i : Int) (cs : List Int) (H : List (List Bool)) (w : World) (h : IsTree w A n T) (hcs : IsU8 w B m cs) (hH : IsBB w C k H) :
    Calls Try.prog 25 #[.agg #[.slice A n c], .int .i64 i, .slice B m d, .slice C k e] w (MadeIntsE w (wayL T i cs H) (wayE T i cs H)) := by
  have hcs' := hide hcs
  have hH' := hide hH
  have hml := hcs.1
  have hkl := hH.1
  have hm63 := hcs.2.1
  clear hcs hH
  have hT := hide h
  have hl := h.1
  clear h
  have hB0 := below_alloc (Below.refl w.heap.size w) (.cells #[.slice A n c] 24)
  have hbox0 : (w.alloc (.cells #[.slice A n c] 24)).cell? ⟨w.heap.size, 0, none⟩ = some (.slice A n c) := by go_simp
  by_cases h0 : cask T i cs H = 0
  · obtain ⟨hg, hir, ht⟩ := cask_zero.1 h0
    obtain ⟨ht1, ht2⟩ := told_len ht
    obtain ⟨j, rfl⟩ := Int.eq_ofNat_of_zero_le hir.1
    have hj : j < n := by omega
    obtain rfl : k = m + 1 := by omega
    have h0' := hide h0
    have hwl := wayF_len T cs H m j
    have hx := hide (fun W (hB : Below w.heap.size w W) => rway_ok A n c m d e T cs H hg ht hml m j B C W (hT.out.below hB) (hcs'.out.below hB) (hH'.out.below hB) hj (Nat.le_refl _))
    cases hr : rchF T cs H m j
    · have e1 : wayE T j cs H = 6 := by unfold wayE; rw [if_pos h0, hml, Int.toNat_natCast, if_neg (by rw [hr]; decide)]
      have e2 : wayL T j cs H = [] := by unfold wayL; rw [if_neg (by rw [e1]; decide)]
      have e : wayV T cs H m j = [] := if_neg (by rw [hr]; decide)
      rw [e1, e2]
      rw [e] at hx
      have hneq := fun W c' => Lib.run_eql_slice_nil (P := Try.prog) W 44 3 none 0 c' 0 0 Try.underlying44
      clear e hwl hr hg ht e1 e2 hir h0
      go_enter Try.func25, Try.ntmps25
      go_wp2_with fail
      have hy := rcask_ok _ _ _ _ c _ d _ e T j cs H _ (hT.out.below hB0) (hcs'.out.below hB0) (hH'.out.below hB0)
      rw [h0'.out] at hy
      refine hy.mono ?_
      clear hy
      rintro e1 w1 ⟨rfl, hb1⟩
      have hbox1 := cell_later hb1 hbox0
      have hB1 := Below.on hB0 hb1
      go_wp2_with fail
      refine (hx.out _ hB1).mono ?_
      rintro e w2 ⟨A1, c1, rfl, hO1, hb2, hnil1, -, -, -⟩
      obtain ⟨rfl, rfl⟩ := hnil1 (by trivial)
      clear hO1
      go_wp2
      go_ret2
      exact madeIntsE_nil (Below.on hB1 hb2)
    · have e1 : wayE T j cs H = 0 := by unfold wayE; rw [if_pos h0, hml, Int.toNat_natCast, if_pos hr]
      have e2 : wayL T j cs H = wayF T cs H m j := by unfold wayL; rw [if_pos e1, hml, Int.toNat_natCast]
      have e : wayV T cs H m j = wayF T cs H m j := if_pos hr
      rw [e1, e2]
      rw [e] at hx
      obtain ⟨Y, hY⟩ : ∃ Y, wayF T cs H m j = Y := ⟨_, rfl⟩
      rw [hY] at hx hwl ⊢
      have hwl' := hide hwl
      clear e hwl hr hg ht e1 e2 hY hir h0
      go_enter Try.func25, Try.ntmps25
      go_wp2_with fail
      have hy := rcask_ok _ _ _ _ c _ d _ e T j cs H _ (hT.out.below hB0) (hcs'.out.below hB0) (hH'.out.below hB0)
      rw [h0'.out] at hy
      refine hy.mono ?_
      clear hy
      rintro e1 w1 ⟨rfl, hb1⟩
      have hbox1 := cell_later hb1 hbox0
      have hB1 := Below.on hB0 hb1
      go_wp2_with fail
      refine (hx.out _ hB1).mono ?_
      rintro e w2 ⟨A1, c1, rfl, hO1, hb2, hnil1, h11, h12, hI1⟩
      have hI1' := hide hI1
      obtain ⟨b7, o7, rfl, -, -⟩ := hI1.2.2 (by rw [hwl'.out]; omega)
      have hneq := fun W c' => Lib.run_eql_slice_nil (P := Try.prog) W 44 3 (some ⟨b7, o7, none⟩) Y.length c' 0 0 Try.underlying44
      clear hO1 hI1 hnil1
      go_wp2
      go_ret2
      exact ⟨_, c1, rfl, hI1'.out, h11, h12, Below.on hB1 hb2⟩
  · have e1 : wayE T i cs H = cask T i cs H := if_neg h0
    have e2 : wayL T i cs H = [] := by unfold wayL; rw [if_neg (by rw [e1]; exact h0)]
    rw [e1, e2]
    have h0' : (cask T i cs H != 0) = true := by simp [h0]
    clear h0 e1 e2
    go_enter Try.func25, Try.ntmps25
    go_wp2_with fail
    refine (rcask_ok _ _ _ _ _ _ _ _ _ T _ cs H _ (hT.out.below hB0) (hcs'.out.below hB0) (hH'.out.below hB0)).mono ?_
    rintro e w1 ⟨rfl, hb1⟩
    have hbox1 := cell_later hb1 hbox0
    have hB1 := Below.on hB0 hb1
    go_wp2_with fail
    refine (rcask_ok _ _ _ _ _ _ _ _ _ T _ cs H _ (hT.out.below hB1) (hcs'.out.below hB1) (hH'.out.below hB1)).mono ?_
    rintro e w2 ⟨rfl, hb2⟩
    have hbox2 := cell_later hb2 hbox1
    have hB2 := Below.on hB1 hb2
    go_wp2
    go_ret2
    exact madeIntsE_nil hB2
end Go.Proofs.Ytaliekkdamghbaa
