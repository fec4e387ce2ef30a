/- For every tree, numbers, progression and list of truth values: what is told of elements that are no siblings does not matter, and of an element's siblings at most one matches 0n+1. No condition. -/
import Derived.Test.YtankambfobfnfaaOpenb
import Derived.Test.YtankambfobfnfaaNh
import Derived.Deep.QuietTactic
import Derived.BigQuiet
namespace Go.Proofs.Ytankambfobfnfaa.nthOthers
open Go.ChangeShapes Go.WideShapes Go.ChangeAt Go.RowKit

theorem top_one {T : List ANode} (hg : goodB T = true) {i : Nat} (hi : i < T.length) (hp : par T i < 0) (B : List Bool) (last : Bool) : nmatF T i 0 1 last B = bx B i := by
  have hs : sibs T i = [(i : Int)] := if_pos hp
  have h := one_is hg hi (j := 0) (by rw [hs]; simp) (q := i) (by rw [hs]; rfl) B last
  rw [h]
  have hin : inb B i = bx B i := by unfold inb; rw [Int.toNat_natCast]
  rw [hin, hs]
  cases last
  · simp [pfx]
  · simp
set_option maxRecDepth 100000 in
set_option maxHeartbeats 1000000 in
theorem walk_out (A : Option Addr) (n c : Nat) (T : List ANode) (i k a b : Int) (last : Bool) (AB : Option Addr) (m cb : Nat) (w : World) (h : IsTree w A n T)
    (hx : askI T [i] ≠ 0 ∨ (askI T [i] = 0 ∧ (askI T [k] ≠ 0 ∨ (askI T [k] = 0 ∧ (tolE T m ≠ 0 ∨ (tolE T m = 0 ∧ anbE a b ≠ 0)))))) :
    Calls Try.prog 13 #[.agg #[.slice A n c], .int .i64 i, .int .i64 k, .agg #[.int .i64 a, .int .i64 b], .bool last, .slice AB m cb] w fun e w' => e = .returned (.bool true) ∧ Below w.heap.size w w' := by
  have hT := hide h
  have hl := h.1
  clear h
  have hB0 := below_alloc (below_alloc (Below.refl w.heap.size w) (.cells #[.slice A n c] 24)) (.cells #[.int .i64 a, .int .i64 b] 57)
  have hbox0 : ((w.alloc (.cells #[.slice A n c] 24)).alloc (.cells #[.int .i64 a, .int .i64 b] 57)).cell? ⟨w.heap.size, 0, none⟩ = some (.slice A n c) := by go_simp
  have hx0 : ((w.alloc (.cells #[.slice A n c] 24)).alloc (.cells #[.int .i64 a, .int .i64 b] 57)).cell? ⟨w.heap.size + 1, 0, none⟩ = some (.int .i64 a) := by go_simp
  have hy0 : ((w.alloc (.cells #[.slice A n c] 24)).alloc (.cells #[.int .i64 a, .int .i64 b] 57)).cell? ⟨w.heap.size + 1, 1, none⟩ = some (.int .i64 b) := by go_simp
  rcases hx with q1 | ⟨q1, q2 | ⟨q2, q3 | ⟨q3, q4⟩⟩⟩
  · have j1 : (askI T [i] != 0) = true := by simp [q1]
    clear q1
    go_enter Try.func13, Try.ntmps13
    go_wp2_with fail
    refine (alive20_ok _).mono ?_
    rintro e w1 ⟨rfl, hb1⟩
    have hbox1 := cell_later hb1 hbox0
    have hB1 := Below.on hB0 hb1
    have hbox1 := cell_later hb1 hbox0
    go_wp2_with fail
    refine (rasked_ok _ _ _ T _ _ (hT.out.below hB1)).mono ?_
    rintro e w2 ⟨rfl, hb2⟩
    have hbox2 := cell_later hb2 hbox1
    have hB2 := Below.on hB1 hb2
    go_wp2
    go_ret
    exact ⟨rfl, hB2⟩
  · have j1 : (askI T [k] != 0) = true := by simp [q2]
    clear q2
    go_enter Try.func13, Try.ntmps13
    go_wp2_with fail
    refine (alive20_ok _).mono ?_
    rintro e w1 ⟨rfl, hb1⟩
    have hbox1 := cell_later hb1 hbox0
    have hB1 := Below.on hB0 hb1
    have hbox1 := cell_later hb1 hbox0
    go_wp2_with fail
    refine (rasked_ok _ _ _ T _ _ (hT.out.below hB1)).mono ?_
    rintro e w2 ⟨rfl, hb2⟩
    have hbox2 := cell_later hb2 hbox1
    have hB2 := Below.on hB1 hb2
    go_wp2_with fail
    refine (rasked_ok _ _ _ T _ _ (hT.out.below hB2)).mono ?_
    rintro e w3 ⟨rfl, hb3⟩
    have hbox3 := cell_later hb3 hbox2
    have hB3 := Below.on hB2 hb3
    go_wp2
    go_ret
    exact ⟨rfl, hB3⟩
  · have j1 : (tolE T m != 0) = true := by simp [q3]
    clear q3
    go_enter Try.func13, Try.ntmps13
    go_wp2_with fail
    refine (alive20_ok _).mono ?_
    rintro e w1 ⟨rfl, hb1⟩
    have hbox1 := cell_later hb1 hbox0
    have hB1 := Below.on hB0 hb1
    have hbox1 := cell_later hb1 hbox0
    go_wp2_with fail
    refine (rasked_ok _ _ _ T _ _ (hT.out.below hB1)).mono ?_
    rintro e w2 ⟨rfl, hb2⟩
    have hbox2 := cell_later hb2 hbox1
    have hB2 := Below.on hB1 hb2
    go_wp2_with fail
    refine (rasked_ok _ _ _ T _ _ (hT.out.below hB2)).mono ?_
    rintro e w3 ⟨rfl, hb3⟩
    have hbox3 := cell_later hb3 hbox2
    have hB3 := Below.on hB2 hb3
    go_wp2_with fail
    refine (rntol_ok _ _ _ _ _ _ T _ (hT.out.below hB3)).mono ?_
    rintro e w4 ⟨rfl, hb4⟩
    have hbox4 := cell_later hb4 hbox3
    have hB4 := Below.on hB3 hb4
    go_wp2
    go_ret
    exact ⟨rfl, hB4⟩
  · have j1 : (anbE a b != 0) = true := by simp [q4]
    clear q4
    go_enter Try.func13, Try.ntmps13
    go_wp2_with fail
    refine (alive20_ok _).mono ?_
    rintro e w1 ⟨rfl, hb1⟩
    have hbox1 := cell_later hb1 hbox0
    have hB1 := Below.on hB0 hb1
    have hbox1 := cell_later hb1 hbox0
    have hx1 := cell_later hb1 hx0
    have hy1 := cell_later hb1 hy0
    go_wp2_with fail
    refine (rasked_ok _ _ _ T _ _ (hT.out.below hB1)).mono ?_
    rintro e w2 ⟨rfl, hb2⟩
    have hbox2 := cell_later hb2 hbox1
    have hB2 := Below.on hB1 hb2
    have hx2 := cell_later hb2 hx1
    have hy2 := cell_later hb2 hy1
    go_wp2_with fail
    refine (rasked_ok _ _ _ T _ _ (hT.out.below hB2)).mono ?_
    rintro e w3 ⟨rfl, hb3⟩
    have hbox3 := cell_later hb3 hbox2
    have hB3 := Below.on hB2 hb3
    have hx3 := cell_later hb3 hx2
    have hy3 := cell_later hb3 hy2
    go_wp2_with fail
    refine (rntol_ok _ _ _ _ _ _ T _ (hT.out.below hB3)).mono ?_
    rintro e w4 ⟨rfl, hb4⟩
    have hbox4 := cell_later hb4 hbox3
    have hB4 := Below.on hB3 hb4
    have hx4 := cell_later hb4 hx3
    have hy4 := cell_later hb4 hy3
    go_wp2_with fail
    refine (ranbCheck_ok a b _).mono ?_
    rintro e w5 ⟨rfl, hb5⟩
    have hbox5 := cell_later hb5 hbox4
    have hB5 := Below.on hB4 hb5
    have hx5 := cell_later hb5 hx4
    have hy5 := cell_later hb5 hy4
    go_wp2
    go_ret
    exact ⟨rfl, hB5⟩


set_option maxRecDepth 100000 in
set_option maxHeartbeats 10000000 in
theorem walkIn (A : Option Addr) (n c : Nat) (T : List ANode) (i k : Nat) (a b : Int) (last : Bool) (AB : Option Addr) (cb : Nat) (B : List Bool) (w : World) (h : IsTree w A n T) (hL : IsBools w AB n B)
    (hg : goodB T = true) (hi : i < n) (hk : k < n) (hv : anbB a b = true) :
    Calls Try.prog 13 #[.agg #[.slice A n c], .int .i64 i, .int .i64 k, .agg #[.int .i64 a, .int .i64 b], .bool last, .slice AB n cb] w fun e w' => e = .returned (.bool true) ∧ Below w.heap.size w w' := by
  have ho := hide h.2.2.2
  have hT := hide h
  have hl := h.1
  clear h
  have hB0 := below_alloc (below_alloc (Below.refl w.heap.size w) (.cells #[.slice A n c] 24)) (.cells #[.int .i64 a, .int .i64 b] 57)
  have hbox0 : ((w.alloc (.cells #[.slice A n c] 24)).alloc (.cells #[.int .i64 a, .int .i64 b] 57)).cell? ⟨w.heap.size, 0, none⟩ = some (.slice A n c) := by go_simp
  have hx0 : ((w.alloc (.cells #[.slice A n c] 24)).alloc (.cells #[.int .i64 a, .int .i64 b] 57)).cell? ⟨w.heap.size + 1, 0, none⟩ = some (.int .i64 a) := by go_simp
  have hy0 : ((w.alloc (.cells #[.slice A n c] 24)).alloc (.cells #[.int .i64 a, .int .i64 b] 57)).cell? ⟨w.heap.size + 1, 1, none⟩ = some (.int .i64 b) := by go_simp
  have hn64 : n ≤ 64 := by have := ((goodB_iff T).1 hg).2.1; omega
  have q1 : askI T [(i : Int)] = 0 := askI_ok hg (by simp; omega)
  have q2 : askI T [(k : Int)] = 0 := askI_ok hg (by simp; omega)
  have q3 : tolE T n = 0 := tolE_zero.2 ⟨hg, by omega⟩
  have q4 : anbE a b = 0 := if_pos hv
  have hBl := hide hL.1
  have hL' := hide hL
  have hg' := hide hg
  have hv' := hide hv
  have m1 : Hid (nmatE T i a b n = 0) := by show _ = _; unfold nmatE; rw [show nmE T i n = 0 from nmE_zero.2 ⟨q1, q3⟩, if_pos rfl, q4]
  have q3' := hide q3
  obtain ⟨bt, offt, aA, cA, aC, cC, rfl, hbl, -, -, c2, c3, -, hC⟩ := ho.out (by omega)
  have c2' := hide c2
  have c3' := hide c3
  have hC' := hide hC
  clear hL hg hv c2 c3 hC ho
  go_enter Try.func13, Try.ntmps13
  go_wp2_with fail
  refine (alive20_ok _).mono ?_
  rintro e w1 ⟨rfl, hb1⟩
  have hbox1 := cell_later hb1 hbox0
  have hB1 := Below.on hB0 hb1
  have hx1 := cell_later hb1 hx0
  have hy1 := cell_later hb1 hy0
  have hbox1 := cell_later hb1 hbox0
  have hx1 := cell_later hb1 hx0
  have hy1 := cell_later hb1 hy0
  go_wp2_with fail
  refine (rasked_ok _ _ _ T _ _ (hT.out.below hB1)).mono ?_
  rintro e w2 ⟨rfl, hb2⟩
  have hbox2 := cell_later hb2 hbox1
  have hB2 := Below.on hB1 hb2
  have hx2 := cell_later hb2 hx1
  have hy2 := cell_later hb2 hy1
  go_wp2_with fail
  refine (rasked_ok _ _ _ T _ _ (hT.out.below hB2)).mono ?_
  rintro e w3 ⟨rfl, hb3⟩
  have hbox3 := cell_later hb3 hbox2
  have hB3 := Below.on hB2 hb3
  have hx3 := cell_later hb3 hx2
  have hy3 := cell_later hb3 hy2
  go_wp2_with fail
  refine (rntol_ok _ _ _ _ _ _ T _ (hT.out.below hB3)).mono ?_
  rintro e w4 ⟨rfl, hb4⟩
  have hbox4 := cell_later hb4 hbox3
  have hB4 := Below.on hB3 hb4
  have hx4 := cell_later hb4 hx3
  have hy4 := cell_later hb4 hy3
  go_wp2_with fail
  refine (ranbCheck_ok a b _).mono ?_
  rintro e w5 ⟨rfl, hb5⟩
  have hbox5 := cell_later hb5 hbox4
  have hB5 := Below.on hB4 hb5
  have hx5 := cell_later hb5 hx4
  have hy5 := cell_later hb5 hy4
  clear hbox0 hbox1 hbox2 hbox3 hbox4 hx0 hx1 hx2 hx3 hx4 hy0 hy1 hy2 hy3 hy4 hb1 hb2 hb3 hb4 hb5 hB0 hB1 hB2 hB3 hB4
  go_wp2_with (at_builtin; refine wpList_dupB rfl _ _ rfl (hL'.out.below hB5) (by omega) _ rfl rfl rfl ?_)
  intro v6 w6 hown6 hb6
  have hB6 := Below.on hB5 hb6
  have hbox6 := cell_later hb6 hbox5
  have hx6 := cell_later hb6 hx5
  have hy6 := cell_later hb6 hy5
  obtain ⟨g, c6, rfl, hg6, hgl, hf6, hc6, hI6⟩ := hown6.change (by rw [hBl.out]; omega) (k := k) (by rw [hBl.out]; exact hk) (!bx B k)
  rw [hBl.out] at hI6 ⊢
  have hI6' := hide hI6
  have hlt5 : w.heap.size + 1 < w5.heap.size := cell_in hx5
  have hbS := hB6.setCell (p := ⟨g, k, none⟩) (by show w.heap.size ≤ g; omega) (.bool (!bx B k))
  have hbox7 : (w6.setCell ⟨g, k, none⟩ (.bool (!bx B k))).cell? ⟨w.heap.size, 0, none⟩ = some (.slice (some ⟨bt, offt, none⟩) n c) := by rw [World.cell?_setCell_other _ _ _ _ (by intro e; injection e; omega)]; exact hbox6
  have hx7 : (w6.setCell ⟨g, k, none⟩ (.bool (!bx B k))).cell? ⟨w.heap.size + 1, 0, none⟩ = some (.int .i64 a) := by rw [World.cell?_setCell_other _ _ _ _ (by intro e; injection e; omega)]; exact hx6
  have hy7 : (w6.setCell ⟨g, k, none⟩ (.bool (!bx B k))).cell? ⟨w.heap.size + 1, 1, none⟩ = some (.int .i64 b) := by rw [World.cell?_setCell_other _ _ _ _ (by intro e; injection e; omega)]; exact hy6
  have gpi := (old hbS _ _ hbl).trans (c2'.out i hi)
  have gpk := (old hbS _ _ hbl).trans (c2'.out k hk)
  have hTs := hide (hT.out.below hbS)
  have hLs := hide (hL'.out.below hbS)
  clear q1 q2 q3 q4 hbox5 hx5 hy5 hbox6 hx6 hy6 hown6 hI6 hb6
  have v1 : Hid (nmatV T i a b last B = nmatF T i a b last B) := by show _ = _; unfold nmatV; rw [hBl.out, if_pos m1.out, Int.toNat_natCast]
  have v2 : Hid (nmatV T i a b last (B.set k (!bx B k)) = nmatF T i a b last (B.set k (!bx B k))) := by show _ = _; unfold nmatV; rw [List.length_set, hBl.out, if_pos m1.out, Int.toNat_natCast]
  have hset : ¬ i = k → ¬ (0 ≤ par T i ∧ par T i = par T k) → nmatF T i a b last (B.set k (!bx B k)) = nmatF T i a b last B := fun h1 h2 => nmatF_set hg'.out (by omega) (by omega) h1 h2 B _ a b last
  generalize nmatF T i a b last B = x at v1 hset
  generalize nmatF T i a b last (B.set k (!bx B k)) = y at v2 hset
  by_cases hik : i = k
  · have d1 : ((i : Int) == (k : Int)) = true := by simp [hik]
    clear hik hset
    go_wp2
    go_quiet (fail)
    clear gpi gpk
    have hD := below_drewN (Below.refl (w6.setCell ⟨g, k, none⟩ (.bool (!bx B k))).heap.size (w6.setCell ⟨g, k, none⟩ (.bool (!bx B k)))) nq
    have hT8 := hide (hTs.out.below hD)
    have hL8 := hide (hLs.out.below hD)
    have hI8 := hide (hI6'.out.below hD)
    have hbox8 := cell_later hD hbox7
    have hx8 := cell_later hD hx7
    have hy8 := cell_later hD hy7
    have hB8 := Below.on hbS hD
    clear hD hbox7 hx7 hy7 hTs hLs hI6'
    generalize (w6.setCell ⟨g, k, none⟩ (.bool (!bx B k))).drewN nq = W at *
    go_wp2_with fail
    refine (nmatch_at T B i a b _ 0 last n m1.out v1.out _ _ _ _ _ _ hT8.out hL8.out).mono ?_
    rintro e w9 ⟨rfl, hb9⟩
    have hbox9 := cell_later hb9 hbox8
    have hx9 := cell_later hb9 hx8
    have hy9 := cell_later hb9 hy8
    go_wp2_with fail
    refine (nmatch_at T (B.set k (!bx B k)) i a b _ 0 last n m1.out v2.out _ _ _ _ _ _ (hT8.out.below hb9) (hI8.out.below hb9)).mono ?_
    rintro e w10 ⟨rfl, hb10⟩
    have hbox10 := cell_later hb10 hbox9
    have hB10 := Below.on (Below.on hB8 hb9) hb10
    have hT10 := hide ((hT8.out.below hb9).below hb10)
    have hL10 := hide ((hL8.out.below hb9).below hb10)
    clear hbox9 hx9 hy9 hx8 hy8 hT8 hL8 hI8 hbox8
    go_wp2_with fail
    refine (nallM T B 0 1 last n q3'.out (by decide) _ _ _ _ _ _ hT10.out hL10.out).mono ?_
    rintro e w11 ⟨A11, c11, rfl, hI11, hb11⟩
    have hbox11 := cell_later hb11 hbox10
    have hB11 := Below.on hB10 hb11
    have hL11 := hide (hL10.out.below hb11)
    have hI11' := hide hI11
    clear hI11 hbox10 hT10 hL10 hb10 hb9
    have gp := (old hB11 _ _ hbl).trans (c2'.out i hi)
    obtain ⟨b1, o1, rfl, hb1l, hc1⟩ := hI11'.out.2.2 (by omega)
    obtain ⟨b2, o2, rfl, hb2l, hc2⟩ := hL11.out.2.2 (by omega)
    have hc1' : Hid (∀ j, j < n → w11.cell? ⟨b1, o1 + j, none⟩ = some (.bool (nmatF T j 0 1 last B))) := fun j hj => by rw [hc1 j hj, bx_map hj]
    have hc2' := hide hc2
    clear hc1 hc2 hI11' hL11
    by_cases hp : par T i < 0
    · have g1 := hc1'.out i hi
      have g2 := hc2'.out i hi
      have ht := hide (top_one hg'.out (by omega : i < T.length) hp B last)
      rw [ht.out] at g1
      go_wp2
      cases hbb : bx B i
      all_goals
        rw [hbb] at g1 g2
        clear hbb
        go_quiet (fail)
        go_wp2
        go_ret
        exact ⟨rfl, below_drewN hB11 _⟩
    · have hp : 0 ≤ par T i := by omega
      obtain ⟨p, hpp⟩ := Int.eq_ofNat_of_zero_le hp
      have hpn : p < n := by have := (good_par hg'.out (by omega : i < T.length)).2; omega
      have hss : Hid (sibs T i = kids T p) := by show _ = _; unfold sibs; rw [if_neg (by omega), hpp]; rfl
      rw [hpp] at gp
      have g3h := hide (c3'.out p hpn)
      have hIk := hide (hC'.out p hpn).1
      rw [← hss.out] at g3h hIk
      generalize cA p = CA at g3h hIk
      generalize cC p = cc at g3h
      have hmem : Hid (∀ k, k < (sibs T i).length → ∃ r : Nat, ix (sibs T i) k = r ∧ r < n) := fun k hk => by
        obtain ⟨r, h1, h2, _⟩ := sibs_mem hg'.out (by omega : i < T.length) (ix_mem hk); exact ⟨r, h1, by omega⟩
      have hsuc : Hid (∀ (j q : Nat), j < (sibs T i).length → ix (sibs T i) j = q → oneN B (sibs T i) last (j + 1) = oneN B (sibs T i) last j + (if nmatF T q 0 1 last B = true then 1 else 0)) := fun j q hj hq => oneN_succ hg'.out (by omega) hj hq B last
      have hm64 := sibs_len hg'.out (by omega : i < T.length)
      generalize hsl : sibs T i = l at *
      have hm0 : 0 < l.length := by obtain ⟨j, h1, _⟩ := sibs_pos hg'.out (by omega : i < T.length); rw [hsl] at h1; omega
      obtain ⟨m, hm⟩ : ∃ m, l.length = m := ⟨_, rfl⟩
      rw [hm] at g3h hIk hmem hm64 hm0 hsuc
      have hm' := hide hm
      have hend : Hid (oneN B l last m = min (pfx B l m) 1) := by show _ = _; rw [← hm'.out]; exact oneN_end B l last
      obtain ⟨bk, ok, rfl, hbkl, hck⟩ := hIk.out.2.2 hm0
      have hck' := hide hck
      clear hck hpp hss hsl hm hp hIk
      go_wp2
      clear gp
      go_loopw [23, 24, 25] (fun x y s wr => ∃ j : Nat, j ≤ m ∧ s = .int .i64 j ∧ x = .int .i64 (oneN B l last j : Nat) ∧ y = .int .i64 (pfx B l j : Nat) ∧ ∃ q, w11.drewN q = wr) (fun _ _ s _ => m - (intOf s).toNat)
      case atStart => exact ⟨0, Nat.zero_le _, rfl, by rw [oneN_zero]; rfl, by rw [pfx_zero]; rfl, 0, rfl⟩
      case round =>
        obtain ⟨j, hj, rfl, rfl, rfl, q, rfl⟩ := hrel
        have hl1 := oneN_le B l last j
        have hl2 := pfx_le B l j
        have hD := below_drewN (Below.refl w11.heap.size w11) q
        have gk3 := (old hD _ _ (Nat.lt_of_lt_of_le hbl hB11.size)).trans ((old hB11 _ _ hbl).trans g3h.out)
        have hbxq := cell_later hD hbox11
        have hBq := below_drewN hB11 q
        by_cases hlt : j < m
        · obtain ⟨r, hr, hrn⟩ := hmem.out j hlt
          have gk := (old hBq _ _ hbkl).trans (hck'.out j hlt)
          have g1 := (old hD _ _ hb1l).trans (hc1'.out r hrn)
          have g2 := (old hD _ _ hb2l).trans (hc2'.out r hrn)
          have h1 := hide (hsuc.out j r hlt hr)
          have h2 := hide (pfx_succ B l j (by have := hm'.out; omega))
          have h3 : Hid (inb B (ix l j) = bx B r) := by show _ = _; rw [hr]; unfold inb; rw [Int.toNat_natCast]
          rw [hr] at gk
          clear hr hD
          cases ho1 : nmatF T r 0 1 last B <;> cases ho2 : bx B r
          all_goals
            rw [ho1] at g1
            rw [ho2] at g2
            have h1' := hide h1.out
            have h2' := hide h2.out
            rw [ho1] at h1'
            rw [h3.out, ho2] at h2'
            clear ho1 ho2
            go_wp2
            go_roundw
            case rel => exact ⟨j + 1, by omega, by go_num, by first | (rw [h1'.out]; done) | (rw [h1'.out]; go_num), by first | (rw [h2'.out]; done) | (rw [h2'.out]; go_num), q, rfl⟩
            case measure => simp [intOf]; omega
        · obtain rfl : m = j := by omega
          by_cases hp1 : pfx B l m ≤ 1
          · have he2 : (((oneN B l last m : Nat) : Int) == ((pfx B l m : Nat) : Int)) = true := by rw [hend.out]; simp; omega
            go_wp2
            go_ret
            exact ⟨rfl, hBq⟩
          · have he2 : (((oneN B l last m : Nat) : Int) == 1) = true := by rw [hend.out]; simp; omega
            go_wp2
            go_ret
            exact ⟨rfl, hBq⟩
  · have d1 : ((i : Int) == (k : Int)) = false := by simp; omega
    by_cases hp0 : 0 ≤ par T i
    · by_cases hpe : par T i = par T k
      · have d2 : (par T i == par T k) = true := by simp [hpe]
        have d3 : decide (0 ≤ par T i) = true := by simpa using hp0
        have hp := hp0
        clear hik hset hpe hp0
        go_wp2
        go_quiet (fail)
        clear gpi gpk
        have hD := below_drewN (Below.refl (w6.setCell ⟨g, k, none⟩ (.bool (!bx B k))).heap.size (w6.setCell ⟨g, k, none⟩ (.bool (!bx B k)))) nq
        have hT8 := hide (hTs.out.below hD)
        have hL8 := hide (hLs.out.below hD)
        have hI8 := hide (hI6'.out.below hD)
        have hbox8 := cell_later hD hbox7
        have hx8 := cell_later hD hx7
        have hy8 := cell_later hD hy7
        have hB8 := Below.on hbS hD
        clear hD hbox7 hx7 hy7 hTs hLs hI6'
        generalize (w6.setCell ⟨g, k, none⟩ (.bool (!bx B k))).drewN nq = W at *
        go_wp2_with fail
        refine (nmatch_at T B i a b _ 0 last n m1.out v1.out _ _ _ _ _ _ hT8.out hL8.out).mono ?_
        rintro e w9 ⟨rfl, hb9⟩
        have hbox9 := cell_later hb9 hbox8
        have hx9 := cell_later hb9 hx8
        have hy9 := cell_later hb9 hy8
        go_wp2_with fail
        refine (nmatch_at T (B.set k (!bx B k)) i a b _ 0 last n m1.out v2.out _ _ _ _ _ _ (hT8.out.below hb9) (hI8.out.below hb9)).mono ?_
        rintro e w10 ⟨rfl, hb10⟩
        have hbox10 := cell_later hb10 hbox9
        have hB10 := Below.on (Below.on hB8 hb9) hb10
        have hT10 := hide ((hT8.out.below hb9).below hb10)
        have hL10 := hide ((hL8.out.below hb9).below hb10)
        clear hbox9 hx9 hy9 hx8 hy8 hT8 hL8 hI8 hbox8
        go_wp2_with fail
        refine (nallM T B 0 1 last n q3'.out (by decide) _ _ _ _ _ _ hT10.out hL10.out).mono ?_
        rintro e w11 ⟨A11, c11, rfl, hI11, hb11⟩
        have hbox11 := cell_later hb11 hbox10
        have hB11 := Below.on hB10 hb11
        have hL11 := hide (hL10.out.below hb11)
        have hI11' := hide hI11
        clear hI11 hbox10 hT10 hL10 hb10 hb9
        have gp := (old hB11 _ _ hbl).trans (c2'.out i hi)
        obtain ⟨b1, o1, rfl, hb1l, hc1⟩ := hI11'.out.2.2 (by omega)
        obtain ⟨b2, o2, rfl, hb2l, hc2⟩ := hL11.out.2.2 (by omega)
        have hc1' : Hid (∀ j, j < n → w11.cell? ⟨b1, o1 + j, none⟩ = some (.bool (nmatF T j 0 1 last B))) := fun j hj => by rw [hc1 j hj, bx_map hj]
        have hc2' := hide hc2
        clear hc1 hc2 hI11' hL11
        obtain ⟨p, hpp⟩ := Int.eq_ofNat_of_zero_le hp
        have hpn : p < n := by have := (good_par hg'.out (by omega : i < T.length)).2; omega
        have hss : Hid (sibs T i = kids T p) := by show _ = _; unfold sibs; rw [if_neg (by omega), hpp]; rfl
        rw [hpp] at gp
        have g3h := hide (c3'.out p hpn)
        have hIk := hide (hC'.out p hpn).1
        rw [← hss.out] at g3h hIk
        generalize cA p = CA at g3h hIk
        generalize cC p = cc at g3h
        have hmem : Hid (∀ k, k < (sibs T i).length → ∃ r : Nat, ix (sibs T i) k = r ∧ r < n) := fun k hk => by
          obtain ⟨r, h1, h2, _⟩ := sibs_mem hg'.out (by omega : i < T.length) (ix_mem hk); exact ⟨r, h1, by omega⟩
        have hsuc : Hid (∀ (j q : Nat), j < (sibs T i).length → ix (sibs T i) j = q → oneN B (sibs T i) last (j + 1) = oneN B (sibs T i) last j + (if nmatF T q 0 1 last B = true then 1 else 0)) := fun j q hj hq => oneN_succ hg'.out (by omega) hj hq B last
        have hm64 := sibs_len hg'.out (by omega : i < T.length)
        generalize hsl : sibs T i = l at *
        have hm0 : 0 < l.length := by obtain ⟨j, h1, _⟩ := sibs_pos hg'.out (by omega : i < T.length); rw [hsl] at h1; omega
        obtain ⟨m, hm⟩ : ∃ m, l.length = m := ⟨_, rfl⟩
        rw [hm] at g3h hIk hmem hm64 hm0 hsuc
        have hm' := hide hm
        have hend : Hid (oneN B l last m = min (pfx B l m) 1) := by show _ = _; rw [← hm'.out]; exact oneN_end B l last
        obtain ⟨bk, ok, rfl, hbkl, hck⟩ := hIk.out.2.2 hm0
        have hck' := hide hck
        clear hck hpp hss hsl hm hp hIk
        go_wp2
        clear gp
        go_loopw [23, 24, 25] (fun x y s wr => ∃ j : Nat, j ≤ m ∧ s = .int .i64 j ∧ x = .int .i64 (oneN B l last j : Nat) ∧ y = .int .i64 (pfx B l j : Nat) ∧ ∃ q, w11.drewN q = wr) (fun _ _ s _ => m - (intOf s).toNat)
        case atStart => exact ⟨0, Nat.zero_le _, rfl, by rw [oneN_zero]; rfl, by rw [pfx_zero]; rfl, 0, rfl⟩
        case round =>
          obtain ⟨j, hj, rfl, rfl, rfl, q, rfl⟩ := hrel
          have hl1 := oneN_le B l last j
          have hl2 := pfx_le B l j
          have hD := below_drewN (Below.refl w11.heap.size w11) q
          have gk3 := (old hD _ _ (Nat.lt_of_lt_of_le hbl hB11.size)).trans ((old hB11 _ _ hbl).trans g3h.out)
          have hbxq := cell_later hD hbox11
          have hBq := below_drewN hB11 q
          by_cases hlt : j < m
          · obtain ⟨r, hr, hrn⟩ := hmem.out j hlt
            have gk := (old hBq _ _ hbkl).trans (hck'.out j hlt)
            have g1 := (old hD _ _ hb1l).trans (hc1'.out r hrn)
            have g2 := (old hD _ _ hb2l).trans (hc2'.out r hrn)
            have h1 := hide (hsuc.out j r hlt hr)
            have h2 := hide (pfx_succ B l j (by have := hm'.out; omega))
            have h3 : Hid (inb B (ix l j) = bx B r) := by show _ = _; rw [hr]; unfold inb; rw [Int.toNat_natCast]
            rw [hr] at gk
            clear hr hD
            cases ho1 : nmatF T r 0 1 last B <;> cases ho2 : bx B r
            all_goals
              rw [ho1] at g1
              rw [ho2] at g2
              have h1' := hide h1.out
              have h2' := hide h2.out
              rw [ho1] at h1'
              rw [h3.out, ho2] at h2'
              clear ho1 ho2
              go_wp2
              go_roundw
              case rel => exact ⟨j + 1, by omega, by go_num, by first | (rw [h1'.out]; done) | (rw [h1'.out]; go_num), by first | (rw [h2'.out]; done) | (rw [h2'.out]; go_num), q, rfl⟩
              case measure => simp [intOf]; omega
          · obtain rfl : m = j := by omega
            by_cases hp1 : pfx B l m ≤ 1
            · have he2 : (((oneN B l last m : Nat) : Int) == ((pfx B l m : Nat) : Int)) = true := by rw [hend.out]; simp; omega
              go_wp2
              go_ret
              exact ⟨rfl, hBq⟩
            · have he2 : (((oneN B l last m : Nat) : Int) == 1) = true := by rw [hend.out]; simp; omega
              go_wp2
              go_ret
              exact ⟨rfl, hBq⟩
      · have d2 : (par T i == par T k) = false := by simp [hpe]
        obtain rfl : y = x := hset hik (fun h => hpe h.2)
        have d3 : decide (0 ≤ par T i) = true := by simpa using hp0
        have hp := hp0
        clear hik hset hpe hp0
        go_wp2
        go_quiet (fail)
        clear gpi gpk
        have hD := below_drewN (Below.refl (w6.setCell ⟨g, k, none⟩ (.bool (!bx B k))).heap.size (w6.setCell ⟨g, k, none⟩ (.bool (!bx B k)))) nq
        have hT8 := hide (hTs.out.below hD)
        have hL8 := hide (hLs.out.below hD)
        have hI8 := hide (hI6'.out.below hD)
        have hbox8 := cell_later hD hbox7
        have hx8 := cell_later hD hx7
        have hy8 := cell_later hD hy7
        have hB8 := Below.on hbS hD
        clear hD hbox7 hx7 hy7 hTs hLs hI6'
        generalize (w6.setCell ⟨g, k, none⟩ (.bool (!bx B k))).drewN nq = W at *
        go_wp2_with fail
        refine (nmatch_at T B i a b _ 0 last n m1.out v1.out _ _ _ _ _ _ hT8.out hL8.out).mono ?_
        rintro e w9 ⟨rfl, hb9⟩
        have hbox9 := cell_later hb9 hbox8
        have hx9 := cell_later hb9 hx8
        have hy9 := cell_later hb9 hy8
        go_wp2_with fail
        refine (nmatch_at T (B.set k (!bx B k)) i a b _ 0 last n m1.out v2.out _ _ _ _ _ _ (hT8.out.below hb9) (hI8.out.below hb9)).mono ?_
        rintro e w10 ⟨rfl, hb10⟩
        have hbox10 := cell_later hb10 hbox9
        have hB10 := Below.on (Below.on hB8 hb9) hb10
        have hT10 := hide ((hT8.out.below hb9).below hb10)
        have hL10 := hide ((hL8.out.below hb9).below hb10)
        clear hbox9 hx9 hy9 hx8 hy8 hT8 hL8 hI8 hbox8
        go_wp2_with fail
        refine (nallM T B 0 1 last n q3'.out (by decide) _ _ _ _ _ _ hT10.out hL10.out).mono ?_
        rintro e w11 ⟨A11, c11, rfl, hI11, hb11⟩
        have hbox11 := cell_later hb11 hbox10
        have hB11 := Below.on hB10 hb11
        have hL11 := hide (hL10.out.below hb11)
        have hI11' := hide hI11
        clear hI11 hbox10 hT10 hL10 hb10 hb9
        have gp := (old hB11 _ _ hbl).trans (c2'.out i hi)
        obtain ⟨b1, o1, rfl, hb1l, hc1⟩ := hI11'.out.2.2 (by omega)
        obtain ⟨b2, o2, rfl, hb2l, hc2⟩ := hL11.out.2.2 (by omega)
        have hc1' : Hid (∀ j, j < n → w11.cell? ⟨b1, o1 + j, none⟩ = some (.bool (nmatF T j 0 1 last B))) := fun j hj => by rw [hc1 j hj, bx_map hj]
        have hc2' := hide hc2
        clear hc1 hc2 hI11' hL11
        obtain ⟨p, hpp⟩ := Int.eq_ofNat_of_zero_le hp
        have hpn : p < n := by have := (good_par hg'.out (by omega : i < T.length)).2; omega
        have hss : Hid (sibs T i = kids T p) := by show _ = _; unfold sibs; rw [if_neg (by omega), hpp]; rfl
        rw [hpp] at gp
        have g3h := hide (c3'.out p hpn)
        have hIk := hide (hC'.out p hpn).1
        rw [← hss.out] at g3h hIk
        generalize cA p = CA at g3h hIk
        generalize cC p = cc at g3h
        have hmem : Hid (∀ k, k < (sibs T i).length → ∃ r : Nat, ix (sibs T i) k = r ∧ r < n) := fun k hk => by
          obtain ⟨r, h1, h2, _⟩ := sibs_mem hg'.out (by omega : i < T.length) (ix_mem hk); exact ⟨r, h1, by omega⟩
        have hsuc : Hid (∀ (j q : Nat), j < (sibs T i).length → ix (sibs T i) j = q → oneN B (sibs T i) last (j + 1) = oneN B (sibs T i) last j + (if nmatF T q 0 1 last B = true then 1 else 0)) := fun j q hj hq => oneN_succ hg'.out (by omega) hj hq B last
        have hm64 := sibs_len hg'.out (by omega : i < T.length)
        generalize hsl : sibs T i = l at *
        have hm0 : 0 < l.length := by obtain ⟨j, h1, _⟩ := sibs_pos hg'.out (by omega : i < T.length); rw [hsl] at h1; omega
        obtain ⟨m, hm⟩ : ∃ m, l.length = m := ⟨_, rfl⟩
        rw [hm] at g3h hIk hmem hm64 hm0 hsuc
        have hm' := hide hm
        have hend : Hid (oneN B l last m = min (pfx B l m) 1) := by show _ = _; rw [← hm'.out]; exact oneN_end B l last
        obtain ⟨bk, ok, rfl, hbkl, hck⟩ := hIk.out.2.2 hm0
        have hck' := hide hck
        clear hck hpp hss hsl hm hp hIk
        go_wp2
        clear gp
        go_loopw [23, 24, 25] (fun x y s wr => ∃ j : Nat, j ≤ m ∧ s = .int .i64 j ∧ x = .int .i64 (oneN B l last j : Nat) ∧ y = .int .i64 (pfx B l j : Nat) ∧ ∃ q, w11.drewN q = wr) (fun _ _ s _ => m - (intOf s).toNat)
        case atStart => exact ⟨0, Nat.zero_le _, rfl, by rw [oneN_zero]; rfl, by rw [pfx_zero]; rfl, 0, rfl⟩
        case round =>
          obtain ⟨j, hj, rfl, rfl, rfl, q, rfl⟩ := hrel
          have hl1 := oneN_le B l last j
          have hl2 := pfx_le B l j
          have hD := below_drewN (Below.refl w11.heap.size w11) q
          have gk3 := (old hD _ _ (Nat.lt_of_lt_of_le hbl hB11.size)).trans ((old hB11 _ _ hbl).trans g3h.out)
          have hbxq := cell_later hD hbox11
          have hBq := below_drewN hB11 q
          by_cases hlt : j < m
          · obtain ⟨r, hr, hrn⟩ := hmem.out j hlt
            have gk := (old hBq _ _ hbkl).trans (hck'.out j hlt)
            have g1 := (old hD _ _ hb1l).trans (hc1'.out r hrn)
            have g2 := (old hD _ _ hb2l).trans (hc2'.out r hrn)
            have h1 := hide (hsuc.out j r hlt hr)
            have h2 := hide (pfx_succ B l j (by have := hm'.out; omega))
            have h3 : Hid (inb B (ix l j) = bx B r) := by show _ = _; rw [hr]; unfold inb; rw [Int.toNat_natCast]
            rw [hr] at gk
            clear hr hD
            cases ho1 : nmatF T r 0 1 last B <;> cases ho2 : bx B r
            all_goals
              rw [ho1] at g1
              rw [ho2] at g2
              have h1' := hide h1.out
              have h2' := hide h2.out
              rw [ho1] at h1'
              rw [h3.out, ho2] at h2'
              clear ho1 ho2
              go_wp2
              go_roundw
              case rel => exact ⟨j + 1, by omega, by go_num, by first | (rw [h1'.out]; done) | (rw [h1'.out]; go_num), by first | (rw [h2'.out]; done) | (rw [h2'.out]; go_num), q, rfl⟩
              case measure => simp [intOf]; omega
          · obtain rfl : m = j := by omega
            by_cases hp1 : pfx B l m ≤ 1
            · have he2 : (((oneN B l last m : Nat) : Int) == ((pfx B l m : Nat) : Int)) = true := by rw [hend.out]; simp; omega
              go_wp2
              go_ret
              exact ⟨rfl, hBq⟩
            · have he2 : (((oneN B l last m : Nat) : Int) == 1) = true := by rw [hend.out]; simp; omega
              go_wp2
              go_ret
              exact ⟨rfl, hBq⟩
    · obtain rfl : y = x := hset hik (fun h => hp0 h.1)
      have d3 : decide (0 ≤ par T i) = false := by simpa using hp0
      have hp : par T i < 0 := by omega
      clear hik hset hp0
      go_wp2
      go_quiet (fail)
      clear gpi gpk
      have hD := below_drewN (Below.refl (w6.setCell ⟨g, k, none⟩ (.bool (!bx B k))).heap.size (w6.setCell ⟨g, k, none⟩ (.bool (!bx B k)))) nq
      have hT8 := hide (hTs.out.below hD)
      have hL8 := hide (hLs.out.below hD)
      have hI8 := hide (hI6'.out.below hD)
      have hbox8 := cell_later hD hbox7
      have hx8 := cell_later hD hx7
      have hy8 := cell_later hD hy7
      have hB8 := Below.on hbS hD
      clear hD hbox7 hx7 hy7 hTs hLs hI6'
      generalize (w6.setCell ⟨g, k, none⟩ (.bool (!bx B k))).drewN nq = W at *
      go_wp2_with fail
      refine (nmatch_at T B i a b _ 0 last n m1.out v1.out _ _ _ _ _ _ hT8.out hL8.out).mono ?_
      rintro e w9 ⟨rfl, hb9⟩
      have hbox9 := cell_later hb9 hbox8
      have hx9 := cell_later hb9 hx8
      have hy9 := cell_later hb9 hy8
      go_wp2_with fail
      refine (nmatch_at T (B.set k (!bx B k)) i a b _ 0 last n m1.out v2.out _ _ _ _ _ _ (hT8.out.below hb9) (hI8.out.below hb9)).mono ?_
      rintro e w10 ⟨rfl, hb10⟩
      have hbox10 := cell_later hb10 hbox9
      have hB10 := Below.on (Below.on hB8 hb9) hb10
      have hT10 := hide ((hT8.out.below hb9).below hb10)
      have hL10 := hide ((hL8.out.below hb9).below hb10)
      clear hbox9 hx9 hy9 hx8 hy8 hT8 hL8 hI8 hbox8
      go_wp2_with fail
      refine (nallM T B 0 1 last n q3'.out (by decide) _ _ _ _ _ _ hT10.out hL10.out).mono ?_
      rintro e w11 ⟨A11, c11, rfl, hI11, hb11⟩
      have hbox11 := cell_later hb11 hbox10
      have hB11 := Below.on hB10 hb11
      have hL11 := hide (hL10.out.below hb11)
      have hI11' := hide hI11
      clear hI11 hbox10 hT10 hL10 hb10 hb9
      have gp := (old hB11 _ _ hbl).trans (c2'.out i hi)
      obtain ⟨b1, o1, rfl, hb1l, hc1⟩ := hI11'.out.2.2 (by omega)
      obtain ⟨b2, o2, rfl, hb2l, hc2⟩ := hL11.out.2.2 (by omega)
      have hc1' : Hid (∀ j, j < n → w11.cell? ⟨b1, o1 + j, none⟩ = some (.bool (nmatF T j 0 1 last B))) := fun j hj => by rw [hc1 j hj, bx_map hj]
      have hc2' := hide hc2
      clear hc1 hc2 hI11' hL11
      have g1 := hc1'.out i hi
      have g2 := hc2'.out i hi
      have ht := hide (top_one hg'.out (by omega : i < T.length) hp B last)
      rw [ht.out] at g1
      go_wp2
      cases hbb : bx B i
      all_goals
        rw [hbb] at g1 g2
        clear hbb
        go_quiet (fail)
        go_wp2
        go_ret
        exact ⟨rfl, below_drewN hB11 _⟩

theorem walk (A : Option Addr) (n c : Nat) (T : List ANode) (i k a b : Int) (last : Bool) (AB : Option Addr) (m cb : Nat) (B : List Bool) (w : World) (h : IsTree w A n T) (_ha : (-9223372036854775808 ≤ a ∧ a ≤ 9223372036854775807) ∧ (-9223372036854775808 ≤ b ∧ b ≤ 9223372036854775807)) (hL : IsBools w AB m B) :
    Calls Try.prog 13 #[.agg #[.slice A n c], .int .i64 i, .int .i64 k, .agg #[.int .i64 a, .int .i64 b], .bool last, .slice AB m cb] w fun e w' => e = .returned (.bool true) ∧ Below w.heap.size w w' := by
  by_cases q1 : askI T [i] = 0
  · by_cases q2 : askI T [k] = 0
    · by_cases q3 : tolE T m = 0
      · by_cases q4 : anbE a b = 0
        · obtain ⟨hg, hi⟩ := askI_zero.1 q1
          have hk := (askI_zero.1 q2).2 k (by simp)
          have hi := hi i (by simp)
          have hl := h.1
          have hm := (tolE_zero.1 q3).2
          obtain ⟨i, rfl⟩ := Int.eq_ofNat_of_zero_le hi.1
          obtain ⟨k, rfl⟩ := Int.eq_ofNat_of_zero_le hk.1
          obtain rfl : m = n := by omega
          refine walkIn A m c T i k a b last AB cb B w h hL hg (by omega) (by omega) ?_
          unfold anbE at q4
          by_cases hv : anbB a b = true
          · exact hv
          · rw [if_neg hv] at q4; omega
        · exact walk_out A n c T i k a b last AB m cb w h (.inr ⟨q1, .inr ⟨q2, .inr ⟨q3, q4⟩⟩⟩)
      · exact walk_out A n c T i k a b last AB m cb w h (.inr ⟨q1, .inr ⟨q2, .inl q3⟩⟩)
    · exact walk_out A n c T i k a b last AB m cb w h (.inr ⟨q1, .inl q2⟩)
  · exact walk_out A n c T i k a b last AB m cb w h (.inl q1)

set_option maxRecDepth 100000 in
theorem lifted (os : Os) (started : os.Started) (H : Type) (enc : TypeId × Value → H) :
    ReturnsInHanded {} Try.checked os 13 .any (Rows.nthOthersSpec.pre6 enc Try.prog Try.f13 Rows.nthOthersRow.domain false) (Rows.nthOthersSpec.post enc Try.prog Try.f13 false true false false) := by
  refine returnsInHanded_of_change (C := Try.checked) own started (by kernel_rfl) Try.func13
    (ChangeSpec.witness6 (enc := enc) (C := Try.checked) false ⟨#[], #[.agg #[.slice none 0 0], .int .i64 0, .int .i64 0, .agg #[.int .i64 0, .int .i64 0], .bool false, .slice none 0 0], []⟩ 8 (by kernel_rfl) (by kernel_rfl) (by kernel_rfl) (by kernel_rfl)) ?_
  intro W base args ds gs before hval0 hW hcnd _
  have hval : ∀ (j : Nat) t v, Try.f13.params[j]? = some t → args[j]? = some v → Value.okWide Try.prog W .any base t v := hval0
  have hW' := hW
  obtain ⟨p, q, hA0, hV, rfl, hfz, hnd⟩ := hW
  have hA : DataW.TrodAll enc Try.prog W 0 (fun _ => true) true Try.f13.params.toList args.toList ds p := hA0
  rw [Try.params13] at hA hval
  obtain ⟨v0, vs0, d0, ds0, p0, q0, hargs, rfl, rfl, h0, r0⟩ := trodAll_cons hA
  obtain ⟨v1, vs1, d1, ds1, p1, q1, rfl, rfl, rfl, h1, r1⟩ := trodAll_cons r0
  obtain ⟨v2, vs2, d2, ds2, p2, q2, rfl, rfl, rfl, h2, r2⟩ := trodAll_cons r1
  obtain ⟨v3, vs3, d3, ds3, p3, q3, rfl, rfl, rfl, h3, r3⟩ := trodAll_cons r2
  obtain ⟨v4, vs4, d4, ds4, p4, q4, rfl, rfl, rfl, h4, r4⟩ := trodAll_cons r3
  obtain ⟨v5, vs5, d5, ds5, p5, q5, rfl, rfl, rfl, h5, r5⟩ := trodAll_cons r4
  obtain ⟨rfl, rfl, rfl⟩ := trodAll_nil r5
  obtain rfl : args = #[v0, v1, v2, v3, v4, v5] := by cases args; simp_all
  obtain ⟨rfl, rfl⟩ := trodVars_none hV
  have lt0 : ∀ x ∈ p0, x.block < W.heap.size := by obtain ⟨m, hm⟩ := h0; exact DataW.trod_lt m _ _ _ hm
  have k0 := h0
  have lt1 : ∀ x ∈ p1, x.block < W.heap.size := by obtain ⟨m, hm⟩ := h1; exact DataW.trod_lt m _ _ _ hm
  have k1 := h1
  have lt2 : ∀ x ∈ p2, x.block < W.heap.size := by obtain ⟨m, hm⟩ := h2; exact DataW.trod_lt m _ _ _ hm
  have k2 := h2
  have lt3 : ∀ x ∈ p3, x.block < W.heap.size := by obtain ⟨m, hm⟩ := h3; exact DataW.trod_lt m _ _ _ hm
  have k3 := h3
  have lt4 : ∀ x ∈ p4, x.block < W.heap.size := by obtain ⟨m, hm⟩ := h4; exact DataW.trod_lt m _ _ _ hm
  have k4 := h4
  have lt5 : ∀ x ∈ p5, x.block < W.heap.size := by obtain ⟨m, hm⟩ := h5; exact DataW.trod_lt m _ _ _ hm
  have k5 := h5
  obtain ⟨A0, n0, c0, T0, rfl, hT0⟩ := tree_open (hval 0 _ v0 rfl rfl) h0
  obtain ⟨a1, rfl, rfl, rfl, w1⟩ := open_int Try.underlying3 (hval 1 _ v1 rfl rfl) h1
  obtain ⟨a2, rfl, rfl, rfl, w2⟩ := open_int Try.underlying3 (hval 2 _ v2 rfl rfl) h2
  obtain ⟨a3, b3, rfl, w3⟩ := anb_open (hval 3 _ v3 rfl rfl) h3
  obtain ⟨a4, rfl, rfl, rfl⟩ := Go.RowKit.open_bool Try.underlying4 (hval 4 _ v4 rfl rfl) h4
  obtain ⟨A5, n5, c5, xs5, rfl, hL5⟩ := bools_param (hval 5 _ v5 rfl rfl) h5
  clear hA0 hval0
  refine (walk A0 n0 c0 T0 a1 a2 a3 b3 a4 A5 n5 c5 xs5 W hT0   w3  hL5).mono fun e W' ⟨he, bel⟩ => ?_
  subst he
  exact ⟨_, rfl, _, _, _, [], _, [], hW', trodAll_mk1 (shut_bool Try.underlying4 _), (trodAll_cons_mk (Below.trod laidOut (by kernel_rfl) (of_decide_eq_true (by kernel_rfl)) k0 bel lt0) (trodAll_cons_mk (Below.trod laidOut (by kernel_rfl) (of_decide_eq_true (by kernel_rfl)) k1 bel lt1) (trodAll_cons_mk (Below.trod laidOut (by kernel_rfl) (of_decide_eq_true (by kernel_rfl)) k2 bel lt2) (trodAll_cons_mk (Below.trod laidOut (by kernel_rfl) (of_decide_eq_true (by kernel_rfl)) k3 bel lt3) (trodAll_cons_mk (Below.trod laidOut (by kernel_rfl) (of_decide_eq_true (by kernel_rfl)) k4 bel lt4) (trodAll_cons_mk (Below.trod laidOut (by kernel_rfl) (of_decide_eq_true (by kernel_rfl)) k5 bel lt5) trodAll_mk0)))))), rfl, bel.frame _, fun h => by cases h⟩

theorem proved : Rows.NthOthersSaid :=
  OpenClaim.holds_of_wide 13 Try.f13 rfl rfl rfl rfl rfl rfl rfl ⟨rfl, rfl, rfl, rfl, rfl⟩ rfl rfl rfl rfl rfl (by kernel_rfl) Try.func13 (by kernel_rfl)
    (of_decide_eq_true (by kernel_rfl)) (by unfold Func.isWrapper; first | (rw [if_pos (by decide +kernel)]; kernel_rfl) | (rw [if_neg (by decide +kernel)]; exact ⟨rfl, rfl⟩))
    (fun os started H enc _ => lifted os started H enc)
#print axioms proved
end Go.Proofs.Ytankambfobfnfaa.nthOthers
