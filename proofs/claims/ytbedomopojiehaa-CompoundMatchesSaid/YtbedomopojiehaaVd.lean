/- Walks: the error of a tree, a mode and a compound; whether an element matches a compound, by the program. Condition: the variable of the library that strings.Contains reads holds a number. -/
import Derived.Test.YtbedomopojiehaaVc
namespace Go.Proofs.Ytbedomopojiehaa
open Go.RowKit

def simK7 : Sim := ⟨7, ⟨#[]⟩, 0, ⟨#[]⟩, false, 0, 0, false, none, 0, 0⟩
def ccE (T : List ANode) (tag : ByteArray) (S : List Sim) (m : Int) : Int := if goodB T = true then (if modeB T m = true then ckC tag S else 2) else 8
def cmE (T : List ANode) (i : Int) (tag : ByteArray) (S : List Sim) (m : Int) (tn : Nat) : Int := if askI T [i] = 0 then (if ccE T tag S m = 0 then (if tn = S.length then 0 else 2) else ccE T tag S m) else askI T [i]
def cmV (T : List ANode) (i : Int) (tag : ByteArray) (S : List Sim) (m : Int) (B : List Bool) (tn : Nat) : Bool := if cmE T i tag S m tn = 0 then matC T i.toNat tag S m (bx B) S.length else false
theorem ccE_zero {T : List ANode} {tag : ByteArray} {S : List Sim} {m : Int} : ccE T tag S m = 0 ↔ goodB T = true ∧ modeB T m = true ∧ okC tag S := by
  unfold ccE
  by_cases h : goodB T = true
  · rw [if_pos h]
    by_cases h2 : modeB T m = true
    · rw [if_pos h2, ckC_zero]; simp [h, h2]
    · rw [if_neg h2]; simp [h2]
  · rw [if_neg h]; simp [h]
theorem smE7 (T : List ANode) (m : Int) : smE T simK7 m = if goodB T = true then (if modeB T m = true then 0 else 2) else 8 := by
  unfold smE
  rw [show chkS simK7 = 0 from rfl]
theorem sAll7_ok (T : List ANode) (m c0 : Int) (h1 : smE T simK7 m = c0) (A : Option Addr) (n c : Nat) (W : World) (h : IsTree W A n T) (hx : HasMax W) :
    Calls Try.prog 27 #[.agg #[.slice A n c], .agg #[.int .u8 7, .string ⟨#[]⟩, .int .u8 0, .string ⟨#[]⟩, .bool false, .int .i64 0, .int .i64 0, .bool false, .slice none 0 0], .int .i64 m] W
      fun e w' => ∃ (A' : Option Addr) (n' c' : Nat), e = .returned (.tuple #[.slice A' n' c', .int .i64 c0]) ∧ Below W.heap.size W w' := by
  have h3 := sAll_ok A n c T 7 ⟨#[]⟩ 0 ⟨#[]⟩ false 0 0 false none 0 0 m W h hx
  have e2 : smE T ⟨7, ⟨#[]⟩, 0, ⟨#[]⟩, false, 0, 0, false, none, 0, 0⟩ m = c0 := h1
  rw [e2] at h3
  refine h3.mono ?_
  rintro e w' ⟨A', c', rfl, hI, -, -, hb⟩
  exact ⟨A', _, c', rfl, hb⟩
set_option maxRecDepth 100000 in
theorem ccheck19_ok (A : Option Addr) (n c : Nat) (T : List ANode) (tag : ByteArray) (SA : Option Addr) (sn sc : Nat) (S : List Sim) (m : Int) (w : World) (h : IsTree w A n T) (hS0 : IsSims w SA sn S) (hmx : HasMax w) :
    Calls Try.prog 64 #[.agg #[.slice A n c], .agg #[.string tag, .slice SA sn sc], .int .i64 m] w fun r w' => r = .returned (.int .i64 (ccE T tag S m)) ∧ Below w.heap.size w w' := by
  have hT := hide h
  have hm' := hide hmx
  have hS := hide hS0
  have hB0 := below_alloc (below_alloc (Below.refl w.heap.size w) (.cells #[.slice A n c] 43)) (.cells #[.string tag, .slice SA sn sc] 65)
  have ht0 : ((w.alloc (.cells #[.slice A n c] 43)).alloc (.cells #[.string tag, .slice SA sn sc] 65)).cell? ⟨w.heap.size + 1, 0, none⟩ = some (.string tag) := by go_simp
  have htb0 : ((w.alloc (.cells #[.slice A n c] 43)).alloc (.cells #[.string tag, .slice SA sn sc] 65)).cell? ⟨w.heap.size + 1, 1, none⟩ = some (.slice SA sn sc) := by go_simp
  have h70 := smE7 T m
  clear h hmx hS0
  by_cases hg : goodB T = true
  · rw [if_pos hg] at h70
    by_cases hmd : modeB T m = true
    · rw [if_pos hmd] at h70
      have h7 := hide h70
      have hr : Hid (ccE T tag S m = ckC tag S) := by show _ = _; unfold ccE; rw [if_pos hg, if_pos hmd]
      clear hg hmd h70
      go_enter Try.func64, Try.ntmps64
      go_wp2_with fail
      refine (sAll7_ok T m 0 h7.out _ _ c _ (hT.out.below hB0) (hm'.out.below hB0)).mono ?_
      rintro e w1 ⟨A1, n1, c1, rfl, hb1⟩
      have hB1 := Below.on hB0 hb1
      have ht1 := cell_later hb1 ht0
      have htb1 := cell_later hb1 htb0
      clear hb1 ht0 htb0
      go_wp2_with fail
      refine (compCheck_ok tag SA sn sc S _ (hS.out.below hB1)).mono ?_
      rintro e w2 ⟨rfl, hb2⟩
      have hB2 := Below.on hB1 hb2
      go_wp2
      go_ret
      exact ⟨ret_int hr.out.symm, hB2⟩
    · rw [if_neg hmd] at h70
      have h7 := hide h70
      have hr : Hid (ccE T tag S m = 2) := by show _ = _; unfold ccE; rw [if_pos hg, if_neg hmd]
      clear hg hmd h70
      go_enter Try.func64, Try.ntmps64
      go_wp2_with fail
      refine (sAll7_ok T m 2 h7.out _ _ c _ (hT.out.below hB0) (hm'.out.below hB0)).mono ?_
      rintro e w1 ⟨A1, n1, c1, rfl, hb1⟩
      have hB1 := Below.on hB0 hb1
      go_wp2
      go_ret
      exact ⟨ret_int hr.out.symm, hB1⟩
  · rw [if_neg hg] at h70
    have h7 := hide h70
    have hr : Hid (ccE T tag S m = 8) := if_neg hg
    clear hg h70
    go_enter Try.func64, Try.ntmps64
    go_wp2_with fail
    refine (sAll7_ok T m 8 h7.out _ _ c _ (hT.out.below hB0) (hm'.out.below hB0)).mono ?_
    rintro e w1 ⟨A1, n1, c1, rfl, hb1⟩
    have hB1 := Below.on hB0 hb1
    go_wp2
    go_ret
    exact ⟨ret_int hr.out.symm, hB1⟩
theorem ccheck19_at (T : List ANode) (tag : ByteArray) (S : List Sim) (m c0 : Int) (h0 : ccE T tag S m = c0) (A : Option Addr) (n c : Nat) (SA : Option Addr) (sn sc : Nat) (w : World) (h : IsTree w A n T) (hS0 : IsSims w SA sn S) (hmx : HasMax w) :
    Calls Try.prog 64 #[.agg #[.slice A n c], .agg #[.string tag, .slice SA sn sc], .int .i64 m] w fun r w' => r = .returned (.int .i64 c0) ∧ Below w.heap.size w w' := by
  have := ccheck19_ok A n c T tag SA sn sc S m w h hS0 hmx
  rw [h0] at this
  exact this
set_option maxRecDepth 100000 in
set_option maxHeartbeats 2000000 in
theorem compMatch_ok (A : Option Addr) (n c : Nat) (T : List ANode) (i : Int) (tag : ByteArray) (SA : Option Addr) (sn sc : Nat) (S : List Sim) (m : Int) (TA : Option Addr) (tn tc : Nat) (B : List Bool) (w : World) (h : IsTree w A n T) (hS0 : IsSims w SA sn S) (hB' : IsBools w TA tn B) (hmx : HasMax w) :
    Calls Try.prog 37 #[.agg #[.slice A n c], .int .i64 i, .agg #[.string tag, .slice SA sn sc], .int .i64 m, .slice TA tn tc] w
      fun r w' => r = .returned (.tuple #[.bool (cmV T i tag S m B tn), .int .i64 (cmE T i tag S m tn)]) ∧ Below w.heap.size w w' := by
  have hT := hide h
  have hl := h.1
  have hm' := hide hmx
  have hS := hide hS0
  have hsl := hS0.1
  have hTB := hide hB'
  have hB0 := below_alloc (below_alloc (below_alloc (Below.refl w.heap.size w) (.cells #[.slice A n c] 43)) (.cells #[.string tag, .slice SA sn sc] 65)) (.cells #[.slice TA tn tc] 47)
  have hbox0 : (((w.alloc (.cells #[.slice A n c] 43)).alloc (.cells #[.string tag, .slice SA sn sc] 65)).alloc (.cells #[.slice TA tn tc] 47)).cell? ⟨w.heap.size, 0, none⟩ = some (.slice A n c) := by go_simp
  have ht0 : (((w.alloc (.cells #[.slice A n c] 43)).alloc (.cells #[.string tag, .slice SA sn sc] 65)).alloc (.cells #[.slice TA tn tc] 47)).cell? ⟨w.heap.size + 1, 0, none⟩ = some (.string tag) := by go_simp
  have htb0 : (((w.alloc (.cells #[.slice A n c] 43)).alloc (.cells #[.string tag, .slice SA sn sc] 65)).alloc (.cells #[.slice TA tn tc] 47)).cell? ⟨w.heap.size + 1, 1, none⟩ = some (.slice SA sn sc) := by go_simp
  have hp0 : (((w.alloc (.cells #[.slice A n c] 43)).alloc (.cells #[.string tag, .slice SA sn sc] 65)).alloc (.cells #[.slice TA tn tc] 47)).cell? ⟨w.heap.size + 1 + 1, 0, none⟩ = some (.slice TA tn tc) := by go_simp
  obtain ⟨dv, hdv0⟩ : ∃ x, depE T i = x := ⟨_, rfl⟩
  have hdv := hide hdv0
  clear h hmx hS0 hB' hdv0
  by_cases h0 : askI T [i] = 0
  · have hia := hide h0
    obtain ⟨cc, hcc0⟩ : ∃ x, ccE T tag S m = x := ⟨_, rfl⟩
    have hcc := hide hcc0
    by_cases h1 : cc = 0
    · subst h1
      obtain ⟨hg, hmd, hck⟩ := ccE_zero.1 hcc0
      have hir := (askI_zero.1 h0).2 i (by simp)
      obtain ⟨j, rfl⟩ := Int.eq_ofNat_of_zero_le hir.1
      have hj : j < n := by omega
      by_cases h2 : tn = sn
      · subst h2
        have hE : Hid (cmE T j tag S m tn = 0) := by show _ = _; unfold cmE; rw [if_pos h0, if_pos hcc0, if_pos hsl.symm]
        have hV : Hid (cmV T j tag S m B tn = matC T j tag S m (bx B) tn) := by show _ = _; unfold cmV; rw [if_pos hE.out, Int.toNat_natCast, hsl]
        have hg' := hide hg
        have hmd' := hide hmd
        have hck' := hide hck
        clear h0 hcc0 hir hg hmd hck
        go_enter Try.func37, Try.ntmps37
        go_wp2_with fail
        refine (depth_at T j dv 0 hia.out hdv.out _ _ c _ (hT.out.below hB0)).mono ?_
        rintro e w1 ⟨rfl, hb1⟩
        have hB1 := Below.on hB0 hb1
        have hbox1 := cell_later hb1 hbox0
        have ht1 := cell_later hb1 ht0
        have htb1 := cell_later hb1 htb0
        have hp1 := cell_later hb1 hp0
        clear hb1 hbox0 ht0 htb0 hp0
        go_wp2_with fail
        refine (ccheck19_at T tag S m 0 hcc.out _ _ c _ _ sc _ (hT.out.below hB1) (hS.out.below hB1) (hm'.out.below hB1)).mono ?_
        rintro e w2 ⟨rfl, hb2⟩
        have hB2 := Below.on hB1 hb2
        have hbox2 := cell_later hb2 hbox1
        have ht2 := cell_later hb2 ht1
        have htb2 := cell_later hb2 htb1
        have hp2 := cell_later hb2 hp1
        clear hb2 hbox1 ht1 htb1 hp1
        go_wp2_with fail
        have hp2' := hide hp2
        refine (compMatch1_ok _ _ c T j tag _ _ sc S m _ (bx B) _ (hT.out.below hB2) (hS.out.below hB2) hj hg'.out hmd'.out hck'.out (hm'.out.below hB2) (fun W hW q hq _ => (told1_ok _ TA tn tc B q W (cell_later hW hp2'.out) (hTB.out.below (Below.on hB2 hW)) hq).mono fun e w' h => ⟨h.1, by rw [h.2]; exact Below.refl _ _⟩)).mono ?_
        rintro e w3 ⟨rfl, hb3⟩
        have hB3 := Below.on hB2 hb3
        go_wp2
        go_ret2
        exact ⟨ret_bi hV.out.symm hE.out.symm, hB3⟩
      · have hE : Hid (cmE T j tag S m tn = 2) := by show _ = _; unfold cmE; rw [if_pos h0, if_pos hcc0, if_neg (by omega)]
        have hV : Hid (cmV T j tag S m B tn = false) := by show _ = _; unfold cmV; rw [if_neg (by rw [hE.out]; omega)]
        have g1 : ((tn : Int) != (sn : Int)) = true := by rw [bne_iff_ne]; omega
        clear h0 hcc0 hir hg hmd hck h2
        go_enter Try.func37, Try.ntmps37
        go_wp2_with fail
        refine (depth_at T j dv 0 hia.out hdv.out _ _ c _ (hT.out.below hB0)).mono ?_
        rintro e w1 ⟨rfl, hb1⟩
        have hB1 := Below.on hB0 hb1
        have hbox1 := cell_later hb1 hbox0
        have ht1 := cell_later hb1 ht0
        have htb1 := cell_later hb1 htb0
        have hp1 := cell_later hb1 hp0
        clear hb1 hbox0 ht0 htb0 hp0
        go_wp2_with fail
        refine (ccheck19_at T tag S m 0 hcc.out _ _ c _ _ sc _ (hT.out.below hB1) (hS.out.below hB1) (hm'.out.below hB1)).mono ?_
        rintro e w2 ⟨rfl, hb2⟩
        have hB2 := Below.on hB1 hb2
        have hbox2 := cell_later hb2 hbox1
        have ht2 := cell_later hb2 ht1
        have htb2 := cell_later hb2 htb1
        have hp2 := cell_later hb2 hp1
        clear hb2 hbox1 ht1 htb1 hp1
        go_wp2
        go_ret2
        exact ⟨ret_bi hV.out.symm hE.out.symm, hB2⟩
    · have hE : Hid (cmE T i tag S m tn = cc) := by show _ = _; unfold cmE; rw [if_pos h0, if_neg (by rw [hcc0]; exact h1), hcc0]
      have hV : Hid (cmV T i tag S m B tn = false) := by show _ = _; unfold cmV; rw [if_neg (by rw [hE.out]; exact h1)]
      have hcb : (cc != 0) = true := by rw [bne_iff_ne]; exact h1
      clear h0 hcc0 h1
      go_enter Try.func37, Try.ntmps37
      go_wp2_with fail
      refine (depth_at T i dv 0 hia.out hdv.out _ _ c _ (hT.out.below hB0)).mono ?_
      rintro e w1 ⟨rfl, hb1⟩
      have hB1 := Below.on hB0 hb1
      have hbox1 := cell_later hb1 hbox0
      have ht1 := cell_later hb1 ht0
      have htb1 := cell_later hb1 htb0
      have hp1 := cell_later hb1 hp0
      clear hb1 hbox0 ht0 htb0 hp0
      go_wp2_with fail
      refine (ccheck19_at T tag S m cc hcc.out _ _ c _ _ sc _ (hT.out.below hB1) (hS.out.below hB1) (hm'.out.below hB1)).mono ?_
      rintro e w2 ⟨rfl, hb2⟩
      have hB2 := Below.on hB1 hb2
      have hbox2 := cell_later hb2 hbox1
      have ht2 := cell_later hb2 ht1
      have htb2 := cell_later hb2 htb1
      have hp2 := cell_later hb2 hp1
      clear hb2 hbox1 ht1 htb1 hp1
      go_wp2
      go_ret2
      exact ⟨ret_bi hV.out.symm hE.out.symm, hB2⟩
  · obtain ⟨c1, hc1⟩ : ∃ x, askI T [i] = x := ⟨_, rfl⟩
    have hcz : ¬ c1 = 0 := by rw [← hc1]; exact h0
    have hE : Hid (cmE T i tag S m tn = c1) := by show _ = _; unfold cmE; rw [if_neg h0, hc1]
    have hV : Hid (cmV T i tag S m B tn = false) := by show _ = _; unfold cmV; rw [if_neg (by rw [hE.out]; exact hcz)]
    have hia := hide hc1
    have hcb : (c1 != 0) = true := by rw [bne_iff_ne]; exact hcz
    clear h0 hc1 hcz
    go_enter Try.func37, Try.ntmps37
    go_wp2_with fail
    refine (depth_at T i dv c1 hia.out hdv.out _ _ c _ (hT.out.below hB0)).mono ?_
    rintro e w1 ⟨rfl, hb1⟩
    have hB1 := Below.on hB0 hb1
    have hbox1 := cell_later hb1 hbox0
    have ht1 := cell_later hb1 ht0
    have htb1 := cell_later hb1 htb0
    have hp1 := cell_later hb1 hp0
    clear hb1 hbox0 ht0 htb0 hp0
    go_wp2
    go_ret2
    exact ⟨ret_bi hV.out.symm hE.out.symm, hB1⟩
end Go.Proofs.Ytbedomopojiehaa
