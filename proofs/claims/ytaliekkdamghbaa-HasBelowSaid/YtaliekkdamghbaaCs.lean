/- Walks: All and Match, by the program. Condition: what is told is not great. -/
import Derived.Test.YtaliekkdamghbaaCr
namespace Go.Proofs.Ytaliekkdamghbaa
open Go.RowKit

def allE (T : List ANode) (cs : List Int) (H : List (List Bool)) : List Bool := if cchk T cs H = 0 then rchL T cs H cs.length else []
def matE (T : List ANode) (i : Int) (cs : List Int) (H : List (List Bool)) : Bool := if cask T i cs H = 0 then rchF T cs H cs.length i.toNat else false
/-- A list of truth values and an error that come back. -/
def MadeBoolsE (w : World) (xs : List Bool) (code : Int) (e : Ending) (w' : World) : Prop :=
  ∃ (A : Option Addr) (c : Nat), e = .returned (.tuple #[.slice A xs.length c, .int .i64 code]) ∧ IsBools w' A xs.length xs ∧ xs.length ≤ c ∧ c ≤ maxLen ∧ Below w.heap.size w w'
theorem madeBoolsE_nil {w w' : World} {code : Int} (hb : Below w.heap.size w w') : MadeBoolsE w [] code (.returned (.tuple #[.slice none 0 0, .int .i64 code])) w' :=
  ⟨none, 0, rfl, ⟨rfl, by decide, fun h => absurd h (by decide)⟩, Nat.le_refl _, by unfold maxLen; omega, hb⟩
theorem told_len {n : Nat} {cs : List Int} {H : List (List Bool)} (h : toldB n cs H = true) : H.length = cs.length + 1 ∧ cs.length ≤ 63 := by
  obtain ⟨t1, t2, t3, -⟩ := (toldB_iff _ _ _).1 h
  omega

set_option maxRecDepth 100000 in
theorem ccheck1_ok (A B C : Option Addr) (n c m d k e : Nat) (T : List ANode) (i : Int) (cs : List Int) (H : List (List Bool)) (w : World) (h : IsTree w A n T) (hcs : IsU8 w B m cs) (hH : IsBB w C k H) :
    Calls Try.prog 47 #[.agg #[.slice A n c], .int .i64 i, .slice B m d, .slice C k e] w fun r w' => r = .returned (.int .i64 (cask T i cs H)) ∧ Below w.heap.size w w' := by
  have hcs' := hide hcs
  have hH' := hide hH
  clear hcs hH
  have hT := hide h
  have hl := h.1
  clear h
  have hB0 := below_alloc (Below.refl w.heap.size w) (.cells #[.slice A n c] 24)
  have hbox0 : (w.alloc (.cells #[.slice A n c] 24)).cell? ⟨w.heap.size, 0, none⟩ = some (.slice A n c) := by go_simp
  by_cases h0 : askI T [i] = 0
  · have hq : Hid (cask T i cs H = cchk T cs H) := if_pos h0
    have h0' := hide h0
    clear h0
    go_enter Try.func47, Try.ntmps47
    go_wp2_with fail
    have hx := depth_ok _ _ c T i _ (hT.out.below hB0)
    rw [h0'.out] at hx
    refine hx.mono ?_
    clear hx
    rintro e w1 ⟨rfl, hb1⟩
    have hbox1 := cell_later hb1 hbox0
    have hB1 := Below.on hB0 hb1
    go_wp2_with fail
    refine (ccheck_ok _ _ _ _ c _ _ _ _ T cs H _ (hT.out.below hB1) (hcs'.out.below hB1) (hH'.out.below hB1)).mono ?_
    rintro e w2 ⟨rfl, hb2⟩
    go_wp2
    go_ret
    exact ⟨ret_int hq.out.symm, Below.on hB1 hb2⟩
  · have hq : Hid (cask T i cs H = askI T [i]) := if_neg h0
    have h0' : (askI T [i] != 0) = true := by simp [h0]
    clear h0
    go_enter Try.func47, Try.ntmps47
    go_wp2_with fail
    refine (depth_ok _ _ _ T _ _ (hT.out.below hB0)).mono ?_
    rintro e w1 ⟨rfl, hb1⟩
    have hbox1 := cell_later hb1 hbox0
    have hB1 := Below.on hB0 hb1
    go_wp2
    go_ret
    exact ⟨ret_int hq.out.symm, hB1⟩

set_option maxRecDepth 100000 in
set_option maxHeartbeats 1000000 in
theorem call_ok (A B C : Option Addr) (n c m d k e : Nat) (T : List ANode) (cs : List Int) (H : List (List Bool)) (w : World) (h : IsTree w A n T) (hcs : IsU8 w B m cs) (hH : IsBB w C k H) :
    Calls Try.prog 19 #[.agg #[.slice A n c], .slice B m d, .slice C k e] w (MadeBoolsE w (allE T cs H) (cchk T cs H)) := by
  have hcs' := hide hcs
  have hH' := hide hH
  have hml := hcs.1
  have hkl := hH.1
  clear hcs hH
  have hT := hide h
  have hl := h.1
  clear h
  have hB0 := below_alloc (Below.refl w.heap.size w) (.cells #[.slice A n c] 24)
  have hbox0 : (w.alloc (.cells #[.slice A n c] 24)).cell? ⟨w.heap.size, 0, none⟩ = some (.slice A n c) := by go_simp
  by_cases h0 : cchk T cs H = 0
  · obtain ⟨hg, ht⟩ := cchk_zero.1 h0
    obtain ⟨ht1, ht2⟩ := told_len ht
    obtain rfl : k = m + 1 := by omega
    have hq : Hid (allE T cs H = rchL T cs H m) := by show _ = _; unfold allE; rw [if_pos h0, hml]
    have h0' := hide h0
    have hg' := hide hg
    have ht' := hide ht
    have hrr := hide (rchR_row T cs H (k := m) (by omega))
    have hrl := hide (rchL_len T cs H m)
    have hall := hide (fun j (hj : j < m + 1) => by rw [rchR_row T cs H (k := j) (by omega), rchL_len] : ∀ j, j < m + 1 → (rowB (rchR T cs H) j).length = T.length)
    have hn64 : T.length ≤ 64 := ((goodB_iff T).1 hg).2.1
    rw [h0, hq.out]
    clear h0 hg ht
    go_enter Try.func19, Try.ntmps19
    go_wp2_with fail
    have hx := ccheck_ok _ _ _ _ c _ d _ e T cs H _ (hT.out.below hB0) (hcs'.out.below hB0) (hH'.out.below hB0)
    rw [h0'.out] at hx
    refine hx.mono ?_
    clear hx
    rintro e1 w1 ⟨rfl, hb1⟩
    have hbox1 := cell_later hb1 hbox0
    have hB1 := Below.on hB0 hb1
    go_wp2_with fail
    refine (reached_ok _ _ _ _ c _ d e T cs H _ (hT.out.below hB1) (hcs'.out.below hB1) (hH'.out.below hB1) hg'.out ht'.out).mono ?_
    rintro e2 w2 ⟨A2, c2, rfl, hO2, hb2⟩
    obtain ⟨g, cap, hv, o1, o2, o3, o4, hor⟩ := hO2.open (by omega) (fun j hj => by rw [hall.out j hj]; omega)
    injection hv with v1 v2 v3
    subst v1 v3
    obtain ⟨RA, RC, r1, r2, r3, r4⟩ := hor m (by omega)
    rw [hrr.out] at r1 r2 r3
    rw [Nat.zero_add] at r1
    have r2' := hide r2
    have hrl2 : (rchL T cs H m).length ≤ 9223372036854775807 := by rw [hrl.out]; omega
    have hB2 := Below.on hB1 hb2
    have o2' : c2 ≤ 9223372036854775807 := by unfold maxLen at o2; omega
    clear hor r2 hO2 v2
    go_wp2
    go_ret2
    exact ⟨RA, RC, rfl, r2'.out, r3, r4, hB2⟩
  · have hq : Hid (allE T cs H = []) := if_neg h0
    have h0' : (cchk T cs H != 0) = true := by simp [h0]
    rw [hq.out]
    clear h0
    go_enter Try.func19, Try.ntmps19
    go_wp2_with fail
    refine (ccheck_ok _ _ _ _ _ _ _ _ _ T cs H _ (hT.out.below hB0) (hcs'.out.below hB0) (hH'.out.below hB0)).mono ?_
    rintro e w1 ⟨rfl, hb1⟩
    have hbox1 := cell_later hb1 hbox0
    have hB1 := Below.on hB0 hb1
    go_wp2
    go_ret2
    exact madeBoolsE_nil hB1
set_option maxRecDepth 100000 in
set_option maxHeartbeats 1000000 in
theorem cmatch_ok (A B C : Option Addr) (n c m d k e : Nat) (T : List ANode) (i : Int) (cs : List Int) (H : List (List Bool)) (w : World) (h : IsTree w A n T) (hcs : IsU8 w B m cs) (hH : IsBB w C k H) :
    Calls Try.prog 21 #[.agg #[.slice A n c], .int .i64 i, .slice B m d, .slice C k e] w fun r w' => r = .returned (.tuple #[.bool (matE T i cs H), .int .i64 (cask T i cs H)]) ∧ Below w.heap.size w w' := by
  have hcs' := hide hcs
  have hH' := hide hH
  have hml := hcs.1
  have hkl := hH.1
  clear hcs hH
  have hT := hide h
  have hl := h.1
  clear h
  have hB0 := below_alloc (Below.refl w.heap.size w) (.cells #[.slice A n c] 24)
  have hbox0 : (w.alloc (.cells #[.slice A n c] 24)).cell? ⟨w.heap.size, 0, none⟩ = some (.slice A n c) := by go_simp
  by_cases h0 : cask T i cs H = 0
  · obtain ⟨hg, hir, ht⟩ := cask_zero.1 h0
    obtain ⟨ht1, ht2⟩ := told_len ht
    obtain ⟨j, rfl⟩ := Int.eq_ofNat_of_zero_le hir.1
    have hj : j < n := by omega
    obtain rfl : k = m + 1 := by omega
    have hq : Hid (matE T j cs H = rchF T cs H m j) := by show _ = _; unfold matE; rw [if_pos h0, hml, Int.toNat_natCast]
    have h0' := hide h0
    have hg' := hide hg
    have ht' := hide ht
    have hrr := hide (rchR_row T cs H (k := m) (by omega))
    have hrl := hide (rchL_len T cs H m)
    have hbx := hide (rchL_bx T cs H m (i := j) (by omega))
    have hall := hide (fun j (hj : j < m + 1) => by rw [rchR_row T cs H (k := j) (by omega), rchL_len] : ∀ j, j < m + 1 → (rowB (rchR T cs H) j).length = T.length)
    have hn64 : T.length ≤ 64 := ((goodB_iff T).1 hg).2.1
    rw [h0, hq.out]
    clear h0 hg ht hir
    go_enter Try.func21, Try.ntmps21
    go_wp2_with fail
    have hx := ccheck1_ok _ _ _ _ c _ d _ e T j cs H _ (hT.out.below hB0) (hcs'.out.below hB0) (hH'.out.below hB0)
    rw [h0'.out] at hx
    refine hx.mono ?_
    clear hx
    rintro e1 w1 ⟨rfl, hb1⟩
    have hbox1 := cell_later hb1 hbox0
    have hB1 := Below.on hB0 hb1
    go_wp2_with fail
    refine (reached_ok _ _ _ _ c _ d e T cs H _ (hT.out.below hB1) (hcs'.out.below hB1) (hH'.out.below hB1) hg'.out ht'.out).mono ?_
    rintro e2 w2 ⟨A2, c2, rfl, hO2, hb2⟩
    obtain ⟨g, cap, hv, o1, o2, o3, o4, hor⟩ := hO2.open (by omega) (fun j hj => by rw [hall.out j hj]; omega)
    injection hv with v1 v2 v3
    subst v1 v3
    obtain ⟨RA, RC, r1, r2, r3, r4⟩ := hor m (by omega)
    rw [hrr.out, hrl.out, hl] at r1 r2 r3
    rw [Nat.zero_add] at r1
    obtain ⟨-, -, hro⟩ := r2
    obtain ⟨rb, ro, rfl, hrb, hrc⟩ := hro (by omega)
    have gj := hrc j hj
    rw [hbx.out] at gj
    have hB2 := Below.on hB1 hb2
    have o2' : c2 ≤ 9223372036854775807 := by unfold maxLen at o2; omega
    clear hor hO2 v2 hrc hro
    go_wp2
    go_ret2
    exact ⟨rfl, hB2⟩
  · have hq : Hid (matE T i cs H = false) := if_neg h0
    have h0' : (cask T i cs H != 0) = true := by simp [h0]
    rw [hq.out]
    clear h0
    go_enter Try.func21, Try.ntmps21
    go_wp2_with fail
    refine (ccheck1_ok _ _ _ _ _ _ _ _ _ T _ cs H _ (hT.out.below hB0) (hcs'.out.below hB0) (hH'.out.below hB0)).mono ?_
    rintro e w1 ⟨rfl, hb1⟩
    have hbox1 := cell_later hb1 hbox0
    have hB1 := Below.on hB0 hb1
    go_wp2
    go_ret2
    exact ⟨rfl, hB1⟩
end Go.Proofs.Ytaliekkdamghbaa
