/- Walks: the errors of an element and of what is told, by the reference. No condition. -/
import Derived.Test.YtaliekkdamghbaaCt
namespace Go.Proofs.Ytaliekkdamghbaa
open Go.RowKit

set_option maxRecDepth 100000 in
theorem rcask_ok (A B C : Option Addr) (n c m d k e : Nat) (T : List ANode) (i : Int) (cs : List Int) (H : List (List Bool)) (w : World) (h : IsTree w A n T) (hcs : IsU8 w B m cs) (hH : IsBB w C k H) :
    Calls Try.prog 29 #[.agg #[.slice A n c], .int .i64 i, .slice B m d, .slice C k e] w fun r w' => r = .returned (.int .i64 (cask T i cs H)) ∧ Below w.heap.size w w' := by
  have hcs' := hide hcs
  have hH' := hide hH
  clear hcs hH
  have hT := hide h
  have hl := h.1
  clear h
  have hB0 := below_alloc (Below.refl w.heap.size w) (.cells #[.slice A n c] 24)
  have hbox0 : (w.alloc (.cells #[.slice A n c] 24)).cell? ⟨w.heap.size, 0, none⟩ = some (.slice A n c) := by go_simp
  by_cases h0 : askI T [i] = 0
  · have hq : Hid (cask T i cs H = cchk T cs H) := if_pos h0
    have h0' := hide h0
    clear h0
    go_enter Try.func29, Try.ntmps29
    go_wp2_with fail
    have hx := rasked_ok _ _ c T i _ (hT.out.below hB0)
    rw [h0'.out] at hx
    refine hx.mono ?_
    clear hx
    rintro e w1 ⟨rfl, hb1⟩
    have hbox1 := cell_later hb1 hbox0
    have hB1 := Below.on hB0 hb1
    go_wp2_with fail
    refine (rccheck_ok _ _ _ _ c _ _ _ _ T cs H _ (hT.out.below hB1) (hcs'.out.below hB1) (hH'.out.below hB1)).mono ?_
    rintro e w2 ⟨rfl, hb2⟩
    go_wp2
    go_ret
    exact ⟨ret_int hq.out.symm, Below.on hB1 hb2⟩
  · have hq : Hid (cask T i cs H = askI T [i]) := if_neg h0
    have h0' : (askI T [i] != 0) = true := by simp [h0]
    clear h0
    go_enter Try.func29, Try.ntmps29
    go_wp2_with fail
    refine (rasked_ok _ _ _ T _ _ (hT.out.below hB0)).mono ?_
    rintro e w1 ⟨rfl, hb1⟩
    have hbox1 := cell_later hb1 hbox0
    have hB1 := Below.on hB0 hb1
    go_wp2_with fail
    refine (rasked_ok _ _ _ T _ _ (hT.out.below hB1)).mono ?_
    rintro e w2 ⟨rfl, hb2⟩
    have hbox2 := cell_later hb2 hbox1
    have hB2 := Below.on hB1 hb2
    go_wp2
    go_ret
    exact ⟨ret_int hq.out.symm, hB2⟩
end Go.Proofs.Ytaliekkdamghbaa
