/- The errors of links, and elements that are nearly links. No condition. -/
import Derived.Test.YtfiiikbbiimdiaaOpen
import Derived.Test.YtfiiikbbiimdiaaAset
import Derived.Test.YtfiiikbbiimdiaaEx17
namespace Go.Proofs.Ytfiiikbbiimdiaa.linkNames
open Go.ChangeShapes Go.WideShapes Go.ChangeAt Go.RowKit

theorem isTree_nil (w : World) : IsTree w none 0 [] := ⟨rfl, by omega, fun x hx => by simp at hx, fun h => absurd h (by omega)⟩
theorem is_at (T : List ANode) (i : Int) (v : Bool) (c0 : Int) (h0 : askI T [i] = c0) (hl : isE T i = v) (A : Option Addr) (n c : Nat) (w : World) (h : IsTree w A n T) :
    Calls Try.prog 25 #[.agg #[.slice A n c], .int .i64 i] w fun e w' => e = .returned (.tuple #[.bool v, .int .i64 c0]) ∧ Below w.heap.size w w' := by
  have := linkIs_ok A n c T i w h
  rw [hl, h0] at this
  exact this
theorem href_at (T : List ANode) (i : Int) (v : ByteArray) (c0 : Int) (h0 : hrefE T i = c0) (hl : hrefV T i = v) (A : Option Addr) (n c : Nat) (w : World) (h : IsTree w A n T) :
    Calls Try.prog 27 #[.agg #[.slice A n c], .int .i64 i] w fun e w' => e = .returned (.tuple #[.string v, .int .i64 c0]) ∧ Below w.heap.size w w' := by
  have := linkHref_ok A n c T i w h
  rw [hl, h0] at this
  exact this
theorem set_at (T : List ANode) (i : Int) (s v : ByteArray) (h0 : setE T i s v = 0) (hl : (setT T i s v).length = 5) (hs : s.size ≤ 9223372036854775807) (hv : v.size ≤ 9223372036854775807) (A : Option Addr) (n c : Nat) (w : World) (h : IsTree w A n T) :
    Calls Try.prog 42 #[.agg #[.slice A n c], .int .i64 i, .string s, .string v] w fun e w' => ∃ A' c', e = .returned (.tuple #[.agg #[.slice A' 5 c'], .int .i64 0]) ∧ IsTree w' A' 5 (setT T i s v) ∧ Below w.heap.size w w' := by
  refine (aset_ok A n c T i s v w h hs hv).mono ?_
  rintro e w' ⟨A', c', rfl, -, hT, hb⟩
  rw [hl] at hT
  exact ⟨A', c', by rw [hl, h0], hT, hb⟩
def xE : List ANode := setT ex17T 3 ⟨#[104, 114, 101, 102]⟩ ⟨#[]⟩
def xO : List ANode := setT ex17T 2 ⟨#[104, 114, 101, 102]⟩ ⟨#[121]⟩
def xN : List ANode := setT ex17T 3 ⟨#[110, 97, 109, 101]⟩ ⟨#[121]⟩

set_option maxRecDepth 100000 in
set_option maxHeartbeats 4000000 in
theorem walk (w : World) :
    Calls Try.prog 15 #[] w fun e w' => e = .returned (.bool true) ∧ Below w.heap.size w w' := by
  go_enter Try.func15, Try.ntmps15
  go_wp2
  go_loopw [1] (fun s wr => ∃ k : Nat, k ≤ 2 ∧ s = .int .i64 k ∧ Below w.heap.size w wr) (fun s _ => 2 - (intOf s).toNat)
  case atStart => exact ⟨0, by omega, rfl, Below.refl _ _⟩
  case round =>
    obtain ⟨k, hk, rfl, hb0⟩ := hrel
    rcases (by omega : k = 0 ∨ k = 1 ∨ k = 2) with rfl | rfl | rfl
    · go_wp2_with fail
      refine (example17_ok _).mono ?_
      rintro e w1 ⟨A, c, rfl, -, hb1⟩
      have hT := isTree_nil w1
      have hk1 : 0 + 1 ≤ 2 := by omega
      have hbz : Below w1.heap.size w1 (((w1.alloc (.cells #[.slice none 0 0, .slice A 5 c] 24)).alloc (.cells #[.slice none 0 0] 24)).alloc (.cells #[.int .i64 8, .int .i64 2] 27)) := below_alloc (below_alloc (below_alloc (Below.refl _ _) _) _) _
      have hbxz : (((w1.alloc (.cells #[.slice none 0 0, .slice A 5 c] 24)).alloc (.cells #[.slice none 0 0] 24)).alloc (.cells #[.int .i64 8, .int .i64 2] 27)).cell? ⟨w1.heap.size + 1, 0, none⟩ = some (.slice none 0 0) := by go_simp
      go_wp2_with fail
      refine (is_at [] 5 false 8 (by kernel_rfl) (by kernel_rfl) _ _ _ _ (hT.below hbz)).mono ?_
      rintro e u1 ⟨rfl, hc1⟩
      have hbx1 := cell_later hc1 hbxz
      have hB1 := Below.on hbz hc1
      go_wp2_with fail
      refine (href_at [] (-1) .empty 8 (by kernel_rfl) (by kernel_rfl) _ _ _ _ (hT.below hB1)).mono ?_
      rintro e u2 ⟨rfl, hc2⟩
      have hbx2 := cell_later hc2 hbx1
      have hB2 := Below.on hB1 hc2
      go_wp2_with fail
      refine (near_at [] 5 0 8 (by kernel_rfl) (by kernel_rfl) _ _ _ _ (hT.below hB2)).mono ?_
      rintro e u3 ⟨rfl, hc3⟩
      have hbx3 := cell_later hc3 hbx2
      have hB3 := Below.on hB2 hc3
      go_wp2_with fail
      refine (links_at [] (-1) [] 8 (by kernel_rfl) (by kernel_rfl) _ _ _ _ (hT.below hB3)).mono ?_
      rintro e u4 ⟨A9, c9, rfl, -, hc4⟩
      have hB4 := Below.on hB3 hc4
      go_wp2
      go_roundw
      case rel => exact ⟨_, hk1, by go_num, Below.on (Below.on hb0 hb1) hB4⟩
      case measure => simp [intOf]
    · go_wp2_with fail
      refine (example17_ok _).mono ?_
      rintro e w1 ⟨A, c, rfl, hT, hb1⟩
      have hk1 : 1 + 1 ≤ 2 := by omega
      have hbz : Below w1.heap.size w1 (((w1.alloc (.cells #[.slice none 0 0, .slice A 5 c] 24)).alloc (.cells #[.slice A 5 c] 24)).alloc (.cells #[.int .i64 8, .int .i64 2] 27)) := below_alloc (below_alloc (below_alloc (Below.refl _ _) _) _) _
      have hbxz : (((w1.alloc (.cells #[.slice none 0 0, .slice A 5 c] 24)).alloc (.cells #[.slice A 5 c] 24)).alloc (.cells #[.int .i64 8, .int .i64 2] 27)).cell? ⟨w1.heap.size + 1, 0, none⟩ = some (.slice A 5 c) := by go_simp
      go_wp2_with fail
      refine (is_at ex17T 5 false 2 (by kernel_rfl) (by kernel_rfl) _ _ _ _ (hT.below hbz)).mono ?_
      rintro e u1 ⟨rfl, hc1⟩
      have hbx1 := cell_later hc1 hbxz
      have hB1 := Below.on hbz hc1
      go_wp2_with fail
      refine (href_at ex17T (-1) .empty 2 (by kernel_rfl) (by kernel_rfl) _ _ _ _ (hT.below hB1)).mono ?_
      rintro e u2 ⟨rfl, hc2⟩
      have hbx2 := cell_later hc2 hbx1
      have hB2 := Below.on hB1 hc2
      go_wp2_with fail
      refine (near_at ex17T 5 0 2 (by kernel_rfl) (by kernel_rfl) _ _ _ _ (hT.below hB2)).mono ?_
      rintro e u3 ⟨rfl, hc3⟩
      have hbx3 := cell_later hc3 hbx2
      have hB3 := Below.on hB2 hc3
      go_wp2_with fail
      refine (links_at ex17T (-1) [] 2 (by kernel_rfl) (by kernel_rfl) _ _ _ _ (hT.below hB3)).mono ?_
      rintro e u4 ⟨A9, c9, rfl, -, hc4⟩
      have hB4 := Below.on hB3 hc4
      go_wp2
      go_roundw
      case rel => exact ⟨_, hk1, by go_num, Below.on (Below.on hb0 hb1) hB4⟩
      case measure => simp [intOf]
    · go_wp2_with fail
      refine (example17_ok _).mono ?_
      rintro e w1 ⟨A, c, rfl, hT, hb1⟩
      have hT := hide (hT.below (below_alloc (Below.refl _ _) (.cells #[.slice A 5 c] 24)))
      have hW := below_alloc hb1 (.cells #[.slice A 5 c] 24)
      have hB1 := Below.refl (w1.alloc (.cells #[.slice A 5 c] 24)).heap.size (w1.alloc (.cells #[.slice A 5 c] 24))
      have hbox1 : (w1.alloc (.cells #[.slice A 5 c] 24)).cell? ⟨w1.heap.size, 0, none⟩ = some (.slice A 5 c) := by go_simp
      go_wp2_with fail
      refine (href_at ex17T 3 .empty 6 (by kernel_rfl) (by kernel_rfl) _ _ _ _ (hT.out.below hB1)).mono ?_
      rintro e w2 ⟨rfl, hb2⟩
      have hbox2 := cell_later hb2 hbox1
      have hB2 := Below.on hB1 hb2
      go_wp2_with fail
      refine (href_at ex17T 0 .empty 6 (by kernel_rfl) (by kernel_rfl) _ _ _ _ (hT.out.below hB2)).mono ?_
      rintro e w3 ⟨rfl, hb3⟩
      have hbox3 := cell_later hb3 hbox2
      have hB3 := Below.on hB2 hb3
      go_wp2_with fail
      refine (href_at ex17T 4 ⟨#[120]⟩ 0 (by kernel_rfl) (by kernel_rfl) _ _ _ _ (hT.out.below hB3)).mono ?_
      rintro e w4 ⟨rfl, hb4⟩
      have hbox4 := cell_later hb4 hbox3
      have hB4 := Below.on hB3 hb4
      go_wp2_with fail
      refine (set_at ex17T 3 ⟨#[104, 114, 101, 102]⟩ ⟨#[]⟩ (by kernel_rfl) (by kernel_rfl) (by decide) (by decide) _ _ _ _ (hT.out.below hB4)).mono ?_
      rintro e w5 ⟨A5, c5, rfl, hX5, hb5⟩
      have hbox5 := cell_later (below_alloc hb5 (.cells #[.slice A5 5 c5] 24)) hbox4
      have hB5 := below_alloc (Below.on hB4 hb5) (.cells #[.slice A5 5 c5] 24)
      have hX := hide (hX5.below (below_alloc (Below.refl _ _) (.cells #[.slice A5 5 c5] 24)))
      have hy5 : (w5.alloc (.cells #[.slice A5 5 c5] 24)).cell? ⟨w5.heap.size, 0, none⟩ = some (.slice A5 5 c5) := by clear hbox5; go_simp
      clear hX5 hbox4
      go_wp2_with fail
      refine (is_at _ 3 true 0 (by kernel_rfl) (by kernel_rfl) _ _ _ _ hX.out).mono ?_
      rintro e w6 ⟨rfl, hb6⟩
      have hbox6 := cell_later hb6 hbox5
      have hy6 := cell_later hb6 hy5
      have hB6 := Below.on hB5 hb6
      have hX := hide (hX.out.below hb6)
      clear hbox5 hy5
      go_wp2_with fail
      refine (href_at _ 3 ⟨#[]⟩ 0 (by kernel_rfl) (by kernel_rfl) _ _ _ _ hX.out).mono ?_
      rintro e w7 ⟨rfl, hb7⟩
      have hbox7 := cell_later hb7 hbox6
      have hy7 := cell_later hb7 hy6
      have hB7 := Below.on hB6 hb7
      have hX := hide (hX.out.below hb7)
      clear hbox6 hy6
      clear hX hy7
      go_wp2_with fail
      refine (set_at ex17T 2 ⟨#[104, 114, 101, 102]⟩ ⟨#[121]⟩ (by kernel_rfl) (by kernel_rfl) (by decide) (by decide) _ _ _ _ (hT.out.below hB7)).mono ?_
      rintro e w8 ⟨A8, c8, rfl, hX8, hb8⟩
      have hbox8 := cell_later (below_alloc hb8 (.cells #[.slice A8 5 c8] 24)) hbox7
      have hB8 := below_alloc (Below.on hB7 hb8) (.cells #[.slice A8 5 c8] 24)
      have hX := hide (hX8.below (below_alloc (Below.refl _ _) (.cells #[.slice A8 5 c8] 24)))
      have hy8 : (w8.alloc (.cells #[.slice A8 5 c8] 24)).cell? ⟨w8.heap.size, 0, none⟩ = some (.slice A8 5 c8) := by clear hbox8; go_simp
      clear hX8 hbox7
      go_wp2_with fail
      refine (is_at _ 2 false 0 (by kernel_rfl) (by kernel_rfl) _ _ _ _ hX.out).mono ?_
      rintro e w9 ⟨rfl, hb9⟩
      have hbox9 := cell_later hb9 hbox8
      have hy9 := cell_later hb9 hy8
      have hB9 := Below.on hB8 hb9
      have hX := hide (hX.out.below hb9)
      clear hbox8 hy8
      clear hX hy9
      go_wp2_with fail
      refine (set_at ex17T 3 ⟨#[110, 97, 109, 101]⟩ ⟨#[121]⟩ (by kernel_rfl) (by kernel_rfl) (by decide) (by decide) _ _ _ _ (hT.out.below hB9)).mono ?_
      rintro e w10 ⟨A10, c10, rfl, hX10, hb10⟩
      have hbox10 := cell_later (below_alloc hb10 (.cells #[.slice A10 5 c10] 24)) hbox9
      have hB10 := below_alloc (Below.on hB9 hb10) (.cells #[.slice A10 5 c10] 24)
      have hX := hide (hX10.below (below_alloc (Below.refl _ _) (.cells #[.slice A10 5 c10] 24)))
      have hy10 : (w10.alloc (.cells #[.slice A10 5 c10] 24)).cell? ⟨w10.heap.size, 0, none⟩ = some (.slice A10 5 c10) := by clear hbox10; go_simp
      clear hX10 hbox9
      go_wp2_with fail
      refine (is_at _ 3 false 0 (by kernel_rfl) (by kernel_rfl) _ _ _ _ hX.out).mono ?_
      rintro e w11 ⟨rfl, hb11⟩
      have hbox11 := cell_later hb11 hbox10
      have hy11 := cell_later hb11 hy10
      have hB11 := Below.on hB10 hb11
      have hX := hide (hX.out.below hb11)
      clear hbox10 hy10
      clear hX hy11
      go_wp2_with fail
      refine (links_at ex17T 3 [] 0 (by kernel_rfl) (by kernel_rfl) _ _ _ _ (hT.out.below hB11)).mono ?_
      rintro e w12 ⟨A12, c12, rfl, -, hb12⟩
      have hB12 := Below.on hB11 hb12
      go_wp2_with fail
      refine (alive17_ok _).mono ?_
      rintro e w13 ⟨rfl, hb13⟩
      have hB13 := Below.on hB12 hb13
      go_wp2
      go_ret
      exact ⟨rfl, Below.on hb0 (Below.on hW hB13)⟩

set_option maxRecDepth 100000 in
theorem lifted (os : Os) (started : os.Started) (H : Type) (enc : TypeId × Value → H) :
    ReturnsInHanded {} Try.checked os 15 .any (Rows.linkNamesSpec.pre6 enc Try.prog Try.f15 Rows.linkNamesRow.domain false) (Rows.linkNamesSpec.post enc Try.prog Try.f15 false true false false) := by
  refine returnsInHanded_of_change (C := Try.checked) own started (by kernel_rfl) Try.func15
    (ChangeSpec.witness6 (enc := enc) (C := Try.checked) false ⟨#[], #[], []⟩ 8 (by kernel_rfl) (by kernel_rfl) (by kernel_rfl) (by kernel_rfl)) ?_
  intro W base args ds gs before hval0 hW hcnd _
  have hW' := hW
  obtain ⟨p, q, hA0, hV, rfl, hfz, hnd⟩ := hW
  have hA : DataW.TrodAll enc Try.prog W 0 (fun _ => true) true Try.f15.params.toList args.toList ds p := hA0
  rw [Try.params15] at hA
  obtain ⟨h1, rfl, rfl⟩ := trodAll_nil hA
  obtain rfl : args = #[] := by cases args; simp_all
  obtain ⟨rfl, rfl⟩ := trodVars_none hV
  clear hA0 hval0
  refine (walk W).mono fun e W' ⟨he, bel⟩ => ?_
  subst he
  exact ⟨_, rfl, _, _, _, [], _, [], hW', trodAll_mk1 (shut_bool Try.underlying4 _), trodAll_mk0, rfl, bel.frame _, fun h => by cases h⟩

theorem proved : Rows.LinkNamesSaid :=
  OpenClaim.holds_of_wide 15 Try.f15 rfl rfl rfl rfl rfl rfl rfl ⟨rfl, rfl, rfl, rfl, rfl⟩ rfl rfl rfl rfl rfl (by kernel_rfl) Try.func15 (by kernel_rfl)
    (of_decide_eq_true (by kernel_rfl)) (by unfold Func.isWrapper; first | (rw [if_pos (by decide +kernel)]; kernel_rfl) | (rw [if_neg (by decide +kernel)]; exact ⟨rfl, rfl⟩))
    (fun os started H enc _ => lifted os started H enc)
#print axioms proved
end Go.Proofs.Ytfiiikbbiimdiaa.linkNames
