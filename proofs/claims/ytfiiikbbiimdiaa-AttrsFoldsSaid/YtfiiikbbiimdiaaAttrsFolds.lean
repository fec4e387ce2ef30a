/- For every two texts, folding twice is folding once and keeps the number of bytes, and the parts of a folded text are the folded parts, unless a text is longer than the statement considers. No condition. -/
import Derived.Test.YtfiiikbbiimdiaaOpen
import Derived.Test.YtfiiikbbiimdiaaFh
import Derived.Deep.QuietTactic
import Derived.BigQuiet
namespace Go.Proofs.Ytfiiikbbiimdiaa.attrsFolds
open Go.ChangeShapes Go.WideShapes Go.ChangeAt Go.RowKit

theorem fold8_fold8 (c : UInt8) : fold8 (fold8 c) = fold8 c := by
  by_cases h : 65 ≤ c.toNat ∧ c.toNat ≤ 90
  · have := fold8_big h.1 h.2
    exact fold8_small (by omega)
  · rw [fold8_small (c := c) (by omega)]; exact fold8_small (by omega)
theorem foldS_foldS (s : ByteArray) : foldS (foldS s) = foldS s := by
  apply Go.WideShapes.bytes_inj
  simp only [foldS, List.map_map]
  congr 1
  funext c
  exact fold8_fold8 c
theorem foldS_size (s : ByteArray) : (foldS s).size = s.size := by
  show (List.map fold8 s.data.toList).toArray.size = s.data.size
  rw [List.size_toArray, List.length_map, Array.length_toList]
theorem foldS_app (a b : ByteArray) : foldS (a ++ b) = foldS a ++ foldS b := by
  apply Go.WideShapes.bytes_inj; simp [foldS]
theorem foldS_get (s : ByteArray) (k : Nat) (h : k < s.size) (h' : k < (foldS s).size) : (foldS s)[k]'h' = fold8 (s[k]'h) := by
  show (foldS s).data[k] = fold8 s.data[k]
  simp [foldS]

set_option maxRecDepth 100000 in
set_option maxHeartbeats 1000000 in
theorem walk (a b : ByteArray) (w : World) (ha : a.size ≤ 9223372036854775807) (hb : b.size ≤ 9223372036854775807) :
    Calls Try.prog 4 #[.string a, .string b] w fun e w' => e = .returned (.bool true) ∧ Below w.heap.size w w' := by
  by_cases h1 : 500 < a.size
  · go_enter Try.func4, Try.ntmps4
    go_wp2_with fail
    refine (alive14_ok _).mono ?_
    rintro e w1 ⟨rfl, hb1⟩
    go_wp2
    go_ret
    exact ⟨rfl, hb1⟩
  · by_cases h2 : 500 < b.size
    · go_enter Try.func4, Try.ntmps4
      go_wp2_with fail
      refine (alive14_ok _).mono ?_
      rintro e w1 ⟨rfl, hb1⟩
      go_wp2
      go_ret
      exact ⟨rfl, hb1⟩
    · have hsz : (foldS a).size = a.size := foldS_size a
      have e1 := str_eq (foldS_foldS a)
      have e2 := str_eq (foldS_app a b)
      have hz : a.size + b.size ≤ 9223372036854775807 := by omega
      go_enter Try.func4, Try.ntmps4
      go_wp2_with fail
      refine (alive14_ok _).mono ?_
      rintro e w1 ⟨rfl, hb1⟩
      go_wp2_with fail
      refine (fold_ok a _ (by omega)).mono ?_
      rintro e w2 ⟨rfl, hb2⟩
      have hB2 := Below.on hb1 hb2
      go_wp2_with fail
      refine (fold_ok (foldS a) _ (by omega)).mono ?_
      rintro e w3 ⟨rfl, hb3⟩
      have hB3 := Below.on hB2 hb3
      have hx := fold_ok (a ++ b) w3 (by rw [ByteArray.size_append]; omega)
      go_wp2_with fail
      refine hx.mono ?_
      rintro e w4 ⟨rfl, hb4⟩
      clear hx
      have hB4 := Below.on hB3 hb4
      go_wp2_with fail
      refine (fold_ok b _ (by omega)).mono ?_
      rintro e w5 ⟨rfl, hb5⟩
      have hB5 := Below.on hB4 hb5
      have hz2 : ¬ 9223372036854775807 < (foldS a).size + (foldS b).size := by rw [foldS_size, foldS_size]; omega
      clear hb1 hb2 hb3 hb4 hb5
      go_wp2
      go_loopw [7] (fun i wr => ∃ k : Nat, k ≤ a.size ∧ i = .int .i64 k ∧ Below w.heap.size w wr) (fun i _ => a.size - (intOf i).toNat)
      case atStart => exact ⟨0, Nat.zero_le _, rfl, hB5⟩
      case round =>
        obtain ⟨k, hk, rfl, hb⟩ := hrel
        by_cases hlt : k < a.size
        · have hlt' : k < (foldS a).size := by rw [foldS_size]; exact hlt
          have hf := hide (foldS_get a k hlt hlt')
          by_cases g1 : 65 ≤ ((a[k]'hlt).toNat : Int)
          · by_cases g2 : ((a[k]'hlt).toNat : Int) ≤ 90
            · have hx := fold8_big (c := a[k]'hlt) (by omega) (by omega)
              rw [← hf.out] at hx
              have q1 : ((((foldS a)[k]'hlt').toNat : Int) != ((a[k]'hlt).toNat : Int) + 32) = false := by simp [hx]
              clear hx
              go_wp2
              go_quiet (fail)
              go_wp2
              go_roundw
              case rel => exact ⟨k + 1, by omega, by go_num, below_drewN hb _⟩
              case measure => simp [intOf]; omega
            · have q1 : ((((foldS a)[k]'hlt').toNat : Int) != ((a[k]'hlt).toNat : Int)) = false := by rw [hf.out, fold8_small (by omega)]; simp
              have q2 : decide (((a[k]'hlt).toNat : Int) ≤ 90) = false := by simpa using g2
              go_wp2
              go_quiet (fail)
              go_wp2
              go_roundw
              case rel => exact ⟨k + 1, by omega, by go_num, below_drewN hb _⟩
              case measure => simp [intOf]; omega
          · have q1 : ((((foldS a)[k]'hlt').toNat : Int) != ((a[k]'hlt).toNat : Int)) = false := by rw [hf.out, fold8_small (by omega)]; simp
            go_wp2
            go_quiet (fail)
            go_wp2
            go_roundw
            case rel => exact ⟨k + 1, by omega, by go_num, below_drewN hb _⟩
            case measure => simp [intOf]; omega
        · go_wp2
          go_ret
          exact ⟨rfl, hb⟩

set_option maxRecDepth 100000 in
theorem lifted (os : Os) (started : os.Started) (H : Type) (enc : TypeId × Value → H) :
    ReturnsInHanded {} Try.checked os 4 .any (Rows.attrsFoldsSpec.pre6 enc Try.prog Try.f4 Rows.attrsFoldsRow.domain false) (Rows.attrsFoldsSpec.post enc Try.prog Try.f4 false true false false) := by
  refine returnsInHanded_of_change (C := Try.checked) own started (by kernel_rfl) Try.func4
    (ChangeSpec.witness6 (enc := enc) (C := Try.checked) false ⟨#[], #[.string .empty, .string .empty], []⟩ 8 (by kernel_rfl) (by kernel_rfl) (by kernel_rfl) (by kernel_rfl)) ?_
  intro W base args ds gs before hval0 hW hcnd _
  have hval : ∀ (j : Nat) t v, Try.f4.params[j]? = some t → args[j]? = some v → Value.okWide Try.prog W .any base t v := hval0
  have hW' := hW
  obtain ⟨p, q, hA0, hV, rfl, hfz, hnd⟩ := hW
  have hA : DataW.TrodAll enc Try.prog W 0 (fun _ => true) true Try.f4.params.toList args.toList ds p := hA0
  rw [Try.params4] at hA hval
  obtain ⟨v0, vs0, d0, ds0, p0, q0, hargs, rfl, rfl, h0, r0⟩ := trodAll_cons hA
  obtain ⟨v1, vs1, d1, ds1, p1, q1, rfl, rfl, rfl, h1, r1⟩ := trodAll_cons r0
  obtain ⟨rfl, rfl, rfl⟩ := trodAll_nil r1
  obtain rfl : args = #[v0, v1] := by cases args; simp_all
  obtain ⟨rfl, rfl⟩ := trodVars_none hV
  have lt0 : ∀ x ∈ p0, x.block < W.heap.size := by obtain ⟨m, hm⟩ := h0; exact DataW.trod_lt m _ _ _ hm
  have k0 := h0
  have lt1 : ∀ x ∈ p1, x.block < W.heap.size := by obtain ⟨m, hm⟩ := h1; exact DataW.trod_lt m _ _ _ hm
  have k1 := h1
  obtain ⟨a0, rfl, rfl, rfl, w0⟩ := Go.ChangeMaps.open_string Try.underlying9 (hval 0 _ v0 rfl rfl) h0
  have w0' : a0.size ≤ 9223372036854775807 := by unfold maxLen at w0; omega
  obtain ⟨a1, rfl, rfl, rfl, w1⟩ := Go.ChangeMaps.open_string Try.underlying9 (hval 1 _ v1 rfl rfl) h1
  have w1' : a1.size ≤ 9223372036854775807 := by unfold maxLen at w1; omega
  clear hA0 hval0
  refine (walk a0 a1 W w0' w1').mono fun e W' ⟨he, bel⟩ => ?_
  subst he
  exact ⟨_, rfl, _, _, _, [], _, [], hW', trodAll_mk1 (shut_bool Try.underlying4 _), (trodAll_cons_mk (Below.trod laidOut (by kernel_rfl) (of_decide_eq_true (by kernel_rfl)) k0 bel lt0) (trodAll_cons_mk (Below.trod laidOut (by kernel_rfl) (of_decide_eq_true (by kernel_rfl)) k1 bel lt1) trodAll_mk0)), rfl, bel.frame _, fun h => by cases h⟩

theorem proved : Rows.AttrsFoldsSaid :=
  OpenClaim.holds_of_wide 4 Try.f4 rfl rfl rfl rfl rfl rfl rfl ⟨rfl, rfl, rfl, rfl, rfl⟩ rfl rfl rfl rfl rfl (by kernel_rfl) Try.func4 (by kernel_rfl)
    (of_decide_eq_true (by kernel_rfl)) (by unfold Func.isWrapper; first | (rw [if_pos (by decide +kernel)]; kernel_rfl) | (rw [if_neg (by decide +kernel)]; exact ⟨rfl, rfl⟩))
    (fun os started H enc _ => lifted os started H enc)
#print axioms proved
end Go.Proofs.Ytfiiikbbiimdiaa.attrsFolds
