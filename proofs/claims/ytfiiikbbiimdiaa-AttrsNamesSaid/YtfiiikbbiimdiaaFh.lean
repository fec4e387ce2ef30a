/- Lists of texts that are the same; chapter 14's example, and what is checked of it. No condition. -/
import Derived.Test.YtfiiikbbiimdiaaFg
import Derived.Test.YtfiiikbbiimdiaaFc
import Derived.Test.YtfiiikbbiimdiaaFa
import Derived.Test.YtfiiikbbiimdiaaLit
namespace Go.Proofs.Ytfiiikbbiimdiaa
open Go.RowKit

theorem sameS_yes (A B : Option Addr) (n m c d : Nat) (xs : List ByteArray) (w : World) (h : IsStrs w A n xs) (h' : IsStrs w B m xs) :
    Calls Try.prog 21 #[.slice A n c, .slice B m d] w fun e w' => e = .returned (.bool true) ∧ Below w.heap.size w w' := by
  refine (rsameS_ok A B n m c d xs xs w h h').mono ?_
  rintro e w' ⟨rfl, q, rfl⟩
  exact ⟨by simp, below_drewN (Below.refl _ _) q⟩
theorem isStrs_lit (W : World) (g : Nat) (t : TypeId) (xs : List ByteArray) (hn : xs.length ≤ 1000) (hg : g = W.heap.size) : IsStrs (W.alloc (.cells (strs xs).toArray t)) (some ⟨g, 0, none⟩) xs.length xs := by
  subst hg
  refine ⟨rfl, by omega, fun _ => ⟨W.heap.size, 0, rfl, by simp, fun j hj => ?_⟩⟩
  rw [Nat.zero_add, World.cell?_alloc_at _ _ _ _ rfl]
  simpa using strs_get hj

def cl14 : List (ByteArray × ByteArray) := [(clsN, bs [98, 32, 97, 32, 32, 98, 32, 99])]
def ex14T : List ANode := [⟨bs [104, 116, 109, 108], cl14, -1, []⟩]
def MadeEx14 (w : World) (e : Ending) (w' : World) : Prop :=
  ∃ (A : Option Addr) (c : Nat), e = .returned (.agg #[.slice A 1 c]) ∧ IsTree w' A 1 ex14T ∧ Below w.heap.size w w'

set_option maxRecDepth 100000 in
theorem example14_ok (w : World) : Calls Try.prog 48 #[] w (MadeEx14 w) := by
  go_enter Try.func48, Try.ntmps48
  go_wp2
  refine bodyPost_ret (v := .agg #[.slice (some ⟨w.heap.size + 1 + 1, 0, none⟩) 1 1]) (by simp [results, Try.results48, go_sem]) rfl ⟨_, _, rfl, ?_, below_alloc (below_alloc (below_alloc (Below.refl _ _) _) _) _⟩
  have hAt := isAttrs_lit (w.alloc (.cells #[.slice (some ⟨w.heap.size + 1 + 1, 0, none⟩) 1 1] 24)) (w.heap.size + 1) 83 cl14 (by decide) (by decide) (by simp)
  have hA4 := hAt.below (below_alloc (Below.refl _ _) (.cells #[.string (bs [104, 116, 109, 108]), .slice (some ⟨w.heap.size + 1, 0, none⟩) 1 1, .int .i64 (-1), .slice none 0 0] 61))
  refine isTree_at ex14T rfl (by omega) (by decide) (fun _ => some ⟨w.heap.size + 1, 0, none⟩) (fun _ => none) (fun _ => 1) (fun _ => 0) (fun _ => by simp) (fun j hj => ?_) (fun j hj => ?_) (fun j hj => ?_)
  all_goals obtain rfl : j = 0 := by omega
  · have e : ∀ q, (((w.alloc (.cells #[.slice (some ⟨w.heap.size + 1 + 1, 0, none⟩) 1 1] 24)).alloc (.cells (atts cl14).toArray 83)).alloc (.cells #[.string (bs [104, 116, 109, 108]), .slice (some ⟨w.heap.size + 1, 0, none⟩) 1 1, .int .i64 (-1), .slice none 0 0] 61)).cell? ⟨w.heap.size + 1 + 1, q, none⟩ = (#[.string (bs [104, 116, 109, 108]), .slice (some ⟨w.heap.size + 1, 0, none⟩) 1 1, .int .i64 (-1), .slice none 0 0] : Array Value)[q]? := fun q => World.cell?_alloc_at _ _ _ _ (by simp)
    refine ⟨(e _).trans rfl, (e _).trans rfl, (e _).trans rfl, (e _).trans rfl⟩
  · exact ⟨hA4, by decide, by decide⟩
  · exact ⟨isInts_nil _, by decide, by decide⟩

theorem Words_at (s : ByteArray) (xs : List ByteArray) (c0 : Int) (h0 : wordsE s = c0) (h1 : wordsV s = xs) (w : World) (hs : s.size ≤ 1000) : Calls Try.prog 17 #[.string s] w (MadeStrsE w xs c0) := by
  rw [← h0, ← h1]; exact Words_ok s w hs
theorem class_at (T : List ANode) (i : Int) (s : ByteArray) (b : Bool) (c0 : Int) (h0 : askI T [i] = c0) (hl : clsE T i s = b) (A : Option Addr) (n c : Nat) (w : World) (h : IsTree w A n T) :
    Calls Try.prog 19 #[.agg #[.slice A n c], .int .i64 i, .string s] w fun e w' => e = .returned (.tuple #[.bool b, .int .i64 c0]) ∧ Below w.heap.size w w' := by
  rw [← h0, ← hl]; exact class_ok A n c T i s w h
theorem fold_at (s v : ByteArray) (h0 : foldS s = v) (w : World) (hs : s.size ≤ 1000) : Calls Try.prog 22 #[.string s] w fun e w' => e = .returned (.string v) ∧ Below w.heap.size w w' := by
  rw [← h0]; exact fold_ok s w hs

def bac : List ByteArray := [bs [98], bs [97], bs [99]]
set_option maxRecDepth 100000 in
set_option maxHeartbeats 1000000 in
theorem alive14_ok (w : World) : Calls Try.prog 24 #[] w fun e w' => e = .returned (.bool true) ∧ Below w.heap.size w w' := by
  go_enter Try.func24, Try.ntmps24
  go_wp2_with fail
  refine (Words_at (bs [98, 32, 97, 32, 32, 98, 32, 99]) bac 0 (by kernel_rfl) (by kernel_rfl) _ (by decide)).mono ?_
  rintro e w1 ⟨A1, c1, rfl, hI1, hb1⟩
  have hI1' := hide hI1
  clear hI1
  go_wp2_with fail
  refine (example14_ok _).mono ?_
  rintro e w2 ⟨A2, c2, rfl, hT2, hb2⟩
  have hT2' := hide hT2
  have hB2 := Below.on hb1 hb2
  clear hT2
  go_wp2_with fail
  refine (class_at ex14T 0 (bs [97]) true 0 (by kernel_rfl) (by kernel_rfl) _ _ _ _ hT2'.out).mono ?_
  rintro e w3 ⟨rfl, hb3⟩
  have hB3 := Below.on hB2 hb3
  go_wp2_with fail
  refine (example14_ok _).mono ?_
  rintro e w4 ⟨A4, c4, rfl, hT4, hb4⟩
  have hT4' := hide hT4
  have hB4 := Below.on hB3 hb4
  clear hT4
  go_wp2_with fail
  refine (class_at ex14T 0 (bs [65]) false 0 (by kernel_rfl) (by kernel_rfl) _ _ _ _ hT4'.out).mono ?_
  rintro e w5 ⟨rfl, hb5⟩
  have hB5 := Below.on hB4 hb5
  have hI5 := hide ((((hI1'.out.below hb2).below hb3).below hb4).below hb5)
  go_wp2_with fail
  refine (sameS_yes _ _ 3 3 _ _ bac _ (hI5.out.below (below_alloc (Below.refl _ _) _)) (isStrs_lit _ _ _ bac (by decide) rfl)).mono ?_
  rintro e w6 ⟨rfl, hb6⟩
  have hB6 := Below.on (below_alloc hB5 _) hb6
  go_wp2_with fail
  refine (fold_at (bs [97, 66, 45, 195, 137]) (bs [97, 98, 45, 195, 137]) (by kernel_rfl) _ (by decide)).mono ?_
  rintro e w7 ⟨rfl, hb7⟩
  have hB7 := Below.on hB6 hb7
  go_wp2
  go_ret
  exact ⟨ret_bool (by kernel_rfl), hB7⟩
end Go.Proofs.Ytfiiikbbiimdiaa
