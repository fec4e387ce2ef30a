/- Walks: chapter 14's example as a tree of the call's own, whose attributes grow. No condition. -/
import Derived.Test.YtfiiikbbiimdiaaFh
import Derived.Test.YtfiiikbbiimdiaaFi
import Derived.Test.YtfiiikbbiimdiaaRput
namespace Go.Proofs.Ytfiiikbbiimdiaa
open Go.RowKit

def htmlN : ByteArray := bs [104, 116, 109, 108]
/-- One node of the call's own, alone in its block, with the attributes l. -/
def Full (w : World) (base g : Nat) (A : Option Addr) (c : Nat) (l : List (ByteArray × ByteArray)) : Prop :=
  base ≤ g ∧ w.heap[g]? = some (.cells #[.string htmlN, .slice A l.length c, .int .i64 (-1), .slice none 0 0] 61 (0, 0)) ∧ OwnA w base (.slice A l.length c) l
theorem Full.tree {w : World} {base g : Nat} {A : Option Addr} {c : Nat} {l : List (ByteArray × ByteArray)} (h : Full w base g A c l) (hn : l.length ≤ 70) (hs : ∀ x ∈ l, x.1.size ≤ 9223372036854775807 ∧ x.2.size ≤ 9223372036854775807) : IsTree w (some ⟨g, 0, none⟩) 1 [⟨htmlN, l, -1, []⟩] := by
  obtain ⟨-, hg, ho⟩ := h
  obtain ⟨A', c', hv, h1, h2, hI⟩ := isAttrs_of_own ho (by omega) hs
  injection hv with e1 e2 e3
  subst e1 e3
  refine isTree_at [⟨htmlN, l, -1, []⟩] rfl (by omega) (fun x hx => by simp at hx; subst hx; show htmlN.size ≤ _; decide) (fun _ => A) (fun _ => none) (fun _ => c) (fun _ => 0) (fun _ => blk_lt hg) (fun j hj => ?_) (fun j hj => ?_) (fun j hj => ?_)
  all_goals obtain rfl : j = 0 := by omega
  · exact ⟨(blk_cell hg _).trans rfl, (blk_cell hg _).trans rfl, (blk_cell hg _).trans rfl, (blk_cell hg _).trans rfl⟩
  · exact ⟨hI, h1, by unfold maxLen at h2; show c ≤ _; omega⟩
  · exact ⟨isInts_nil _, Nat.le_refl 0, by show (0 : Nat) ≤ _; omega⟩

def MadeFull (w : World) (e : Ending) (w' : World) : Prop :=
  ∃ g A c, e = .returned (.agg #[.slice (some ⟨g, 0, none⟩) 1 1]) ∧ Full w' w.heap.size g A c cl14 ∧ Below w.heap.size w w'
set_option maxRecDepth 100000 in
theorem full14_ok (w : World) : Calls Try.prog 48 #[] w (MadeFull w) := by
  go_enter Try.func48, Try.ntmps48
  go_wp2
  refine bodyPost_ret (v := .agg #[.slice (some ⟨w.heap.size + 1 + 1, 0, none⟩) 1 1]) (by simp [results, Try.results48, go_sem]) rfl ⟨_, some ⟨w.heap.size + 1, 0, none⟩, 1, rfl, ⟨by omega, blk_at _ _ _ _ (by simp), ?_⟩, below_alloc (below_alloc (below_alloc (Below.refl _ _) _) _) _⟩
  refine World.ownsRow.alloc ?_ _
  have := World.ownsRow_lit (w.alloc (.cells #[.slice (some ⟨w.heap.size + 1 + 1, 0, none⟩) 1 1] 24)) (e := 83) (size := 2) (base := w.heap.size) (atts cl14).toArray 1 (by simp) (by decide) (by decide)
  have h2 : ((w.alloc (.cells #[.slice (some ⟨w.heap.size + 1 + 1, 0, none⟩) 1 1] 24)).alloc (.cells (atts cl14).toArray 83)).ownsRow w.heap.size 83 2 (.slice (some ⟨w.heap.size + 1, 0, none⟩) 1 1) 1 (atts cl14) := by simpa using this
  exact h2
end Go.Proofs.Ytfiiikbbiimdiaa
