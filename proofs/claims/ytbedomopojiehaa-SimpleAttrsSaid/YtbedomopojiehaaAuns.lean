/- Walks: an attribute is taken away, by the program. No condition but those of the inner functions. -/
import Derived.Test.YtbedomopojiehaaAset
import Derived.Test.YtbedomopojiehaaDel
import Derived.Deep.RegionHeld3
namespace Go.Proofs.Ytbedomopojiehaa
open Go.RowKit

def unsT (T : List ANode) (i : Int) (s : ByteArray) : List ANode := if getE T i s = 0 then setA T i.toNat ((atl T i.toNat).take (lowA (atl T i.toNat) s) ++ (atl T i.toNat).drop (lowA (atl T i.toNat) s + 1)) else []

theorem atts_del (l : List (ByteArray × ByteArray)) (p : Nat) : (atts l).take (p * 2) ++ (atts l).drop ((p + 1) * 2) = atts (l.take p ++ l.drop (p + 1)) := by
  rw [atts_take, atts_drop, ← atts_app]
theorem del_len (l : List (ByteArray × ByteArray)) {p : Nat} (hp : p < l.length) : (l.take p ++ l.drop (p + 1)).length = l.length - 1 := by
  simp only [List.length_append, List.length_take, List.length_drop]; omega

theorem getE_zero {T : List ANode} {i : Int} {s : ByteArray} : getE T i s = 0 ↔ askI T [i] = 0 ∧ hasA (atl T i.toNat) s = true := by
  unfold getE
  by_cases h : askI T [i] = 0
  · rw [if_pos h]; by_cases h2 : hasA (atl T i.toNat) s = true <;> simp [h, h2]
  · rw [if_neg h]; simp [h]
end Go.Proofs.Ytbedomopojiehaa
