/- Walks: all links, by the program; values of attributes, links, nearest links, all links, by the reference. No condition but those of the inner functions. -/
import Derived.Test.YtkimjpcmcfnmkaaAd
namespace Go.Proofs.Ytkimjpcmcfnmkaa
open Go.RowKit

theorem filt_succ (p : Int → Bool) (l : List Int) {k : Nat} (hk : k < l.length) : (l.take (k + 1)).filter p = (l.take k).filter p ++ (if p (ix l k) = true then [ix l k] else []) := by
  rw [take_snoc' l k hk, ← ix_get hk, List.filter_append]
  congr 1
  by_cases hb : p (ix l k) = true
  · rw [if_pos hb, List.filter_cons, if_pos hb]; rfl
  · rw [if_neg hb, List.filter_cons, if_neg hb]; rfl

end Go.Proofs.Ytkimjpcmcfnmkaa
