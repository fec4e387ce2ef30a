/- Walks: spaces, by the program and by the reference. No condition. -/
import Derived.Test.YtfiiikbbiimdiaaWg
namespace Go.Proofs.Ytfiiikbbiimdiaa
open Go.RowKit

def spI (c : Int) : Bool := decide (c = 9 ∨ c = 10 ∨ c = 12 ∨ c = 13 ∨ c = 32)
theorem space_ok (x : Int) (w : World) : Calls Try.prog 78 #[.int .u8 x] w fun e w' => e = .returned (.bool (spI x)) ∧ w = w' := by
  go_enter Try.func78, Try.ntmps78
  go_wp2
  all_goals
    go_ret
    exact ⟨ret_bool (by unfold spI; first | (simp_all; done) | (rw [Bool.eq_iff_iff]; simp; omega)), rfl⟩
theorem rspace_ok (x : Int) (w : World) : Calls Try.prog 47 #[.int .u8 x] w fun e w' => e = .returned (.bool (spI x)) ∧ w = w' := by
  go_enter Try.func47, Try.ntmps47
  go_wp2
  all_goals
    go_ret
    exact ⟨ret_bool (by unfold spI; first | (simp_all; done) | (rw [Bool.eq_iff_iff]; simp; omega)), rfl⟩
end Go.Proofs.Ytfiiikbbiimdiaa
