/- Contracts of the small functions that ask whether a number lies in a range. -/
import Derived.Test.YtbbfdnmlfjdidaaDoorRows
import Derived.Test.YtbbfdnmlfjdidaaDoorBase
namespace Go.Proofs.YtbbfdnmlfjdidaaDoor
open Go.RowKit

set_option maxHeartbeats 400000 in
theorem within_any (x lo hi : Int) (w : World) :
    Calls Tryd.prog 58 #[.int .i64 x, .int .i64 lo, .int .i64 hi] w fun e w' => e = .returned (.bool (inB x lo hi)) ∧ w = w' := by
  unfold inB
  by_cases h1 : lo ≤ x <;> by_cases h2 : x ≤ hi <;> (
    go_enter Tryd.func58, Tryd.ntmps58
    go_wp2
    go_ret
    simp [h1, h2])
set_option maxHeartbeats 400000 in
theorem l1In_any (x lo hi : Int) (w : World) :
    Calls Tryd.prog 51 #[.int .i64 x, .int .i64 lo, .int .i64 hi] w fun e w' => e = .returned (.bool (inB x lo hi)) ∧ w = w' := by
  unfold inB
  by_cases h1 : lo ≤ x <;> by_cases h2 : x ≤ hi <;> (
    go_enter Tryd.func51, Tryd.ntmps51
    go_wp2
    go_ret
    simp [h1, h2])
theorem valueOk_any (x : Int) (w : World) :
    Calls Tryd.prog 48 #[.int .i64 x] w fun e w' => e = .returned (.bool (inB x 0 99)) ∧ w = w' := by
  go_enter Tryd.func48, Tryd.ntmps48
  go_wp2_with (go_at_call 58; refine (within_any _ _ _ _).mono ?_; rintro e w' ⟨rfl, rfl⟩)
  go_ret
  simp
theorem keyOk_any (x : Int) (w : World) :
    Calls Tryd.prog 66 #[.int .i64 x] w fun e w' => e = .returned (.bool (inB x 0 2)) ∧ w = w' := by
  go_enter Tryd.func66, Tryd.ntmps66
  go_wp2_with (go_at_call 58; refine (within_any _ _ _ _).mono ?_; rintro e w' ⟨rfl, rfl⟩)
  go_ret
  simp
end Go.Proofs.YtbbfdnmlfjdidaaDoor
