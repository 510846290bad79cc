/- Contracts of the small functions that ask whether a number lies in a range. -/
import Derived.Test.YtcjochbnnipdoaaRows
import Derived.Test.YtcjochbnnipdoaaBase
namespace Go.Proofs.Ytcjochbnnipdoaa
open Go.RowKit

set_option maxHeartbeats 400000 in
theorem within_any (x lo hi : Int) (w : World) :
    Calls Try.prog 22 #[.int .i64 x, .int .i64 lo, .int .i64 hi] w fun e w' => e = .returned (.bool (inB x lo hi)) ∧ w = w' := by
  unfold inB
  by_cases h1 : lo ≤ x <;> by_cases h2 : x ≤ hi <;> (
    go_enter Try.func22, Try.ntmps22
    go_wp2
    go_ret
    simp [h1, h2])
set_option maxHeartbeats 400000 in
theorem l1In_any (x lo hi : Int) (w : World) :
    Calls Try.prog 17 #[.int .i64 x, .int .i64 lo, .int .i64 hi] w fun e w' => e = .returned (.bool (inB x lo hi)) ∧ w = w' := by
  unfold inB
  by_cases h1 : lo ≤ x <;> by_cases h2 : x ≤ hi <;> (
    go_enter Try.func17, Try.ntmps17
    go_wp2
    go_ret
    simp [h1, h2])
theorem valueOk_any (x : Int) (w : World) :
    Calls Try.prog 28 #[.int .i64 x] w fun e w' => e = .returned (.bool (inB x 0 99)) ∧ w = w' := by
  go_enter Try.func28, Try.ntmps28
  go_wp2_with (go_at_call 22; refine (within_any _ _ _ _).mono ?_; rintro e w' ⟨rfl, rfl⟩)
  go_ret
  simp
end Go.Proofs.Ytcjochbnnipdoaa
