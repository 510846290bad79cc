/- Contracts of the small functions that ask whether a number lies in a range. -/
import Derived.Test.YtmdnfedgicbjiaaRows
import Derived.Test.YtmdnfedgicbjiaaBase
namespace Go.Proofs.Ytmdnfedgicbjiaa
open Go.RowKit

set_option maxHeartbeats 400000 in
theorem within_any (x lo hi : Int) (w : World) :
    Calls Try.prog 23 #[.int .i64 x, .int .i64 lo, .int .i64 hi] w fun e w' => e = .returned (.bool (inB x lo hi)) ∧ w = w' := by
  unfold inB
  by_cases h1 : lo ≤ x <;> by_cases h2 : x ≤ hi <;> (
    go_enter Try.func23, Try.ntmps23
    go_wp2
    go_ret
    simp [h1, h2])
set_option maxHeartbeats 400000 in
theorem l1In_any (x lo hi : Int) (w : World) :
    Calls Try.prog 16 #[.int .i64 x, .int .i64 lo, .int .i64 hi] w fun e w' => e = .returned (.bool (inB x lo hi)) ∧ w = w' := by
  unfold inB
  by_cases h1 : lo ≤ x <;> by_cases h2 : x ≤ hi <;> (
    go_enter Try.func16, Try.ntmps16
    go_wp2
    go_ret
    simp [h1, h2])
end Go.Proofs.Ytmdnfedgicbjiaa
