/- Contracts of the small functions that ask whether a number lies in a range. -/
import Derived.Test.YtiggckhlbklngaaDoorRows
import Derived.Test.YtiggckhlbklngaaDoorBase
namespace Go.Proofs.YtiggckhlbklngaaDoor
open Go.RowKit

set_option maxHeartbeats 400000 in
theorem within_any (x lo hi : Int) (w : World) :
    Calls Tryd.prog 35 #[.int .i64 x, .int .i64 lo, .int .i64 hi] w fun e w' => e = .returned (.bool (inB x lo hi)) ∧ w = w' := by
  unfold inB
  by_cases h1 : lo ≤ x <;> by_cases h2 : x ≤ hi <;> (
    go_enter Tryd.func35, Tryd.ntmps35
    go_wp2
    go_ret
    simp [h1, h2])
set_option maxHeartbeats 400000 in
theorem l1In_any (x lo hi : Int) (w : World) :
    Calls Tryd.prog 38 #[.int .i64 x, .int .i64 lo, .int .i64 hi] w fun e w' => e = .returned (.bool (inB x lo hi)) ∧ w = w' := by
  unfold inB
  by_cases h1 : lo ≤ x <;> by_cases h2 : x ≤ hi <;> (
    go_enter Tryd.func38, Tryd.ntmps38
    go_wp2
    go_ret
    simp [h1, h2])
theorem valueOk_any (x : Int) (w : World) :
    Calls Tryd.prog 45 #[.int .i64 x] w fun e w' => e = .returned (.bool (inB x 0 99)) ∧ w = w' := by
  go_enter Tryd.func45, Tryd.ntmps45
  go_wp2_with (go_at_call 35; refine (within_any _ _ _ _).mono ?_; rintro e w' ⟨rfl, rfl⟩)
  go_ret
  simp
theorem keyOk_any (x : Int) (w : World) :
    Calls Tryd.prog 36 #[.int .i64 x] w fun e w' => e = .returned (.bool (inB x 0 2)) ∧ w = w' := by
  go_enter Tryd.func36, Tryd.ntmps36
  go_wp2_with (go_at_call 35; refine (within_any _ _ _ _).mono ?_; rintro e w' ⟨rfl, rfl⟩)
  go_ret
  simp
end Go.Proofs.YtiggckhlbklngaaDoor
