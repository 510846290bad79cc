/- Contracts of the small functions that ask whether a number lies in a range. -/
import Derived.Test.YtpkjgeidndbbbaaDoorRows
import Derived.Test.YtpkjgeidndbbbaaDoorBase
namespace Go.Proofs.YtpkjgeidndbbbaaDoor
open Go.RowKit

set_option maxHeartbeats 400000 in
theorem within_any (x lo hi : Int) (w : World) :
    Calls Tryd.prog 42 #[.int .i64 x, .int .i64 lo, .int .i64 hi] w fun e w' => e = .returned (.bool (inB x lo hi)) ∧ w = w' := by
  unfold inB
  by_cases h1 : lo ≤ x <;> by_cases h2 : x ≤ hi <;> (
    go_enter Tryd.func42, Tryd.ntmps42
    go_wp2
    go_ret
    simp [h1, h2])
set_option maxHeartbeats 400000 in
theorem l1In_any (x lo hi : Int) (w : World) :
    Calls Tryd.prog 62 #[.int .i64 x, .int .i64 lo, .int .i64 hi] w fun e w' => e = .returned (.bool (inB x lo hi)) ∧ w = w' := by
  unfold inB
  by_cases h1 : lo ≤ x <;> by_cases h2 : x ≤ hi <;> (
    go_enter Tryd.func62, Tryd.ntmps62
    go_wp2
    go_ret
    simp [h1, h2])
theorem valueOk_any (x : Int) (w : World) :
    Calls Tryd.prog 43 #[.int .i64 x] w fun e w' => e = .returned (.bool (inB x 0 99)) ∧ w = w' := by
  go_enter Tryd.func43, Tryd.ntmps43
  go_wp2_with (go_at_call 42; refine (within_any _ _ _ _).mono ?_; rintro e w' ⟨rfl, rfl⟩)
  go_ret
  simp
theorem keyOk_any (x : Int) (w : World) :
    Calls Tryd.prog 65 #[.int .i64 x] w fun e w' => e = .returned (.bool (inB x 0 2)) ∧ w = w' := by
  go_enter Tryd.func65, Tryd.ntmps65
  go_wp2_with (go_at_call 42; refine (within_any _ _ _ _).mono ?_; rintro e w' ⟨rfl, rfl⟩)
  go_ret
  simp
theorem timeOk_any (x : Int) (w : World) :
    Calls Tryd.prog 72 #[.int .i64 x] w fun e w' => e = .returned (.bool (inB x 0 1000)) ∧ w = w' := by
  go_enter Tryd.func72, Tryd.ntmps72
  go_wp2_with (go_at_call 42; refine (within_any _ _ _ _).mono ?_; rintro e w' ⟨rfl, rfl⟩)
  go_ret
  simp
theorem sessionOk_any (x : Int) (w : World) :
    Calls Tryd.prog 83 #[.int .i64 x] w fun e w' => e = .returned (.bool (inB x 0 3)) ∧ w = w' := by
  go_enter Tryd.func83, Tryd.ntmps83
  go_wp2_with (go_at_call 42; refine (within_any _ _ _ _).mono ?_; rintro e w' ⟨rfl, rfl⟩)
  go_ret
  simp
theorem skewOk_any (x : Int) (w : World) :
    Calls Tryd.prog 58 #[.int .i64 x] w fun e w' => e = .returned (.bool (inB x 0 50)) ∧ w = w' := by
  go_enter Tryd.func58, Tryd.ntmps58
  go_wp2_with (go_at_call 42; refine (within_any _ _ _ _).mono ?_; rintro e w' ⟨rfl, rfl⟩)
  go_ret
  simp
end Go.Proofs.YtpkjgeidndbbbaaDoor
