/- How many members a set has, by the reference and by the program. -/
import Derived.Test.YtiggckhlbklngaaDoorLeaf
namespace Go.Proofs.YtiggckhlbklngaaDoor
open Go.RowKit

/-- The ones of a number below 128. -/
def pc (n : Nat) : Nat := n % 2 + n / 2 % 2 + n / 4 % 2 + n / 8 % 2 + n / 16 % 2 + n / 32 % 2 + n / 64 % 2
/-- What SetSize answers. -/
def sizeB (set : Int) : Int := if inB set 0 127 then (pc set.toNat : Int) else -1
theorem pc_half (n : Nat) (h : n ≤ 127) : pc n = n % 2 + pc (n / 2) := by unfold pc; omega
theorem pc_le (n : Nat) : pc n ≤ 7 := by unfold pc; omega

set_option maxHeartbeats 1000000 in
theorem onesCount64_any (n : Nat) (w : World) (h : n < 128) :
    Calls Tryd.prog 87 #[.int .u64 (n : Int)] w fun e w' => e = .returned (.int .i64 (pc n : Int)) ∧ w = w' := by
  go_enter Tryd.func87, Tryd.ntmps87
  go_wp2
  go_returns
  refine ⟨ret_int ?_, rfl⟩
  clear w
  revert n
  decide +kernel
theorem onesCount_any (n : Nat) (w : World) (h : n < 128) :
    Calls Tryd.prog 77 #[.int .u64 (n : Int)] w fun e w' => e = .returned (.int .i64 (pc n : Int)) ∧ w = w' := by
  go_enter Tryd.func77, Tryd.ntmps77
  go_wp2_with (go_at_call 87; refine (onesCount64_any _ _ h).mono ?_; rintro e w' ⟨rfl, rfl⟩)
  go_returns
  exact ⟨rfl, rfl⟩
end Go.Proofs.YtiggckhlbklngaaDoor
