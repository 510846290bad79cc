/- How many members a set has, by the reference and by the program. -/
import Derived.Test.YteciocieaaoocaaLeaf
namespace Go.Proofs.Yteciocieaaoocaa
open Go.RowKit

/-- The ones of a number below 128. -/
def pc (n : Nat) : Nat := n % 2 + n / 2 % 2 + n / 4 % 2 + n / 8 % 2 + n / 16 % 2 + n / 32 % 2 + n / 64 % 2
/-- What SetSize answers. -/
def sizeB (set : Int) : Int := if inB set 0 127 then (pc set.toNat : Int) else -1
theorem pc_half (n : Nat) (h : n ≤ 127) : pc n = n % 2 + pc (n / 2) := by unfold pc; omega
theorem pc_le (n : Nat) : pc n ≤ 7 := by unfold pc; omega

end Go.Proofs.Yteciocieaaoocaa
