/- What slices.Clip of locks returns, and its room. -/
import Derived.Test.YtbbfdnmlfjdidaaDoorClone
namespace Go.Proofs.YtbbfdnmlfjdidaaDoor
open Go.RowKit
/-- A slice of the call's own, and its room. -/
def RetCap {α : Type} (m : Nat) (enc : α → Nat → Value) (w : World) (xs : List α) (e : Ending) (w' : World) : Prop := ∃ v, e = .returned v ∧ SlOf m enc w' v xs ∧ Own w.heap.size w' v ∧ Ext w w' ∧ ∀ A n c, v = .slice A n c → n ≤ c ∧ c ≤ 9223372036854775807
/-- A slice of the call's own, yes or no, and its room. -/
def RetCap2 {α : Type} (m : Nat) (enc : α → Nat → Value) (w : World) (r : List α × Bool) (e : Ending) (w' : World) : Prop := ∃ v, e = .returned (.tuple #[v, .bool r.2]) ∧ SlOf m enc w' v r.1 ∧ Own w.heap.size w' v ∧ Ext w w' ∧ ∀ A n c, v = .slice A n c → n ≤ c ∧ c ≤ 9223372036854775807
end Go.Proofs.YtbbfdnmlfjdidaaDoor
