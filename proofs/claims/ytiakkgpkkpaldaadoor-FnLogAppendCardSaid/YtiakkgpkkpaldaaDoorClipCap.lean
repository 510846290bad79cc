/- What slices.Clip of locks returns, and its room. -/
import Derived.Test.YtiakkgpkkpaldaaDoorClone
namespace Go.Proofs.YtiakkgpkkpaldaaDoor
open Go.RowKit
/-- A slice of the call's own, and its room. -/
def RetCap {α : Type} (m : Nat) (enc : α → Nat → Value) (w : World) (xs : List α) (e : Ending) (w' : World) : Prop := ∃ v, e = .returned v ∧ SlOf m enc w' v xs ∧ Own w.heap.size w' v ∧ Ext w w' ∧ ∀ A n c, v = .slice A n c → n ≤ c ∧ c ≤ 9223372036854775807
/-- A slice of the call's own, yes or no, and its room. -/
def RetCap2 {α : Type} (m : Nat) (enc : α → Nat → Value) (w : World) (r : List α × Bool) (e : Ending) (w' : World) : Prop := ∃ v, e = .returned (.tuple #[v, .bool r.2]) ∧ SlOf m enc w' v r.1 ∧ Own w.heap.size w' v ∧ Ext w w' ∧ ∀ A n c, v = .slice A n c → n ≤ c ∧ c ≤ 9223372036854775807
set_option maxHeartbeats 400000 in
theorem clipHold_cap {v : Value} {xs : List Hold} {lo : Nat} (w : World) (h : SlOf 4 encHold w v xs) (ho : Own lo w v) (hcap : ∀ A n c, v = .slice A n c → n ≤ c ∧ c ≤ 9223372036854775807) :
    Calls Tryd.prog 41 #[v] w fun e w' => ∃ v', e = .returned v' ∧ SlOf 4 encHold w v' xs ∧ Own lo w v' ∧ w = w' ∧ ∀ A n c, v' = .slice A n c → n ≤ c ∧ c ≤ 9223372036854775807 := by
  obtain ⟨A, c, rfl, h'⟩ := id h
  have hc := hcap _ _ _ rfl
  clear hcap
  have hs : Hid (SlOf 4 encHold w (.slice A xs.length xs.length) xs) := ⟨A, _, rfl, h'⟩
  have hO : Hid (Own lo w (.slice A xs.length xs.length)) := fun a n c' hv hn => by
    injection hv with e1 e2 e3
    subst e1 e2
    exact ho _ _ _ rfl hn
  clear h h' ho
  go_enter Tryd.func41, Tryd.ntmps41
  go_wp2
  go_returns
  exact ⟨_, rfl, hs.out, hO.out, rfl, fun A' n' c' h => by injection h with _ e2 e3; omega⟩
end Go.Proofs.YtiakkgpkkpaldaaDoor
