/- slices.Clone and slices.Clip. -/
import Derived.Test.YteciocieaaoocaaTypes
import Derived.Test.YteciocieaaoocaaAppend
namespace Go.Proofs.Yteciocieaaoocaa
open Go.RowKit

set_option maxHeartbeats 400000 in
theorem clipRedo_any {v : Value} {xs : List Redo} {lo : Nat} (w : World) (h : SlOf 3 encRedo w v xs) (ho : Own lo w v) (hcap : ∀ A n c, v = .slice A n c → n ≤ c ∧ c ≤ 9223372036854775807) :
    Calls Try.prog 36 #[v] w fun e w' => ∃ v', e = .returned v' ∧ SlOf 3 encRedo w v' xs ∧ Own lo w v' ∧ w = w' := by
  obtain ⟨A, c, rfl, h'⟩ := id h
  have hc := hcap _ _ _ rfl
  clear hcap
  have hs : Hid (SlOf 3 encRedo w (.slice A xs.length xs.length) xs) := ⟨A, _, rfl, h'⟩
  have hO : Hid (Own lo w (.slice A xs.length xs.length)) := fun a n c' hv hn => by
    injection hv with e1 e2 e3
    subst e1 e2
    exact ho _ _ _ rfl hn
  clear h h' ho
  go_enter Try.func36, Try.ntmps36
  go_wp2
  go_returns
  exact ⟨_, rfl, hs.out, hO.out, rfl⟩

end Go.Proofs.Yteciocieaaoocaa
