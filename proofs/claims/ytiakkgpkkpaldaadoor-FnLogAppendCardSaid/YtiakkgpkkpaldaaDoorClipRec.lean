/- What slices.Clip of records returns, and its room. -/
import Derived.Test.YtiakkgpkkpaldaaDoorClipCap
namespace Go.Proofs.YtiakkgpkkpaldaaDoor
open Go.RowKit
set_option maxHeartbeats 400000 in
theorem clipRec_cap {v : Value} {xs : List Rec} {lo : Nat} (w : World) (h : SlOf 2 encRec w v xs) (ho : Own lo w v) (hcap : ∀ A n c, v = .slice A n c → n ≤ c ∧ c ≤ 9223372036854775807) :
    Calls Tryd.prog 56 #[v] w fun e w' => ∃ v', e = .returned v' ∧ SlOf 2 encRec w v' xs ∧ Own lo w v' ∧ w = w' ∧ ∀ A n c, v' = .slice A n c → n ≤ c ∧ c ≤ 9223372036854775807 := by
  obtain ⟨A, c, rfl, h'⟩ := id h
  have hc := hcap _ _ _ rfl
  clear hcap
  have hs : Hid (SlOf 2 encRec w (.slice A xs.length xs.length) xs) := ⟨A, _, rfl, h'⟩
  have hO : Hid (Own lo w (.slice A xs.length xs.length)) := fun a n c' hv hn => by
    injection hv with e1 e2 e3
    subst e1 e2
    exact ho _ _ _ rfl hn
  clear h h' ho
  go_enter Tryd.func56, Tryd.ntmps56
  go_wp2
  go_returns
  exact ⟨_, rfl, hs.out, hO.out, rfl, fun A' n' c' h => by injection h with _ e2 e3; omega⟩
end Go.Proofs.YtiakkgpkkpaldaaDoor
