/- The walk of laws.FnExactQuorumsMeet: it answers true. -/
import Derived.Test.YtopefelijcloiaaQuorum
namespace Go.Proofs.Ytopefelijcloiaa
open Go.RowKit

set_option linter.unusedVariables false in
set_option maxHeartbeats 2000000 in
theorem law_FnExactQuorumsMeet (w : World) (x0 : Int) (f0 : (Lit.int .i64 x0).wf = true) {v1 : Value} {xs1 : List Int} (s1 : Sl1 encI w v1 xs1) (l1 : xs1.length ≤ 9223372036854775807) (f1 : ∀ x ∈ xs1, (Lit.int .i64 x).wf = true) :
    Calls Try.prog 4 #[.int .i64 x0, v1] w fun e w' => e = .returned (.bool true) ∧ Ext w w' := by
  obtain ⟨A1, c1, hv1, _⟩ := id s1
  by_cases hl1 : xs1.length ≤ 1048576
  case neg =>
    subst hv1
    have hl1' : 1048576 < xs1.length := by omega
    clear hl1
    go_enter Try.func4, Try.ntmps4
    go_wp2
    go_returns
    exact ⟨rfl, Ext.refl _⟩
  subst hv1
  go_enter Try.func4, Try.ntmps4
  go_wp2_with fail
  refine (toIntS_any _ s1 (by omega)).mono ?_
  rintro e w1 ⟨u1, rfl, t1, o1, b1⟩
  clear o1
  replace s1 := s1.ext b1
  have B := b1
  go_wp2_with fail
  refine (spec_QuorumsMeet x0 _ t1 (by omega) (hi_of f0) (small_of f1)).mono ?_
  rintro e w2 ⟨rfl, b2⟩
  replace s1 := s1.ext b2
  replace t1 := t1.ext b2
  replace B := B.trans b2
  go_wp2_with fail
  refine (toIntS_any _ s1 (by omega)).mono ?_
  rintro e w3 ⟨u3, rfl, t3, o3, b3⟩
  clear o3
  replace s1 := s1.ext b3
  replace t1 := t1.ext b3
  replace B := B.trans b3
  go_wp2_with fail
  refine (impl_QuorumsMeet x0 _ t3 (by omega)).mono ?_
  rintro e w4 ⟨rfl, b4⟩
  replace s1 := s1.ext b4
  replace t1 := t1.ext b4
  replace t3 := t3.ext b4
  replace B := B.trans b4
  go_wp2_with fail
  refine (toIntS_any _ s1 (by omega)).mono ?_
  rintro e w5 ⟨u5, rfl, t5, o5, b5⟩
  clear o5
  replace s1 := s1.ext b5
  replace t1 := t1.ext b5
  replace t3 := t3.ext b5
  replace B := B.trans b5
  go_wp2_with fail
  refine (eqIntS_any _ t3 t5 (by omega)).mono ?_
  rintro e w6 ⟨rfl, b6⟩
  replace s1 := s1.ext b6
  replace t1 := t1.ext b6
  replace t3 := t3.ext b6
  replace t5 := t5.ext b6
  replace B := B.trans b6
  go_wp2
  go_returns
  exact ⟨rfl, B⟩
end Go.Proofs.Ytopefelijcloiaa
