/- The walk of laws.FnExactLogCommit: it answers true. -/
import Derived.Test.YteciocieaaoocaaLogCommit
namespace Go.Proofs.Yteciocieaaoocaa
open Go.RowKit

set_option linter.unusedVariables false in
set_option maxHeartbeats 2000000 in
theorem law_FnExactLogCommit (w : World) {v0 : Value} {xs0 : List Int} (s0 : Sl1 encI w v0 xs0) (l0 : xs0.length ≤ 9223372036854775807) (f0 : ∀ x ∈ xs0, (Lit.int .i64 x).wf = true) :
    Calls Try.prog 5 #[v0] w fun e w' => e = .returned (.bool true) ∧ Ext w w' := by
  obtain ⟨A0, c0, hv0, _⟩ := id s0
  by_cases hl0 : xs0.length ≤ 1048576
  case neg =>
    subst hv0
    have hl0' : 1048576 < xs0.length := by omega
    clear hl0
    go_enter Try.func5, Try.ntmps5
    go_wp2
    go_returns
    exact ⟨rfl, Ext.refl _⟩
  subst hv0
  go_enter Try.func5, Try.ntmps5
  go_wp2_with fail
  refine (toIntS_any _ s0 (by omega)).mono ?_
  rintro e w1 ⟨u1, rfl, t1, o1, b1⟩
  clear o1
  replace s0 := s0.ext b1
  have B := b1
  go_wp2_with fail
  refine (spec_LogCommit _ t1 (by omega)).mono ?_
  rintro e w2 ⟨rfl, b2⟩
  replace s0 := s0.ext b2
  replace t1 := t1.ext b2
  replace B := B.trans b2
  go_wp2_with fail
  refine (toIntS_any _ s0 (by omega)).mono ?_
  rintro e w3 ⟨u3, rfl, t3, o3, b3⟩
  clear o3
  replace s0 := s0.ext b3
  replace t1 := t1.ext b3
  replace B := B.trans b3
  go_wp2_with fail
  refine (impl_LogCommit _ t3 (by omega)).mono ?_
  rintro e w4 ⟨rfl, b4⟩
  replace s0 := s0.ext b4
  replace t1 := t1.ext b4
  replace t3 := t3.ext b4
  replace B := B.trans b4
  go_wp2_with fail
  refine (toIntS_any _ s0 (by omega)).mono ?_
  rintro e w5 ⟨u5, rfl, t5, o5, b5⟩
  clear o5
  replace s0 := s0.ext b5
  replace t1 := t1.ext b5
  replace t3 := t3.ext b5
  replace B := B.trans b5
  go_wp2_with fail
  refine (eqIntS_any _ t3 t5 (by omega)).mono ?_
  rintro e w6 ⟨rfl, b6⟩
  replace s0 := s0.ext b6
  replace t1 := t1.ext b6
  replace t3 := t3.ext b6
  replace t5 := t5.ext b6
  replace B := B.trans b6
  go_wp2
  go_returns
  exact ⟨rfl, B⟩
end Go.Proofs.Yteciocieaaoocaa
