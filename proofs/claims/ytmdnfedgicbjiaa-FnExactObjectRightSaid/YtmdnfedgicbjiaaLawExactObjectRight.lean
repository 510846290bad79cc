/- The walk of laws.FnExactObjectRight: it answers true. -/
import Derived.Test.YtmdnfedgicbjiaaObjSR
namespace Go.Proofs.Ytmdnfedgicbjiaa
open Go.RowKit

set_option linter.unusedVariables false in
set_option maxHeartbeats 2000000 in
theorem law_FnExactObjectRight (w : World) (x0 : Int) (f0 : (Lit.int .i64 x0).wf = true) {v1 : Value} {xs1 : List Int} (s1 : Sl1 encI w v1 xs1) (l1 : xs1.length ≤ 9223372036854775807) (f1 : ∀ x ∈ xs1, (Lit.int .i64 x).wf = true) {v2 : Value} {xs2 : List Int} (s2 : Sl1 encI w v2 xs2) (l2 : xs2.length ≤ 9223372036854775807) (f2 : ∀ x ∈ xs2, (Lit.int .i64 x).wf = true) :
    Calls Try.prog 4 #[.int .i64 x0, v1, v2] w fun e w' => e = .returned (.bool true) ∧ Ext w w' := by
  obtain ⟨A1, c1, hv1, _⟩ := id s1
  obtain ⟨A2, c2, hv2, _⟩ := id s2
  by_cases hl1 : xs1.length ≤ 1048576
  case neg =>
    subst hv1
    subst hv2
    have hl1' : 1048576 < xs1.length := by omega
    clear hl1
    go_enter Try.func4, Try.ntmps4
    go_wp2
    go_returns
    exact ⟨rfl, Ext.refl _⟩
  by_cases hl2 : xs2.length ≤ 1048576
  case neg =>
    subst hv1
    subst hv2
    have hl2' : 1048576 < xs2.length := by omega
    clear hl2
    go_enter Try.func4, Try.ntmps4
    go_wp2
    go_returns
    exact ⟨rfl, Ext.refl _⟩
  subst hv1
  subst hv2
  go_enter Try.func4, Try.ntmps4
  go_wp2_with fail
  refine (toIntS_any _ s1 (by omega)).mono ?_
  rintro e w1 ⟨u1, rfl, t1, o1, b1⟩
  clear o1
  replace s1 := s1.ext b1
  replace s2 := s2.ext b1
  have B := b1
  go_wp2_with fail
  refine (toIntS_any _ s2 (by omega)).mono ?_
  rintro e w2 ⟨u2, rfl, t2, o2, b2⟩
  clear o2
  replace s1 := s1.ext b2
  replace s2 := s2.ext b2
  replace t1 := t1.ext b2
  replace B := B.trans b2
  go_wp2_with fail
  refine (spec_ObjectRight x0 _ t1 t2 (by omega) (by omega)).mono ?_
  rintro e w3 ⟨rfl, b3⟩
  replace s1 := s1.ext b3
  replace s2 := s2.ext b3
  replace t1 := t1.ext b3
  replace t2 := t2.ext b3
  replace B := B.trans b3
  go_wp2_with fail
  refine (toIntS_any _ s1 (by omega)).mono ?_
  rintro e w4 ⟨u4, rfl, t4, o4, b4⟩
  clear o4
  replace s1 := s1.ext b4
  replace s2 := s2.ext b4
  replace t1 := t1.ext b4
  replace t2 := t2.ext b4
  replace B := B.trans b4
  go_wp2_with fail
  refine (toIntS_any _ s2 (by omega)).mono ?_
  rintro e w5 ⟨u5, rfl, t5, o5, b5⟩
  clear o5
  replace s1 := s1.ext b5
  replace s2 := s2.ext b5
  replace t1 := t1.ext b5
  replace t2 := t2.ext b5
  replace t4 := t4.ext b5
  replace B := B.trans b5
  go_wp2_with fail
  refine (impl_ObjectRight x0 _ t4 t5).mono ?_
  rintro e w6 ⟨rfl, b6⟩
  replace s1 := s1.ext b6
  replace s2 := s2.ext b6
  replace t1 := t1.ext b6
  replace t2 := t2.ext b6
  replace t4 := t4.ext b6
  replace t5 := t5.ext b6
  replace B := B.trans b6
  go_wp2_with fail
  refine (toIntS_any _ s1 (by omega)).mono ?_
  rintro e w7 ⟨u7, rfl, t7, o7, b7⟩
  clear o7
  replace s1 := s1.ext b7
  replace s2 := s2.ext b7
  replace t1 := t1.ext b7
  replace t2 := t2.ext b7
  replace t4 := t4.ext b7
  replace t5 := t5.ext b7
  replace B := B.trans b7
  go_wp2_with fail
  refine (eqIntS_any _ t4 t7 (by omega)).mono ?_
  rintro e w8 ⟨rfl, b8⟩
  replace s1 := s1.ext b8
  replace s2 := s2.ext b8
  replace t1 := t1.ext b8
  replace t2 := t2.ext b8
  replace t4 := t4.ext b8
  replace t5 := t5.ext b8
  replace t7 := t7.ext b8
  replace B := B.trans b8
  go_wp2_with fail
  refine (toIntS_any _ s2 (by omega)).mono ?_
  rintro e w9 ⟨u9, rfl, t9, o9, b9⟩
  clear o9
  replace s1 := s1.ext b9
  replace s2 := s2.ext b9
  replace t1 := t1.ext b9
  replace t2 := t2.ext b9
  replace t4 := t4.ext b9
  replace t5 := t5.ext b9
  replace t7 := t7.ext b9
  replace B := B.trans b9
  go_wp2_with fail
  refine (eqIntS_any _ t5 t9 (by omega)).mono ?_
  rintro e w10 ⟨rfl, b10⟩
  replace s1 := s1.ext b10
  replace s2 := s2.ext b10
  replace t1 := t1.ext b10
  replace t2 := t2.ext b10
  replace t4 := t4.ext b10
  replace t5 := t5.ext b10
  replace t7 := t7.ext b10
  replace t9 := t9.ext b10
  replace B := B.trans b10
  go_wp2
  go_returns
  exact ⟨rfl, B⟩
end Go.Proofs.Ytmdnfedgicbjiaa
