/- The walk of laws.FnExactLeaseHolder: it answers true. -/
import Derived.Test.YtopefelijcloiaaLeaseHolder
namespace Go.Proofs.Ytopefelijcloiaa
open Go.RowKit

set_option linter.unusedVariables false in
set_option maxHeartbeats 2000000 in
theorem law_FnExactLeaseHolder (w : World) {v0 : Value} {xs0 : List Lease} (s0 : SlOf 3 encLease w v0 xs0) (l0 : xs0.length ≤ 9223372036854775807) (f0 : ∀ x ∈ xs0, wfLease x) (x1 : Int) (f1 : (Lit.int .i64 x1).wf = true) {v2 : Value} {xs2 : List Int} (s2 : Sl1 encI w v2 xs2) (l2 : xs2.length ≤ 9223372036854775807) (f2 : ∀ x ∈ xs2, (Lit.int .i64 x).wf = true) (x3 : Int) (f3 : (Lit.int .i64 x3).wf = true) :
    Calls Try.prog 9 #[v0, .int .i64 x1, v2, .int .i64 x3] w fun e w' => e = .returned (.bool true) ∧ Ext w w' := by
  obtain ⟨A0, c0, hv0, _⟩ := id s0
  obtain ⟨A2, c2, hv2, _⟩ := id s2
  by_cases hl2 : xs2.length ≤ 1048576
  case neg =>
    subst hv0
    subst hv2
    have hl2' : 1048576 < xs2.length := by omega
    clear hl2
    go_enter Try.func9, Try.ntmps9
    go_wp2
    go_returns
    exact ⟨rfl, Ext.refl _⟩
  by_cases hl0 : xs0.length ≤ 1048576
  case neg =>
    subst hv0
    subst hv2
    have hl0' : 1048576 < xs0.length := by omega
    clear hl0
    go_enter Try.func9, Try.ntmps9
    go_wp2_with fail
    refine (szLeaseS_any _ _ _ _ _ l0 (by omega) (by omega)).mono ?_
    rintro e w' ⟨rfl, rfl⟩
    rw [if_neg (by omega)]
    go_wp2
    go_returns
    exact ⟨rfl, Ext.refl _⟩
  subst hv0
  subst hv2
  go_enter Try.func9, Try.ntmps9
  go_wp2_with fail
  refine (szLeaseS_any _ _ _ _ _ l0 (by omega) (by omega)).mono ?_
  rintro e w' ⟨rfl, rfl⟩
  rw [if_pos (by omega)]
  go_wp2_with fail
  refine (toLeaseS_any _ s0 (by omega)).mono ?_
  rintro e w1 ⟨u1, rfl, t1, o1, b1⟩
  clear o1
  replace s0 := s0.ext b1
  replace s2 := s2.ext b1
  have B := b1
  go_wp2_with fail
  refine (toIntS_any _ s2 (by omega)).mono ?_
  rintro e w2 ⟨u2, rfl, t2, o2, b2⟩
  clear o2
  replace s0 := s0.ext b2
  replace s2 := s2.ext b2
  replace t1 := t1.ext b2
  replace B := B.trans b2
  go_wp2_with fail
  refine (spec_LeaseHolder x1 x3 _ t1 t2 (by omega) (by omega) f1 f3 f2).mono ?_
  rintro e w3 ⟨rfl, b3⟩
  replace s0 := s0.ext b3
  replace s2 := s2.ext b3
  replace t1 := t1.ext b3
  replace t2 := t2.ext b3
  replace B := B.trans b3
  go_wp2_with fail
  refine (toLeaseS_any _ s0 (by omega)).mono ?_
  rintro e w4 ⟨u4, rfl, t4, o4, b4⟩
  clear o4
  replace s0 := s0.ext b4
  replace s2 := s2.ext b4
  replace t1 := t1.ext b4
  replace t2 := t2.ext b4
  replace B := B.trans b4
  go_wp2_with fail
  refine (toIntS_any _ s2 (by omega)).mono ?_
  rintro e w5 ⟨u5, rfl, t5, o5, b5⟩
  clear o5
  replace s0 := s0.ext b5
  replace s2 := s2.ext b5
  replace t1 := t1.ext b5
  replace t2 := t2.ext b5
  replace t4 := t4.ext b5
  replace B := B.trans b5
  go_wp2_with fail
  refine (impl_LeaseHolder x1 x3 _ t4 t5 (by omega) (by omega) f1 f3 f2).mono ?_
  rintro e w6 ⟨rfl, b6⟩
  replace s0 := s0.ext b6
  replace s2 := s2.ext b6
  replace t1 := t1.ext b6
  replace t2 := t2.ext b6
  replace t4 := t4.ext b6
  replace t5 := t5.ext b6
  replace B := B.trans b6
  go_wp2_with fail
  refine (toLeaseS_any _ s0 (by omega)).mono ?_
  rintro e w7 ⟨u7, rfl, t7, o7, b7⟩
  clear o7
  replace s0 := s0.ext b7
  replace s2 := s2.ext b7
  replace t1 := t1.ext b7
  replace t2 := t2.ext b7
  replace t4 := t4.ext b7
  replace t5 := t5.ext b7
  replace B := B.trans b7
  go_wp2_with fail
  refine (eqLeaseS_any _ t4 t7 (by omega)).mono ?_
  rintro e w8 ⟨rfl, b8⟩
  replace s0 := s0.ext b8
  replace s2 := s2.ext b8
  replace t1 := t1.ext b8
  replace t2 := t2.ext b8
  replace t4 := t4.ext b8
  replace t5 := t5.ext b8
  replace t7 := t7.ext b8
  replace B := B.trans b8
  go_wp2_with fail
  refine (toIntS_any _ s2 (by omega)).mono ?_
  rintro e w9 ⟨u9, rfl, t9, o9, b9⟩
  clear o9
  replace s0 := s0.ext b9
  replace s2 := s2.ext b9
  replace t1 := t1.ext b9
  replace t2 := t2.ext b9
  replace t4 := t4.ext b9
  replace t5 := t5.ext b9
  replace t7 := t7.ext b9
  replace B := B.trans b9
  go_wp2_with fail
  refine (eqIntS_any _ t5 t9 (by omega)).mono ?_
  rintro e w10 ⟨rfl, b10⟩
  replace s0 := s0.ext b10
  replace s2 := s2.ext b10
  replace t1 := t1.ext b10
  replace t2 := t2.ext b10
  replace t4 := t4.ext b10
  replace t5 := t5.ext b10
  replace t7 := t7.ext b10
  replace t9 := t9.ext b10
  replace B := B.trans b10
  go_wp2
  go_returns
  exact ⟨rfl, B⟩
end Go.Proofs.Ytopefelijcloiaa
