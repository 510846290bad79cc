/- The walk of laws.FnExactLogNewer: it answers true. -/
import Derived.Test.YtopefelijcloiaaLogNewer
namespace Go.Proofs.Ytopefelijcloiaa
open Go.RowKit

set_option linter.unusedVariables false in
set_option maxHeartbeats 2000000 in
theorem law_FnExactLogNewer (w : World) {v0 : Value} {xs0 : List Rec} (s0 : SlOf 2 encRec w v0 xs0) (l0 : xs0.length ≤ 9223372036854775807) (f0 : ∀ x ∈ xs0, wfRec x) {v1 : Value} {xs1 : List Rec} (s1 : SlOf 2 encRec w v1 xs1) (l1 : xs1.length ≤ 9223372036854775807) (f1 : ∀ x ∈ xs1, wfRec x) :
    Calls Try.prog 6 #[v0, v1] w fun e w' => e = .returned (.bool true) ∧ Ext w w' := by
  obtain ⟨A0, c0, hv0, _⟩ := id s0
  obtain ⟨A1, c1, hv1, _⟩ := id s1
  by_cases hl0 : xs0.length ≤ 1048576
  case neg =>
    subst hv0
    subst hv1
    have hl0' : 1048576 < xs0.length := by omega
    clear hl0
    go_enter Try.func6, Try.ntmps6
    go_wp2_with fail
    refine (szRecordS_any _ _ _ _ _ l0 (by omega) (by omega)).mono ?_
    rintro e w' ⟨rfl, rfl⟩
    rw [if_neg (by omega)]
    go_wp2
    go_returns
    exact ⟨rfl, Ext.refl _⟩
  by_cases hl1 : xs0.length + xs1.length ≤ 1048576
  case neg =>
    subst hv0
    subst hv1
    have hl1' : 1048576 < xs0.length + xs1.length := by omega
    clear hl1
    go_enter Try.func6, Try.ntmps6
    go_wp2_with fail
    refine (szRecordS_any _ _ _ _ _ l0 (by omega) (by omega)).mono ?_
    rintro e w' ⟨rfl, rfl⟩
    rw [if_pos (by omega)]
    go_wp2_with fail
    refine (szRecordS_any _ _ _ _ _ l1 (by omega) (by omega)).mono ?_
    rintro e w' ⟨rfl, rfl⟩
    rw [if_neg (by omega)]
    go_wp2
    go_returns
    exact ⟨rfl, Ext.refl _⟩
  subst hv0
  subst hv1
  go_enter Try.func6, Try.ntmps6
  go_wp2_with fail
  refine (szRecordS_any _ _ _ _ _ l0 (by omega) (by omega)).mono ?_
  rintro e w' ⟨rfl, rfl⟩
  rw [if_pos (by omega)]
  go_wp2_with fail
  refine (szRecordS_any _ _ _ _ _ l1 (by omega) (by omega)).mono ?_
  rintro e w' ⟨rfl, rfl⟩
  rw [if_pos (by omega)]
  go_wp2_with fail
  refine (toRecordS_any _ s0 (by omega)).mono ?_
  rintro e w1 ⟨u1, rfl, t1, o1, b1⟩
  clear o1
  replace s0 := s0.ext b1
  replace s1 := s1.ext b1
  have B := b1
  go_wp2_with fail
  refine (toRecordS_any _ s1 (by omega)).mono ?_
  rintro e w2 ⟨u2, rfl, t2, o2, b2⟩
  clear o2
  replace s0 := s0.ext b2
  replace s1 := s1.ext b2
  replace t1 := t1.ext b2
  replace B := B.trans b2
  go_wp2_with fail
  refine (spec_LogNewer _ t1 t2 (by omega) (by omega)).mono ?_
  rintro e w3 ⟨rfl, b3⟩
  replace s0 := s0.ext b3
  replace s1 := s1.ext b3
  replace t1 := t1.ext b3
  replace t2 := t2.ext b3
  replace B := B.trans b3
  go_wp2_with fail
  refine (toRecordS_any _ s0 (by omega)).mono ?_
  rintro e w4 ⟨u4, rfl, t4, o4, b4⟩
  clear o4
  replace s0 := s0.ext b4
  replace s1 := s1.ext b4
  replace t1 := t1.ext b4
  replace t2 := t2.ext b4
  replace B := B.trans b4
  go_wp2_with fail
  refine (toRecordS_any _ s1 (by omega)).mono ?_
  rintro e w5 ⟨u5, rfl, t5, o5, b5⟩
  clear o5
  replace s0 := s0.ext b5
  replace s1 := s1.ext b5
  replace t1 := t1.ext b5
  replace t2 := t2.ext b5
  replace t4 := t4.ext b5
  replace B := B.trans b5
  go_wp2_with fail
  refine (impl_LogNewer _ t4 t5 (by omega) (by omega)).mono ?_
  rintro e w6 ⟨rfl, b6⟩
  replace s0 := s0.ext b6
  replace s1 := s1.ext b6
  replace t1 := t1.ext b6
  replace t2 := t2.ext b6
  replace t4 := t4.ext b6
  replace t5 := t5.ext b6
  replace B := B.trans b6
  go_wp2_with fail
  refine (toRecordS_any _ s0 (by omega)).mono ?_
  rintro e w7 ⟨u7, rfl, t7, o7, b7⟩
  clear o7
  replace s0 := s0.ext b7
  replace s1 := s1.ext b7
  replace t1 := t1.ext b7
  replace t2 := t2.ext b7
  replace t4 := t4.ext b7
  replace t5 := t5.ext b7
  replace B := B.trans b7
  go_wp2_with fail
  refine (eqRecordS_any _ t4 t7 (by omega)).mono ?_
  rintro e w8 ⟨rfl, b8⟩
  replace s0 := s0.ext b8
  replace s1 := s1.ext b8
  replace t1 := t1.ext b8
  replace t2 := t2.ext b8
  replace t4 := t4.ext b8
  replace t5 := t5.ext b8
  replace t7 := t7.ext b8
  replace B := B.trans b8
  go_wp2_with fail
  refine (toRecordS_any _ s1 (by omega)).mono ?_
  rintro e w9 ⟨u9, rfl, t9, o9, b9⟩
  clear o9
  replace s0 := s0.ext b9
  replace s1 := s1.ext b9
  replace t1 := t1.ext b9
  replace t2 := t2.ext b9
  replace t4 := t4.ext b9
  replace t5 := t5.ext b9
  replace t7 := t7.ext b9
  replace B := B.trans b9
  go_wp2_with fail
  refine (eqRecordS_any _ t5 t9 (by omega)).mono ?_
  rintro e w10 ⟨rfl, b10⟩
  replace s0 := s0.ext b10
  replace s1 := s1.ext b10
  replace t1 := t1.ext b10
  replace t2 := t2.ext b10
  replace t4 := t4.ext b10
  replace t5 := t5.ext b10
  replace t7 := t7.ext b10
  replace t9 := t9.ext b10
  replace B := B.trans b10
  go_wp2
  go_returns
  exact ⟨rfl, B⟩
end Go.Proofs.Ytopefelijcloiaa
