/- The walk of laws.FnExactObjectRun: it answers true. -/
import Derived.Test.YtmdnfedgicbjiaaObjSR
namespace Go.Proofs.Ytmdnfedgicbjiaa
open Go.RowKit

set_option linter.unusedVariables false in
set_option maxHeartbeats 2000000 in
theorem law_FnExactObjectRun (w : World) (x0 : Int) (f0 : (Lit.int .i64 x0).wf = true) {v1 : Value} {xs1 : List Int} (s1 : Sl1 encI w v1 xs1) (l1 : xs1.length ≤ 9223372036854775807) (f1 : ∀ x ∈ xs1, (Lit.int .i64 x).wf = true) :
    Calls Try.prog 3 #[.int .i64 x0, v1] w fun e w' => e = .returned (.bool true) ∧ Ext w w' := by
  obtain ⟨A1, c1, hv1, _⟩ := id s1
  by_cases hl1 : xs1.length ≤ 1048576
  case neg =>
    subst hv1
    have hl1' : 1048576 < xs1.length := by omega
    clear hl1
    go_enter Try.func3, Try.ntmps3
    go_wp2
    go_returns
    exact ⟨rfl, Ext.refl _⟩
  subst hv1
  go_enter Try.func3, Try.ntmps3
  go_wp2_with fail
  refine (toIntS_any _ s1 (by omega)).mono ?_
  rintro e w1 ⟨u1, rfl, t1, o1, b1⟩
  have ap_V1_u1 := s1.apart o1
  replace s1 := s1.ext b1
  have B := b1
  go_wp2_with fail
  refine (spec_ObjectRun x0 _ t1 (by omega)).mono ?_
  rintro e w2 ⟨u2, rfl, t2, o2, b2⟩
  have ap_V1_u2 := s1.apart o2
  have ap_u1_u2 := t1.apart o2
  replace o2 := o2.mono (B.size)
  replace s1 := s1.ext b2
  replace t1 := t1.ext b2
  replace o1 := o1.ext b2
  replace B := B.trans b2
  go_wp2_with fail
  refine (toIntS_any _ s1 (by omega)).mono ?_
  rintro e w3 ⟨u3, rfl, t3, o3, b3⟩
  have ap_V1_u3 := s1.apart o3
  have ap_u1_u3 := t1.apart o3
  have ap_u2_u3 := t2.apart o3
  replace o3 := o3.mono (B.size)
  replace s1 := s1.ext b3
  replace t1 := t1.ext b3
  replace o1 := o1.ext b3
  replace t2 := t2.ext b3
  replace o2 := o2.ext b3
  replace B := B.trans b3
  go_wp2_with fail
  refine (impl_ObjectRun x0 _ t3).mono ?_
  rintro e w4 ⟨u4, rfl, t4, o4, b4⟩
  have ap_V1_u4 := s1.apart o4
  have ap_u1_u4 := t1.apart o4
  have ap_u2_u4 := t2.apart o4
  have ap_u3_u4 := t3.apart o4
  replace o4 := o4.mono (B.size)
  replace s1 := s1.ext b4
  replace t1 := t1.ext b4
  replace o1 := o1.ext b4
  replace t2 := t2.ext b4
  replace o2 := o2.ext b4
  replace t3 := t3.ext b4
  replace o3 := o3.ext b4
  replace B := B.trans b4
  go_wp2_with fail
  refine (eqIntS_any _ t4 t2 (show (objL x0 xs1).length ≤ 2097152 from by have := objL_len x0 xs1; omega)).mono ?_
  rintro e w5 ⟨rfl, b5⟩
  replace s1 := s1.ext b5
  replace t1 := t1.ext b5
  replace o1 := o1.ext b5
  replace t2 := t2.ext b5
  replace o2 := o2.ext b5
  replace t3 := t3.ext b5
  replace o3 := o3.ext b5
  replace t4 := t4.ext b5
  replace o4 := o4.ext b5
  replace B := B.trans b5
  go_wp2_with fail
  refine (toIntS_any _ s1 (by omega)).mono ?_
  rintro e w6 ⟨u6, rfl, t6, o6, b6⟩
  have ap_V1_u6 := s1.apart o6
  have ap_u1_u6 := t1.apart o6
  have ap_u2_u6 := t2.apart o6
  have ap_u3_u6 := t3.apart o6
  have ap_u4_u6 := t4.apart o6
  replace o6 := o6.mono (B.size)
  replace s1 := s1.ext b6
  replace t1 := t1.ext b6
  replace o1 := o1.ext b6
  replace t2 := t2.ext b6
  replace o2 := o2.ext b6
  replace t3 := t3.ext b6
  replace o3 := o3.ext b6
  replace t4 := t4.ext b6
  replace o4 := o4.ext b6
  replace B := B.trans b6
  go_wp2_with fail
  refine (eqIntS_any _ t3 t6 (by omega)).mono ?_
  rintro e w7 ⟨rfl, b7⟩
  replace s1 := s1.ext b7
  replace t1 := t1.ext b7
  replace o1 := o1.ext b7
  replace t2 := t2.ext b7
  replace o2 := o2.ext b7
  replace t3 := t3.ext b7
  replace o3 := o3.ext b7
  replace t4 := t4.ext b7
  replace o4 := o4.ext b7
  replace t6 := t6.ext b7
  replace o6 := o6.ext b7
  replace B := B.trans b7
  have rl := show (objL x0 xs1).length ≤ 2097152 from by have := objL_len x0 xs1; omega
  go_wp2_with fail
  refine (markIntS_any _ 1 t3 o3 (by omega) (by omega)).mono ?_
  rintro e w8 ⟨rfl, t3', q8⟩
  replace B := B.only q8 o3 (by exact Nat.le_refl _)
  replace s1 := s1.only q8 ap_V1_u3
  replace t1 := t1.only q8 ap_u1_u3
  replace o1 := o1.only q8
  replace t2 := t2.only q8 ap_u2_u3
  replace o2 := o2.only q8
  replace t4 := t4.only q8 ap_u3_u4.symm
  replace o4 := o4.only q8
  replace t6 := t6.only q8 ap_u3_u6.symm
  replace o6 := o6.only q8
  clear t3
  have t3 := t3'
  clear t3'
  replace o3 := o3.only q8
  go_wp2_with fail
  refine (eqIntS_any _ t4 t2 (show (objL x0 xs1).length ≤ 2097152 from by have := objL_len x0 xs1; omega)).mono ?_
  rintro e w9 ⟨rfl, b9⟩
  replace s1 := s1.ext b9
  replace t1 := t1.ext b9
  replace o1 := o1.ext b9
  replace t2 := t2.ext b9
  replace o2 := o2.ext b9
  replace t3 := t3.ext b9
  replace o3 := o3.ext b9
  replace t4 := t4.ext b9
  replace o4 := o4.ext b9
  replace t6 := t6.ext b9
  replace o6 := o6.ext b9
  replace B := B.trans b9
  go_wp2_with fail
  refine (markIntS_any _ 1 t4 o4 rl (by omega)).mono ?_
  rintro e w10 ⟨rfl, tg, q10⟩
  replace B := B.only q10 o4 (by exact Nat.le_refl _)
  replace s1 := s1.only q10 ap_V1_u4
  replace t1 := t1.only q10 ap_u1_u4
  replace o1 := o1.only q10
  replace t2 := t2.only q10 ap_u2_u4
  replace o2 := o2.only q10
  replace t3 := t3.only q10 ap_u3_u4
  replace o3 := o3.only q10
  replace t6 := t6.only q10 ap_u4_u6.symm
  replace o6 := o6.only q10
  clear t4
  replace o4 := o4.only q10
  go_wp2_with fail
  refine (heldIntS_any _ 1 _ tg rl (by omega)).mono ?_
  rintro e w11 ⟨rfl, b11⟩
  replace s1 := s1.ext b11
  replace t1 := t1.ext b11
  replace o1 := o1.ext b11
  replace t2 := t2.ext b11
  replace o2 := o2.ext b11
  replace t3 := t3.ext b11
  replace o3 := o3.ext b11
  replace tg := tg.ext b11
  replace o4 := o4.ext b11
  replace t6 := t6.ext b11
  replace o6 := o6.ext b11
  replace B := B.trans b11
  go_wp2_with fail
  refine (toIntS_any _ s1 (by omega)).mono ?_
  rintro e w12 ⟨u12, rfl, t12, o12, b12⟩
  have ap_V1_u12 := s1.apart o12
  have ap_u1_u12 := t1.apart o12
  have ap_u2_u12 := t2.apart o12
  have ap_u3_u12 := t3.apart o12
  have ap_u4_u12 := tg.apart o12
  have ap_u6_u12 := t6.apart o12
  replace o12 := o12.mono (B.size)
  replace s1 := s1.ext b12
  replace t1 := t1.ext b12
  replace o1 := o1.ext b12
  replace t2 := t2.ext b12
  replace o2 := o2.ext b12
  replace t3 := t3.ext b12
  replace o3 := o3.ext b12
  replace tg := tg.ext b12
  replace o4 := o4.ext b12
  replace t6 := t6.ext b12
  replace o6 := o6.ext b12
  replace B := B.trans b12
  go_wp2_with fail
  refine (impl_ObjectRun x0 _ t12).mono ?_
  rintro e w13 ⟨u13, rfl, t13, o13, b13⟩
  have ap_V1_u13 := s1.apart o13
  have ap_u1_u13 := t1.apart o13
  have ap_u2_u13 := t2.apart o13
  have ap_u3_u13 := t3.apart o13
  have ap_u4_u13 := tg.apart o13
  have ap_u6_u13 := t6.apart o13
  have ap_u12_u13 := t12.apart o13
  replace o13 := o13.mono (B.size)
  replace s1 := s1.ext b13
  replace t1 := t1.ext b13
  replace o1 := o1.ext b13
  replace t2 := t2.ext b13
  replace o2 := o2.ext b13
  replace t3 := t3.ext b13
  replace o3 := o3.ext b13
  replace tg := tg.ext b13
  replace o4 := o4.ext b13
  replace t6 := t6.ext b13
  replace o6 := o6.ext b13
  replace t12 := t12.ext b13
  replace o12 := o12.ext b13
  replace B := B.trans b13
  go_wp2_with fail
  refine (eqIntS_any _ t13 t2 (show (objL x0 xs1).length ≤ 2097152 from by have := objL_len x0 xs1; omega)).mono ?_
  rintro e w14 ⟨rfl, b14⟩
  replace s1 := s1.ext b14
  replace t1 := t1.ext b14
  replace o1 := o1.ext b14
  replace t2 := t2.ext b14
  replace o2 := o2.ext b14
  replace t3 := t3.ext b14
  replace o3 := o3.ext b14
  replace tg := tg.ext b14
  replace o4 := o4.ext b14
  replace t6 := t6.ext b14
  replace o6 := o6.ext b14
  replace t12 := t12.ext b14
  replace o12 := o12.ext b14
  replace t13 := t13.ext b14
  replace o13 := o13.ext b14
  replace B := B.trans b14
  go_wp2_with fail
  refine (heldIntS_any _ 1 _ tg rl (by omega)).mono ?_
  rintro e w15 ⟨rfl, b15⟩
  replace s1 := s1.ext b15
  replace t1 := t1.ext b15
  replace o1 := o1.ext b15
  replace t2 := t2.ext b15
  replace o2 := o2.ext b15
  replace t3 := t3.ext b15
  replace o3 := o3.ext b15
  replace tg := tg.ext b15
  replace o4 := o4.ext b15
  replace t6 := t6.ext b15
  replace o6 := o6.ext b15
  replace t12 := t12.ext b15
  replace o12 := o12.ext b15
  replace t13 := t13.ext b15
  replace o13 := o13.ext b15
  replace B := B.trans b15
  go_wp2
  go_returns
  exact ⟨rfl, B⟩
end Go.Proofs.Ytmdnfedgicbjiaa
