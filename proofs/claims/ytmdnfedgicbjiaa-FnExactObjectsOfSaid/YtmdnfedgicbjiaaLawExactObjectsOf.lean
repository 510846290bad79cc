/- The walk of laws.FnExactObjectsOf: it answers true. -/
import Derived.Test.YtmdnfedgicbjiaaObjSR
namespace Go.Proofs.Ytmdnfedgicbjiaa
open Go.RowKit

set_option linter.unusedVariables false in
set_option maxHeartbeats 2000000 in
theorem law_FnExactObjectsOf (w : World) {v0 : Value} {xs0 : List Int} (s0 : Sl1 encI w v0 xs0) (l0 : xs0.length ≤ 9223372036854775807) (f0 : ∀ x ∈ xs0, (Lit.int .i64 x).wf = true) {v1 : Value} {xs1 : List Int} (s1 : Sl1 encI w v1 xs1) (l1 : xs1.length ≤ 9223372036854775807) (f1 : ∀ x ∈ xs1, (Lit.int .i64 x).wf = true) :
    Calls Try.prog 5 #[v0, v1] w fun e w' => e = .returned (.bool true) ∧ Ext w w' := by
  obtain ⟨A0, c0, hv0, _⟩ := id s0
  obtain ⟨A1, c1, hv1, _⟩ := id s1
  by_cases hl0 : xs0.length ≤ 1048576
  case neg =>
    subst hv0
    subst hv1
    have hl0' : 1048576 < xs0.length := by omega
    clear hl0
    go_enter Try.func5, Try.ntmps5
    go_wp2
    go_returns
    exact ⟨rfl, Ext.refl _⟩
  by_cases hl1 : xs1.length ≤ 1048576
  case neg =>
    subst hv0
    subst hv1
    have hl1' : 1048576 < xs1.length := by omega
    clear hl1
    go_enter Try.func5, Try.ntmps5
    go_wp2
    go_returns
    exact ⟨rfl, Ext.refl _⟩
  subst hv0
  subst hv1
  go_enter Try.func5, Try.ntmps5
  go_wp2_with fail
  refine (toIntS_any _ s0 (by omega)).mono ?_
  rintro e w1 ⟨u1, rfl, t1, o1, b1⟩
  have ap_V0_u1 := s0.apart o1
  have ap_V1_u1 := s1.apart o1
  replace s0 := s0.ext b1
  replace s1 := s1.ext b1
  have B := b1
  go_wp2_with fail
  refine (toIntS_any _ s1 (by omega)).mono ?_
  rintro e w2 ⟨u2, rfl, t2, o2, b2⟩
  have ap_V0_u2 := s0.apart o2
  have ap_V1_u2 := s1.apart o2
  have ap_u1_u2 := t1.apart o2
  replace o2 := o2.mono (B.size)
  replace s0 := s0.ext b2
  replace s1 := s1.ext b2
  replace t1 := t1.ext b2
  replace o1 := o1.ext b2
  replace B := B.trans b2
  go_wp2_with fail
  refine (spec_ObjectsOf _ t1 t2 (by omega) (by omega)).mono ?_
  rintro e w3 ⟨u3, rfl, t3, o3, b3⟩
  have ap_V0_u3 := s0.apart o3
  have ap_V1_u3 := s1.apart o3
  have ap_u1_u3 := t1.apart o3
  have ap_u2_u3 := t2.apart o3
  replace o3 := o3.mono (B.size)
  replace s0 := s0.ext b3
  replace s1 := s1.ext b3
  replace t1 := t1.ext b3
  replace o1 := o1.ext b3
  replace t2 := t2.ext b3
  replace o2 := o2.ext b3
  replace B := B.trans b3
  go_wp2_with fail
  refine (toIntS_any _ s0 (by omega)).mono ?_
  rintro e w4 ⟨u4, rfl, t4, o4, b4⟩
  have ap_V0_u4 := s0.apart o4
  have ap_V1_u4 := s1.apart o4
  have ap_u1_u4 := t1.apart o4
  have ap_u2_u4 := t2.apart o4
  have ap_u3_u4 := t3.apart o4
  replace o4 := o4.mono (B.size)
  replace s0 := s0.ext b4
  replace s1 := s1.ext b4
  replace t1 := t1.ext b4
  replace o1 := o1.ext b4
  replace t2 := t2.ext b4
  replace o2 := o2.ext b4
  replace t3 := t3.ext b4
  replace o3 := o3.ext b4
  replace B := B.trans b4
  go_wp2_with fail
  refine (toIntS_any _ s1 (by omega)).mono ?_
  rintro e w5 ⟨u5, rfl, t5, o5, b5⟩
  have ap_V0_u5 := s0.apart o5
  have ap_V1_u5 := s1.apart o5
  have ap_u1_u5 := t1.apart o5
  have ap_u2_u5 := t2.apart o5
  have ap_u3_u5 := t3.apart o5
  have ap_u4_u5 := t4.apart o5
  replace o5 := o5.mono (B.size)
  replace s0 := s0.ext b5
  replace s1 := s1.ext b5
  replace t1 := t1.ext b5
  replace o1 := o1.ext b5
  replace t2 := t2.ext b5
  replace o2 := o2.ext b5
  replace t3 := t3.ext b5
  replace o3 := o3.ext b5
  replace t4 := t4.ext b5
  replace o4 := o4.ext b5
  replace B := B.trans b5
  go_wp2_with fail
  refine (impl_ObjectsOf _ t4 t5).mono ?_
  rintro e w6 ⟨u6, rfl, t6, o6, b6⟩
  have ap_V0_u6 := s0.apart o6
  have ap_V1_u6 := s1.apart o6
  have ap_u1_u6 := t1.apart o6
  have ap_u2_u6 := t2.apart o6
  have ap_u3_u6 := t3.apart o6
  have ap_u4_u6 := t4.apart o6
  have ap_u5_u6 := t5.apart o6
  replace o6 := o6.mono (B.size)
  replace s0 := s0.ext b6
  replace s1 := s1.ext b6
  replace t1 := t1.ext b6
  replace o1 := o1.ext b6
  replace t2 := t2.ext b6
  replace o2 := o2.ext b6
  replace t3 := t3.ext b6
  replace o3 := o3.ext b6
  replace t4 := t4.ext b6
  replace o4 := o4.ext b6
  replace t5 := t5.ext b6
  replace o5 := o5.ext b6
  replace B := B.trans b6
  go_wp2_with fail
  refine (eqIntS_any _ t6 t3 (show (ofTo xs0 xs1 4).length ≤ 2097152 from by have := ofTo_len xs0 xs1 4; omega)).mono ?_
  rintro e w7 ⟨rfl, b7⟩
  replace s0 := s0.ext b7
  replace s1 := s1.ext b7
  replace t1 := t1.ext b7
  replace o1 := o1.ext b7
  replace t2 := t2.ext b7
  replace o2 := o2.ext b7
  replace t3 := t3.ext b7
  replace o3 := o3.ext b7
  replace t4 := t4.ext b7
  replace o4 := o4.ext b7
  replace t5 := t5.ext b7
  replace o5 := o5.ext b7
  replace t6 := t6.ext b7
  replace o6 := o6.ext b7
  replace B := B.trans b7
  go_wp2_with fail
  refine (toIntS_any _ s0 (by omega)).mono ?_
  rintro e w8 ⟨u8, rfl, t8, o8, b8⟩
  have ap_V0_u8 := s0.apart o8
  have ap_V1_u8 := s1.apart o8
  have ap_u1_u8 := t1.apart o8
  have ap_u2_u8 := t2.apart o8
  have ap_u3_u8 := t3.apart o8
  have ap_u4_u8 := t4.apart o8
  have ap_u5_u8 := t5.apart o8
  have ap_u6_u8 := t6.apart o8
  replace o8 := o8.mono (B.size)
  replace s0 := s0.ext b8
  replace s1 := s1.ext b8
  replace t1 := t1.ext b8
  replace o1 := o1.ext b8
  replace t2 := t2.ext b8
  replace o2 := o2.ext b8
  replace t3 := t3.ext b8
  replace o3 := o3.ext b8
  replace t4 := t4.ext b8
  replace o4 := o4.ext b8
  replace t5 := t5.ext b8
  replace o5 := o5.ext b8
  replace t6 := t6.ext b8
  replace o6 := o6.ext b8
  replace B := B.trans b8
  go_wp2_with fail
  refine (eqIntS_any _ t4 t8 (by omega)).mono ?_
  rintro e w9 ⟨rfl, b9⟩
  replace s0 := s0.ext b9
  replace s1 := s1.ext b9
  replace t1 := t1.ext b9
  replace o1 := o1.ext b9
  replace t2 := t2.ext b9
  replace o2 := o2.ext b9
  replace t3 := t3.ext b9
  replace o3 := o3.ext b9
  replace t4 := t4.ext b9
  replace o4 := o4.ext b9
  replace t5 := t5.ext b9
  replace o5 := o5.ext b9
  replace t6 := t6.ext b9
  replace o6 := o6.ext b9
  replace t8 := t8.ext b9
  replace o8 := o8.ext b9
  replace B := B.trans b9
  go_wp2_with fail
  refine (toIntS_any _ s1 (by omega)).mono ?_
  rintro e w10 ⟨u10, rfl, t10, o10, b10⟩
  have ap_V0_u10 := s0.apart o10
  have ap_V1_u10 := s1.apart o10
  have ap_u1_u10 := t1.apart o10
  have ap_u2_u10 := t2.apart o10
  have ap_u3_u10 := t3.apart o10
  have ap_u4_u10 := t4.apart o10
  have ap_u5_u10 := t5.apart o10
  have ap_u6_u10 := t6.apart o10
  have ap_u8_u10 := t8.apart o10
  replace o10 := o10.mono (B.size)
  replace s0 := s0.ext b10
  replace s1 := s1.ext b10
  replace t1 := t1.ext b10
  replace o1 := o1.ext b10
  replace t2 := t2.ext b10
  replace o2 := o2.ext b10
  replace t3 := t3.ext b10
  replace o3 := o3.ext b10
  replace t4 := t4.ext b10
  replace o4 := o4.ext b10
  replace t5 := t5.ext b10
  replace o5 := o5.ext b10
  replace t6 := t6.ext b10
  replace o6 := o6.ext b10
  replace t8 := t8.ext b10
  replace o8 := o8.ext b10
  replace B := B.trans b10
  go_wp2_with fail
  refine (eqIntS_any _ t5 t10 (by omega)).mono ?_
  rintro e w11 ⟨rfl, b11⟩
  replace s0 := s0.ext b11
  replace s1 := s1.ext b11
  replace t1 := t1.ext b11
  replace o1 := o1.ext b11
  replace t2 := t2.ext b11
  replace o2 := o2.ext b11
  replace t3 := t3.ext b11
  replace o3 := o3.ext b11
  replace t4 := t4.ext b11
  replace o4 := o4.ext b11
  replace t5 := t5.ext b11
  replace o5 := o5.ext b11
  replace t6 := t6.ext b11
  replace o6 := o6.ext b11
  replace t8 := t8.ext b11
  replace o8 := o8.ext b11
  replace t10 := t10.ext b11
  replace o10 := o10.ext b11
  replace B := B.trans b11
  have rl := show (ofTo xs0 xs1 4).length ≤ 2097152 from by have := ofTo_len xs0 xs1 4; omega
  go_wp2_with fail
  refine (markIntS_any _ 1 t4 o4 (by omega) (by omega)).mono ?_
  rintro e w12 ⟨rfl, t4', q12⟩
  replace B := B.only q12 o4 (by exact Nat.le_refl _)
  replace s0 := s0.only q12 ap_V0_u4
  replace s1 := s1.only q12 ap_V1_u4
  replace t1 := t1.only q12 ap_u1_u4
  replace o1 := o1.only q12
  replace t2 := t2.only q12 ap_u2_u4
  replace o2 := o2.only q12
  replace t3 := t3.only q12 ap_u3_u4
  replace o3 := o3.only q12
  replace t5 := t5.only q12 ap_u4_u5.symm
  replace o5 := o5.only q12
  replace t6 := t6.only q12 ap_u4_u6.symm
  replace o6 := o6.only q12
  replace t8 := t8.only q12 ap_u4_u8.symm
  replace o8 := o8.only q12
  replace t10 := t10.only q12 ap_u4_u10.symm
  replace o10 := o10.only q12
  clear t4
  have t4 := t4'
  clear t4'
  replace o4 := o4.only q12
  go_wp2_with fail
  refine (markIntS_any _ (1 + xs0.length) t5 o5 (by omega) (by omega)).mono ?_
  rintro e w13 ⟨rfl, t5', q13⟩
  replace B := B.only q13 o5 (by exact Nat.le_refl _)
  replace s0 := s0.only q13 ap_V0_u5
  replace s1 := s1.only q13 ap_V1_u5
  replace t1 := t1.only q13 ap_u1_u5
  replace o1 := o1.only q13
  replace t2 := t2.only q13 ap_u2_u5
  replace o2 := o2.only q13
  replace t3 := t3.only q13 ap_u3_u5
  replace o3 := o3.only q13
  replace t4 := t4.only q13 ap_u4_u5
  replace o4 := o4.only q13
  replace t6 := t6.only q13 ap_u5_u6.symm
  replace o6 := o6.only q13
  replace t8 := t8.only q13 ap_u5_u8.symm
  replace o8 := o8.only q13
  replace t10 := t10.only q13 ap_u5_u10.symm
  replace o10 := o10.only q13
  clear t5
  have t5 := t5'
  clear t5'
  replace o5 := o5.only q13
  go_wp2_with fail
  refine (eqIntS_any _ t6 t3 (show (ofTo xs0 xs1 4).length ≤ 2097152 from by have := ofTo_len xs0 xs1 4; omega)).mono ?_
  rintro e w14 ⟨rfl, b14⟩
  replace s0 := s0.ext b14
  replace s1 := s1.ext b14
  replace t1 := t1.ext b14
  replace o1 := o1.ext b14
  replace t2 := t2.ext b14
  replace o2 := o2.ext b14
  replace t3 := t3.ext b14
  replace o3 := o3.ext b14
  replace t4 := t4.ext b14
  replace o4 := o4.ext b14
  replace t5 := t5.ext b14
  replace o5 := o5.ext b14
  replace t6 := t6.ext b14
  replace o6 := o6.ext b14
  replace t8 := t8.ext b14
  replace o8 := o8.ext b14
  replace t10 := t10.ext b14
  replace o10 := o10.ext b14
  replace B := B.trans b14
  go_wp2_with fail
  refine (markIntS_any _ 1 t6 o6 rl (by omega)).mono ?_
  rintro e w15 ⟨rfl, tg, q15⟩
  replace B := B.only q15 o6 (by exact Nat.le_refl _)
  replace s0 := s0.only q15 ap_V0_u6
  replace s1 := s1.only q15 ap_V1_u6
  replace t1 := t1.only q15 ap_u1_u6
  replace o1 := o1.only q15
  replace t2 := t2.only q15 ap_u2_u6
  replace o2 := o2.only q15
  replace t3 := t3.only q15 ap_u3_u6
  replace o3 := o3.only q15
  replace t4 := t4.only q15 ap_u4_u6
  replace o4 := o4.only q15
  replace t5 := t5.only q15 ap_u5_u6
  replace o5 := o5.only q15
  replace t8 := t8.only q15 ap_u6_u8.symm
  replace o8 := o8.only q15
  replace t10 := t10.only q15 ap_u6_u10.symm
  replace o10 := o10.only q15
  clear t6
  replace o6 := o6.only q15
  go_wp2_with fail
  refine (heldIntS_any _ 1 _ tg rl (by omega)).mono ?_
  rintro e w16 ⟨rfl, b16⟩
  replace s0 := s0.ext b16
  replace s1 := s1.ext b16
  replace t1 := t1.ext b16
  replace o1 := o1.ext b16
  replace t2 := t2.ext b16
  replace o2 := o2.ext b16
  replace t3 := t3.ext b16
  replace o3 := o3.ext b16
  replace t4 := t4.ext b16
  replace o4 := o4.ext b16
  replace t5 := t5.ext b16
  replace o5 := o5.ext b16
  replace tg := tg.ext b16
  replace o6 := o6.ext b16
  replace t8 := t8.ext b16
  replace o8 := o8.ext b16
  replace t10 := t10.ext b16
  replace o10 := o10.ext b16
  replace B := B.trans b16
  go_wp2_with fail
  refine (toIntS_any _ s0 (by omega)).mono ?_
  rintro e w17 ⟨u17, rfl, t17, o17, b17⟩
  have ap_V0_u17 := s0.apart o17
  have ap_V1_u17 := s1.apart o17
  have ap_u1_u17 := t1.apart o17
  have ap_u2_u17 := t2.apart o17
  have ap_u3_u17 := t3.apart o17
  have ap_u4_u17 := t4.apart o17
  have ap_u5_u17 := t5.apart o17
  have ap_u6_u17 := tg.apart o17
  have ap_u8_u17 := t8.apart o17
  have ap_u10_u17 := t10.apart o17
  replace o17 := o17.mono (B.size)
  replace s0 := s0.ext b17
  replace s1 := s1.ext b17
  replace t1 := t1.ext b17
  replace o1 := o1.ext b17
  replace t2 := t2.ext b17
  replace o2 := o2.ext b17
  replace t3 := t3.ext b17
  replace o3 := o3.ext b17
  replace t4 := t4.ext b17
  replace o4 := o4.ext b17
  replace t5 := t5.ext b17
  replace o5 := o5.ext b17
  replace tg := tg.ext b17
  replace o6 := o6.ext b17
  replace t8 := t8.ext b17
  replace o8 := o8.ext b17
  replace t10 := t10.ext b17
  replace o10 := o10.ext b17
  replace B := B.trans b17
  go_wp2_with fail
  refine (toIntS_any _ s1 (by omega)).mono ?_
  rintro e w18 ⟨u18, rfl, t18, o18, b18⟩
  have ap_V0_u18 := s0.apart o18
  have ap_V1_u18 := s1.apart o18
  have ap_u1_u18 := t1.apart o18
  have ap_u2_u18 := t2.apart o18
  have ap_u3_u18 := t3.apart o18
  have ap_u4_u18 := t4.apart o18
  have ap_u5_u18 := t5.apart o18
  have ap_u6_u18 := tg.apart o18
  have ap_u8_u18 := t8.apart o18
  have ap_u10_u18 := t10.apart o18
  have ap_u17_u18 := t17.apart o18
  replace o18 := o18.mono (B.size)
  replace s0 := s0.ext b18
  replace s1 := s1.ext b18
  replace t1 := t1.ext b18
  replace o1 := o1.ext b18
  replace t2 := t2.ext b18
  replace o2 := o2.ext b18
  replace t3 := t3.ext b18
  replace o3 := o3.ext b18
  replace t4 := t4.ext b18
  replace o4 := o4.ext b18
  replace t5 := t5.ext b18
  replace o5 := o5.ext b18
  replace tg := tg.ext b18
  replace o6 := o6.ext b18
  replace t8 := t8.ext b18
  replace o8 := o8.ext b18
  replace t10 := t10.ext b18
  replace o10 := o10.ext b18
  replace t17 := t17.ext b18
  replace o17 := o17.ext b18
  replace B := B.trans b18
  go_wp2_with fail
  refine (impl_ObjectsOf _ t17 t18).mono ?_
  rintro e w19 ⟨u19, rfl, t19, o19, b19⟩
  have ap_V0_u19 := s0.apart o19
  have ap_V1_u19 := s1.apart o19
  have ap_u1_u19 := t1.apart o19
  have ap_u2_u19 := t2.apart o19
  have ap_u3_u19 := t3.apart o19
  have ap_u4_u19 := t4.apart o19
  have ap_u5_u19 := t5.apart o19
  have ap_u6_u19 := tg.apart o19
  have ap_u8_u19 := t8.apart o19
  have ap_u10_u19 := t10.apart o19
  have ap_u17_u19 := t17.apart o19
  have ap_u18_u19 := t18.apart o19
  replace o19 := o19.mono (B.size)
  replace s0 := s0.ext b19
  replace s1 := s1.ext b19
  replace t1 := t1.ext b19
  replace o1 := o1.ext b19
  replace t2 := t2.ext b19
  replace o2 := o2.ext b19
  replace t3 := t3.ext b19
  replace o3 := o3.ext b19
  replace t4 := t4.ext b19
  replace o4 := o4.ext b19
  replace t5 := t5.ext b19
  replace o5 := o5.ext b19
  replace tg := tg.ext b19
  replace o6 := o6.ext b19
  replace t8 := t8.ext b19
  replace o8 := o8.ext b19
  replace t10 := t10.ext b19
  replace o10 := o10.ext b19
  replace t17 := t17.ext b19
  replace o17 := o17.ext b19
  replace t18 := t18.ext b19
  replace o18 := o18.ext b19
  replace B := B.trans b19
  go_wp2_with fail
  refine (eqIntS_any _ t19 t3 (show (ofTo xs0 xs1 4).length ≤ 2097152 from by have := ofTo_len xs0 xs1 4; omega)).mono ?_
  rintro e w20 ⟨rfl, b20⟩
  replace s0 := s0.ext b20
  replace s1 := s1.ext b20
  replace t1 := t1.ext b20
  replace o1 := o1.ext b20
  replace t2 := t2.ext b20
  replace o2 := o2.ext b20
  replace t3 := t3.ext b20
  replace o3 := o3.ext b20
  replace t4 := t4.ext b20
  replace o4 := o4.ext b20
  replace t5 := t5.ext b20
  replace o5 := o5.ext b20
  replace tg := tg.ext b20
  replace o6 := o6.ext b20
  replace t8 := t8.ext b20
  replace o8 := o8.ext b20
  replace t10 := t10.ext b20
  replace o10 := o10.ext b20
  replace t17 := t17.ext b20
  replace o17 := o17.ext b20
  replace t18 := t18.ext b20
  replace o18 := o18.ext b20
  replace t19 := t19.ext b20
  replace o19 := o19.ext b20
  replace B := B.trans b20
  go_wp2_with fail
  refine (heldIntS_any _ 1 _ tg rl (by omega)).mono ?_
  rintro e w21 ⟨rfl, b21⟩
  replace s0 := s0.ext b21
  replace s1 := s1.ext b21
  replace t1 := t1.ext b21
  replace o1 := o1.ext b21
  replace t2 := t2.ext b21
  replace o2 := o2.ext b21
  replace t3 := t3.ext b21
  replace o3 := o3.ext b21
  replace t4 := t4.ext b21
  replace o4 := o4.ext b21
  replace t5 := t5.ext b21
  replace o5 := o5.ext b21
  replace tg := tg.ext b21
  replace o6 := o6.ext b21
  replace t8 := t8.ext b21
  replace o8 := o8.ext b21
  replace t10 := t10.ext b21
  replace o10 := o10.ext b21
  replace t17 := t17.ext b21
  replace o17 := o17.ext b21
  replace t18 := t18.ext b21
  replace o18 := o18.ext b21
  replace t19 := t19.ext b21
  replace o19 := o19.ext b21
  replace B := B.trans b21
  go_wp2
  go_returns
  exact ⟨rfl, B⟩
end Go.Proofs.Ytmdnfedgicbjiaa
