/- The walk of laws.FnExactLockWaits: it answers true. -/
import Derived.Test.YtfmddiomecnkcaaDoorWaitsL
namespace Go.Proofs.YtfmddiomecnkcaaDoor
open Go.RowKit
set_option maxRecDepth 8000

set_option linter.unusedVariables false in
set_option maxHeartbeats 4000000 in
theorem law_FnExactLockWaits (w : World) (hT : Tab64 1 w) {v0 : Value} {xs0 : List Hold} (s0 : SlOf 4 encHold w v0 xs0) (l0 : xs0.length ≤ 9223372036854775807) (f0 : ∀ x ∈ xs0, wfHold x) :
    Calls Tryd.prog 3 #[v0] w fun e w' => e = .returned (.bool true) ∧ Ext w w' := by
  have HT := Lib.hid hT
  clear hT
  obtain ⟨A0, c0, hv0, _⟩ := id s0
  by_cases hl0 : xs0.length ≤ 1048576
  case neg =>
    subst hv0
    have hl0' : 1048576 < xs0.length := by omega
    clear hl0
    go_enter Tryd.func3, Tryd.ntmps3
    go_wp2_with fail
    refine (szHoldS_any _ _ _ _ _ l0 (by omega) (by omega)).mono ?_
    rintro e w' ⟨rfl, rfl⟩
    rw [if_neg (by omega)]
    go_wp2
    go_returns
    exact ⟨rfl, Ext.refl _⟩
  subst hv0
  have hlen5 := waitsLL_len xs0
  have hin7 := Lib.hid (waitsLL_in xs0)
  have HIN : Hid (∀ ys ∈ waitsLL xs0, ys.length ≤ 1000) := fun ys hy => by have := hin7.out ys hy; omega
  have htot : totL (waitsLL xs0) (waitsLL xs0).length ≤ 35 := by
    have h1 := totL_le hin7.out (waitsLL xs0).length
    have h2 : (waitsLL xs0).length * 7 ≤ 5 * 7 := Nat.mul_le_mul_right _ hlen5
    omega
  obtain ⟨X, hX⟩ : ∃ X, waitsLL xs0 = X := ⟨_, rfl⟩
  have HX := Lib.hid hX
  rw [hX] at hlen5 htot HIN
  obtain ⟨T, hTe⟩ : ∃ T, totL X X.length = T := ⟨_, rfl⟩
  have HTE := Lib.hid hTe
  rw [hTe] at htot
  clear hX hTe hin7
  go_enter Tryd.func3, Tryd.ntmps3
  go_wp2_with fail
  refine (szHoldS_any _ _ _ _ _ l0 (by omega) (by omega)).mono ?_
  rintro e w' ⟨rfl, rfl⟩
  rw [if_pos (by omega)]
  go_wp2_with fail
  refine (toHoldS_cap _ s0 (by omega)).mono ?_
  rintro e w1 ⟨u1, rfl, t1, o1, b1, k1⟩
  go_wp2_with fail
  refine (spec_LockWaits _ t1 (by omega)).mono ?_
  rw [HX.out]
  rintro e w2 ⟨v2, us2, rfl, L2, _, b2⟩
  have S0 := Lib.hid ((s0.ext b1).ext b2)
  have B := b1.trans b2
  have HL2 := Lib.hid L2
  clear s0 t1 o1 k1 b1 b2 L2
  go_wp2_with fail
  refine (toHoldS_cap _ S0.out (by omega)).mono ?_
  rintro e w3 ⟨u3, rfl, t3, o3, E, k3⟩
  go_wp2_with fail
  refine (impl_LockWaits _ t3 (by omega) k3 (HT.out.ext (B.trans E))).mono ?_
  rw [HX.out]
  rintro e w4 ⟨v4, us4, rfl, L4, O4, b4⟩
  have hlo3 := E.size
  have hfar := Lib.hid (O4.far t3)
  replace t3 := t3.ext b4
  replace o3 := o3.ext b4
  replace E := E.trans b4
  have hlo4 := b4.size
  clear b4
  go_wp2_with fail
  refine (eqIntSS_any _ L4 (HL2.out.ext E) (by omega) HIN.out).mono ?_
  rintro e w5 ⟨rfl, b5⟩
  have hs5 := b5.size
  replace t3 := t3.ext b5
  replace o3 := o3.ext b5
  replace L4 := L4.ext b5
  replace O4 := O4.ext b5
  replace E := E.trans b5
  clear b5
  go_wp2_with fail
  refine (toHoldS_cap _ (S0.out.ext E) (by omega)).mono ?_
  rintro e w6 ⟨u6, rfl, t6, o6, b6, k6⟩
  have hs6 := b6.size
  replace t3 := t3.ext b6
  replace o3 := o3.ext b6
  replace L4 := L4.ext b6
  replace O4 := O4.ext b6
  replace E := E.trans b6
  clear b6 o6 k6
  go_wp2_with fail
  refine (eqHoldS_any _ t3 t6 (by omega)).mono ?_
  rintro e w7 ⟨rfl, b7⟩
  have hs7 := b7.size
  replace t3 := t3.ext b7
  replace o3 := o3.ext b7
  replace L4 := L4.ext b7
  replace O4 := O4.ext b7
  replace E := E.trans b7
  clear b7 t6
  go_wp2_with fail
  refine (markHoldS_any _ 1 t3 o3 (by omega) (by omega)).mono ?_
  rintro e w8 ⟨rfl, t3', q8⟩
  have hs8 := q8.size
  replace E := E.only q8 o3 (Nat.le_refl _)
  replace L4 := L4.only q8 hfar.out.1 hfar.out.2
  replace O4 := O4.only q8
  clear t3 t3' o3 q8 hfar
  go_wp2_with fail
  refine (eqIntSS_any _ L4 (HL2.out.ext E) (by omega) HIN.out).mono ?_
  rintro e w9 ⟨rfl, b9⟩
  have hs9 := b9.size
  replace L4 := L4.ext b9
  replace O4 := O4.ext b9
  replace E := E.trans b9
  clear b9
  go_wp2_with fail
  refine (markIntSS_any _ 1 L4 O4 (by omega) (by omega) HIN.out (by omega)).mono ?_
  rw [HTE.out]
  rintro e w10 ⟨rfl, L5, _, q10⟩
  replace E : Ext w2 w10 := Below.trans (show Below w2.heap.size w2 w9 from E) (q10.mono hlo3)
  clear q10 L4 O4
  go_wp2_with fail
  refine (heldIntSS_any _ 1 L5 (by omega) HIN.out (by omega)).mono ?_
  rw [HTE.out]
  rintro e w11 ⟨rfl, b11⟩
  replace L5 := L5.ext b11
  replace E := E.trans b11
  clear b11
  go_wp2_with fail
  refine (toHoldS_cap _ (S0.out.ext E) (by omega)).mono ?_
  rintro e w12 ⟨u12, rfl, t12, o12, b12, k12⟩
  replace L5 := L5.ext b12
  replace E := E.trans b12
  clear b12 o12
  go_wp2_with fail
  refine (impl_LockWaits _ t12 (by omega) k12 (HT.out.ext (B.trans E))).mono ?_
  rw [HX.out]
  rintro e w13 ⟨v13, us13, rfl, L13, _, b13⟩
  replace L5 := L5.ext b13
  replace E := E.trans b13
  clear b13 t12 k12
  go_wp2_with fail
  refine (eqIntSS_any _ L13 (HL2.out.ext E) (by omega) HIN.out).mono ?_
  rintro e w14 ⟨rfl, b14⟩
  replace L5 := L5.ext b14
  replace E := E.trans b14
  clear b14 L13
  go_wp2_with fail
  refine (heldIntSS_any _ 1 L5 (by omega) HIN.out (by omega)).mono ?_
  rw [HTE.out]
  rintro e w15 ⟨rfl, b15⟩
  replace E := E.trans b15
  go_wp2
  go_returns
  exact ⟨rfl, B.trans E⟩
end Go.Proofs.YtfmddiomecnkcaaDoor
