/- The walk of laws.FnRedoRun: it answers true. -/
import Derived.Test.YtiggckhlbklngaaDoorRedoRunI
import Derived.Test.YtiggckhlbklngaaDoorRedoShortI
import Derived.Test.YtiggckhlbklngaaDoorDrawRun
import Derived.Test.YtiggckhlbklngaaDoorAlive
import Derived.Test.YtiggckhlbklngaaDoorSameI
namespace Go.Proofs.YtiggckhlbklngaaDoor
open Go.RowKit
set_option maxRecDepth 8000

theorem runL_some {vs : List Int} {xs : List Redo} (h : 0 < (runL vs xs).length) : redoOk xs = true := by
  unfold runL at h
  split at h
  · rename_i hh; exact hh.2
  · simp at h
set_option maxHeartbeats 8000000 in
theorem law_FnRedoRun (w : World) {v0 : Value} {xs0 : List Int} (s0 : Sl1 encU w v0 xs0) (l0 : xs0.length ≤ 9223372036854775807) (f0 : ∀ x ∈ xs0, 0 ≤ x ∧ x ≤ 255) (k0 : ∀ A n c, v0 = .slice A n c → n ≤ c ∧ c ≤ 9223372036854775807) :
    Calls Tryd.prog 4 #[v0] w fun e w' => e = .returned (.bool true) ∧ Ext w w' := by
  obtain ⟨A0, c0, hv0, _⟩ := id s0
  by_cases hl : xs0.length ≤ 1048576
  case neg =>
    subst hv0
    have hl' : 1048576 < xs0.length := by omega
    clear hl s0 f0 k0
    go_enter Tryd.func4, Tryd.ntmps4
    go_wp2
    go_returns
    exact ⟨rfl, Ext.refl _⟩
  have HC := Lib.hid (⟨xs0, s0, f0, hl, k0⟩ : CodeIn w v0)
  subst hv0
  clear s0 f0 k0
  go_enter Tryd.func4, Tryd.ntmps4
  go_wp2_with fail
  refine (DrawRedoRun_any _ HC.out).mono ?_
  rintro e w1 ⟨u, v, vs, xs, rfl, hu, hul, hv, hx, b1⟩
  have HU := Lib.hid hu
  have HV := Lib.hid hv.1
  have hxl : xs.length ≤ 2097152 := by have := hx.1; omega
  have hvl : vs.length ≤ 2097152 := by omega
  have HB := Lib.hid b1
  clear hu hv hx b1
  go_wp2_with fail
  refine (impl_RedoRun _ HU.out HV.out hvl hxl).mono ?_
  rintro e w2 ⟨v2, rfl, h2, o2, b2⟩
  replace HU := Lib.hid (HU.out.ext b2)
  replace HV := Lib.hid (HV.out.ext b2)
  replace HB := Lib.hid (HB.out.trans b2)
  obtain ⟨R, hR⟩ : ∃ R, runL vs xs = R := ⟨_, rfl⟩
  have hRl : R.length ≤ 2097152 := by rw [← hR]; have := runL_len vs xs; omega
  have HR := Lib.hid hR
  rw [hR] at h2
  have H2 := Lib.hid h2
  clear h2 o2 b2 hR
  go_wp2_with fail
  refine (spec_RedoRun _ HU.out HV.out hvl hxl).mono ?_
  rw [HR.out]
  rintro e w3 ⟨v3, rfl, h3, o3, b3⟩
  replace HU := Lib.hid (HU.out.ext b3)
  replace HV := Lib.hid (HV.out.ext b3)
  replace HB := Lib.hid (HB.out.trans b3)
  replace H2 := Lib.hid (H2.out.ext b3)
  have H3 := Lib.hid h3
  clear h3 o3 b3
  go_wp2_with fail
  refine (sameInts_any _ H2.out H3.out hRl).mono ?_
  rintro e w4 ⟨rfl, b4⟩
  replace HU := Lib.hid (HU.out.ext b4)
  replace HV := Lib.hid (HV.out.ext b4)
  replace HB := Lib.hid (HB.out.trans b4)
  replace H2 := Lib.hid (H2.out.ext b4)
  clear H3 b4
  obtain ⟨A2, c2, rfl, _⟩ := H2.out
  by_cases h0 : R.length = 0
  · have h0' : ((R.length : Int) == 0) = true := by simp [h0]
    clear h0
    go_wp2_with (go_at_call 11; refine (alive_any _).mono ?_; rintro e w8 ⟨rfl, b8⟩)
    go_returns
    exact ⟨rfl, HB.out.trans b8⟩
  have h0' : ((R.length : Int) == 0) = false := by rw [beq_eq_false_iff_ne]; omega
  have hok := runL_some (vs := vs) (xs := xs) (by rw [HR.out]; omega)
  have H5 : Hid (runL R xs = R) := by
    have := runL_twice (vs := vs) (xs := xs) (by rw [HR.out]; omega)
    rw [HR.out] at this
    exact this
  have H6 : Hid (runL vs (shortL xs) = R) := (runL_short vs hok).trans HR.out
  have hsl : (shortL xs).length ≤ 2097152 := by have := shortL_len xs; omega
  clear h0 hok
  go_wp2_with fail
  refine (impl_RedoRun _ H2.out HV.out hRl hxl).mono ?_
  rw [H5.out]
  rintro e w5 ⟨v5, rfl, h5, o5, b5⟩
  replace HU := Lib.hid (HU.out.ext b5)
  replace HV := Lib.hid (HV.out.ext b5)
  replace HB := Lib.hid (HB.out.trans b5)
  replace H2 := Lib.hid (H2.out.ext b5)
  have HH5 := Lib.hid h5
  clear h5 o5 b5
  go_wp2_with fail
  refine (sameInts_any _ HH5.out H2.out hRl).mono ?_
  rintro e w6 ⟨rfl, b6⟩
  replace HU := Lib.hid (HU.out.ext b6)
  replace HV := Lib.hid (HV.out.ext b6)
  replace HB := Lib.hid (HB.out.trans b6)
  replace H2 := Lib.hid (H2.out.ext b6)
  clear HH5 b6
  go_wp2_with fail
  refine (impl_RedoShort _ HV.out hxl).mono ?_
  rintro e w7 ⟨v7, rfl, h7, o7, b7⟩
  replace HU := Lib.hid (HU.out.ext b7)
  replace HB := Lib.hid (HB.out.trans b7)
  replace H2 := Lib.hid (H2.out.ext b7)
  have H7 := Lib.hid h7
  clear h7 o7 b7
  go_wp2_with fail
  refine (impl_RedoRun _ HU.out H7.out hvl hsl).mono ?_
  rw [H6.out]
  rintro e w8 ⟨v8, rfl, h8, o8, b8⟩
  replace HB := Lib.hid (HB.out.trans b8)
  replace H2 := Lib.hid (H2.out.ext b8)
  have H8 := Lib.hid h8
  clear h8 o8 b8
  go_wp2_with fail
  refine (sameInts_any _ H8.out H2.out hRl).mono ?_
  rintro e w9 ⟨rfl, b9⟩
  go_wp2
  go_returns
  exact ⟨rfl, HB.out.trans b9⟩
end Go.Proofs.YtiggckhlbklngaaDoor
