/- The walk of laws.FnRedoShort: it answers true. -/
import Derived.Test.YtiggckhlbklngaaDoorRedoRunI
import Derived.Test.YtiggckhlbklngaaDoorRedoShortI
import Derived.Test.YtiggckhlbklngaaDoorDrawRedo
import Derived.Test.YtiggckhlbklngaaDoorAlive
import Derived.Test.YtiggckhlbklngaaDoorSameI
import Derived.Test.YtiggckhlbklngaaDoorSameX
namespace Go.Proofs.YtiggckhlbklngaaDoor
open Go.RowKit
set_option maxRecDepth 8000

set_option maxHeartbeats 8000000 in
theorem law_FnRedoShort (w : World) {v0 : Value} {xs0 : List Int} (s0 : Sl1 encU w v0 xs0) (l0 : xs0.length ≤ 9223372036854775807) (f0 : ∀ x ∈ xs0, 0 ≤ x ∧ x ≤ 255) (k0 : ∀ A n c, v0 = .slice A n c → n ≤ c ∧ c ≤ 9223372036854775807) :
    Calls Tryd.prog 5 #[v0] w fun e w' => e = .returned (.bool true) ∧ Ext w w' := by
  obtain ⟨A0, c0, hv0, _⟩ := id s0
  by_cases hl : xs0.length ≤ 1048576
  case neg =>
    subst hv0
    have hl' : 1048576 < xs0.length := by omega
    clear hl s0 f0 k0
    go_enter Tryd.func5, Tryd.ntmps5
    go_wp2
    go_returns
    exact ⟨rfl, Ext.refl _⟩
  have HC := Lib.hid (⟨xs0, s0, f0, hl, k0⟩ : CodeIn w v0)
  subst hv0
  clear s0 f0 k0
  go_enter Tryd.func5, Tryd.ntmps5
  go_wp2_with fail
  refine (DrawRedoShort_any _ HC.out).mono ?_
  rintro e w1 ⟨v, xs, rfl, hv, hx, b1⟩
  have HV := Lib.hid hv.1
  have hxl : xs.length ≤ 2097152 := by have := hx.1; omega
  have HB := Lib.hid b1
  clear hv hx b1
  go_wp2_with fail
  refine (impl_RedoShort _ HV.out hxl).mono ?_
  rintro e w2 ⟨v2, rfl, h2, o2, b2⟩
  replace HV := Lib.hid (HV.out.ext b2)
  replace HB := Lib.hid (HB.out.trans b2)
  obtain ⟨L, hL⟩ : ∃ L, shortL xs = L := ⟨_, rfl⟩
  have hLl : L.length ≤ xs.length := by rw [← hL]; exact shortL_len xs
  have hLb : L.length ≤ 2097152 := by omega
  have HL := Lib.hid hL
  rw [hL] at h2
  have H2 := Lib.hid h2
  clear h2 o2 b2 hL
  go_wp2_with fail
  refine (spec_RedoShortO _ HV.out hxl).mono ?_
  rw [HL.out]
  rintro e w3 ⟨v3, rfl, h3, o3, b3⟩
  replace HV := Lib.hid (HV.out.ext b3)
  replace HB := Lib.hid (HB.out.trans b3)
  replace H2 := Lib.hid (H2.out.ext b3)
  have H3 := Lib.hid h3
  clear h3 o3 b3
  go_wp2_with fail
  refine (sameRedo_any _ H2.out H3.out hLb).mono ?_
  rintro e w4 ⟨rfl, b4⟩
  replace HV := Lib.hid (HV.out.ext b4)
  replace HB := Lib.hid (HB.out.trans b4)
  replace H2 := Lib.hid (H2.out.ext b4)
  clear H3 b4
  go_wp2_with fail
  refine (impl_RedoValid _ HV.out hxl).mono ?_
  obtain ⟨A2, c2, rfl, _⟩ := H2.out
  cases hok : redoOk xs with
  | false =>
    rintro e w5 ⟨rfl, b5⟩
    have hL0 : L = [] := by rw [← HL.out]; unfold shortL; rw [if_neg (by rw [hok]; simp)]
    subst hL0
    replace HB := Lib.hid (HB.out.trans b5)
    clear hok b5
    go_wp2_with (go_at_call 11; refine (alive_any _).mono ?_; rintro e w8 ⟨rfl, b8⟩)
    go_returns
    exact ⟨rfl, HB.out.trans b8⟩
  | true =>
    rintro e w5 ⟨rfl, b5⟩
    have H6 : Hid (redoOk L = true) := by show _ = _; rw [← HL.out]; exact shortL_ok hok
    have H7 : Hid (shortL L = L) := by
      show _ = _
      have := shortL_twice hok
      rw [HL.out] at this
      exact this
    have H8 : Hid (runL [1, 2, 3] L = runL [1, 2, 3] xs) := by
      show _ = _
      have := runL_short [1, 2, 3] hok
      rw [HL.out] at this
      exact this
    replace HV := Lib.hid (HV.out.ext b5)
    replace HB := Lib.hid (HB.out.trans b5)
    replace H2 := Lib.hid (H2.out.ext b5)
    clear hok b5
    have HX5 := Lib.hid ((Ext.refl w5).alloc (.cells #[Value.int .i64 1, .int .i64 2, .int .i64 3] 3))
    have HVAL : Hid (Sl1 encI (w5.alloc (.cells #[Value.int .i64 1, .int .i64 2, .int .i64 3] 3)) (.slice (some ⟨w5.heap.size, 0, none⟩) 3 3) [1, 2, 3]) := by
      refine ⟨_, _, rfl, fun _ => ⟨w5.heap.size, 0, rfl, by simp, fun i x hx => ?_⟩⟩
      rw [cell_of_row _ _ _ _ 3 (0, 0) (heap_alloc_new w5 _)]
      match i, hx with
      | 0, hx => cases hx; rfl
      | 1, hx => cases hx; rfl
      | 2, hx => cases hx; rfl
    go_wp2_with fail
    refine (impl_RedoValid _ (H2.out.ext HX5.out) hLb).mono ?_
    rw [H6.out]
    rintro e w6 ⟨rfl, b6⟩
    have E6 := HX5.out.trans b6
    replace HV := Lib.hid (HV.out.ext E6)
    replace HB := Lib.hid (HB.out.trans E6)
    replace H2 := Lib.hid (H2.out.ext E6)
    replace HVAL := Lib.hid (HVAL.out.ext b6)
    clear E6 b6 HX5
    go_wp2_with fail
    refine (impl_RedoShort _ H2.out hLb).mono ?_
    rw [H7.out]
    rintro e w7 ⟨v7, rfl, h7, o7, b7⟩
    replace HV := Lib.hid (HV.out.ext b7)
    replace HB := Lib.hid (HB.out.trans b7)
    replace H2 := Lib.hid (H2.out.ext b7)
    replace HVAL := Lib.hid (HVAL.out.ext b7)
    have HH7 := Lib.hid h7
    clear h7 o7 b7
    go_wp2_with fail
    refine (sameRedo_any _ HH7.out H2.out hLb).mono ?_
    rintro e w8 ⟨rfl, b8⟩
    replace HV := Lib.hid (HV.out.ext b8)
    replace HB := Lib.hid (HB.out.trans b8)
    replace H2 := Lib.hid (H2.out.ext b8)
    replace HVAL := Lib.hid (HVAL.out.ext b8)
    clear HH7 b8
    go_wp2_with fail
    refine (impl_RedoRun _ HVAL.out H2.out (by simp) hLb).mono ?_
    rw [H8.out]
    rintro e w9 ⟨v9, rfl, h9, o9, b9⟩
    replace HV := Lib.hid (HV.out.ext b9)
    replace HB := Lib.hid (HB.out.trans b9)
    replace HVAL := Lib.hid (HVAL.out.ext b9)
    have H9 := Lib.hid h9
    clear h9 o9 b9
    go_wp2_with fail
    refine (impl_RedoRun _ HVAL.out HV.out (by simp) hxl).mono ?_
    rintro e w10 ⟨v10, rfl, h10, o10, b10⟩
    replace HB := Lib.hid (HB.out.trans b10)
    replace H9 := Lib.hid (H9.out.ext b10)
    have H10 := Lib.hid h10
    have hV := HV.out
    obtain ⟨A1, c1, rfl, _⟩ := hV
    clear h10 o10 b10
    go_wp2_with fail
    refine (sameInts_any _ H9.out H10.out (by have := runL_len [1, 2, 3] xs; omega)).mono ?_
    rintro e w11 ⟨rfl, b11⟩
    go_wp2
    go_returns
    exact ⟨rfl, HB.out.trans b11⟩
end Go.Proofs.YtiggckhlbklngaaDoor
