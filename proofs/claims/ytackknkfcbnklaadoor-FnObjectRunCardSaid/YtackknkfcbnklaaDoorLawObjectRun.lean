/- The walk of laws.FnObjectRun: it answers true. -/
import Derived.Test.YtackknkfcbnklaaDoorObjSR
import Derived.Test.YtackknkfcbnklaaDoorObjCount
import Derived.Test.YtackknkfcbnklaaDoorDrawObj
import Derived.Test.YtackknkfcbnklaaDoorAlive
import Derived.Test.YtackknkfcbnklaaDoorSameI
namespace Go.Proofs.YtackknkfcbnklaaDoor
open Go.RowKit
set_option maxRecDepth 8000

set_option maxHeartbeats 8000000 in
theorem law_FnObjectRun (w : World) {v0 : Value} {xs0 : List Int} (s0 : Sl1 encU w v0 xs0) (l0 : xs0.length ≤ 9223372036854775807) (f0 : ∀ x ∈ xs0, 0 ≤ x ∧ x ≤ 255) (k0 : ∀ A n c, v0 = .slice A n c → n ≤ c ∧ c ≤ 9223372036854775807) :
    Calls Tryd.prog 3 #[v0] w fun e w' => e = .returned (.bool true) ∧ Ext w w' := by
  obtain ⟨A0, c0, hv0, _⟩ := id s0
  by_cases hl : xs0.length ≤ 1048576
  case neg =>
    subst hv0
    have hl' : 1048576 < xs0.length := by omega
    clear hl s0 f0 k0
    go_enter Tryd.func3, Tryd.ntmps3
    go_wp2
    go_returns
    exact ⟨rfl, Ext.refl _⟩
  have HC := Lib.hid (⟨xs0, s0, f0, hl, k0⟩ : CodeIn w v0)
  subst hv0
  clear s0 f0 k0
  go_enter Tryd.func3, Tryd.ntmps3
  go_wp2_with fail
  refine (DrawObjectRun_any _ HC.out).mono ?_
  rintro e w1 ⟨v, xs, k, rfl, hv, hx, b1⟩
  have hxl : xs.length ≤ 21 := hx
  have HV := Lib.hid hv.1.to1
  have HB := Lib.hid b1
  clear hv hx b1
  go_wp2_with fail
  refine (impl_ObjectRun k _ HV.out).mono ?_
  rintro e w2 ⟨v2, rfl, s2, -, b2⟩
  replace HV := Lib.hid (HV.out.ext b2)
  replace HB := Lib.hid (HB.out.trans b2)
  have S2' := Lib.hid s2
  clear b2 s2
  go_wp2_with fail
  refine (spec_ObjectRun k _ HV.out (by omega)).mono ?_
  rintro e w3 ⟨v3, rfl, s3, -, b3⟩
  replace HV := Lib.hid (HV.out.ext b3)
  replace HB := Lib.hid (HB.out.trans b3)
  replace S2' := Lib.hid (S2'.out.ext b3)
  have S3 := Lib.hid s3
  clear b3 s3
  go_wp2_with fail
  refine (sameInts_any _ S2'.out S3.out (by have := objL_len k xs; omega)).mono ?_
  rintro e w4 ⟨rfl, b4⟩
  replace HV := Lib.hid (HV.out.ext b4)
  replace HB := Lib.hid (HB.out.trans b4)
  replace S2' := Lib.hid (S2'.out.ext b4)
  clear b4 S3
  obtain ⟨A2, c2, rfl, h2⟩ := S2'.out
  have H2 := Lib.hid h2
  clear h2
  by_cases h0 : (objL k xs).length = 0
  · rw [h0]
    clear h0
    go_wp2_with (go_at_call 10; refine (alive_any _).mono ?_; rintro e w8 ⟨rfl, b8⟩)
    go_returns
    exact ⟨rfl, HB.out.trans b8⟩
  have hok : okCalls xs = true ∧ inB k 1 3 = true := by
    by_cases h : okCalls xs = true ∧ inB k 1 3 = true
    · exact h
    · rw [objL_no h] at h0; exact absurd rfl h0
  have hRl := objL_full hok.1 hok.2
  have hRe := objL_yes hok.1 hok.2
  obtain ⟨R, hR⟩ : ∃ R, objL k xs = R := ⟨_, rfl⟩
  rw [hR] at hRl hRe H2 h0
  rw [hR]
  have HRE := Lib.hid hRe
  rw [hRl] at H2 h0
  rw [hRl]
  have HRL := Lib.hid hRl
  have hn0 : ((xs.length : Int) == 0) = false := by rw [beq_eq_false_iff_ne]; omega
  clear hok hRe hR h0 hRl S2'
  obtain ⟨A1, c1, rfl, h1⟩ := HV.out
  have H1 := Lib.hid h1
  clear h1
  go_wp2
  go_loopw [6, 7, 8, 9] (fun a b c i wr => Ext w4 wr ∧ ∃ q p o : Nat, q ≤ xs.length ∧ i = .int .i64 q ∧ a = .int .i64 p ∧ b = .int .i64 o ∧ c = .int .i64 0 ∧ p ≤ q ∧ o ≤ p ∧ Hid (CountO k xs q p o)) (fun _ _ _ i _ => xs.length - (intOf i).toNat)
  case atStart => exact ⟨Ext.refl _, 0, 0, 0, Nat.zero_le _, rfl, rfl, rfl, rfl, Nat.le_refl _, Nat.le_refl _, CountO.start k xs⟩
  case round =>
    obtain ⟨hb, q, p, o, hq, rfl, rfl, rfl, rfl, hpq, hop, HCO⟩ := hrel
    by_cases hlt : q < xs.length
    · obtain ⟨b1, off1, rfl, -, hc1⟩ := H1.out (by omega)
      obtain ⟨b2, off2, rfl, -, hc2⟩ := H2.out (by omega)
      obtain ⟨x, hx⟩ := at_some hlt
      have hat := runO_at (k := k) hx
      rw [← HRE.out] at hat
      have d1 : wr.cell? ⟨b1, off1 + q, none⟩ = some (.int .i64 x) := hb.cell (hc1 q x hx)
      have d2 := hb.cell (hc2 q _ hat)
      have HX := Lib.hid hx
      clear hc1 hc2 hx hat
      by_cases hx0 : 0 ≤ x
      · have HN := Lib.hid (HCO.out.put HX.out hx0)
        have hx1 : ¬ x < 0 := by omega
        clear d2
        go_wp2
        go_roundw
        case rel => exact ⟨hb, q + 1, p + 1, o, by omega, by go_num, by go_num, rfl, rfl, by omega, by omega, HN.out⟩
        case measure => simp [intOf]; omega
      · have hx1 : x < 0 := by omega
        by_cases hl0 : (runO k (xs.take q)).1.length = 0
        · obtain ⟨hn, ha, rfl⟩ := HCO.out.none HX.out hx0 hl0
          rw [ha] at d2
          simp only [encI] at d2
          have HN := Lib.hid hn
          clear ha hn hl0
          go_wp2
          go_roundw
          case rel => exact ⟨hb, q + 1, p, p, by omega, by go_num, rfl, rfl, rfl, by omega, by omega, HN.out⟩
          case measure => simp [intOf]; omega
        · obtain ⟨hn, ha⟩ := HCO.out.take HX.out hx0 hl0
          obtain ⟨y, hy⟩ : ∃ y, ansOf k (runO k (xs.take q)).1 x = y := ⟨_, rfl⟩
          rw [hy] at d2 ha
          simp only [encI] at d2
          have hy1 : ¬ y < 0 := by omega
          have hop' : o + 1 ≤ p := by have := HCO.out.1; omega
          have HN := Lib.hid hn
          clear hn hl0 hy
          go_wp2
          go_roundw
          case rel => exact ⟨hb, q + 1, p, o + 1, by omega, by go_num, rfl, by go_num, rfl, by omega, hop', HN.out⟩
          case measure => simp [intOf]; omega
    · obtain rfl : q = xs.length := by omega
      have hop' : (o : Int) ≤ (p : Int) := by omega
      clear HCO
      go_wp2
      go_returns
      exact ⟨rfl, HB.out.trans hb⟩
end Go.Proofs.YtackknkfcbnklaaDoor
