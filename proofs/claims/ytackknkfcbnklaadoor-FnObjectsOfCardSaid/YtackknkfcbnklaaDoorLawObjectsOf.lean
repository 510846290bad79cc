/- The walk of laws.FnObjectsOf: it answers true. -/
import Derived.Test.YtackknkfcbnklaaDoorDrawObjR
import Derived.Test.YtackknkfcbnklaaDoorSameD
import Derived.Test.YtackknkfcbnklaaDoorAlive
namespace Go.Proofs.YtackknkfcbnklaaDoor
open Go.RowKit
set_option maxRecDepth 8000

/-- Kinds that answer so, one above the other. -/
theorem ofTo_good (xs ys : List Int) (q : Nat) : (∀ (i : Nat) (y : Int), (ofTo xs ys q)[i]? = some y → y < (q : Int) ∧ rightL y xs ys = true) ∧ ∀ (i : Nat) (y z : Int), (ofTo xs ys q)[i]? = some y → (ofTo xs ys q)[i + 1]? = some z → y < z := by
  induction q with
  | zero => exact ⟨fun i y h => by simp [ofTo] at h, fun i y z h => by simp [ofTo] at h⟩
  | succ q ih =>
    unfold ofTo
    split
    · rename_i hc
      rw [Bool.and_eq_true] at hc
      refine ⟨fun i y h => ?_, fun i y z h1 h2 => ?_⟩
      · by_cases hi : i < (ofTo xs ys q).length
        · rw [List.getElem?_append_left hi] at h
          have := ih.1 i y h
          exact ⟨by have := this.1; omega, this.2⟩
        · rw [List.getElem?_append_right (by omega)] at h
          have h0 : i - (ofTo xs ys q).length = 0 := by have := (List.getElem?_eq_some_iff.1 h).1; simp at this; omega
          rw [h0] at h
          injection h with h
          subst h
          exact ⟨by omega, hc.2⟩
      · by_cases hi : i + 1 < (ofTo xs ys q).length
        · rw [List.getElem?_append_left (by omega)] at h1
          rw [List.getElem?_append_left hi] at h2
          exact ih.2 i y z h1 h2
        · have hz := (List.getElem?_eq_some_iff.1 h2).1
          rw [List.length_append, List.length_singleton] at hz
          rw [List.getElem?_append_left (by omega)] at h1
          rw [List.getElem?_append_right (by omega)] at h2
          have h0 : i + 1 - (ofTo xs ys q).length = 0 := by omega
          rw [h0] at h2
          injection h2 with h2
          subst h2
          exact (ih.1 i y h1).1
    · exact ⟨fun i y h => by have := ih.1 i y h; exact ⟨by have := this.1; omega, this.2⟩, ih.2⟩
theorem ofTo_three (xs ys : List Int) : (ofTo xs ys 4).length ≤ 3 := by
  have h : ofTo xs ys 1 = [] := by simp [ofTo]
  have step : ∀ q, (ofTo xs ys (q + 1)).length ≤ (ofTo xs ys q).length + 1 := fun q => by
    conv => lhs; unfold ofTo
    split <;> simp
  have h2 := step 1
  have h3 := step 2
  have h4 := step 3
  rw [h] at h2
  simp at h2 h3 h4
  omega
theorem ofTo_two : (ofTo [5, 4] [0, 0] 4).length = 3 := by decide +kernel
set_option maxHeartbeats 8000000 in
theorem law_FnObjectsOf (w : World) {v0 : Value} {xs0 : List Int} (s0 : Sl1 encU w v0 xs0) (l0 : xs0.length ≤ 9223372036854775807) (f0 : ∀ x ∈ xs0, 0 ≤ x ∧ x ≤ 255) (k0 : ∀ A n c, v0 = .slice A n c → n ≤ c ∧ c ≤ 9223372036854775807) :
    Calls Tryd.prog 5 #[v0] w fun e w' => e = .returned (.bool true) ∧ Ext w w' := by
  obtain ⟨A0, c0, hv0, _⟩ := id s0
  by_cases hl : xs0.length ≤ 1048576
  case neg =>
    subst hv0
    have hl' : 1048576 < xs0.length := by omega
    clear hl s0 f0 k0
    go_enter Tryd.func5, Tryd.ntmps5
    go_wp2
    go_returns
    exact ⟨rfl, Ext.refl _⟩
  have HC := Lib.hid (⟨xs0, s0, f0, hl, k0⟩ : CodeIn w v0)
  subst hv0
  clear s0 f0 k0
  go_enter Tryd.func5, Tryd.ntmps5
  go_wp2_with fail
  refine (DrawObjectsOf_any _ HC.out).mono ?_
  rintro e w1 ⟨v, xs, u, ys, rfl, hv, hu, hx, hyl, b1⟩
  have hxl : xs.length ≤ 21 := hx
  have HV := Lib.hid hv.1.to1
  have HU := Lib.hid hu.1.to1
  have HB := Lib.hid b1
  clear hv hu hx b1
  go_wp2_with fail
  refine (impl_ObjectsOf _ HV.out HU.out).mono ?_
  rintro e w2 ⟨v2, rfl, s2, -, b2⟩
  replace HV := Lib.hid (HV.out.ext b2)
  replace HU := Lib.hid (HU.out.ext b2)
  replace HB := Lib.hid (HB.out.trans b2)
  have HS := Lib.hid s2
  clear b2 s2
  go_wp2_with fail
  refine (spec_ObjectsOf _ HV.out HU.out (by omega) (by omega)).mono ?_
  rintro e w3 ⟨v3, rfl, s3, -, b3⟩
  replace HV := Lib.hid (HV.out.ext b3)
  replace HU := Lib.hid (HU.out.ext b3)
  replace HB := Lib.hid (HB.out.trans b3)
  replace HS := Lib.hid (HS.out.ext b3)
  have S3 := Lib.hid s3
  clear b3 s3
  have hRl := ofTo_three xs ys
  have HGOOD := Lib.hid (ofTo_good xs ys 4)
  obtain ⟨R, hR⟩ : ∃ R, ofTo xs ys 4 = R := ⟨_, rfl⟩
  rw [hR] at HS S3 hRl HGOOD
  clear hR
  go_wp2_with fail
  refine (sameInts_dec _ HS.out S3.out (by omega)).mono ?_
  rw [decide_eq_true rfl]
  rintro e w4 ⟨rfl, b4⟩
  replace HV := Lib.hid (HV.out.ext b4)
  replace HU := Lib.hid (HU.out.ext b4)
  replace HB := Lib.hid (HB.out.trans b4)
  replace HS := Lib.hid (HS.out.ext b4)
  clear b4 S3
  obtain ⟨A2, c2, rfl, h2⟩ := HS.out
  have H2 := Lib.hid h2
  clear h2
  go_wp2
  go_loopw [6] (fun i wr => Ext w4 wr ∧ ∃ q : Nat, q ≤ R.length ∧ i = .int .i64 q) (fun i _ => R.length - (intOf i).toNat)
  case atStart => exact ⟨Ext.refl _, 0, Nat.zero_le _, rfl⟩
  case round =>
    obtain ⟨hb, q, hq, rfl⟩ := hrel
    by_cases hlt : q < R.length
    · obtain ⟨b, off, rfl, hbl, hc⟩ := H2.out (by omega)
      obtain ⟨x, hx⟩ := at_some hlt
      have c0 : ∀ e, (over wr e).cell? ⟨b, off + q, none⟩ = some (.int .i64 x) := over_cell (hb.cell (hc q x hx))
      have hcall := fun e => impl_ObjectRight x (over wr e) ((HV.out.ext hb).ext (over_below wr e)) ((HU.out.ext hb).ext (over_below wr e))
      rw [(HGOOD.out.1 q x hx).2] at hcall
      have HCALL := Lib.hid hcall
      have HX := Lib.hid hx
      have HCC := Lib.hid hc
      clear hcall hx hc
      cases q with
      | zero =>
        rw [Nat.add_zero] at c0
        go_wp2
        refine wp_region_over (by kernel_rfl) (by kernel_rfl) ?_
        repeat (go_big_quiet_step ((go_at_call 12; exact quiet_ext (HCALL.out _))))
        refine wpQuiet_nil ?_
        intro w5 hb5
        go_wp2
        go_roundw
        case rel => exact ⟨hb.trans hb5, 1, by omega, by go_num⟩
        case measure => simp [intOf]; omega
      | succ p =>
        obtain ⟨y, hy⟩ := at_some (show p < R.length by omega)
        have d0 : ∀ e, (over wr e).cell? ⟨b, off + p, none⟩ = some (.int .i64 y) := over_cell (hb.cell (HCC.out p y hy))
        have hlt' := HGOOD.out.2 p y x hy HX.out
        have hxy : decide (x ≤ y) = false := by rw [decide_eq_false_iff_not]; omega
        obtain ⟨q, hpq⟩ : ∃ q, p + 1 = q := ⟨_, rfl⟩
        rw [hpq] at c0 hlt hq ⊢
        have hqi : (q : Int) - 1 = (p : Int) := by omega
        have hq0 : decide (0 < q) = true := by rw [decide_eq_true_eq]; omega
        have hpl : p < R.length := by omega
        have HPQ := Lib.hid hpq
        clear hy hlt' hpq
        go_wp2
        refine wp_region_over (by kernel_rfl) (by kernel_rfl) ?_
        repeat (go_big_quiet_step ((go_at_call 12; exact quiet_ext (HCALL.out _))))
        refine wpQuiet_nil ?_
        intro w5 hb5
        go_wp2
        go_roundw
        case rel => exact ⟨hb.trans hb5, q + 1, by omega, by go_num⟩
        case measure => simp [intOf]; omega
    · obtain rfl : q = R.length := by omega
      have h3 : (R.length : Int) ≤ 3 := by omega
      have HBR := Lib.hid (HB.out.trans hb)
      have hthree := fun W (h1 : Sl1 encI W (.slice (some ⟨wr.heap.size, 0, none⟩) 2 2) [5, 4]) (h2 : Sl1 encI W (.slice (some ⟨wr.heap.size + 1, 0, none⟩) 2 2) [0, 0]) => impl_ObjectsOf W h1 h2
      have l1 : Sl1 encI (wr.alloc (.cells #[.int .i64 5, .int .i64 4] 3)) (.slice (some ⟨wr.heap.size, 0, none⟩) 2 2) [5, 4] := (SlOf.lit (m := 1) (enc := one encI) wr #[.int .i64 5, .int .i64 4] 3 2 [5, 4] rfl).to1
      have l2 : Sl1 encI ((wr.alloc (.cells #[.int .i64 5, .int .i64 4] 3)).alloc (.cells #[.int .i64 0, .int .i64 0] 3)) (.slice (some ⟨wr.heap.size + 1, 0, none⟩) 2 2) [0, 0] := (SlOf.lit_n (m := 1) (enc := one encI) (wr.alloc (.cells #[.int .i64 5, .int .i64 4] 3)) (wr.heap.size + 1) #[.int .i64 0, .int .i64 0] 3 2 [0, 0] rfl (by simp)).to1
      have h12 := hthree _ (l1.ext ((Ext.refl _).alloc _)) l2
      have H12 := Lib.hid h12
      clear hthree l1 l2 h12
      go_wp2_with fail
      refine H12.out.mono ?_
      rintro e w5 ⟨v5, rfl, ⟨A5, c5, rfl, -⟩, -, b5⟩
      rw [ofTo_two]
      have B5 := Lib.hid b5
      clear b5
      go_wp2_with (go_at_call 10; refine (alive_any _).mono ?_; rintro e w8 ⟨rfl, b8⟩)
      go_returns
      exact ⟨rfl, (((HBR.out.alloc _).alloc _).trans B5.out).trans b8⟩
end Go.Proofs.YtackknkfcbnklaaDoor
