/- The walk of laws.FnTouchKey: it answers true. -/
import Derived.Test.YtpkjgeidndbbbaaDoorTouch
import Derived.Test.YtpkjgeidndbbbaaDoorTouchKey
import Derived.Test.YtpkjgeidndbbbaaDoorSame
import Derived.Test.YtpkjgeidndbbbaaDoorDrawTouches
import Derived.Test.YtpkjgeidndbbbaaDoorAlive
namespace Go.Proofs.YtpkjgeidndbbbaaDoor
open Go.RowKit
set_option maxRecDepth 8000

theorem touch_no {xs L : List Touch} {stamp key : Int} {write : Bool} (h : touchKeyL xs stamp key write = (L, false)) : L = [] ∨ L = xs := by
  unfold touchKeyL at h
  split at h
  · cases hx : xs[key.toNat]? with
    | none => rw [hx] at h; injection h with h1; exact .inl h1.symm
    | some x =>
      rw [hx] at h
      injection h with h1 h2
      have hs : (touchB x stamp write).1 = x := by
        unfold touchB at h2 ⊢
        split
        · rfl
        · rename_i hc
          rw [if_neg hc] at h2
          split at h2 <;> cases h2
      rw [hs, set_same hx] at h1
      exact .inr h1.symm
  · injection h with h1
    exact .inl h1.symm
theorem touchB_up {x : Touch} {stamp : Int} {write : Bool} (h : (touchB x stamp write).2 = true) (hs : stamp ≤ 1000) (h1 : x.read ≤ 1000) (h2 : x.write ≤ 1000) (h3 : 0 ≤ x.read) (h4 : 0 ≤ x.write) (h5 : 1 ≤ stamp) :
    let y := (touchB x stamp write).1
    x.read ≤ y.read ∧ x.write ≤ y.write ∧ y.read ≤ 1000 ∧ y.write ≤ 1000 := by
  unfold touchB at h ⊢
  split
  · rename_i hc
    rw [if_pos hc] at h
    cases h
  · rename_i hc
    rw [not_or] at hc
    cases write with
    | true => simp at hc ⊢; omega
    | false => simp at hc ⊢; omega
theorem touchB_late {x : Touch} {write : Bool} (h1 : x.read ≤ 1000) (h2 : x.write ≤ 1000) : (touchB x 1000 write).2 = true := by
  unfold touchB
  rw [if_neg (by rintro (h | ⟨_, h⟩) <;> omega)]
  cases write <;> rfl
theorem touch_yes {xs L : List Touch} {stamp key : Int} {write : Bool} (h : touchKeyL xs stamp key write = (L, true)) :
    L.length = 3 ∧ xs.length = 3 ∧ touchesOk L = true ∧ (touchKeyL L 1000 key write).2 = true ∧ ∀ (k : Nat) (a b : Touch), L[k]? = some a → xs[k]? = some b → b.read ≤ a.read ∧ b.write ≤ a.write ∧ ((k : Int) ≠ key → a = b) := by
  unfold touchKeyL at h
  split at h
  case isFalse => injection h with _ h2; cases h2
  rename_i hc
  obtain ⟨hxl, hall⟩ := touchesOk_at hc.1
  have hst := inB_true.1 hc.2.1
  have hk := inB_true.1 hc.2.2
  cases hx : xs[key.toNat]? with
  | none => rw [hx] at h; injection h with _ h2; cases h2
  | some x =>
    rw [hx] at h
    injection h with h1 h2
    have hxm := hall x (List.mem_of_getElem? hx)
    obtain ⟨u1, u2, u3, u4⟩ := touchB_up h2 hst.2 hxm.1.2 hxm.2.2 hxm.1.1 hxm.2.1 hst.1
    obtain ⟨y, hy⟩ : ∃ y, (touchB x stamp write).1 = y := ⟨_, rfl⟩
    rw [hy] at h1 u1 u2 u3 u4
    subst h1
    have hkl : key.toNat < xs.length := (List.getElem?_eq_some_iff.1 hx).1
    have hok : touchesOk (xs.set key.toNat y) = true := by
      rw [touchesOk, Bool.and_eq_true, decide_eq_true_eq, List.all_eq_true, List.length_set]
      refine ⟨hxl, fun z hz => ?_⟩
      have hz' : gTouch z = true := by
        rcases List.mem_or_eq_of_mem_set hz with hz | rfl
        · have := hall z hz
          rw [gTouch, Bool.and_eq_true, inB_true, inB_true]
          exact this
        · rw [gTouch, Bool.and_eq_true, inB_true, inB_true]
          omega
      exact hz'
    refine ⟨by rw [List.length_set]; exact hxl, hxl, hok, ?_, fun k a b ha hb => ?_⟩
    · have hy' : (xs.set key.toNat y)[key.toNat]? = some y := by rw [List.getElem?_set_self hkl]
      rw [touchKeyL, if_pos ⟨hok, by rw [inB_true]; omega, hc.2.2⟩, hy']
      exact touchB_late u3 u4
    · by_cases hkk : key.toNat = k
      · subst hkk
        rw [List.getElem?_set_self hkl] at ha
        rw [hx] at hb
        injection ha with ha
        injection hb with hb
        subst ha hb
        exact ⟨u1, u2, fun hne => absurd (by omega) hne⟩
      · rw [List.getElem?_set_ne hkk] at ha
        rw [ha] at hb
        injection hb with hb
        subst hb
        exact ⟨Int.le_refl _, Int.le_refl _, fun _ => rfl⟩
set_option maxHeartbeats 4000000 in
theorem law_FnTouchKey (w : World) {v0 : Value} {xs0 : List Int} (s0 : Sl1 encU w v0 xs0) (l0 : xs0.length ≤ 9223372036854775807) (f0 : ∀ x ∈ xs0, 0 ≤ x ∧ x ≤ 255) (k0 : ∀ A n c, v0 = .slice A n c → n ≤ c ∧ c ≤ 9223372036854775807) :
    Calls Tryd.prog 8 #[v0] w fun e w' => e = .returned (.bool true) ∧ Ext w w' := by
  obtain ⟨A0, c0, hv0, _⟩ := id s0
  by_cases hl : xs0.length ≤ 1048576
  case neg =>
    subst hv0
    have hl' : 1048576 < xs0.length := by omega
    clear hl s0 f0 k0
    go_enter Tryd.func8, Tryd.ntmps8
    go_wp2
    go_returns
    exact ⟨rfl, Ext.refl _⟩
  have HC := Lib.hid (⟨xs0, s0, f0, hl, k0⟩ : CodeIn w v0)
  subst hv0
  clear s0 f0 k0
  go_enter Tryd.func8, Tryd.ntmps8
  go_wp2_with fail
  refine (DrawTouchKey_any _ HC.out).mono ?_
  rintro e w1 ⟨u, xs, stamp, key, write, rfl, hst, hky, hu, hx, b1⟩
  have hlx : xs.length ≤ 2097152 := Nat.le_trans hx.1 (by omega)
  have HU := Lib.hid hu.1
  clear hu hx
  obtain ⟨⟨L, ok⟩, hR⟩ : ∃ R, touchKeyL xs stamp key write = R := ⟨_, rfl⟩
  have HR := Lib.hid hR
  clear hR
  go_wp2_with fail
  refine (impl_TouchKey stamp key write _ HU.out hlx).mono ?_
  rw [HR.out]
  rintro e w2 ⟨v2, rfl, h2, o2, b2⟩
  replace HU := Lib.hid (HU.out.ext b2)
  go_wp2_with fail
  refine (spec_TouchKey stamp key write _ HU.out hlx).mono ?_
  rw [HR.out]
  rintro e w3 ⟨v3, rfl, h3, o3, b3⟩
  replace HU := Lib.hid (HU.out.ext b3)
  have H2 := Lib.hid (h2.ext b3)
  have H3 := Lib.hid h3
  clear h2 h3 o2 o3
  have hL3 : L.length ≤ 2097152 := by
    cases ok with
    | false => rcases touch_no HR.out with h | h; (rw [h]; simp); (rw [h]; exact hlx)
    | true => have := (touch_yes HR.out).1; omega
  go_wp2_with fail
  refine (sameTouches_any _ H2.out H3.out hL3).mono ?_
  rintro e w4 ⟨rfl, b4⟩
  replace HU := Lib.hid (HU.out.ext b4)
  replace H2 := Lib.hid (H2.out.ext b4)
  have HB := Lib.hid (((b1.trans b2).trans b3).trans b4)
  clear H3 b1 b2 b3 b4
  cases ok with
  | false =>
    by_cases hLx : L = xs
    · subst hLx
      go_wp2_with fail
      refine (sameTouches_any _ H2.out HU.out hL3).mono ?_
      rintro e w5 ⟨rfl, b5⟩
      go_wp2_with (go_at_call 14; refine (alive_any _).mono ?_; rintro e w8 ⟨rfl, b8⟩)
      go_returns
      exact ⟨rfl, (HB.out.trans b5).trans b8⟩
    · have hL0 : L = [] := (touch_no HR.out).resolve_right hLx
      subst hL0
      have hxn : ([] : List Touch).length ≠ xs.length := fun h => hLx (List.eq_nil_of_length_eq_zero h.symm).symm
      have HXN := Lib.hid hxn
      clear hxn hLx
      obtain ⟨A2, c2, rfl, _⟩ := id H2.out
      go_wp2_with fail
      refine (sameTouches_no _ H2.out HU.out HXN.out).mono ?_
      rintro e w5 ⟨rfl, b5⟩
      go_wp2_with (go_at_call 14; refine (alive_any _).mono ?_; rintro e w8 ⟨rfl, b8⟩)
      go_returns
      exact ⟨rfl, (HB.out.trans b5).trans b8⟩
  | true =>
    obtain ⟨hl3, hx3, hok, hlate, hup⟩ := touch_yes HR.out
    have HOK := Lib.hid hok
    have HLATE := Lib.hid hlate
    have HUP := Lib.hid hup
    have HL3 := Lib.hid hl3
    have HX3 := Lib.hid hx3
    clear hok hlate hup hl3 hx3
    obtain ⟨A2, c2, rfl, _⟩ := id H2.out
    obtain ⟨A, c, rfl, _⟩ := id HU.out
    go_wp2
    go_loopw [11] (fun i wr => Hid (Ext w4 wr) ∧ ∃ k : Nat, k ≤ L.length ∧ i = .int .i64 k) (fun i _ => L.length - (intOf i).toNat)
    case atStart => exact ⟨Ext.refl _, 0, Nat.zero_le _, rfl⟩
    case round =>
      obtain ⟨HE, k, hk, rfl⟩ := hrel
      by_cases hlt : k < L.length
      · have hlt' : k < xs.length := by have h1 := HL3.out; have h2 := HX3.out; omega
        obtain ⟨a, ha⟩ := at_some hlt
        obtain ⟨y, hy⟩ := at_some hlt'
        obtain ⟨u1, u2, u3⟩ := HUP.out k a y ha hy
        obtain ⟨A', c', hA', hcell'⟩ := id (H2.out.ext HE.out)
        injection hA' with e1 e2 e3
        subst e1 e3
        clear e2
        obtain ⟨A', c', hA', hcellx⟩ := id (HU.out.ext HE.out)
        injection hA' with e1 e2 e3
        subst e1 e3
        clear e2
        obtain ⟨b, off, rfl, hbl, hc⟩ := hcell' (by omega)
        obtain ⟨b', off', rfl, hbl', hc'⟩ := hcellx (by omega)
        have c0 : ∀ e, (over wr e).cell? ⟨b, off + k * 2, none⟩ = some (.int .i64 a.read) := over_cell (hc k a ha 0 (by omega))
        have c1 : ∀ e, (over wr e).cell? ⟨b, off + k * 2 + 1, none⟩ = some (.int .i64 a.write) := over_cell (hc k a ha 1 (by omega))
        have d0 : ∀ e, (over wr e).cell? ⟨b', off' + k * 2, none⟩ = some (.int .i64 y.read) := over_cell (hc' k y hy 0 (by omega))
        have d1 : ∀ e, (over wr e).cell? ⟨b', off' + k * 2 + 1, none⟩ = some (.int .i64 y.write) := over_cell (hc' k y hy 1 (by omega))
        clear ha hy hc hc' hcell' hcellx
        by_cases hkk : (k : Int) = key
        · subst hkk
          have n1 : decide (a.read < y.read) = false := decide_eq_false (by omega)
          have n2 : decide (a.write < y.write) = false := decide_eq_false (by omega)
          clear u1 u2 u3
          go_wp2
          refine wp_region_over (by kernel_rfl) (by kernel_rfl) ?_
          repeat (go_big_quiet_step ((fail)))
          refine wpQuiet_nil ?_
          intro w1 hb1
          go_wp2
          go_roundw
          case rel => exact ⟨HE.out.trans hb1, k + 1, by omega, by go_num⟩
          case measure => simp [intOf]; omega
        · have u4 := u3 hkk
          subst u4
          clear u1 u2 u3
          have n3 : ((k : Int) != key) = true := by rw [bne_iff_ne]; exact hkk
          clear hkk
          have g1 : (a.read != a.read) = false := by simp
          have g2 : (a.write != a.write) = false := by simp
          go_wp2
          refine wp_region_over (by kernel_rfl) (by kernel_rfl) ?_
          repeat (go_big_quiet_step ((fail)))
          refine wpQuiet_nil ?_
          intro w1 hb1
          go_wp2
          go_roundw
          case rel => exact ⟨HE.out.trans hb1, k + 1, by omega, by go_num⟩
          case measure => simp [intOf]; omega
      · obtain rfl : k = L.length := by omega
        replace H2 := Lib.hid (H2.out.ext HE.out)
        have HB2 := Lib.hid (HB.out.trans HE.out)
        clear HE HB HU
        go_wp2_with fail
        refine (impl_TouchKey 1000 key write _ H2.out (by omega)).mono ?_
        obtain ⟨⟨L2, ok2⟩, hR2⟩ : ∃ R, touchKeyL L 1000 key write = R := ⟨_, rfl⟩
        have hok2 : ok2 = true := by have := HLATE.out; rw [hR2] at this; exact this
        subst hok2
        rw [hR2]
        clear hR2
        rintro e w6 ⟨v6, rfl, h6, o6, b6⟩
        clear h6 o6
        go_wp2_with fail
        refine (impl_TouchesValid _ (H2.out.ext b6) (by omega)).mono ?_
        rw [HOK.out]
        rintro e w7 ⟨rfl, b7⟩
        go_wp2
        go_returns
        exact ⟨rfl, (HB2.out.trans b6).trans b7⟩
end Go.Proofs.YtpkjgeidndbbbaaDoor
