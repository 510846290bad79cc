/- The walk of laws.FnLogNewer: it answers true. -/
import Derived.Test.YtpkjgeidndbbbaaDoorLogNewer
import Derived.Test.YtpkjgeidndbbbaaDoorDrawLogs
import Derived.Test.YtpkjgeidndbbbaaDoorAlive
import Derived.Test.YtpkjgeidndbbbaaDoorCut
namespace Go.Proofs.YtpkjgeidndbbbaaDoor
open Go.RowKit

theorem newer_bad {xs ys : List Rec} (h : (logOk xs && logOk ys) = false) : newerB xs ys = false := by
  unfold newerB
  cases h1 : logOk xs <;> cases h2 : logOk ys <;> simp_all
theorem newer_self {xs : List Rec} (h : logOk xs = true) : newerB xs xs = true := by simp [newerB, h]
theorem newer_or {xs ys : List Rec} (h : logOk xs = true) (h' : logOk ys = true) (hn : newerB xs ys = false) : newerB ys xs = true := by
  simp only [newerB, h, h', Bool.true_and, Bool.or_eq_false_iff, decide_eq_false_iff_not, Bool.and_eq_false_iff] at *
  simp only [Bool.or_eq_true, Bool.and_eq_true, decide_eq_true_eq]
  omega
theorem log_mono {xs : List Rec} (h : logOk xs = true) : ∀ (d i : Nat) (x y : Rec), xs[i]? = some x → xs[i + d]? = some y → x.term ≤ y.term := by
  intro d
  induction d with
  | zero => intro i x y hx hy; rw [Nat.add_zero, hx] at hy; cases hy; exact Int.le_refl _
  | succ d ih =>
    intro i x y hx hy
    have hk : i + (d + 1) < xs.length := (List.getElem?_eq_some_iff.1 hy).1
    obtain ⟨z, hz⟩ := at_some (show i + d < xs.length by omega)
    have h1 := ih i x z hx hz
    have h2 := (allGood_true.1 h).1 _ hk
    unfold goodRec at h2
    rw [goodAt_pos (y := z) (by omega) hy (by rw [← hz]; congr 1)] at h2
    simp only [gRec, Bool.and_eq_true, decide_eq_true_eq] at h2
    omega
theorem newer_part {xs : List Rec} (h : logOk xs = true) (q : Nat) (hq : q ≤ xs.length) : newerB xs (part xs 0 q) = true := by
  have hp : logOk (part xs 0 q) = true := allGood_prefix (g := gRec) h q hq
  have hl : (part xs 0 q).length = q := by rw [part_len hq]; omega
  have ht : lastT (part xs 0 q) ≤ lastT xs := by
    unfold lastT
    rw [hl]
    cases h1 : (part xs 0 q)[q - 1]? with
    | none =>
      cases h2 : xs[xs.length - 1]? with
      | none => exact Int.le_refl _
      | some y =>
        have hk := (List.getElem?_eq_some_iff.1 h2).1
        have h3 := (allGood_true.1 h).1 _ hk
        unfold goodRec at h3
        rw [goodAt_any h2] at h3
        simp only [gRec, Bool.and_eq_true, inB_true] at h3
        show (0 : Int) ≤ y.term
        omega
    | some x =>
      have hk := (List.getElem?_eq_some_iff.1 h1).1
      rw [hl] at hk
      rw [part_get, if_pos (by omega), Nat.zero_add] at h1
      obtain ⟨y, hy⟩ := at_some (show xs.length - 1 < xs.length by omega)
      rw [hy]
      exact log_mono h (xs.length - 1 - (q - 1)) (q - 1) x y h1 (by rw [← hy]; congr 1; omega)
  simp only [newerB, h, hp, hl, Bool.true_and, Bool.or_eq_true, Bool.and_eq_true, decide_eq_true_eq]
  omega
set_option maxHeartbeats 2000000 in
theorem law_FnLogNewer (w : World) {v0 : Value} {xs0 : List Int} (s0 : Sl1 encU w v0 xs0) (l0 : xs0.length ≤ 9223372036854775807) (f0 : ∀ x ∈ xs0, 0 ≤ x ∧ x ≤ 255) (k0 : ∀ A n c, v0 = .slice A n c → n ≤ c ∧ c ≤ 9223372036854775807) :
    Calls Tryd.prog 3 #[v0] w fun e w' => e = .returned (.bool true) ∧ Ext w w' := by
  obtain ⟨A0, c0, hv0, _⟩ := id s0
  by_cases hl : xs0.length ≤ 1048576
  case neg =>
    subst hv0
    have hl' : 1048576 < xs0.length := by omega
    clear hl s0 f0 k0
    go_enter Tryd.func3, Tryd.ntmps3
    go_wp2
    go_returns
    exact ⟨rfl, Ext.refl _⟩
  have HC := Lib.hid (⟨xs0, s0, f0, hl, k0⟩ : CodeIn w v0)
  subst hv0
  clear s0 f0 k0
  go_enter Tryd.func3, Tryd.ntmps3
  go_wp2_with fail
  refine (DrawLogNewer_any _ HC.out).mono ?_
  rintro e w1 ⟨u, v, xs, ys, rfl, hu, hv, hx, hy, b1⟩
  have hlx := hx.1
  have hly := hy.1
  have HU := Lib.hid hu.1
  have HV := Lib.hid hv.1
  have hcap := hu.2.2
  obtain ⟨A, c, rfl, _⟩ := id HU.out
  have hcp := hcap _ _ _ rfl
  clear hcap hu hv hx hy
  obtain ⟨ok, hok⟩ : ∃ ok, newerB xs ys = ok := ⟨_, rfl⟩
  have HK := Lib.hid hok
  go_wp2_with fail
  refine (impl_LogNewer _ HU.out HV.out (by omega) (by omega)).mono ?_
  rw [hok]
  rintro e w2 ⟨rfl, b2⟩
  replace HU := Lib.hid (HU.out.ext b2)
  replace HV := Lib.hid (HV.out.ext b2)
  go_wp2_with fail
  refine (spec_LogNewer _ HU.out HV.out (by omega) (by omega)).mono ?_
  rw [hok]
  rintro e w3 ⟨rfl, b3⟩
  replace HU := Lib.hid (HU.out.ext b3)
  replace HV := Lib.hid (HV.out.ext b3)
  have HB := Lib.hid ((b1.trans b2).trans b3)
  clear hok b1 b2 b3
  cases hvx : logOk xs with
  | false =>
    have hn : ok = false := HK.out.symm.trans (newer_bad (by rw [hvx]; rfl))
    subst hn
    have HX := Lib.hid hvx
    clear hvx
    go_wp2_with fail
    refine (impl_LogValid _ HU.out (by omega)).mono ?_
    rw [HX.out]
    rintro e w4 ⟨rfl, b4⟩
    go_wp2_with (go_at_call 14; refine (alive_any _).mono ?_; rintro e w7 ⟨rfl, b7⟩)
    go_returns
    exact ⟨rfl, (HB.out.trans b4).trans b7⟩
  | true =>
    have HX := Lib.hid hvx
    cases hvy : logOk ys with
    | false =>
      have hn : ok = false := HK.out.symm.trans (newer_bad (by rw [hvy]; simp))
      subst hn
      have HY := Lib.hid hvy
      clear hvx hvy
      go_wp2_with fail
      refine (impl_LogValid _ HU.out (by omega)).mono ?_
      rw [HX.out]
      rintro e w4 ⟨rfl, b4⟩
      go_wp2_with fail
      refine (impl_LogValid _ (HV.out.ext b4) (by omega)).mono ?_
      rw [HY.out]
      rintro e w5 ⟨rfl, b5⟩
      go_wp2_with (go_at_call 14; refine (alive_any _).mono ?_; rintro e w7 ⟨rfl, b7⟩)
      go_returns
      exact ⟨rfl, ((HB.out.trans b4).trans b5).trans b7⟩
    | true =>
      have HY := Lib.hid hvy
      clear hvx hvy
      have hcut := run_cut_high (P := Tryd.prog) (A := A) (n := xs.length) (c := c) Tryd.underlying23 kinfo_Rec (xs.length / 2) (by have := hcp.1; omega)
      rw [show ((xs.length / 2 : Nat) : Int) = (xs.length : Int) / 2 from by simp] at hcut
      have hpt := HU.out.part 0 (xs.length / 2) (by omega) (by omega) hcp.1
      obtain ⟨vc, hvc⟩ : ∃ vc, (Value.slice (if c = 0 then A else A.map (·.add (0 * 2))) (xs.length / 2 - 0) (c - 0)) = vc := ⟨_, rfl⟩
      rw [hvc] at hcut hpt
      have HP := Lib.hid hpt.1
      clear hpt hvc
      go_wp2_with fail
      refine (impl_LogValid _ HU.out (by omega)).mono ?_
      rw [HX.out]
      rintro e w4 ⟨rfl, b4⟩
      go_wp2_with fail
      refine (impl_LogValid _ (HV.out.ext b4) (by omega)).mono ?_
      rw [HY.out]
      rintro e w5 ⟨rfl, b5⟩
      have HE := Lib.hid (b4.trans b5)
      clear b4 b5
      have key : ∀ W, Ext w3 W → Hid (Ext w W ∧ SlOf 2 encRec W (.slice A xs.length c) xs ∧ SlOf 2 encRec W vc (part xs 0 (xs.length / 2))) := fun W hW => ⟨HB.out.trans hW, HU.out.ext hW, HP.out.ext hW⟩
      cases ok with
      | true =>
        go_wp2_with fail
        refine (impl_LogNewer _ (HU.out.ext HE.out) (HP.out.ext HE.out) (by omega) (by rw [part_len (by omega)]; omega)).mono ?_
        rw [newer_part HX.out _ (by omega)]
        rintro e w6 ⟨rfl, b6⟩
        clear hcut
        go_wp2_with fail
        refine (impl_LogNewer _ (HU.out.ext (HE.out.trans b6)) (HU.out.ext (HE.out.trans b6)) (by omega) (by omega)).mono ?_
        rw [newer_self HX.out]
        rintro e w7 ⟨rfl, b7⟩
        go_wp2
        go_returns
        exact ⟨rfl, ((HB.out.trans HE.out).trans b6).trans b7⟩
      | false =>
        go_wp2_with fail
        refine (impl_LogNewer _ (HV.out.ext HE.out) (HU.out.ext HE.out) (by omega) (by omega)).mono ?_
        rw [newer_or HX.out HY.out HK.out]
        rintro e w8 ⟨rfl, b8⟩
        go_wp2_with fail
        refine (impl_LogNewer _ (HU.out.ext (HE.out.trans b8)) (HP.out.ext (HE.out.trans b8)) (by omega) (by rw [part_len (by omega)]; omega)).mono ?_
        rw [newer_part HX.out _ (by omega)]
        rintro e w6 ⟨rfl, b6⟩
        clear hcut
        go_wp2_with fail
        refine (impl_LogNewer _ (HU.out.ext ((HE.out.trans b8).trans b6)) (HU.out.ext ((HE.out.trans b8).trans b6)) (by omega) (by omega)).mono ?_
        rw [newer_self HX.out]
        rintro e w7 ⟨rfl, b7⟩
        go_wp2
        go_returns
        exact ⟨rfl, (((HB.out.trans HE.out).trans b8).trans b6).trans b7⟩
end Go.Proofs.YtpkjgeidndbbbaaDoor
