/- The walk of laws.FnLeasesValid: it answers true. -/
import Derived.Test.YtcmakjhpfgeenaaDoorLease
import Derived.Test.YtcmakjhpfgeenaaDoorDrawLease
import Derived.Test.YtcmakjhpfgeenaaDoorAlive
import Derived.Test.YtcmakjhpfgeenaaDoorCut
namespace Go.Proofs.YtcmakjhpfgeenaaDoor
open Go.RowKit

theorem leasesOk_part {xs : List Lease} (h : leasesOk xs = true) (lo : Nat) (hl : lo ≤ xs.length) : leasesOk (part xs lo xs.length) = true :=
  allGood_suffix (g := gLease) (fun y x h => by simp only [gLease, Bool.and_eq_true] at h ⊢; simp_all) h lo hl
theorem leasesOk_twice {x : Lease} {xs : List Lease} (hx : xs[0]? = some x) : leasesOk ([x] ++ xs) = false := by
  unfold leasesOk
  by_cases h : gLease none x = true
  · refine allGood_bad (k := 1) (by have := (List.getElem?_eq_some_iff.1 hx).1; simp; omega) ?_
    unfold goodLease
    rw [goodAt_pos (x := x) (y := x) (by omega) (by simpa using hx) (by simp)]
    simp only [gLease, Bool.and_eq_true, decide_eq_true_eq] at h
    simp [gLease]
    try (intros; omega)
  · refine allGood_bad (k := 0) (by simp) ?_
    unfold goodLease
    rw [goodAt_zero (x := x) (by omega) (by simp)]
    simpa using h
set_option maxHeartbeats 2000000 in
theorem law_FnLeasesValid (w : World) {v0 : Value} {xs0 : List Int} (s0 : Sl1 encU w v0 xs0) (l0 : xs0.length ≤ 9223372036854775807) (f0 : ∀ x ∈ xs0, 0 ≤ x ∧ x ≤ 255) (k0 : ∀ A n c, v0 = .slice A n c → n ≤ c ∧ c ≤ 9223372036854775807) :
    Calls Tryd.prog 6 #[v0] w fun e w' => e = .returned (.bool true) ∧ Ext w w' := by
  obtain ⟨A0, c0, hv0, _⟩ := id s0
  by_cases hl : xs0.length ≤ 1048576
  case neg =>
    subst hv0
    have hl' : 1048576 < xs0.length := by omega
    clear hl s0 f0 k0
    go_enter Tryd.func6, Tryd.ntmps6
    go_wp2
    go_returns
    exact ⟨rfl, Ext.refl _⟩
  have HC := Lib.hid (⟨xs0, s0, f0, hl, k0⟩ : CodeIn w v0)
  subst hv0
  clear s0 f0 k0
  go_enter Tryd.func6, Tryd.ntmps6
  go_wp2_with fail
  refine (DrawLeasesValid_any _ HC.out).mono ?_
  rintro e w1 ⟨u, xs, rfl, hrow, hphi, b1⟩
  have hlen := hphi.1
  have HS := Lib.hid hrow.1
  have hcap := hrow.2.2
  obtain ⟨A, c, rfl, _⟩ := id HS.out
  have hcp := hcap _ _ _ rfl
  clear hcap hphi hrow
  obtain ⟨ok, hok⟩ : ∃ ok, leasesOk xs = ok := ⟨_, rfl⟩
  have HK := Lib.hid hok
  go_wp2_with fail
  refine (impl_LeasesValid _ HS.out (by omega)).mono ?_
  rw [hok]
  rintro e w2 ⟨rfl, b2⟩
  replace HS := Lib.hid (HS.out.ext b2)
  go_wp2_with fail
  refine (spec_LeasesValid _ HS.out (by omega)).mono ?_
  rw [hok]
  rintro e w3 ⟨rfl, b3⟩
  replace HS := Lib.hid (HS.out.ext b3)
  have HB := Lib.hid ((b1.trans b2).trans b3)
  clear hok b1 b2 b3
  cases ok with
  | false =>
    go_wp2_with (go_at_call 13; refine (alive_any _).mono ?_; rintro e w7 ⟨rfl, b7⟩)
    go_returns
    exact ⟨rfl, HB.out.trans b7⟩
  | true =>
    by_cases h0 : xs.length = 0
    · have g0 : ((xs.length : Int) == 0) = true := by simp [h0]
      clear h0
      go_wp2_with (go_at_call 13; refine (alive_any _).mono ?_; rintro e w7 ⟨rfl, b7⟩)
      go_returns
      exact ⟨rfl, HB.out.trans b7⟩
    · have g0 : ((xs.length : Int) == 0) = false := beq_eq_false_iff_ne.2 (by omega)
      obtain ⟨x, hx⟩ := at_some (show 0 < xs.length by omega)
      have hcut := run_cut_low (P := Tryd.prog) (A := A) (c := c) Tryd.underlying37 kinfo_Lease (1) (by omega : 1 ≤ xs.length)
      rw [show ((1 : Nat) : Int) = 1 from by simp] at hcut
      have hpt := HS.out.part (1) xs.length (by omega) (by omega) hcp.1
      obtain ⟨vc, hvc⟩ : ∃ vc, (Value.slice (if c = 1 then A else A.map (·.add ((1) * 3))) (xs.length - 1) (c - 1)) = vc := ⟨_, rfl⟩
      rw [hvc] at hcut hpt
      have HP := Lib.hid hpt.1
      clear hpt hvc
      have HX := Lib.hid hx
      obtain ⟨A', c', hA', hcell'⟩ := id HS.out
      injection hA' with e1 e2 e3
      subst e1 e3
      clear e2
      obtain ⟨b', off', rfl, hlt', hcl⟩ := hcell' (by omega)
      have c0 := hcl 0 x hx 0 (by omega)
      have c1 := hcl 0 x hx 1 (by omega)
      have c2 := hcl 0 x hx 2 (by omega)
      simp only [Nat.zero_mul, Nat.add_zero] at c0 c1 c2
      obtain ⟨xa, xb, xc⟩ := x
      simp only [encLease] at c0 c1 c2
      clear hcl hcell' hx
      go_wp2_with fail
      refine (impl_LeasesValid _ HP.out (by rw [part_len (by omega)]; omega)).mono ?_
      rw [leasesOk_part HK.out 1 (by omega)]
      rintro e w6 ⟨rfl, b6⟩
      replace c0 := b6.cell c0
      replace c1 := b6.cell c1
      replace c2 := b6.cell c2
      replace HS := Lib.hid (HS.out.ext b6)
      have HB6 := Lib.hid (HB.out.trans b6)
      clear hcut b6
      go_wp2_with (at_builtin; refine catLease rfl rfl rfl rfl (Row.lit _ _ _ [⟨xa, xb, xc⟩] rfl (by simp)) (HS.out.ext ((Ext.refl _).alloc _)) (by simp; omega) (by simp) ?_; intro v' w4 hrow hg; have HG := Lib.hid (And.intro hrow hg); clear hrow hg)
      refine (impl_LeasesValid _ HG.out.1.cell.1 (by simp; omega)).mono ?_
      rw [leasesOk_twice HX.out]
      rintro e w8 ⟨rfl, b8⟩
      go_wp2
      go_returns
      exact ⟨rfl, ((HB6.out.alloc _).grown HG.out.2 (fun k hk => by injection hk with hk; subst hk; exact HB6.out.size)).trans b8⟩
end Go.Proofs.YtcmakjhpfgeenaaDoor
