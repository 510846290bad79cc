/- The walk of laws.FnQuorumsBetween: it answers true. -/
import Derived.Test.YtpkjgeidndbbbaaDoorQuorum
import Derived.Test.YtpkjgeidndbbbaaDoorDrawQuorum
import Derived.Test.YtpkjgeidndbbbaaDoorAlive
namespace Go.Proofs.YtpkjgeidndbbbaaDoor
open Go.RowKit

theorem meetB_symm (xs ys : List Int) : meetB xs ys = meetB ys xs := by
  rw [Bool.eq_iff_iff]
  simp only [meetB, List.all_eq_true]
  constructor
  · intro h b hb a ha; rw [comB_symm]; exact h a ha b hb
  · intro h a ha b hb; rw [comB_symm]; exact h b hb a ha
theorem betweenB_symm (many : Int) (xs ys : List Int) : betweenB many ys xs = betweenB many xs ys := by
  unfold betweenB
  rw [meetB_symm]
  cases setsB many xs <;> cases setsB many ys <;> rfl
theorem small_sm {xs : List Int} (h : ∀ x ∈ xs, smI x) : Small xs := fun x hx => by have := (h x hx).2; omega
set_option maxHeartbeats 2000000 in
theorem law_FnQuorumsBetween (w : World) {v0 : Value} {xs0 : List Int} (s0 : Sl1 encU w v0 xs0) (l0 : xs0.length ≤ 9223372036854775807) (f0 : ∀ x ∈ xs0, 0 ≤ x ∧ x ≤ 255) (k0 : ∀ A n c, v0 = .slice A n c → n ≤ c ∧ c ≤ 9223372036854775807) :
    Calls Tryd.prog 5 #[v0] w fun e w' => e = .returned (.bool true) ∧ Ext w w' := by
  obtain ⟨A0, c0, hv0, _⟩ := id s0
  by_cases hl : xs0.length ≤ 1048576
  case neg =>
    subst hv0
    have hl' : 1048576 < xs0.length := by omega
    clear hl s0 f0 k0
    go_enter Tryd.func5, Tryd.ntmps5
    go_wp2
    go_returns
    exact ⟨rfl, Ext.refl _⟩
  have HC := Lib.hid (⟨xs0, s0, f0, hl, k0⟩ : CodeIn w v0)
  subst hv0
  clear s0 f0 k0
  go_enter Tryd.func5, Tryd.ntmps5
  go_wp2_with fail
  refine (DrawQuorumsBetween_any _ HC.out).mono ?_
  rintro e w1 ⟨s, u, v, xs, ys, rfl, hs, ⟨hu, hx⟩, ⟨hv, hy⟩, b1⟩
  have hlx := hx.1
  have hly := hy.1
  have HU := Lib.hid hu.1.to1
  have HV := Lib.hid hv.1.to1
  have HSX := Lib.hid (small_sm hx.2)
  have HSY := Lib.hid (small_sm hy.2)
  clear hu hv hx hy
  obtain ⟨ok, hok⟩ : ∃ ok, betweenB s xs ys = ok := ⟨_, rfl⟩
  have hok2 : betweenB s ys xs = ok := (betweenB_symm s xs ys).trans hok
  obtain ⟨ok2, hok3⟩ : ∃ ok, betweenB s xs xs = ok := ⟨_, rfl⟩
  have HK := Lib.hid hok
  have HK2 := Lib.hid hok2
  have HK3 := Lib.hid hok3
  clear hok hok2 hok3
  go_wp2_with fail
  refine (impl_QuorumsBetween s _ HU.out HV.out (by omega) (by omega)).mono ?_
  rw [HK.out]
  rintro e w2 ⟨rfl, b2⟩
  replace HU := Lib.hid (HU.out.ext b2)
  replace HV := Lib.hid (HV.out.ext b2)
  go_wp2_with fail
  refine (spec_QuorumsBetween s _ HU.out HV.out (by omega) (by omega) (by omega) HSX.out HSY.out).mono ?_
  rw [HK.out]
  rintro e w3 ⟨rfl, b3⟩
  replace HU := Lib.hid (HU.out.ext b3)
  replace HV := Lib.hid (HV.out.ext b3)
  go_wp2_with fail
  refine (impl_QuorumsBetween s _ HV.out HU.out (by omega) (by omega)).mono ?_
  rw [HK2.out]
  rintro e w4 ⟨rfl, b4⟩
  replace HU := Lib.hid (HU.out.ext b4)
  go_wp2_with fail
  refine (impl_QuorumsBetween s _ HU.out HU.out (by omega) (by omega)).mono ?_
  rw [HK3.out]
  rintro e w5 ⟨rfl, b5⟩
  replace HU := Lib.hid (HU.out.ext b5)
  go_wp2_with fail
  refine (impl_QuorumsMeet s _ HU.out (by omega)).mono ?_
  rw [HK3.out]
  rintro e w6 ⟨rfl, b6⟩
  go_wp2_with (go_at_call 14; refine (alive_any _).mono ?_; rintro e w7 ⟨rfl, b7⟩)
  go_returns
  exact ⟨rfl, (((((b1.trans b2).trans b3).trans b4).trans b5).trans b6).trans b7⟩
end Go.Proofs.YtpkjgeidndbbbaaDoor
