/- The walk of laws.FnExactLeasesValid: it answers true. -/
import Derived.Test.YtcddagcfhibdiaaLease
namespace Go.Proofs.Ytcddagcfhibdiaa
open Go.RowKit

set_option maxHeartbeats 1000000 in
theorem law_FnExactLeasesValid {v : Value} {xs : List Lease} (w : World) (h : SlOf 3 encLease w v xs) (hn : xs.length ≤ 9223372036854775807) (_ : ∀ x ∈ xs, wfLease x) :
    Calls Try.prog 6 #[v] w fun e w' => e = .returned (.bool true) ∧ Ext w w' := by
  obtain ⟨A, c, hv, _⟩ := id h
  by_cases hl : xs.length ≤ 1048576
  · go_enter Try.func6, Try.ntmps6
    go_wp2_with fail
    subst hv
    refine (szLeaseS_any _ _ _ _ hn).mono ?_
    rintro e w' ⟨rfl, rfl⟩
    rw [if_pos hl]
    go_wp2_with fail
    refine (toLeaseS_any _ h (by omega)).mono ?_
    rintro e w1 ⟨v1, rfl, s1, _, b1⟩
    go_wp2_with fail
    refine (spec_LeasesValid _ s1 (by omega)).mono ?_
    rintro e w2 ⟨rfl, b2⟩
    have B2 := b1.trans b2
    go_wp2_with fail
    refine (toLeaseS_any _ (h.ext B2) (by omega)).mono ?_
    rintro e w3 ⟨v3, rfl, s3, _, b3⟩
    have B3 := B2.trans b3
    go_wp2_with fail
    refine (impl_LeasesValid _ s3 (by omega)).mono ?_
    rintro e w4 ⟨rfl, b4⟩
    have B4 := B3.trans b4
    go_wp2_with fail
    refine (toLeaseS_any _ (h.ext B4) (by omega)).mono ?_
    rintro e w5 ⟨v5, rfl, s5, _, b5⟩
    go_wp2_with fail
    refine (eqLeaseS_any _ (s3.ext (b4.trans b5)) s5 (by omega)).mono ?_
    rintro e w6 ⟨rfl, b6⟩
    go_wp2
    go_returns
    exact ⟨rfl, (B4.trans b5).trans b6⟩
  · go_enter Try.func6, Try.ntmps6
    go_wp2_with fail
    subst hv
    refine (szLeaseS_any _ _ _ _ hn).mono ?_
    rintro e w' ⟨rfl, rfl⟩
    rw [if_neg hl]
    go_wp2
    go_returns
    exact ⟨rfl, Ext.refl _⟩
end Go.Proofs.Ytcddagcfhibdiaa
