/- The walk of laws.FnLeaseHeld: it answers true. -/
import Derived.Test.YtcmakjhpfgeenaaDoorLease
import Derived.Test.YtcmakjhpfgeenaaDoorDrawHeld
import Derived.Test.YtcmakjhpfgeenaaDoorAlive
namespace Go.Proofs.YtcmakjhpfgeenaaDoor
open Go.RowKit

theorem held_true {l : Lease} {now skew : Int} (h : heldB l now skew = true) : (0 ≤ skew ∧ skew ≤ 50) ∧ (-2000 ≤ now ∧ now ≤ 2000) ∧ l.frm ≤ now - skew ∧ now + skew < l.til := by
  simp only [heldB, Bool.and_eq_true, inB_true, decide_eq_true_eq] at h
  exact ⟨h.1.1.1, h.1.1.2, h.1.2, h.2⟩
theorem held_of {l : Lease} {now skew : Int} (h1 : 0 ≤ skew ∧ skew ≤ 50) (h2 : -2000 ≤ now ∧ now ≤ 2000) (h3 : l.frm ≤ now - skew) (h4 : now + skew < l.til) : heldB l now skew = true := by
  simp only [heldB, Bool.and_eq_true, inB_true, decide_eq_true_eq]
  exact ⟨⟨⟨h1, h2⟩, h3⟩, h4⟩
set_option maxRecDepth 8000 in
set_option maxHeartbeats 2000000 in
theorem law_FnLeaseHeld (w : World) {v0 : Value} {xs0 : List Int} (s0 : Sl1 encU w v0 xs0) (l0 : xs0.length ≤ 9223372036854775807) (f0 : ∀ x ∈ xs0, 0 ≤ x ∧ x ≤ 255) (k0 : ∀ A n c, v0 = .slice A n c → n ≤ c ∧ c ≤ 9223372036854775807) :
    Calls Tryd.prog 3 #[v0] w fun e w' => e = .returned (.bool true) ∧ Ext w w' := by
  obtain ⟨A0, c0, hv0, _⟩ := id s0
  by_cases hl : xs0.length ≤ 1048576
  case neg =>
    subst hv0
    have hl' : 1048576 < xs0.length := by omega
    clear hl s0 f0 k0
    go_enter Tryd.func3, Tryd.ntmps3
    go_wp2
    go_returns
    exact ⟨rfl, Ext.refl _⟩
  have HC := Lib.hid (⟨xs0, s0, f0, hl, k0⟩ : CodeIn w v0)
  subst hv0
  clear s0 f0 k0
  go_enter Tryd.func3, Tryd.ntmps3
  go_wp2_with fail
  refine (DrawLeaseHeld_any _ HC.out).mono ?_
  rintro e w1 ⟨l, now, skew, rfl, hs, hn, hk, b1⟩
  have Hn := Lib.hid hn
  have Hk := Lib.hid hk
  clear hs hn hk
  obtain ⟨ok, hok⟩ : ∃ ok, heldB l now skew = ok := ⟨_, rfl⟩
  have HK := Lib.hid hok
  clear hok
  have hn1 := Hn.out.1
  have hn2 := Hn.out.2
  have hk1 := Hk.out.1
  have hk2 := Hk.out.2
  go_wp2_with fail
  refine (impl_LeaseHeld l now skew _).mono ?_
  rw [HK.out]
  rintro e w2 ⟨rfl, b2⟩
  have c0 := b2.cell (p := ⟨w1.heap.size, 0, none⟩) (v := .int .i64 l.who) (by go_cell)
  have c1 := b2.cell (p := ⟨w1.heap.size, 1, none⟩) (v := .int .i64 l.frm) (by go_cell)
  have c2 := b2.cell (p := ⟨w1.heap.size, 2, none⟩) (v := .int .i64 l.til) (by go_cell)
  go_wp2_with fail
  refine (spec_LeaseHeld l now skew _).mono ?_
  rw [HK.out]
  rintro e w3 ⟨rfl, b3⟩
  replace c0 := b3.cell c0
  replace c1 := b3.cell c1
  replace c2 := b3.cell c2
  have HB := Lib.hid (((b1.alloc _).trans b2).trans b3)
  clear b1 b2 b3
  cases ok with
  | false =>
    go_wp2_with (go_at_call 13; refine (alive_any _).mono ?_; rintro e w7 ⟨rfl, b7⟩)
    go_returns
    exact ⟨rfl, HB.out.trans b7⟩
  | true =>
    obtain ⟨h1, h2, h3, h4⟩ := held_true HK.out
    have hz := Lib.hid (held_of (l := l) (now := now) (skew := 0) (by omega) h2 (by omega) (by omega))
    have g1 : l.frm ≤ now := by omega
    have g2 : now < l.til := by omega
    go_wp2_with fail
    refine (impl_LeaseHeld l now 0 _).mono ?_
    rw [hz.out]
    rintro e w4 ⟨rfl, b4⟩
    replace c0 := b4.cell c0
    replace c1 := b4.cell c1
    replace c2 := b4.cell c2
    by_cases hs0 : skew = 0
    · have g3 : (skew == 0) = true := by simp [hs0]
      clear hs0 h1 h2 h3 h4
      go_wp2_with (go_at_call 13; refine (alive_any _).mono ?_; rintro e w7 ⟨rfl, b7⟩)
      go_returns
      exact ⟨rfl, (HB.out.trans b4).trans b7⟩
    · have g3 : (skew == 0) = false := by simp [hs0]
      have hp := Lib.hid (held_of (l := l) (now := now) (skew := skew - 1) (by omega) h2 (by omega) (by omega))
      clear hs0 h1 h2 h3 h4
      go_wp2_with fail
      refine (impl_LeaseHeld l now (skew - 1) _).mono ?_
      rw [hp.out]
      rintro e w5 ⟨rfl, b5⟩
      go_wp2_with (go_at_call 13; refine (alive_any _).mono ?_; rintro e w7 ⟨rfl, b7⟩)
      go_returns
      exact ⟨rfl, ((HB.out.trans b4).trans b5).trans b7⟩
end Go.Proofs.YtcmakjhpfgeenaaDoor
