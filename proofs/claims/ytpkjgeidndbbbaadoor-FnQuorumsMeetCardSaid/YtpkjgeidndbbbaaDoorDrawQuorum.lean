/- Draws of quorums. -/
import Derived.Test.YtpkjgeidndbbbaaDoorDrawSets
namespace Go.Proofs.YtpkjgeidndbbbaaDoor
open Go.RowKit
/-- A number of members and sets were drawn. -/
def DrawnQ (w : World) (en : Ending) (w' : World) : Prop :=
  ∃ s u xs, en = .returned (.tuple #[.int .i64 s, u]) ∧ (0 ≤ s ∧ s ≤ 8) ∧ Val 1 (one encI) w.heap.size w' u xs ∧ drawnInts 5 xs ∧ Ext w w'
set_option maxHeartbeats 400000 in
theorem DrawQuorumsMeet_any {v : Value} (w : World) (h : CodeIn w v) : Calls Tryd.prog 22 #[v] w (DrawnQ w) := by
  have H := Lib.hid h
  clear h
  go_enter Tryd.func22, Tryd.ntmps22
  go_wp2_with fail
  refine (open_code _ H.out).mono ?_
  rintro e w1 ⟨rb, rfl, hl, r1, b1⟩
  have hr := r1.lt
  go_wp2_with fail
  refine (l20Members_any rb 0 _ r1 (by omega)).mono ?_
  rintro e w2 ⟨s, rfl, s0, s1, r2, x2⟩
  go_wp2_with fail
  refine (l20Sets_any rb _ s _ r2 (by omega) ⟨s0, s1⟩).mono ?_
  rintro e w3 ⟨u, xs, rfl, hrow, hphi, r3, x3⟩
  have HR := Lib.hid (hrow.lower (Nat.le_trans b1.size x2.size))
  have HP := Lib.hid hphi
  have HB := Lib.hid (b1.ex (x2.trans x3) hl)
  clear hrow hphi r1 b1 r2 x2 r3 x3
  go_wp2
  go_returns
  exact ⟨s, u, xs, rfl, ⟨s0, s1⟩, HR.out, HP.out, HB.out⟩
/-- A number of members and two lists of sets were drawn. -/
def DrawnQQ (w : World) (en : Ending) (w' : World) : Prop :=
  ∃ s u v xs ys, en = .returned (.tuple #[.int .i64 s, u, v]) ∧ (0 ≤ s ∧ s ≤ 8) ∧ (Val 1 (one encI) w.heap.size w' u xs ∧ drawnInts 5 xs) ∧ (Val 1 (one encI) w.heap.size w' v ys ∧ drawnInts 5 ys) ∧ Ext w w'
set_option maxHeartbeats 400000 in
theorem DrawQuorumsBetween_any {v : Value} (w : World) (h : CodeIn w v) : Calls Tryd.prog 18 #[v] w (DrawnQQ w) := by
  have H := Lib.hid h
  clear h
  go_enter Tryd.func18, Tryd.ntmps18
  go_wp2_with fail
  refine (open_code _ H.out).mono ?_
  rintro e w1 ⟨rb, rfl, hl, r1, b1⟩
  have hr := r1.lt
  go_wp2_with fail
  refine (l20Members_any rb 0 _ r1 (by omega)).mono ?_
  rintro e w2 ⟨s, rfl, s0, s1, r2, x2⟩
  have hr2 := r2.lt
  go_wp2_with fail
  refine (l20Sets_any rb _ s _ r2 (by omega) ⟨s0, s1⟩).mono ?_
  rintro e w3 ⟨u, xs, rfl, hrow, hphi, r3, x3⟩
  go_wp2_with fail
  refine (l20Sets_any rb _ s _ r3 (by omega) ⟨s0, s1⟩).mono ?_
  rintro e w4 ⟨u2, ys, rfl, hrow2, hphi2, r4, x4⟩
  have HR := Lib.hid ((hrow.ex x4 hr2).lower (Nat.le_trans b1.size x2.size))
  have HR2 := Lib.hid (hrow2.lower (Nat.le_trans b1.size (x2.trans x3).size))
  have HP := Lib.hid (And.intro hphi hphi2)
  have HB := Lib.hid (b1.ex ((x2.trans x3).trans x4) hl)
  clear hrow hphi r1 b1 r2 x2 r3 x3 hrow2 hphi2 r4 x4
  go_wp2
  go_returns
  exact ⟨s, u, u2, xs, ys, rfl, ⟨s0, s1⟩, ⟨HR.out, HP.out.1⟩, ⟨HR2.out, HP.out.2⟩, HB.out⟩
end Go.Proofs.YtpkjgeidndbbbaaDoor
