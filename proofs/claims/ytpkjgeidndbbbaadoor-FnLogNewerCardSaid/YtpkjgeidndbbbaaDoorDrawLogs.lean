/- Draws of two logs. -/
import Derived.Test.YtpkjgeidndbbbaaDoorDrawLog
namespace Go.Proofs.YtpkjgeidndbbbaaDoor
open Go.RowKit
/-- Two logs were drawn. -/
def DrawnLL (w : World) (en : Ending) (w' : World) : Prop :=
  ∃ u v xs ys, en = .returned (.tuple #[u, v]) ∧ Val 2 encRec w.heap.size w' u xs ∧ Val 2 encRec w.heap.size w' v ys ∧ drawnLog xs ∧ drawnLog ys ∧ Ext w w'
set_option maxHeartbeats 400000 in
theorem DrawLogNewer_any {v : Value} (w : World) (h : CodeIn w v) : Calls Tryd.prog 10 #[v] w (DrawnLL w) := by
  have H := Lib.hid h
  clear h
  go_enter Tryd.func10, Tryd.ntmps10
  go_wp2_with fail
  refine (open_code _ H.out).mono ?_
  rintro e w1 ⟨rb, rfl, hl, r1, b1⟩
  have hr := r1.lt
  go_wp2_with fail
  refine (l20Log_any rb 0 9 _ r1 (by omega) (by omega)).mono ?_
  rintro e w2 ⟨u, xs, rfl, hrow, hphi, r2, x2⟩
  go_wp2_with fail
  refine (l20Log_any rb _ 9 _ r2 (by omega) (by omega)).mono ?_
  rintro e w3 ⟨u2, ys, rfl, hrow2, hphi2, r3, x3⟩
  have HR := Lib.hid ((hrow.ex x3 hr).lower b1.size)
  have HR2 := Lib.hid (hrow2.lower (Nat.le_trans b1.size x2.size))
  have HP := Lib.hid hphi
  have HP2 := Lib.hid hphi2
  have HB := Lib.hid (b1.ex (x2.trans x3) hl)
  clear hrow hphi r1 b1 r2 x2 hrow2 hphi2 r3 x3
  go_wp2
  go_returns
  exact ⟨u, u2, xs, ys, rfl, HR.out, HR2.out, HP.out, HP2.out, HB.out⟩
end Go.Proofs.YtpkjgeidndbbbaaDoor
