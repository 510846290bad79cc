/- The walk of laws.FnExactLeaseHeld: it answers true. -/
import Derived.Test.YtcddagcfhibdiaaLease
namespace Go.Proofs.Ytcddagcfhibdiaa
open Go.RowKit

set_option maxHeartbeats 1000000 in
theorem law_FnExactLeaseHeld (w : World) (l : Lease) (_ : wfLease l) (now : Int) (_ : (Lit.int .i64 now).wf = true) (skew : Int) (_ : (Lit.int .i64 skew).wf = true) :
    Calls Try.prog 3 #[.agg #[.int .i64 l.who, .int .i64 l.frm, .int .i64 l.til], .int .i64 now, .int .i64 skew] w fun e w' => e = .returned (.bool true) ∧ Ext w w' := by
  go_enter Try.func3, Try.ntmps3
  go_wp2_with fail
  refine (toLease_any _ _ _ _).mono ?_
  rintro e w1 ⟨rfl, b1⟩
  have c0 := b1.cell (p := ⟨w.heap.size, 0, none⟩) (v := .int .i64 l.who) (by go_cell)
  have c1 := b1.cell (p := ⟨w.heap.size, 1, none⟩) (v := .int .i64 l.frm) (by go_cell)
  have c2 := b1.cell (p := ⟨w.heap.size, 2, none⟩) (v := .int .i64 l.til) (by go_cell)
  go_wp2_with fail
  refine (spec_LeaseHeld _ _ _ _).mono ?_
  rintro e w2 ⟨rfl, b2⟩
  replace c0 := b2.cell c0
  replace c1 := b2.cell c1
  replace c2 := b2.cell c2
  go_wp2_with fail
  refine (toLease_any _ _ _ _).mono ?_
  rintro e w3 ⟨rfl, b3⟩
  go_wp2_with fail
  refine (impl_LeaseHeld _ _ _ _).mono ?_
  rintro e w4 ⟨rfl, b4⟩
  go_wp2
  go_returns
  exact ⟨rfl, (((((Ext.refl _).alloc _).trans b1).trans b2).trans b3).trans b4⟩
end Go.Proofs.Ytcddagcfhibdiaa
