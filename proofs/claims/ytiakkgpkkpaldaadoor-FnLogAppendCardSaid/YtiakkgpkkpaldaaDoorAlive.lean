/- alive: the text of a fixed operation. -/
import Derived.Test.YtiakkgpkkpaldaaDoorLeaf
import Derived.OwnWalk
import Derived.Deep.RegionWith
namespace Go.Proofs.YtiakkgpkkpaldaaDoor
open Go.RowKit
theorem ret_str {a b : ByteArray} (h : a = b) : Ending.returned (.string a) = .returned (.string b) := by rw [h]
theorem small_0 (w : World) : Calls Tryd.prog 77 #[.int .i64 0] w fun e w' => e = .returned (.string ⟨#[48]⟩) ∧ w = w' := by
  go_enter Tryd.func77, Tryd.ntmps77
  go_wp2
  go_returns
  exact ⟨ret_str (by decide), rfl⟩
theorem small_5 (w : World) : Calls Tryd.prog 77 #[.int .i64 5] w fun e w' => e = .returned (.string ⟨#[53]⟩) ∧ w = w' := by
  go_enter Tryd.func77, Tryd.ntmps77
  go_wp2
  go_returns
  exact ⟨ret_str (by decide), rfl⟩
theorem format_0 (w : World) : Calls Tryd.prog 76 #[.int .i64 0, .int .i64 10] w fun e w' => e = .returned (.string ⟨#[48]⟩) ∧ w = w' := by
  go_enter Tryd.func76, Tryd.ntmps76
  go_wp2_with (go_at_call 77; refine (small_0 _).mono ?_; rintro e w' ⟨rfl, rfl⟩)
  go_returns
  exact ⟨rfl, rfl⟩
theorem format_5 (w : World) : Calls Tryd.prog 76 #[.int .i64 5, .int .i64 10] w fun e w' => e = .returned (.string ⟨#[53]⟩) ∧ w = w' := by
  go_enter Tryd.func76, Tryd.ntmps76
  go_wp2_with (go_at_call 77; refine (small_5 _).mono ?_; rintro e w' ⟨rfl, rfl⟩)
  go_returns
  exact ⟨rfl, rfl⟩
theorem itoaI_0 (w : World) : Calls Tryd.prog 71 #[.int .i64 0] w fun e w' => e = .returned (.string ⟨#[48]⟩) ∧ w = w' := by
  go_enter Tryd.func71, Tryd.ntmps71
  go_wp2_with (go_at_call 76; refine (format_0 _).mono ?_; rintro e w' ⟨rfl, rfl⟩)
  go_returns
  exact ⟨rfl, rfl⟩
theorem itoaI_5 (w : World) : Calls Tryd.prog 71 #[.int .i64 5] w fun e w' => e = .returned (.string ⟨#[53]⟩) ∧ w = w' := by
  go_enter Tryd.func71, Tryd.ntmps71
  go_wp2_with (go_at_call 76; refine (format_5 _).mono ?_; rintro e w' ⟨rfl, rfl⟩)
  go_returns
  exact ⟨rfl, rfl⟩
theorem itoa_0 (w : World) : Calls Tryd.prog 63 #[.int .i64 0] w fun e w' => e = .returned (.string ⟨#[48]⟩) ∧ w = w' := by
  go_enter Tryd.func63, Tryd.ntmps63
  go_wp2_with (go_at_call 71; refine (itoaI_0 _).mono ?_; rintro e w' ⟨rfl, rfl⟩)
  go_returns
  exact ⟨rfl, rfl⟩
theorem itoa_5 (w : World) : Calls Tryd.prog 63 #[.int .i64 5] w fun e w' => e = .returned (.string ⟨#[53]⟩) ∧ w = w' := by
  go_enter Tryd.func63, Tryd.ntmps63
  go_wp2_with (go_at_call 71; refine (itoaI_5 _).mono ?_; rintro e w' ⟨rfl, rfl⟩)
  go_returns
  exact ⟨rfl, rfl⟩
def aOp : Value := .agg #[.int .i64 2, .int .i64 0, .int .i64 5]
theorem opReads_a (w : World) : Calls Tryd.prog 69 #[.agg #[.int .i64 2, .int .i64 0, .int .i64 5]] w fun e w' => e = .returned (.bool false) ∧ Ext w w' := by
  go_enter Tryd.func69, Tryd.ntmps69
  go_wp2
  go_returns
  exact ⟨rfl, (Ext.refl _).alloc _⟩
theorem opWrites_a (w : World) : Calls Tryd.prog 70 #[.agg #[.int .i64 2, .int .i64 0, .int .i64 5]] w fun e w' => e = .returned (.bool true) ∧ Ext w w' := by
  go_enter Tryd.func70, Tryd.ntmps70
  go_wp2
  go_returns
  exact ⟨rfl, (Ext.refl _).alloc _⟩
set_option maxHeartbeats 1000000 in
theorem opValid_a (w : World) : Calls Tryd.prog 61 #[.agg #[.int .i64 2, .int .i64 0, .int .i64 5]] w fun e w' => e = .returned (.bool true) ∧ Ext w w' := by
  go_enter Tryd.func61, Tryd.ntmps61
  go_wp2_with fail
  refine (opReads_a _).mono ?_
  rintro e w1 ⟨rfl, b1⟩
  have c0 := b1.cell (p := ⟨w.heap.size, 0, none⟩) (v := .int .i64 2) (by go_cell)
  have c1 := b1.cell (p := ⟨w.heap.size, 1, none⟩) (v := .int .i64 0) (by go_cell)
  have c2 := b1.cell (p := ⟨w.heap.size, 2, none⟩) (v := .int .i64 5) (by go_cell)
  go_wp2_with fail
  refine (opWrites_a _).mono ?_
  rintro e w2 ⟨rfl, b2⟩
  replace c0 := b2.cell c0
  replace c1 := b2.cell c1
  replace c2 := b2.cell c2
  have hk : inB 0 0 2 = true := by decide
  have hv : inB 5 0 99 = true := by decide
  go_wp2_with (first | (go_at_call 35; refine (keyOk_any _ _).mono ?_; rw [hk]; rintro e w' ⟨rfl, rfl⟩) | (go_at_call 45; refine (valueOk_any _ _).mono ?_; rw [hv]; rintro e w' ⟨rfl, rfl⟩) | (go_at_call 70; refine (opWrites_a _).mono ?_; rintro e w3 ⟨rfl, b3⟩; have d2 := b3.cell c2))
  go_returns
  exact ⟨rfl, ((((Ext.refl _).alloc _).trans b1).trans b2).trans b3⟩
theorem opLetter_a (w : World) : Calls Tryd.prog 62 #[.agg #[.int .i64 2, .int .i64 0, .int .i64 5]] w fun e w' => e = .returned (.string ⟨#[119]⟩) ∧ Ext w w' := by
  go_enter Tryd.func62, Tryd.ntmps62
  go_wp2_with fail
  refine (opWrites_a _).mono ?_
  rintro e w1 ⟨rfl, b1⟩
  go_wp2
  go_returns
  exact ⟨rfl, ((Ext.refl _).alloc _).trans b1⟩
set_option maxHeartbeats 1000000 in
theorem opText_a (w : World) : Calls Tryd.prog 39 #[.agg #[.int .i64 2, .int .i64 0, .int .i64 5]] w fun e w' => e = .returned (.string ⟨#[119, 48, 61, 53]⟩) ∧ Ext w w' := by
  go_enter Tryd.func39, Tryd.ntmps39
  go_wp2_with fail
  refine (opValid_a _).mono ?_
  rintro e w1 ⟨rfl, b1⟩
  have c0 := b1.cell (p := ⟨w.heap.size, 0, none⟩) (v := .int .i64 2) (by go_cell)
  have c1 := b1.cell (p := ⟨w.heap.size, 1, none⟩) (v := .int .i64 0) (by go_cell)
  have c2 := b1.cell (p := ⟨w.heap.size, 2, none⟩) (v := .int .i64 5) (by go_cell)
  have B := ((Ext.refl w).alloc (.cells #[.int .i64 2, .int .i64 0, .int .i64 5] 67)).trans b1
  have d0 := over_cell c0
  have d1 := over_cell c1
  have d2 := over_cell c2
  go_wp2_with fail
  refine wp_region_over (by kernel_rfl) (by kernel_rfl) ?_
  repeat (go_big_quiet_step ((first | (go_at_call 62; exact quiet_ext (opLetter_a _)) | (go_at_call_of 63 (Value.int IntKind.i64 0); exact quiet_same (itoa_0 _)) | (go_at_call_of 63 (Value.int IntKind.i64 5); exact quiet_same (itoa_5 _)))))
  refine wpQuiet_nil ?_
  intro w2 b2
  go_wp2
  go_returns
  exact ⟨ret_str (by decide), B.trans b2⟩
theorem alive_any (w : World) : Calls Tryd.prog 12 #[] w fun e w' => e = .returned (.bool true) ∧ Ext w w' := by
  go_enter Tryd.func12, Tryd.ntmps12
  go_wp2_with fail
  refine (opText_a _).mono ?_
  rintro e w1 ⟨rfl, b1⟩
  go_wp2
  go_returns
  exact ⟨rfl, b1⟩
end Go.Proofs.YtiakkgpkkpaldaaDoor
