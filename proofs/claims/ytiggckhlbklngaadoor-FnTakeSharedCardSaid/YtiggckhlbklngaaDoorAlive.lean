/- alive: the text of a fixed operation. -/
import Derived.Test.YtiggckhlbklngaaDoorLeaf
import Derived.OwnWalk
import Derived.Deep.RegionWith
namespace Go.Proofs.YtiggckhlbklngaaDoor
open Go.RowKit
theorem ret_str {a b : ByteArray} (h : a = b) : Ending.returned (.string a) = .returned (.string b) := by rw [h]
theorem small_0 (w : World) : Calls Tryd.prog 102 #[.int .i64 0] w fun e w' => e = .returned (.string ⟨#[48]⟩) ∧ w = w' := by
  go_enter Tryd.func102, Tryd.ntmps102
  go_wp2
  go_returns
  exact ⟨ret_str (by decide), rfl⟩
theorem small_5 (w : World) : Calls Tryd.prog 102 #[.int .i64 5] w fun e w' => e = .returned (.string ⟨#[53]⟩) ∧ w = w' := by
  go_enter Tryd.func102, Tryd.ntmps102
  go_wp2
  go_returns
  exact ⟨ret_str (by decide), rfl⟩
theorem format_0 (w : World) : Calls Tryd.prog 90 #[.int .i64 0, .int .i64 10] w fun e w' => e = .returned (.string ⟨#[48]⟩) ∧ w = w' := by
  go_enter Tryd.func90, Tryd.ntmps90
  go_wp2_with (go_at_call 102; refine (small_0 _).mono ?_; rintro e w' ⟨rfl, rfl⟩)
  go_returns
  exact ⟨rfl, rfl⟩
theorem format_5 (w : World) : Calls Tryd.prog 90 #[.int .i64 5, .int .i64 10] w fun e w' => e = .returned (.string ⟨#[53]⟩) ∧ w = w' := by
  go_enter Tryd.func90, Tryd.ntmps90
  go_wp2_with (go_at_call 102; refine (small_5 _).mono ?_; rintro e w' ⟨rfl, rfl⟩)
  go_returns
  exact ⟨rfl, rfl⟩
theorem itoaI_0 (w : World) : Calls Tryd.prog 81 #[.int .i64 0] w fun e w' => e = .returned (.string ⟨#[48]⟩) ∧ w = w' := by
  go_enter Tryd.func81, Tryd.ntmps81
  go_wp2_with (go_at_call 90; refine (format_0 _).mono ?_; rintro e w' ⟨rfl, rfl⟩)
  go_returns
  exact ⟨rfl, rfl⟩
theorem itoaI_5 (w : World) : Calls Tryd.prog 81 #[.int .i64 5] w fun e w' => e = .returned (.string ⟨#[53]⟩) ∧ w = w' := by
  go_enter Tryd.func81, Tryd.ntmps81
  go_wp2_with (go_at_call 90; refine (format_5 _).mono ?_; rintro e w' ⟨rfl, rfl⟩)
  go_returns
  exact ⟨rfl, rfl⟩
theorem itoa_0 (w : World) : Calls Tryd.prog 68 #[.int .i64 0] w fun e w' => e = .returned (.string ⟨#[48]⟩) ∧ w = w' := by
  go_enter Tryd.func68, Tryd.ntmps68
  go_wp2_with (go_at_call 81; refine (itoaI_0 _).mono ?_; rintro e w' ⟨rfl, rfl⟩)
  go_returns
  exact ⟨rfl, rfl⟩
theorem itoa_5 (w : World) : Calls Tryd.prog 68 #[.int .i64 5] w fun e w' => e = .returned (.string ⟨#[53]⟩) ∧ w = w' := by
  go_enter Tryd.func68, Tryd.ntmps68
  go_wp2_with (go_at_call 81; refine (itoaI_5 _).mono ?_; rintro e w' ⟨rfl, rfl⟩)
  go_returns
  exact ⟨rfl, rfl⟩
def aOp : Value := .agg #[.int .i64 2, .int .i64 0, .int .i64 5]
theorem opReads_a (w : World) : Calls Tryd.prog 79 #[.agg #[.int .i64 2, .int .i64 0, .int .i64 5]] w fun e w' => e = .returned (.bool false) ∧ Ext w w' := by
  go_enter Tryd.func79, Tryd.ntmps79
  go_wp2
  go_returns
  exact ⟨rfl, (Ext.refl _).alloc _⟩
theorem opWrites_a (w : World) : Calls Tryd.prog 80 #[.agg #[.int .i64 2, .int .i64 0, .int .i64 5]] w fun e w' => e = .returned (.bool true) ∧ Ext w w' := by
  go_enter Tryd.func80, Tryd.ntmps80
  go_wp2
  go_returns
  exact ⟨rfl, (Ext.refl _).alloc _⟩
set_option maxHeartbeats 1000000 in
theorem opValid_a (w : World) : Calls Tryd.prog 66 #[.agg #[.int .i64 2, .int .i64 0, .int .i64 5]] w fun e w' => e = .returned (.bool true) ∧ Ext w w' := by
  go_enter Tryd.func66, Tryd.ntmps66
  go_wp2_with fail
  refine (opReads_a _).mono ?_
  rintro e w1 ⟨rfl, b1⟩
  have c0 := b1.cell (p := ⟨w.heap.size, 0, none⟩) (v := .int .i64 2) (by go_cell)
  have c1 := b1.cell (p := ⟨w.heap.size, 1, none⟩) (v := .int .i64 0) (by go_cell)
  have c2 := b1.cell (p := ⟨w.heap.size, 2, none⟩) (v := .int .i64 5) (by go_cell)
  go_wp2_with fail
  refine (opWrites_a _).mono ?_
  rintro e w2 ⟨rfl, b2⟩
  replace c0 := b2.cell c0
  replace c1 := b2.cell c1
  replace c2 := b2.cell c2
  have hk : inB 0 0 2 = true := by decide
  have hv : inB 5 0 99 = true := by decide
  go_wp2_with (first | (go_at_call 36; refine (keyOk_any _ _).mono ?_; rw [hk]; rintro e w' ⟨rfl, rfl⟩) | (go_at_call 45; refine (valueOk_any _ _).mono ?_; rw [hv]; rintro e w' ⟨rfl, rfl⟩) | (go_at_call 80; refine (opWrites_a _).mono ?_; rintro e w3 ⟨rfl, b3⟩; have d2 := b3.cell c2))
  go_returns
  exact ⟨rfl, ((((Ext.refl _).alloc _).trans b1).trans b2).trans b3⟩
theorem opLetter_a (w : World) : Calls Tryd.prog 67 #[.agg #[.int .i64 2, .int .i64 0, .int .i64 5]] w fun e w' => e = .returned (.string ⟨#[119]⟩) ∧ Ext w w' := by
  go_enter Tryd.func67, Tryd.ntmps67
  go_wp2_with fail
  refine (opWrites_a _).mono ?_
  rintro e w1 ⟨rfl, b1⟩
  go_wp2
  go_returns
  exact ⟨rfl, ((Ext.refl _).alloc _).trans b1⟩
set_option maxHeartbeats 1000000 in
theorem opText_a (w : World) : Calls Tryd.prog 40 #[.agg #[.int .i64 2, .int .i64 0, .int .i64 5]] w fun e w' => e = .returned (.string ⟨#[119, 48, 61, 53]⟩) ∧ Ext w w' := by
  go_enter Tryd.func40, Tryd.ntmps40
  go_wp2_with fail
  refine (opValid_a _).mono ?_
  rintro e w1 ⟨rfl, b1⟩
  have c0 := b1.cell (p := ⟨w.heap.size, 0, none⟩) (v := .int .i64 2) (by go_cell)
  have c1 := b1.cell (p := ⟨w.heap.size, 1, none⟩) (v := .int .i64 0) (by go_cell)
  have c2 := b1.cell (p := ⟨w.heap.size, 2, none⟩) (v := .int .i64 5) (by go_cell)
  have B := ((Ext.refl w).alloc (.cells #[.int .i64 2, .int .i64 0, .int .i64 5] 65)).trans b1
  have d0 := over_cell c0
  have d1 := over_cell c1
  have d2 := over_cell c2
  go_wp2_with fail
  refine wp_region_over (by kernel_rfl) (by kernel_rfl) ?_
  repeat (go_big_quiet_step ((first | (go_at_call 67; exact quiet_ext (opLetter_a _)) | (go_at_call_of 68 (Value.int IntKind.i64 0); exact quiet_same (itoa_0 _)) | (go_at_call_of 68 (Value.int IntKind.i64 5); exact quiet_same (itoa_5 _)))))
  refine wpQuiet_nil ?_
  intro w2 b2
  go_wp2
  go_returns
  exact ⟨ret_str (by decide), B.trans b2⟩
theorem alive_any (w : World) : Calls Tryd.prog 11 #[] w fun e w' => e = .returned (.bool true) ∧ Ext w w' := by
  go_enter Tryd.func11, Tryd.ntmps11
  go_wp2_with fail
  refine (opText_a _).mono ?_
  rintro e w1 ⟨rfl, b1⟩
  go_wp2
  go_returns
  exact ⟨rfl, b1⟩
end Go.Proofs.YtiggckhlbklngaaDoor
