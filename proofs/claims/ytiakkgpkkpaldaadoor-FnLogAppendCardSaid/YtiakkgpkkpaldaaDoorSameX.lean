/- laws.sameHolds, sameLog, sameRedo over equal lists, and over lists of unequal lengths. -/
import Derived.Test.YtiakkgpkkpaldaaDoorTypes
namespace Go.Proofs.YtiakkgpkkpaldaaDoor
open Go.RowKit
set_option maxRecDepth 8000
set_option maxHeartbeats 1000000 in
theorem sameHolds_any {v v' : Value} {xs : List Hold} (w : World) (h : SlOf 4 encHold w v xs) (h' : SlOf 4 encHold w v' xs) (hlen : xs.length ≤ 2097152) :
    Calls Tryd.prog 15 #[v, v'] w fun e w' => e = .returned (.bool true) ∧ Ext w w' := by
  obtain ⟨A, c, rfl, h⟩ := h
  obtain ⟨A', c', rfl, h'⟩ := h'
  go_enter Tryd.func15, Tryd.ntmps15
  go_wp2
  go_loopw [5] (fun i wr => Ext w wr ∧ ∃ k : Nat, k ≤ xs.length ∧ i = .int .i64 k) (fun i _ => xs.length - (intOf i).toNat)
  case atStart => exact ⟨Ext.refl _, 0, Nat.zero_le _, rfl⟩
  case round =>
    obtain ⟨hb, k, hk, rfl⟩ := hrel
    by_cases hlt : k < xs.length
    · obtain ⟨b, off, rfl, hbl, hc⟩ := h (by omega)
      obtain ⟨b', off', rfl, hbl', hc'⟩ := h' (by omega)
      obtain ⟨x, hx⟩ := at_some hlt
      have c0 : ∀ e, (over wr e).cell? ⟨b, off + k * 4, none⟩ = some (.int .i64 x.owner) := over_cell (hb.cell (hc k x hx 0 (by omega)))
      have c1 : ∀ e, (over wr e).cell? ⟨b, off + k * 4 + 1, none⟩ = some (.int .i64 x.key) := over_cell (hb.cell (hc k x hx 1 (by omega)))
      have c2 : ∀ e, (over wr e).cell? ⟨b, off + k * 4 + 2, none⟩ = some (.bool x.write) := over_cell (hb.cell (hc k x hx 2 (by omega)))
      have c3 : ∀ e, (over wr e).cell? ⟨b, off + k * 4 + 3, none⟩ = some (.bool x.got) := over_cell (hb.cell (hc k x hx 3 (by omega)))
      have d0 : ∀ e, (over wr e).cell? ⟨b', off' + k * 4, none⟩ = some (.int .i64 x.owner) := over_cell (hb.cell (hc' k x hx 0 (by omega)))
      have d1 : ∀ e, (over wr e).cell? ⟨b', off' + k * 4 + 1, none⟩ = some (.int .i64 x.key) := over_cell (hb.cell (hc' k x hx 1 (by omega)))
      have d2 : ∀ e, (over wr e).cell? ⟨b', off' + k * 4 + 2, none⟩ = some (.bool x.write) := over_cell (hb.cell (hc' k x hx 2 (by omega)))
      have d3 : ∀ e, (over wr e).cell? ⟨b', off' + k * 4 + 3, none⟩ = some (.bool x.got) := over_cell (hb.cell (hc' k x hx 3 (by omega)))
      have h1 : (x.owner != x.owner) = false := by simp
      have h2 : (x.key != x.key) = false := by simp
      have h3 : (x.write != x.write) = false := by simp
      have h4 : (x.got != x.got) = false := by simp
      clear hx h h' hc hc'
      go_wp2
      refine wp_region_over (by kernel_rfl) (by kernel_rfl) ?_
      repeat (go_big_quiet_step ((fail)))
      refine wpQuiet_nil ?_
      intro w1 hb1
      go_wp2
      go_roundw
      case rel => exact ⟨hb.trans hb1, k + 1, by omega, by go_num⟩
      case measure => simp [intOf]; omega
    · go_wp2
      go_returns
      exact ⟨rfl, hb⟩
theorem sameHolds_no {v v' : Value} {xs ys : List Hold} (w : World) (h : SlOf 4 encHold w v xs) (h' : SlOf 4 encHold w v' ys) (hne : xs.length ≠ ys.length) :
    Calls Tryd.prog 15 #[v, v'] w fun e w' => e = .returned (.bool false) ∧ Ext w w' := by
  obtain ⟨A, c, rfl, h⟩ := h
  obtain ⟨A', c', rfl, h'⟩ := h'
  clear h h'
  go_enter Tryd.func15, Tryd.ntmps15
  go_wp2
  go_returns
  exact ⟨rfl, Ext.refl _⟩
set_option maxHeartbeats 1000000 in
theorem sameLog_any {v v' : Value} {xs : List Rec} (w : World) (h : SlOf 2 encRec w v xs) (h' : SlOf 2 encRec w v' xs) (hlen : xs.length ≤ 2097152) :
    Calls Tryd.prog 30 #[v, v'] w fun e w' => e = .returned (.bool true) ∧ Ext w w' := by
  obtain ⟨A, c, rfl, h⟩ := h
  obtain ⟨A', c', rfl, h'⟩ := h'
  go_enter Tryd.func30, Tryd.ntmps30
  go_wp2
  go_loopw [5] (fun i wr => Ext w wr ∧ ∃ k : Nat, k ≤ xs.length ∧ i = .int .i64 k) (fun i _ => xs.length - (intOf i).toNat)
  case atStart => exact ⟨Ext.refl _, 0, Nat.zero_le _, rfl⟩
  case round =>
    obtain ⟨hb, k, hk, rfl⟩ := hrel
    by_cases hlt : k < xs.length
    · obtain ⟨b, off, rfl, hbl, hc⟩ := h (by omega)
      obtain ⟨b', off', rfl, hbl', hc'⟩ := h' (by omega)
      obtain ⟨x, hx⟩ := at_some hlt
      have c0 : ∀ e, (over wr e).cell? ⟨b, off + k * 2, none⟩ = some (.int .i64 x.term) := over_cell (hb.cell (hc k x hx 0 (by omega)))
      have c1 : ∀ e, (over wr e).cell? ⟨b, off + k * 2 + 1, none⟩ = some (.int .i64 x.value) := over_cell (hb.cell (hc k x hx 1 (by omega)))
      have d0 : ∀ e, (over wr e).cell? ⟨b', off' + k * 2, none⟩ = some (.int .i64 x.term) := over_cell (hb.cell (hc' k x hx 0 (by omega)))
      have d1 : ∀ e, (over wr e).cell? ⟨b', off' + k * 2 + 1, none⟩ = some (.int .i64 x.value) := over_cell (hb.cell (hc' k x hx 1 (by omega)))
      have h1 : (x.term != x.term) = false := by simp
      have h2 : (x.value != x.value) = false := by simp
      clear hx h h' hc hc'
      go_wp2
      refine wp_region_over (by kernel_rfl) (by kernel_rfl) ?_
      repeat (go_big_quiet_step ((fail)))
      refine wpQuiet_nil ?_
      intro w1 hb1
      go_wp2
      go_roundw
      case rel => exact ⟨hb.trans hb1, k + 1, by omega, by go_num⟩
      case measure => simp [intOf]; omega
    · go_wp2
      go_returns
      exact ⟨rfl, hb⟩
theorem sameLog_no {v v' : Value} {xs ys : List Rec} (w : World) (h : SlOf 2 encRec w v xs) (h' : SlOf 2 encRec w v' ys) (hne : xs.length ≠ ys.length) :
    Calls Tryd.prog 30 #[v, v'] w fun e w' => e = .returned (.bool false) ∧ Ext w w' := by
  obtain ⟨A, c, rfl, h⟩ := h
  obtain ⟨A', c', rfl, h'⟩ := h'
  clear h h'
  go_enter Tryd.func30, Tryd.ntmps30
  go_wp2
  go_returns
  exact ⟨rfl, Ext.refl _⟩
end Go.Proofs.YtiakkgpkkpaldaaDoor
