/- laws.sameHolds, sameLog, sameRedo over equal lists, and over lists of unequal lengths. -/
import Derived.Test.YtiggckhlbklngaaDoorTypes
namespace Go.Proofs.YtiggckhlbklngaaDoor
open Go.RowKit
set_option maxRecDepth 8000
set_option maxHeartbeats 1000000 in
theorem sameRedo_any {v v' : Value} {xs : List Redo} (w : World) (h : SlOf 3 encRedo w v xs) (h' : SlOf 3 encRedo w v' xs) (hlen : xs.length ≤ 2097152) :
    Calls Tryd.prog 18 #[v, v'] w fun e w' => e = .returned (.bool true) ∧ Ext w w' := by
  obtain ⟨A, c, rfl, h⟩ := h
  obtain ⟨A', c', rfl, h'⟩ := h'
  go_enter Tryd.func18, Tryd.ntmps18
  go_wp2
  go_loopw [5] (fun i wr => Ext w wr ∧ ∃ k : Nat, k ≤ xs.length ∧ i = .int .i64 k) (fun i _ => xs.length - (intOf i).toNat)
  case atStart => exact ⟨Ext.refl _, 0, Nat.zero_le _, rfl⟩
  case round =>
    obtain ⟨hb, k, hk, rfl⟩ := hrel
    by_cases hlt : k < xs.length
    · obtain ⟨b, off, rfl, hbl, hc⟩ := h (by omega)
      obtain ⟨b', off', rfl, hbl', hc'⟩ := h' (by omega)
      obtain ⟨x, hx⟩ := at_some hlt
      have c0 : ∀ e, (over wr e).cell? ⟨b, off + k * 3, none⟩ = some (.int .i64 x.who) := over_cell (hb.cell (hc k x hx 0 (by omega)))
      have c1 : ∀ e, (over wr e).cell? ⟨b, off + k * 3 + 1, none⟩ = some (.int .i64 x.key) := over_cell (hb.cell (hc k x hx 1 (by omega)))
      have c2 : ∀ e, (over wr e).cell? ⟨b, off + k * 3 + 2, none⟩ = some (.int .i64 x.value) := over_cell (hb.cell (hc k x hx 2 (by omega)))
      have d0 : ∀ e, (over wr e).cell? ⟨b', off' + k * 3, none⟩ = some (.int .i64 x.who) := over_cell (hb.cell (hc' k x hx 0 (by omega)))
      have d1 : ∀ e, (over wr e).cell? ⟨b', off' + k * 3 + 1, none⟩ = some (.int .i64 x.key) := over_cell (hb.cell (hc' k x hx 1 (by omega)))
      have d2 : ∀ e, (over wr e).cell? ⟨b', off' + k * 3 + 2, none⟩ = some (.int .i64 x.value) := over_cell (hb.cell (hc' k x hx 2 (by omega)))
      have h1 : (x.who != x.who) = false := by simp
      have h2 : (x.key != x.key) = false := by simp
      have h3 : (x.value != x.value) = false := by simp
      clear hx h h' hc hc'
      go_wp2
      refine wp_region_over (by kernel_rfl) (by kernel_rfl) ?_
      repeat (go_big_quiet_step ((fail)))
      refine wpQuiet_nil ?_
      intro w1 hb1
      go_wp2
      go_roundw
      case rel => exact ⟨hb.trans hb1, k + 1, by omega, by go_num⟩
      case measure => simp [intOf]; omega
    · go_wp2
      go_returns
      exact ⟨rfl, hb⟩
theorem sameRedo_no {v v' : Value} {xs ys : List Redo} (w : World) (h : SlOf 3 encRedo w v xs) (h' : SlOf 3 encRedo w v' ys) (hne : xs.length ≠ ys.length) :
    Calls Tryd.prog 18 #[v, v'] w fun e w' => e = .returned (.bool false) ∧ Ext w w' := by
  obtain ⟨A, c, rfl, h⟩ := h
  obtain ⟨A', c', rfl, h'⟩ := h'
  clear h h'
  go_enter Tryd.func18, Tryd.ntmps18
  go_wp2
  go_returns
  exact ⟨rfl, Ext.refl _⟩
end Go.Proofs.YtiggckhlbklngaaDoor
