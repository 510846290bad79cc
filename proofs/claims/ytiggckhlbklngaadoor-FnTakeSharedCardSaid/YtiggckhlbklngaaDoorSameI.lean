/- laws.sameInts over equal lists. -/
import Derived.Test.YtiggckhlbklngaaDoorInts
namespace Go.Proofs.YtiggckhlbklngaaDoor
open Go.RowKit
set_option maxRecDepth 8000
set_option maxHeartbeats 400000 in
theorem sameInts_any {v v' : Value} {xs : List Int} (w : World) (h : Sl1 encI w v xs) (h' : Sl1 encI w v' xs) (hlen : xs.length ≤ 2097152) :
    Calls Tryd.prog 14 #[v, v'] w fun e w' => e = .returned (.bool true) ∧ Ext w w' := by
  obtain ⟨A, c, rfl, h⟩ := h
  obtain ⟨A', c', rfl, h'⟩ := h'
  go_enter Tryd.func14, Tryd.ntmps14
  go_wp2
  go_loopw [5] (fun i wr => Ext w wr ∧ ∃ k : Nat, k ≤ xs.length ∧ i = .int .i64 k) (fun i _ => xs.length - (intOf i).toNat)
  case atStart => exact ⟨Ext.refl _, 0, Nat.zero_le _, rfl⟩
  case round =>
    obtain ⟨hb, k, hk, rfl⟩ := hrel
    by_cases hlt : k < xs.length
    · obtain ⟨b, off, rfl, hbl, hc⟩ := h (by omega)
      obtain ⟨b', off', rfl, hbl', hc'⟩ := h' (by omega)
      obtain ⟨x, hx⟩ := at_some hlt
      have c0 : ∀ e, (over wr e).cell? ⟨b, off + k, none⟩ = some (.int .i64 x) := over_cell (hb.cell (hc k x hx))
      have d0 : ∀ e, (over wr e).cell? ⟨b', off' + k, none⟩ = some (.int .i64 x) := over_cell (hb.cell (hc' k x hx))
      have hxx : (x != x) = false := by simp
      clear hx h h' hc hc'
      go_wp2
      refine wp_region_over (by kernel_rfl) (by kernel_rfl) ?_
      repeat (go_big_quiet_step ((fail)))
      refine wpQuiet_nil ?_
      intro w1 hb1
      go_wp2
      go_roundw
      case rel => exact ⟨hb.trans hb1, k + 1, by omega, by go_num⟩
      case measure => simp [intOf]; omega
    · go_wp2
      go_returns
      exact ⟨rfl, hb⟩
end Go.Proofs.YtiggckhlbklngaaDoor
