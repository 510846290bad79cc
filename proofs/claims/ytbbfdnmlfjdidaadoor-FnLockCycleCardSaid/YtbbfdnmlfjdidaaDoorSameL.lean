/- laws.sameLists over equal lists. -/
import Derived.Test.YtbbfdnmlfjdidaaDoorLists
import Derived.Test.YtbbfdnmlfjdidaaDoorSameI
namespace Go.Proofs.YtbbfdnmlfjdidaaDoor
open Go.RowKit
set_option maxRecDepth 8000
set_option maxHeartbeats 2000000 in
theorem sameLists_any {v v' : Value} {us us' : List Value} {xss : List (List Int)} (w : World) (h : LLr w v us xss) (h' : LLr w v' us' xss) (hlen : xss.length ≤ 1000) (hin : ∀ xs ∈ xss, xs.length ≤ 1000) :
    Calls Tryd.prog 31 #[v, v'] w fun e w' => e = .returned (.bool true) ∧ Ext w w' := by
  have H := Lib.hid h
  have H' := Lib.hid h'
  obtain ⟨l1, ⟨A, c, rfl, _⟩, _⟩ := id h
  obtain ⟨l2, ⟨A', c', rfl, _⟩, _⟩ := id h'
  clear h h'
  rw [l1, l2]
  have L1 := Lib.hid l1
  have L2 := Lib.hid l2
  clear l1 l2
  go_enter Tryd.func31, Tryd.ntmps31
  go_wp2
  go_loopw [5] (fun i wr => Ext w wr ∧ ∃ k : Nat, k ≤ xss.length ∧ i = .int .i64 k) (fun i _ => xss.length - (intOf i).toNat)
  case atStart => exact ⟨Ext.refl _, 0, Nat.zero_le _, rfl⟩
  case round =>
    obtain ⟨hb, k, hk, rfl⟩ := hrel
    by_cases hlt : k < xss.length
    · obtain ⟨xs, hx⟩ := at_some hlt
      obtain ⟨u, hu⟩ := at_some (show k < us.length by rw [L1.out]; exact hlt)
      obtain ⟨u', hu'⟩ := at_some (show k < us'.length by rw [L2.out]; exact hlt)
      have hl := hin xs (List.mem_of_getElem? hx)
      obtain ⟨A1, c1, hA1, hc1⟩ := id (H.out.ext hb).2.1
      injection hA1 with e1 e2 e3
      subst e1 e3
      clear e2
      obtain ⟨b, off, rfl, _, hcell⟩ := hc1 (by rw [L1.out]; omega)
      obtain ⟨A2, c2, hA2, hc2⟩ := id (H'.out.ext hb).2.1
      injection hA2 with e1 e2 e3
      subst e1 e3
      clear e2
      obtain ⟨b', off', rfl, _, hcell'⟩ := hc2 (by rw [L2.out]; omega)
      have d0 : ∀ e, (over wr e).cell? ⟨b, off + k, none⟩ = some u := over_cell (hcell k u hu)
      have d1 : ∀ e, (over wr e).cell? ⟨b', off' + k, none⟩ = some u' := over_cell (hcell' k u' hu')
      have q0 := Lib.hid ((H.out.ext hb).2.2 k u xs hu hx)
      have q1 := Lib.hid ((H'.out.ext hb).2.2 k u' xs hu' hx)
      clear hc1 hc2 hcell hcell' hx hu hu'
      go_wp2
      refine wp_region_over (by kernel_rfl) (by kernel_rfl) ?_
      repeat (go_big_quiet_step ((go_at_call 11; exact quiet_ext (sameInts_any _ (q0.out.ext (over_ext _ _)) (q1.out.ext (over_ext _ _)) (by omega)))))
      refine wpQuiet_nil ?_
      intro w3 hb3
      go_wp2
      go_roundw
      case rel => exact ⟨hb.trans hb3, k + 1, by omega, by go_num⟩
      case measure => simp [intOf]; omega
    · obtain rfl : k = xss.length := by omega
      go_wp2
      go_returns
      exact ⟨rfl, hb⟩
end Go.Proofs.YtbbfdnmlfjdidaaDoor
