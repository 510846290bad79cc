/- laws.sameInts over any lists. -/
import Derived.Test.YtackknkfcbnklaaDoorObjI
namespace Go.Proofs.YtackknkfcbnklaaDoor
open Go.RowKit
set_option maxRecDepth 8000
set_option maxHeartbeats 1000000 in
theorem sameInts_dec {v v' : Value} {xs ys : List Int} (w : World) (h : Sl1 encI w v xs) (h' : Sl1 encI w v' ys) (hlen : xs.length ≤ 2097152) :
    Calls Tryd.prog 8 #[v, v'] w fun e w' => e = .returned (.bool (decide (xs = ys))) ∧ Ext w w' := by
  obtain ⟨A, c, rfl, h⟩ := h
  obtain ⟨A', c', rfl, h'⟩ := h'
  by_cases hl : xs.length = ys.length
  case neg =>
    have hd : Hid (decide (xs = ys) = false) := by show _ = _; exact decide_eq_false fun e => hl (by rw [e])
    have hq : ((xs.length : Int) == (ys.length : Int)) = false := by rw [beq_eq_false_iff_ne]; omega
    clear h h' hl
    go_enter Tryd.func8, Tryd.ntmps8
    go_wp2
    go_returns
    exact ⟨ret_bool hd.out.symm, Ext.refl _⟩
  have HL := Lib.hid hl
  rw [← hl] at h'
  rw [← hl]
  clear hl
  go_enter Tryd.func8, Tryd.ntmps8
  go_wp2
  go_loopw [5] (fun i wr => Ext w wr ∧ ∃ k : Nat, k ≤ xs.length ∧ i = .int .i64 k ∧ Hid (∀ (i : Nat) (x y : Int), i < k → xs[i]? = some x → ys[i]? = some y → x = y)) (fun i _ => xs.length - (intOf i).toNat)
  case atStart => exact ⟨Ext.refl _, 0, Nat.zero_le _, rfl, fun _ _ _ h => absurd h (Nat.not_lt_zero _)⟩
  case round =>
    obtain ⟨hb, k, hk, rfl, HI⟩ := hrel
    by_cases hlt : k < xs.length
    · obtain ⟨b, off, rfl, hbl, hc⟩ := h (by omega)
      obtain ⟨b', off', rfl, hbl', hc'⟩ := h' (by omega)
      obtain ⟨x, hx⟩ := at_some hlt
      obtain ⟨y, hy⟩ := at_some (show k < ys.length by have := HL.out; omega)
      have c0 : ∀ e, (over wr e).cell? ⟨b, off + k, none⟩ = some (.int .i64 x) := over_cell (hb.cell (hc k x hx))
      have d0 : ∀ e, (over wr e).cell? ⟨b', off' + k, none⟩ = some (.int .i64 y) := over_cell (hb.cell (hc' k y hy))
      have HX := Lib.hid (And.intro hx hy)
      clear hx hy h h' hc hc'
      by_cases hxy : x = y
      · have hN : Hid (∀ (i : Nat) (x y : Int), i < k + 1 → xs[i]? = some x → ys[i]? = some y → x = y) := fun i x1 y1 hi h1 h2 => by
          by_cases e : i = k
          · subst e
            rw [HX.out.1] at h1; rw [HX.out.2] at h2
            cases h1; cases h2
            exact hxy
          · exact HI.out i x1 y1 (by omega) h1 h2
        have hne : (x != y) = false := by rw [hxy]; simp
        clear hxy
        go_wp2
        refine wp_region_over (by kernel_rfl) (by kernel_rfl) ?_
        repeat (go_big_quiet_step ((fail)))
        refine wpQuiet_nil ?_
        intro w1 hb1
        go_wp2
        go_roundw
        case rel => exact ⟨hb.trans hb1, k + 1, by omega, by go_num, hN⟩
        case measure => simp [intOf]; omega
      · have hd : Hid (decide (xs = ys) = false) := by
          show _ = _
          refine decide_eq_false fun e => hxy ?_
          have h1 := HX.out.1
          rw [e, HX.out.2] at h1
          exact (Option.some.inj h1).symm
        have hne : (x != y) = true := by simpa using hxy
        clear hxy
        go_wp2
        refine wp_region_over (by kernel_rfl) (by kernel_rfl) ?_
        repeat (go_big_quiet_step ((fail)))
        refine wpQuiet_nil ?_
        intro w1 hb1
        go_wp2
        go_returns
        exact ⟨ret_bool hd.out.symm, hb.trans hb1⟩
    · obtain rfl : k = xs.length := by omega
      have hd : Hid (decide (xs = ys) = true) := by
        show _ = _
        exact decide_eq_true (same_get HL.out fun i x y hx hy => HI.out i x y (List.getElem?_eq_some_iff.1 hx).1 hx hy)
      go_wp2
      go_returns
      exact ⟨ret_bool hd.out.symm, hb⟩
end Go.Proofs.YtackknkfcbnklaaDoor
