/- Objects: what the reference takes. -/
import Derived.Test.YtackknkfcbnklaaDoorObjI
namespace Go.Proofs.YtackknkfcbnklaaDoor
open Go.RowKit
set_option maxRecDepth 8000

set_option maxHeartbeats 1000000 in
theorem l35Take_any (k : Int) {v : Value} {xs : List Int} (w : World) (h : Sl1 encI w v xs) (hn : 0 < xs.length) (hl : xs.length ≤ 2097152) :
    Calls Tryd.prog 23 #[.int .i64 k, v] w fun e w' => e = .returned (.int .i64 ((takeAt k xs : Nat) : Int)) ∧ Ext w w' := by
  obtain ⟨A, c, rfl, h⟩ := h
  by_cases h2 : k = 2
  · obtain ⟨p, hp⟩ : ∃ p, takeAt k xs = p := ⟨_, rfl⟩
    have hpi : (xs.length : Int) - 1 = (p : Int) := by rw [← hp]; unfold takeAt; rw [if_pos h2]; omega
    have hpl : p < xs.length := by omega
    rw [hp]
    have h2' : (k == 2) = true := by rw [h2]; rfl
    clear h h2 hp
    go_enter Tryd.func23, Tryd.ntmps23
    go_wp2
    go_returns
    exact ⟨rfl, Ext.refl _⟩
  have h2' : (k == 2) = false := by rw [beq_eq_false_iff_ne]; exact h2
  by_cases h3 : k = 3
  · have hf : Hid (takeAt k xs = leastTo xs xs.length) := by show _ = _; unfold takeAt; rw [if_neg h2, if_pos h3]
    have h3' : (k == 3) = true := by rw [h3]; rfl
    clear h2 h3
    go_enter Tryd.func23, Tryd.ntmps23
    go_wp2
    go_loopw [5, 6] (fun b i wr => Ext w wr ∧ ∃ q p : Nat, q ≤ xs.length ∧ i = .int .i64 q ∧ b = .int .i64 p ∧ p < xs.length ∧ Hid (p = leastTo xs q)) (fun _ i _ => xs.length - (intOf i).toNat)
    case atStart => exact ⟨Ext.refl _, 0, 0, Nat.zero_le _, rfl, rfl, hn, rfl⟩
    case round =>
      obtain ⟨hb, q, p, hq, rfl, rfl, hp, HP⟩ := hrel
      by_cases hlt : q < xs.length
      · obtain ⟨b, off, rfl, hbl, hc⟩ := h (by omega)
        have c0 : ∀ e, (over wr e).cell? ⟨b, off + q, none⟩ = some (.int .i64 (gD xs q)) := over_cell (hb.cell (hc q _ (gD_at hlt)))
        have d0 : ∀ e, (over wr e).cell? ⟨b, off + p, none⟩ = some (.int .i64 (gD xs p)) := over_cell (hb.cell (hc p _ (gD_at hp)))
        obtain ⟨x, hx⟩ : ∃ x, gD xs q = x := ⟨_, rfl⟩
        obtain ⟨y, hy⟩ : ∃ y, gD xs p = y := ⟨_, rfl⟩
        rw [hx] at c0
        rw [hy] at d0
        have HXY := Lib.hid (And.intro hx hy)
        clear h hc hx hy
        by_cases hxy : x < y
        · have hN : Hid (q = leastTo xs (q + 1)) := by
            show _ = _
            conv => rhs; unfold leastTo
            rw [← HP.out, if_pos (by rw [HXY.out.1, HXY.out.2]; exact hxy)]
          go_wp2
          refine wp_region_over (by kernel_rfl) (by kernel_rfl) ?_
          repeat (go_big_quiet_step ((fail)))
          refine wpQuiet_nil ?_
          intro w1 hb1
          go_wp2
          go_roundw
          case rel => exact ⟨hb.trans hb1, q + 1, q, by omega, by go_num, rfl, hlt, hN⟩
          case measure => simp [intOf]; omega
        · have hN : Hid (p = leastTo xs (q + 1)) := by
            show _ = _
            conv => rhs; unfold leastTo
            rw [← HP.out, if_neg (by rw [HXY.out.1, HXY.out.2]; exact hxy)]
          go_wp2
          refine wp_region_over (by kernel_rfl) (by kernel_rfl) ?_
          repeat (go_big_quiet_step ((fail)))
          refine wpQuiet_nil ?_
          intro w1 hb1
          go_wp2
          go_roundw
          case rel => exact ⟨hb.trans hb1, q + 1, p, by omega, by go_num, rfl, hp, hN⟩
          case measure => simp [intOf]; omega
      · obtain rfl : q = xs.length := by omega
        have hnl : decide ((xs.length : Int) < (xs.length : Int)) = false := by simp
        go_wp2
        go_returns
        exact ⟨ret_int (by rw [hf.out, HP.out]), hb⟩
  · have hf : Hid (takeAt k xs = 0) := by show _ = _; unfold takeAt; rw [if_neg h2, if_neg h3]
    have h3' : (k == 3) = false := by rw [beq_eq_false_iff_ne]; exact h3
    clear h2 h3
    go_enter Tryd.func23, Tryd.ntmps23
    go_wp2
    go_loopw [5, 6] (fun b i wr => wr = w ∧ i = .int .i64 0 ∧ b = .int .i64 0) (fun _ _ _ => 0)
    case atStart => exact ⟨rfl, rfl, rfl⟩
    case round =>
      obtain ⟨rfl, rfl, rfl⟩ := hrel
      go_wp2
      go_returns
      exact ⟨ret_int (by rw [hf.out]; rfl), Ext.refl _⟩
end Go.Proofs.YtackknkfcbnklaaDoor
