/- The draw of how far keepers are. -/
import Derived.Test.YtiggckhlbklngaaDoorPick
import Derived.Test.YtiggckhlbklngaaDoorCats
import Derived.Test.YtiggckhlbklngaaDoorCut
namespace Go.Proofs.YtiggckhlbklngaaDoor
open Go.RowKit
set_option maxRecDepth 8000
def drawnLC (xs : List Int) : Prop := xs.length ≤ 9
set_option maxHeartbeats 4000000 in
theorem DrawLogCommit_any {v : Value} (w : World) (h : CodeIn w v) : Calls Tryd.prog 21 #[v] w (DrawnL 1 (one encI) drawnLC w) := by
  have H := Lib.hid h
  clear h
  have hmk : ∀ W, (Instr.makeSlice 23 (.int .i64 8) (.int .i64 8)).run Tryd.prog W = .ok (.slice (some ⟨W.heap.size, 0, none⟩) 8 8) (W.alloc (.cells #[.int .i64 0, .int .i64 0, .int .i64 0, .int .i64 0, .int .i64 0, .int .i64 0, .int .i64 0, .int .i64 0] 3)) := by
    intro W
    have hr := run_make_of (P := Tryd.prog) 23 3 Tryd.underlying23 kinfo_I 8 (by omega) (by omega) W
    have hm : madeCells (Value.int .i64 0).cells (8 * 1) = #[.int .i64 0, .int .i64 0, .int .i64 0, .int .i64 0, .int .i64 0, .int .i64 0, .int .i64 0, .int .i64 0] := by kernel_rfl
    rw [hm] at hr
    exact hr
  have HMK := Lib.hid hmk
  clear hmk
  go_enter Tryd.func21, Tryd.ntmps21
  go_wp2_with fail
  refine (open_code _ H.out).mono ?_
  rintro e w1 ⟨rb, rfl, hl, r1, b1⟩
  have hrl := r1.lt
  have HB1 := Lib.hid b1
  go_wp2_with fail
  refine (pick_any rb _ 8 _ (r1.alloc _) (by omega) (by omega) (by omega)).mono ?_
  rintro e w2 ⟨K, rfl, k0, k1, r2, x2⟩
  obtain ⟨K, rfl⟩ := Int.eq_ofNat_of_zero_le k0
  have HRow := Lib.hid (Row.ex (Row.made (m := 1) (enc := one encI) w1 3) x2 hrl)
  have HX := Lib.hid (((Ex.refl rb w1).alloc (.cells #[] 3)).trans x2)
  have R2 := Lib.hid r2
  clear r1 b1 r2 x2
  go_wp2
  go_loopw [4, 5] (fun o k wr => ∃ (q : Nat) (xs : List Int), q ≤ 8 ∧ k = .int .i64 (q : Int) ∧ Hid (Ex rb w1 wr ∧ Rd wr rb (60 - 3 * q) ∧ Row 3 1 (one encI) w1.heap.size wr o xs ∧ xs.length + q ≤ 8)) (fun _ k _ => (intOf k).toNat)
  case atStart => exact ⟨K, [], by omega, rfl, HX.out, R2.out.mono (by omega), HRow.out, by simp; omega⟩
  case round =>
    clear HRow HX R2
    obtain ⟨q, xs, hq, rfl, HA⟩ := hrel
    have hwr := Nat.lt_of_lt_of_le hrl HA.out.1.size
    by_cases hq0 : 0 < q
    · go_wp2_with fail
      refine (pick_any rb _ 13 _ HA.out.2.1 (by omega) (by omega) (by omega)).mono ?_
      rintro e w3 ⟨a, rfl, a0, a1, r3, x3⟩
      have HX5 := Lib.hid (HA.out.1.trans x3)
      have HRow5 := Lib.hid (HA.out.2.2.1.ex x3 hrl)
      have HR5 := Lib.hid r3
      have hxl := HA.out.2.2.2
      clear HA r3 x3
      go_wp2_with (at_builtin; refine catI rfl rfl rfl rfl (HRow5.out.ext ((Ext.refl _).alloc _)) (SlOf.lit _ _ _ _ [_] rfl) (by simp; omega) (by simp; have := HX5.out.size; omega) ?_; intro v' w6 hrow hg; have HG := Lib.hid (And.intro hrow hg); clear hrow hg)
      go_roundw
      case rel => exact ⟨q - 1, _, by omega, by go_num, (HX5.out.alloc _).grown HG.out.2 HRow5.out.block, ((HR5.out.alloc _).grown HG.out.2 (fun k hk => Nat.lt_of_lt_of_le hrl (HRow5.out.block k hk))).mono (by omega), HG.out.1, by simp; omega⟩
      case measure => simp [intOf]; omega
    · obtain rfl : q = 0 := by omega
      have HX2 := Lib.hid HA.out.1
      have HRow2 := Lib.hid HA.out.2.2.1
      have hxl := HA.out.2.2.2
      have HR2 := Lib.hid HA.out.2.1
      clear HA
      go_wp2_with fail
      refine (odd_any rb _ 9 _ HR2.out (by omega) (by omega)).mono ?_
      rintro e w3 ⟨k, rfl, r3, x3⟩
      have HX3 := Lib.hid (HX2.out.trans x3)
      have HRow3 := Lib.hid (HRow2.out.ex x3 hrl)
      have HR3 := Lib.hid r3
      have hwr3 := Nat.lt_of_lt_of_le hrl HX3.out.size
      clear r3 x3 HX2 HRow2 HR2
      cases k
      case' false =>
        have hyl : xs.length ≤ 9 := by omega
        have HX7 := HX3
        have HRow7 := HRow3
        have HR7 : Hid (Rd w3 rb 100) := HR3.out.mono (by omega)
        clear HX3 HRow3 HR3
        go_wp2_with fail
      case' true =>
        go_wp2_with fail
        refine (pick_any rb _ 2 _ (HR3.out.alloc _) (by omega) (by omega) (by omega)).mono ?_
        rintro e w4 ⟨i, rfl, i0, i1, r4, x4⟩
        obtain ⟨i, rfl⟩ := Int.eq_ofNat_of_zero_le i0
        obtain ⟨u, cu, y, rfl, hy⟩ := lit_at (fun v => ∃ y : Int, v = .int .i64 y ∧ -1 ≤ y ∧ y ≤ 13) x4 hwr3 i (by simp; omega) (by simp)
        have HX4 := Lib.hid ((HX3.out.alloc _).trans x4)
        have HRow4 := Lib.hid ((HRow3.out.ext ((Ext.refl _).alloc _)).ex x4 hrl)
        have HR4 := Lib.hid r4
        clear r4 x4 HX3 HRow3 HR3
        go_wp2_with (at_builtin; refine catI rfl rfl rfl rfl (HRow4.out.ext ((Ext.refl _).alloc _)) (SlOf.lit _ _ _ _ [_] rfl) (by simp; omega) (by simp; have := HX4.out.size; omega) ?_; intro v' w6 hrow hg; have HG := Lib.hid (And.intro hrow hg); clear hrow hg)
        have HX7 := Lib.hid ((HX4.out.alloc _).grown HG.out.2 HRow4.out.block)
        have HR7 : Hid (Rd w6 rb 100) := ((HR4.out.alloc _).grown HG.out.2 (fun k hk => Nat.lt_of_lt_of_le hrl (HRow4.out.block k hk))).mono (by omega)
        have HRow7 := Lib.hid HG.out.1
        obtain ⟨zs, hzs⟩ : ∃ zs, xs ++ [y] = zs := ⟨_, rfl⟩
        have hyl : zs.length ≤ 9 := by rw [← hzs]; simp; omega
        rw [hzs] at HRow7
      all_goals
        refine (odd_any rb _ 14 _ HR7.out (by omega) (by omega)).mono ?_
        rintro e w8 ⟨k2, rfl, r8, x8⟩
        have HX8 := Lib.hid (HX7.out.trans x8)
        have HRow8 := Lib.hid (HRow7.out.ex x8 hrl)
        clear r8 x8
        cases k2 with
        | false =>
          go_wp2
          go_returns
          exact ⟨_, _, rfl, HRow8.out.val.lower HB1.out.size, by unfold drawnLC; omega, HB1.out.ex HX8.out hl⟩
        | true =>
          have hmk := HMK.out
          go_wp2
          go_returns
          exact ⟨_, _, rfl, (Row.lit (m := 1) (enc := one encI) _ _ 3 [0, 0, 0, 0, 0, 0, 0, 0] rfl (by simp)).val.lower (Nat.le_trans HB1.out.size HX8.out.size), by unfold drawnLC; simp, HB1.out.ex (HX8.out.alloc _) hl⟩
end Go.Proofs.YtiggckhlbklngaaDoor
