/- The draws of objects. -/
import Derived.Test.YtackknkfcbnklaaDoorPick
import Derived.Test.YtackknkfcbnklaaDoorCats
import Derived.Test.YtackknkfcbnklaaDoorCut
namespace Go.Proofs.YtackknkfcbnklaaDoor
open Go.RowKit
set_option maxRecDepth 8000
def drawnAsk (xs : List Int) : Prop := xs.length ≤ 21
set_option maxHeartbeats 4000000 in
theorem l20Asked_any (rb m : Nat) (w : World) (h : Rd w rb m) (hm : m ≤ 500000) : Calls Tryd.prog 19 #[.pointer (some ⟨rb, 0, none⟩)] w (DrawnS 1 (one encI) rb (m + 100) drawnAsk w) := by
  have hrl := h.lt
  have H := Lib.hid h
  clear h
  obtain ⟨ZS, hZS⟩ : ∃ ZS : List Int, List.replicate 21 0 = ZS := ⟨_, rfl⟩
  have hmk : ∀ W, (Instr.makeSlice 23 (.int .i64 21) (.int .i64 21)).run Tryd.prog W = .ok (.slice (some ⟨W.heap.size, 0, none⟩) 21 21) (W.alloc (.cells ((List.replicate 21 (0 : Int)).flatMap (cellsOf_ 1 (one encI))).toArray 3)) := by
    intro W
    have hr := run_make_of (P := Tryd.prog) 23 3 Tryd.underlying23 kinfo_I 21 (by omega) (by omega) W
    have hm : madeCells (Value.int .i64 0).cells (21 * 1) = ((List.replicate 21 (0 : Int)).flatMap (cellsOf_ 1 (one encI))).toArray := by kernel_rfl
    rw [hm] at hr
    exact hr
  have hlit : ∀ W : World, Row 3 1 (one encI) W.heap.size (W.alloc (.cells (ZS.flatMap (cellsOf_ 1 (one encI))).toArray 3)) (.slice (some ⟨W.heap.size, 0, none⟩) 21 21) ZS := by
    intro W
    subst hZS
    exact Row.lit (m := 1) (enc := one encI) W _ 3 (List.replicate 21 0) (by simp) (by simp)
  have hzl : ZS.length = 21 := by rw [← hZS]; simp
  rw [hZS] at hmk
  have HMK := Lib.hid (And.intro hmk (And.intro hlit hzl))
  clear hmk hlit hZS hzl
  go_enter Tryd.func19, Tryd.ntmps19
  go_wp2_with fail
  refine (pick_any rb _ 10 _ (H.out.alloc _) (by omega) (by omega) (by omega)).mono ?_
  rintro e w2 ⟨K, rfl, k0, k1, r2, x2⟩
  obtain ⟨K, rfl⟩ := Int.eq_ofNat_of_zero_le k0
  have HRow := Lib.hid (Row.ex (Row.made (m := 1) (enc := one encI) w 3) x2 hrl)
  have HX := Lib.hid (((Ex.refl rb w).alloc (.cells #[] 3)).trans x2)
  have R2 := Lib.hid r2
  clear r2 x2
  go_wp2
  go_loopw [3, 4] (fun o k wr => ∃ (q : Nat) (xs : List Int), q ≤ 10 ∧ k = .int .i64 (q : Int) ∧ Hid (Ex rb w wr ∧ Rd wr rb (m + 60 - 3 * q) ∧ Row 3 1 (one encI) w.heap.size wr o xs ∧ xs.length + q ≤ 10)) (fun _ k _ => (intOf k).toNat)
  case atStart => exact ⟨K, [], by omega, rfl, HX.out, R2.out.mono (by omega), HRow.out, by simp; omega⟩
  case round =>
    clear HRow HX R2 H
    obtain ⟨q, xs, hq, rfl, HA⟩ := hrel
    have hwr := Nat.lt_of_lt_of_le hrl HA.out.1.size
    by_cases hq0 : 0 < q
    · go_wp2_with fail
      refine (pick_any rb _ 6 _ HA.out.2.1 (by omega) (by omega) (by omega)).mono ?_
      rintro e w3 ⟨a, rfl, a0, a1, r3, x3⟩
      have hwr3 := Nat.lt_of_lt_of_le hwr x3.size
      go_wp2_with fail
      refine (pick_any rb _ 2 _ (r3.alloc _) (by omega) (by omega) (by omega)).mono ?_
      rintro e w4 ⟨i, rfl, i0, i1, r4, x4⟩
      obtain ⟨i, rfl⟩ := Int.eq_ofNat_of_zero_le i0
      obtain ⟨u, cu, y, rfl⟩ := lit_at (fun v => ∃ y : Int, v = .int .i64 y) x4 hwr3 i (by simp; omega) (by simp)
      have HX5 := Lib.hid (((HA.out.1.trans x3).alloc _).trans x4)
      have HRow5 := Lib.hid (((HA.out.2.2.1.ex x3 hrl).ext ((Ext.refl _).alloc _)).ex x4 hrl)
      have HR5 := Lib.hid r4
      have hxl := HA.out.2.2.2
      clear HA r3 x3 r4 x4
      go_wp2_with (at_builtin; refine catI rfl rfl rfl rfl (HRow5.out.ext ((Ext.refl _).alloc _)) (SlOf.lit _ _ _ _ [_] rfl) (by simp; omega) (by simp; have := HX5.out.size; omega) ?_; intro v' w6 hrow hg; have HG := Lib.hid (And.intro hrow hg); clear hrow hg)
      go_roundw
      case rel => exact ⟨q - 1, _, by omega, by go_num, (HX5.out.alloc _).grown HG.out.2 HRow5.out.block, ((HR5.out.alloc _).grown HG.out.2 (fun k hk => Nat.lt_of_lt_of_le hrl (HRow5.out.block k hk))).mono (by omega), HG.out.1, by simp; omega⟩
      case measure => simp [intOf]; omega
    · obtain rfl : q = 0 := by omega
      have HX2 := Lib.hid HA.out.1
      have HRow2 := Lib.hid HA.out.2.2.1
      have hxl := HA.out.2.2.2
      have HR2 := Lib.hid HA.out.2.1
      clear HA
      go_wp2_with fail
      refine (odd_any rb _ 14 _ HR2.out (by omega) (by omega)).mono ?_
      rintro e w3 ⟨k, rfl, r3, x3⟩
      have HX3 := Lib.hid (HX2.out.trans x3)
      have HRow3 := Lib.hid (HRow2.out.ex x3 hrl)
      have HR3 := Lib.hid r3
      have hwr3 := Nat.lt_of_lt_of_le hrl HX3.out.size
      clear r3 x3 HX2 HRow2 HR2
      cases k
      case' false =>
        have hyl : xs.length ≤ 21 := by omega
        have HX7 := HX3
        have HRow7 := HRow3
        have HR7 : Hid (Rd w3 rb (m + 90)) := HR3.out.mono (by omega)
        clear HX3 HRow3 HR3
        go_wp2_with fail
      case' true =>
        go_wp2_with fail
        refine (pick_any rb _ 2 _ (HR3.out.alloc _) (by omega) (by omega) (by omega)).mono ?_
        rintro e w4 ⟨i, rfl, i0, i1, r4, x4⟩
        obtain ⟨i, rfl⟩ := Int.eq_ofNat_of_zero_le i0
        obtain ⟨u, cu, y, rfl⟩ := lit_at (fun v => ∃ y : Int, v = .int .i64 y) x4 hwr3 i (by simp; omega) (by simp)
        have HX4 := Lib.hid ((HX3.out.alloc _).trans x4)
        have HRow4 := Lib.hid ((HRow3.out.ext ((Ext.refl _).alloc _)).ex x4 hrl)
        have HR4 := Lib.hid r4
        clear r4 x4 HX3 HRow3 HR3
        go_wp2_with (at_builtin; refine catI rfl rfl rfl rfl (HRow4.out.ext ((Ext.refl _).alloc _)) (SlOf.lit _ _ _ _ [_] rfl) (by simp; omega) (by simp; have := HX4.out.size; omega) ?_; intro v' w6 hrow hg; have HG := Lib.hid (And.intro hrow hg); clear hrow hg)
        have HX7 := Lib.hid ((HX4.out.alloc _).grown HG.out.2 HRow4.out.block)
        have HR7 : Hid (Rd w6 rb (m + 90)) := ((HR4.out.alloc _).grown HG.out.2 (fun k hk => Nat.lt_of_lt_of_le hrl (HRow4.out.block k hk))).mono (by omega)
        have HRow7 := Lib.hid HG.out.1
        obtain ⟨zs, hzs⟩ : ∃ zs, xs ++ [y] = zs := ⟨_, rfl⟩
        have hyl : zs.length ≤ 21 := by rw [← hzs]; simp; omega
        rw [hzs] at HRow7
      all_goals
        refine (odd_any rb _ 24 _ HR7.out (by omega) (by omega)).mono ?_
        rintro e w8 ⟨k2, rfl, r8, x8⟩
        have HX8 := Lib.hid (HX7.out.trans x8)
        have HRow8 := Lib.hid (HRow7.out.ex x8 hrl)
        have HR8 := Lib.hid r8
        clear r8 x8
        cases k2 with
        | false =>
          go_wp2
          go_returns
          exact ⟨_, _, rfl, HRow8.out.val, hyl, HR8.out.mono (by omega), HX8.out⟩
        | true =>
          have hmk := HMK.out.1
          go_wp2
          go_returns
          exact ⟨_, _, rfl, (HMK.out.2.1 _).val.lower HX8.out.size, by unfold drawnAsk; rw [HMK.out.2.2]; omega, (HR8.out.alloc _).mono (by omega), HX8.out.alloc _⟩
/-- A kind and calls were drawn. -/
def DrawnKO (w : World) (en : Ending) (w' : World) : Prop := ∃ v xs, ∃ k : Int, en = .returned (.tuple #[.int .i64 k, v]) ∧ Val 1 (one encI) w.heap.size w' v xs ∧ drawnAsk xs ∧ Ext w w'
set_option maxHeartbeats 2000000 in
theorem DrawObjectRun_any {v : Value} (w : World) (h : CodeIn w v) : Calls Tryd.prog 6 #[v] w (DrawnKO w) := by
  have H := Lib.hid h
  clear h
  go_enter Tryd.func6, Tryd.ntmps6
  go_wp2_with fail
  refine (open_code _ H.out).mono ?_
  rintro e w1 ⟨rb, rfl, hl, r1, b1⟩
  have hrl := r1.lt
  go_wp2_with fail
  refine (pick_any rb _ 8 _ ((r1.alloc _).alloc _) (by omega) (by omega) (by omega)).mono ?_
  rintro e w2 ⟨i, rfl, i0, i1, r2, x2⟩
  obtain ⟨i, rfl⟩ := Int.eq_ofNat_of_zero_le i0
  obtain ⟨u, cu, y, rfl, y0, y1⟩ := lit_at (fun v => ∃ y : Nat, v = .int .i64 (y : Int) ∧ 0 ≤ y ∧ y ≤ 4) x2 (by simp; omega) i (by simp; omega) (by simp only [List.forall_mem_cons]; exact ⟨⟨0, rfl, by omega, by omega⟩, ⟨0, rfl, by omega, by omega⟩, ⟨1, rfl, by omega, by omega⟩, ⟨1, rfl, by omega, by omega⟩, ⟨2, rfl, by omega, by omega⟩, ⟨2, rfl, by omega, by omega⟩, ⟨3, rfl, by omega, by omega⟩, ⟨4, rfl, by omega, by omega⟩, fun _ h => by cases h⟩)
  have x2' := ((Ex.refl rb (w1.alloc (.cells #[.int .i64 1, .int .i64 2, .int .i64 3, .int .i64 0, .int .i64 4] 3))).alloc (.cells #[.int .i64 0, .int .i64 0, .int .i64 1, .int .i64 1, .int .i64 2, .int .i64 2, .int .i64 3, .int .i64 4] 3)).trans x2
  obtain ⟨u2, cu2, k, rfl⟩ := lit_at (fun v => ∃ y : Int, v = .int .i64 y) x2' hrl y (by simp; omega) (by simp)
  simp only [World.size_alloc] at cu
  have R2 := Lib.hid r2
  have X2 := Lib.hid (((Ex.refl rb w1).alloc _).trans x2')
  have B1 := Lib.hid b1
  clear r1 r2 x2 x2' b1
  go_wp2_with fail
  refine (l20Asked_any rb _ _ R2.out (by omega)).mono ?_
  rintro e w3 ⟨v3, xs, rfl, hv, hp, r3, x3⟩
  have HV := Lib.hid (hv.lower (Nat.le_trans B1.out.size X2.out.size))
  have HB := Lib.hid (B1.out.ex (X2.out.trans x3) hl)
  have HP := Lib.hid hp
  clear hv hp r3 x3
  go_wp2
  go_returns
  exact ⟨v3, xs, k, rfl, HV.out, HP.out, HB.out⟩
end Go.Proofs.YtackknkfcbnklaaDoor
