/- Draws of locks. -/
import Derived.Test.YtbbfdnmlfjdidaaDoorPick
import Derived.Test.YtbbfdnmlfjdidaaDoorCats
import Derived.Test.YtbbfdnmlfjdidaaDoorAskLock
import Derived.Test.YtbbfdnmlfjdidaaDoorFreeLocks
namespace Go.Proofs.YtbbfdnmlfjdidaaDoor
open Go.RowKit
set_option maxRecDepth 8000

def drawnHold (xs : List Hold) : Prop := xs.length ≤ 12
theorem askL_step (xs : List Hold) (o k : Int) (d : Bool) : (askL xs o k d).1.length ≤ xs.length + 1 := by
  unfold askL
  split
  · split <;> simp
  · simp
theorem freeL_step (xs : List Hold) (o : Int) : (freeL xs o).length ≤ xs.length := by
  unfold freeL
  split
  · exact freeFold_len o xs
  · simp
set_option maxHeartbeats 8000000 in
theorem l20Holds_any (rb m : Nat) (n : Int) (w : World) (h : Rd w rb m) (hm : m ≤ 500000) (h2 : n ≤ 1000000) :
    Calls Tryd.prog 62 #[.pointer (some ⟨rb, 0, none⟩), .int .i64 n] w (DrawnS 4 encHold rb (m + 100) drawnHold w) := by
  have hrl := h.lt
  have HR := Lib.hid h
  clear h
  go_enter Tryd.func62, Tryd.ntmps62
  go_wp2_with fail
  refine (pick_any rb m 9 _ (HR.out.alloc _) (by omega) (by omega) (by omega)).mono ?_
  rintro e w0 ⟨K, rfl, k0, k1, r0, x0⟩
  obtain ⟨K, rfl⟩ := Int.eq_ofNat_of_zero_le k0
  have HRow := Lib.hid (Row.ex (Row.made (m := 4) (enc := encHold) w 83) x0 hrl)
  have HX := Lib.hid (((Ex.refl rb w).alloc (.cells #[] 83)).trans x0)
  have R1 := Lib.hid r0
  clear r0 x0 HR
  go_wp2
  go_loopw [5, 6] (fun o k wr => ∃ (q : Nat) (xs : List Hold), q ≤ 8 ∧ k = .int .i64 (q : Int) ∧ Hid (Ex rb w wr ∧ Rd wr rb (m + 60 - 4 * q) ∧ Row 83 4 encHold w.heap.size wr o xs ∧ xs.length + q ≤ 8)) (fun _ k _ => (intOf k).toNat)
  case atStart => exact ⟨K, [], by omega, rfl, HX.out, R1.out.mono (by omega), HRow.out, by simp; omega⟩
  case round =>
    clear HRow HX R1
    obtain ⟨q, xs, hq, rfl, HA⟩ := hrel
    have hwr := Nat.lt_of_lt_of_le hrl HA.out.1.size
    have hxl := HA.out.2.2.2
    by_cases hq0 : 0 < q
    · go_wp2_with fail
      refine (pick_any rb _ 5 _ HA.out.2.1 (by omega) (by omega) (by omega)).mono ?_
      rintro e w2 ⟨a, rfl, a0, a1, r2, x2⟩
      go_wp2_with fail
      refine (pick_any rb _ 3 _ r2 (by omega) (by omega) (by omega)).mono ?_
      rintro e w3 ⟨b, rfl, c0, c1, r3, x3⟩
      go_wp2_with fail
      refine (pick_any rb _ 2 _ r3 (by omega) (by omega) (by omega)).mono ?_
      rintro e w4 ⟨c, rfl, d0, d1, r4, x4⟩
      have HX4 := Lib.hid (((HA.out.1.trans x2).trans x3).trans x4)
      have HRow4 := Lib.hid (HA.out.2.2.1.ex ((x2.trans x3).trans x4) hrl)
      have HR4 := Lib.hid r4
      clear HA r2 x2 r3 x3 r4 x4
      go_wp2_with fail
      refine (spec_AskLock_row a b (c == 0) _ HRow4.out.cell.1 (by omega)).mono ?_
      have hst := askL_step xs a b (c == 0)
      obtain ⟨⟨L, ok⟩, hR⟩ : ∃ R, askL xs a b (c == 0) = R := ⟨_, rfl⟩
      rw [hR] at hst ⊢
      rintro e w5 ⟨v5, rfl, hrow5, b5⟩
      simp only at hst hrow5
      have HRow5 := Lib.hid (hrow5.lower (Nat.le_trans (by exact Nat.le_refl _) HX4.out.size))
      have HX5 := Lib.hid (HX4.out.ext b5)
      have HR5 := Lib.hid (HR4.out.ext b5)
      have HOld := Lib.hid (HRow4.out.ext b5)
      clear hR hrow5 b5 HX4 HR4 HRow4
      cases ok with
      | true =>
        go_wp2
        go_roundw
        case rel => exact ⟨q - 1, L, by omega, by go_num, HX5.out, HR5.out.mono (by omega), HRow5.out, by omega⟩
        case measure => simp [intOf]; omega
      | false =>
        go_wp2
        go_roundw
        case rel => exact ⟨q - 1, xs, by omega, by go_num, HX5.out, HR5.out.mono (by omega), HOld.out, by omega⟩
        case measure => simp [intOf]; omega
    · obtain rfl : q = 0 := by omega
      go_wp2_with fail
      refine (pick_any rb _ 4 _ HA.out.2.1 (by omega) (by omega) (by omega)).mono ?_
      rintro e w2 ⟨z, rfl, z0, z1, r2, x2⟩
      have HX2 := Lib.hid (HA.out.1.trans x2)
      have HRow2 := Lib.hid (HA.out.2.2.1.ex x2 hrl)
      have HR2 := Lib.hid r2
      clear HA r2 x2
      by_cases hz : z = 0
      case' pos =>
        have hg : (z == 0) = true := by simp [hz]
        clear hz
        go_wp2_with fail
        refine (pick_any rb _ 5 _ HR2.out (by omega) (by omega) (by omega)).mono ?_
        rintro e w3 ⟨a, rfl, a0, a1, r3, x3⟩
        have HX3 := Lib.hid (HX2.out.trans x3)
        have HRow3 := Lib.hid (HRow2.out.ex x3 hrl)
        have HR3 := Lib.hid r3
        clear HX2 HRow2 HR2 r3 x3
        go_wp2_with fail
        refine (spec_FreeLocks_row a _ HRow3.out.cell.1 (by omega)).mono ?_
        have hst := freeL_step xs a
        obtain ⟨L, hL⟩ : ∃ L, freeL xs a = L := ⟨_, rfl⟩
        rw [hL] at hst ⊢
        rintro e w4 ⟨v4, rfl, hrow4, b4⟩
        have HRow4 := Lib.hid (hrow4.lower HX3.out.size)
        have HX4 := Lib.hid (HX3.out.ext b4)
        have HR4 := Lib.hid ((HR3.out.ext b4).mono (show _ ≤ m + 70 by omega))
        have hlen : L.length ≤ 8 := by omega
        clear hL hst hrow4 b4 HX3 HRow3 HR3
      case' neg =>
        have hg : (z == 0) = false := by simp [hz]
        have HRow4 := Lib.hid HRow2.out
        have HX4 := Lib.hid HX2.out
        have HR4 := Lib.hid (HR2.out.mono (show _ ≤ m + 70 by omega))
        have hlen : xs.length ≤ 8 := by omega
        clear hz HX2 HRow2 HR2
      all_goals
        go_wp2_with fail
        refine (odd_any rb _ n _ HR4.out (by omega) h2).mono ?_
        rintro e w5 ⟨od, rfl, r5, x5⟩
        have HX5 := Lib.hid (HX4.out.trans x5)
        have HRow5 := Lib.hid (HRow4.out.ex x5 hrl)
        have HR5 := Lib.hid r5
        clear HX4 HRow4 HR4 r5 x5
        cases od with
        | false =>
          go_wp2
          go_returns
          exact ⟨_, _, rfl, HRow5.out.val, Nat.le_trans hlen (by omega), HR5.out.mono (by omega), HX5.out⟩
        | true =>
          go_wp2_with fail
          refine (pick_any rb _ 3 _ HR5.out (by omega) (by omega) (by omega)).mono ?_
          rintro e w6 ⟨p, rfl, p0, p1, r6, x6⟩
          have HX6 := Lib.hid (HX5.out.trans x6)
          have HRow6 := Lib.hid (HRow5.out.ex x6 hrl)
          have HR6 := Lib.hid r6
          have hwr6 := Nat.lt_of_lt_of_le hrl HX6.out.size
          clear HX5 HRow5 HR5 r6 x6
          have hp : p = 0 ∨ p = 1 ∨ p = 2 := by omega
          rcases hp with rfl | rfl | rfl
          · go_wp2_with fail
            refine (pick_any rb _ 2 _ (HR6.out.alloc _) (by omega) (by omega) (by omega)).mono ?_
            rintro e w7 ⟨q, rfl, q0, q1, r7, x7⟩
            obtain ⟨q, rfl⟩ := Int.eq_ofNat_of_zero_le q0
            obtain ⟨u, cu, y, rfl⟩ := lit_at (fun v => ∃ y : Int, v = .int .i64 y) x7 hwr6 q (by simp; omega) (by simp)
            have HX7 := Lib.hid ((HX6.out.alloc _).trans x7)
            have HRow7 := Lib.hid ((HRow6.out.ext ((Ext.refl _).alloc _)).ex x7 hrl)
            have HR7 := Lib.hid r7
            clear HX6 HRow6 HR6 r7 x7
            go_wp2_with (at_builtin; refine catHold rfl rfl rfl rfl (HRow7.out.ext ((Ext.refl _).alloc _)) (SlOf.lit _ _ _ _ [⟨y, 0, false, false⟩] rfl) (by simp; omega) (by simp; have := HX7.out.size; omega) ?_; intro v' w8 hrow hg; have HG := Lib.hid (And.intro hrow hg); clear hrow hg)
            go_returns
            exact ⟨_, _, rfl, HG.out.1.val, by show List.length _ ≤ 12; simp; omega, ((HR7.out.alloc _).grown HG.out.2 (fun k hk => Nat.lt_of_lt_of_le hrl (HRow7.out.block k hk))).mono (by omega), (HX7.out.alloc _).grown HG.out.2 HRow7.out.block⟩
          · go_wp2_with (at_builtin; refine catHold rfl rfl rfl rfl (HRow6.out.ext ((Ext.refl _).alloc _)) (SlOf.lit _ _ _ _ [⟨0, 3, false, false⟩] rfl) (by simp; omega) (by simp; have := HX6.out.size; omega) ?_; intro v' w8 hrow hg; have HG := Lib.hid (And.intro hrow hg); clear hrow hg)
            go_returns
            exact ⟨_, _, rfl, HG.out.1.val, by show List.length _ ≤ 12; simp; omega, ((HR6.out.alloc _).grown HG.out.2 (fun k hk => Nat.lt_of_lt_of_le hrl (HRow6.out.block k hk))).mono (by omega), (HX6.out.alloc _).grown HG.out.2 HRow6.out.block⟩
          · go_wp2_with (at_builtin; refine catHold rfl rfl rfl rfl (HRow6.out.ext ((Ext.refl _).alloc _)) (SlOf.lit _ _ _ _ [⟨0, 0, true, true⟩, ⟨1, 0, false, true⟩] rfl) (by simp; omega) (by simp; have := HX6.out.size; omega) ?_; intro v' w8 hrow hg; have HG := Lib.hid (And.intro hrow hg); clear hrow hg)
            go_returns
            exact ⟨_, _, rfl, HG.out.1.val, by show List.length _ ≤ 12; simp; omega, ((HR6.out.alloc _).grown HG.out.2 (fun k hk => Nat.lt_of_lt_of_le hrl (HRow6.out.block k hk))).mono (by omega), (HX6.out.alloc _).grown HG.out.2 HRow6.out.block⟩
set_option maxHeartbeats 400000 in
theorem DrawLockWaits_any {v : Value} (w : World) (h : CodeIn w v) : Calls Tryd.prog 29 #[v] w (DrawnL 4 encHold drawnHold w) := by
  have H := Lib.hid h
  clear h
  go_enter Tryd.func29, Tryd.ntmps29
  go_wp2_with fail
  refine (open_code _ H.out).mono ?_
  rintro e w1 ⟨rb, rfl, hl, r1, b1⟩
  go_wp2_with fail
  refine (l20Holds_any rb 0 9 _ r1 (by omega) (by omega)).mono ?_
  rintro e w2 ⟨u, xs, rfl, hrow, hphi, r2, x2⟩
  have HR := Lib.hid (hrow.lower b1.size)
  have HP := Lib.hid hphi
  have HB := Lib.hid (b1.ex x2 hl)
  clear hrow hphi r1 b1 r2 x2
  go_wp2
  go_returns
  exact ⟨u, xs, rfl, HR.out, HP.out, HB.out⟩
set_option maxHeartbeats 400000 in
theorem DrawLockCycle_any {v : Value} (w : World) (h : CodeIn w v) : Calls Tryd.prog 34 #[v] w (DrawnL 4 encHold drawnHold w) := by
  have H := Lib.hid h
  clear h
  go_enter Tryd.func34, Tryd.ntmps34
  go_wp2_with fail
  refine (open_code _ H.out).mono ?_
  rintro e w1 ⟨rb, rfl, hl, r1, b1⟩
  go_wp2_with fail
  refine (l20Holds_any rb 0 9 _ r1 (by omega) (by omega)).mono ?_
  rintro e w2 ⟨u, xs, rfl, hrow, hphi, r2, x2⟩
  have HR := Lib.hid (hrow.lower b1.size)
  have HP := Lib.hid hphi
  have HB := Lib.hid (b1.ex x2 hl)
  clear hrow hphi r1 b1 r2 x2
  go_wp2
  go_returns
  exact ⟨u, xs, rfl, HR.out, HP.out, HB.out⟩
end Go.Proofs.YtbbfdnmlfjdidaaDoor
