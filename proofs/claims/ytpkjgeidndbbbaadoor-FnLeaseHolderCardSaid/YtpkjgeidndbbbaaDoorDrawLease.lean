/- Draws of leases. -/
import Derived.Test.YtpkjgeidndbbbaaDoorPick
import Derived.Test.YtpkjgeidndbbbaaDoorCats
namespace Go.Proofs.YtpkjgeidndbbbaaDoor
open Go.RowKit

def smLease (x : Lease) : Prop := smI x.who ∧ smI x.frm ∧ smI x.til
def drawnLease (xs : List Lease) : Prop := xs.length ≤ 6 ∧ ∀ x ∈ xs, smLease x
set_option maxHeartbeats 2000000 in
theorem l20Leases_any (rb m : Nat) (n : Int) (w : World) (h : Rd w rb m) (hm : m ≤ 500000) (h2 : n ≤ 1000000) :
    Calls Tryd.prog 54 #[.pointer (some ⟨rb, 0, none⟩), .int .i64 n] w (DrawnS 3 encLease rb (m + 100) drawnLease w) := by
  have hrl := h.lt
  have HR := Lib.hid h
  clear h
  go_enter Tryd.func54, Tryd.ntmps54
  go_wp2_with fail
  refine (pick_any rb m 20 _ (HR.out.alloc _) (by omega) (by omega) (by omega)).mono ?_
  rintro e w0 ⟨T0, rfl, t0, t1, r0, x0⟩
  go_wp2_with fail
  refine (pick_any rb _ 5 _ r0 (by omega) (by omega) (by omega)).mono ?_
  rintro e w1 ⟨k, rfl, k0, k1, r1, x1⟩
  obtain ⟨K, rfl⟩ := Int.eq_ofNat_of_zero_le k0
  have HRow := Lib.hid (Row.ex (Row.made (m := 3) (enc := encLease) w 49) (x0.trans x1) hrl)
  have HX := Lib.hid ((((Ex.refl rb w).alloc (.cells #[] 49)).trans x0).trans x1)
  have R1 := Lib.hid r1
  clear r1 x1 HR r0 x0
  go_wp2
  go_loopw [5, 6, 7] (fun o t k wr => ∃ (q : Nat) (T : Int) (xs : List Lease), q ≤ 4 ∧ k = .int .i64 (q : Int) ∧ t = .int .i64 T ∧ (0 ≤ T ∧ T + 68 * q ≤ 300) ∧ Hid (Ex rb w wr ∧ Rd wr rb (m + 50 - 4 * q) ∧ Row 49 3 encLease w.heap.size wr o xs ∧ xs.length + q ≤ 4 ∧ ∀ x ∈ xs, smLease x)) (fun _ _ k _ => (intOf k).toNat)
  case atStart => exact ⟨K, T0, [], by omega, rfl, rfl, by omega, HX.out, R1.out.mono (by omega), HRow.out, by simp; omega, by simp⟩
  case round =>
    clear HRow HX R1
    obtain ⟨q, T, xs, hq, rfl, rfl, hT, HA⟩ := hrel
    have hwr := Nat.lt_of_lt_of_le hrl HA.out.1.size
    by_cases hq0 : 0 < q
    · go_wp2_with fail
      refine (pick_any rb _ 60 _ HA.out.2.1 (by omega) (by omega) (by omega)).mono ?_
      rintro e w2 ⟨U, rfl, u0, u1, r2, x2⟩
      go_wp2_with fail
      refine (pick_any rb _ 4 _ r2 (by omega) (by omega) (by omega)).mono ?_
      rintro e w3 ⟨V, rfl, v0, v1, r3, x3⟩
      have HX3 := Lib.hid ((HA.out.1.trans x2).trans x3)
      have HRow3 := Lib.hid (HA.out.2.2.1.ex (x2.trans x3) hrl)
      have HR3 := Lib.hid r3
      have HL := Lib.hid HA.out.2.2.2
      clear HA r2 x2 r3 x3
      go_wp2_with (at_builtin; refine catLease rfl rfl rfl rfl (HRow3.out.ext ((Ext.refl _).alloc _)) (SlOf.lit _ _ _ _ [⟨_, _, _⟩] rfl) (by simp; have := HL.out.1; omega) (by simp; have := HX3.out.size; omega) ?_; intro v' w4 hrow hg; have HG := Lib.hid (And.intro hrow hg); clear hrow hg)
      have HX4 := Lib.hid ((HX3.out.alloc (.cells #[.int .i64 V, .int .i64 T, .int .i64 (T + 1 + U)] 49)).grown HG.out.2 HRow3.out.block)
      have HR4 := Lib.hid ((HR3.out.alloc (.cells #[.int .i64 V, .int .i64 T, .int .i64 (T + 1 + U)] 49)).grown HG.out.2 (fun k hk => Nat.lt_of_lt_of_le hrl (HRow3.out.block k hk)))
      have HRow4 := Lib.hid HG.out.1
      clear HG HX3 HR3 HRow3
      refine (pick_any rb _ 9 _ HR4.out (by omega) (by omega) (by omega)).mono ?_
      rintro e w5 ⟨Y, rfl, y0, y1, r5, x5⟩
      go_wp2_with fail
      refine (pick_any rb _ 2 _ (r5.alloc _) (by omega) (by omega) (by omega)).mono ?_
      rintro e w6 ⟨p, rfl, p0, p1, r6, x6⟩
      obtain ⟨p, rfl⟩ := Int.eq_ofNat_of_zero_le p0
      have hwr5 : rb < w5.heap.size := Nat.lt_of_lt_of_le hrl (HX4.out.trans x5).size
      obtain ⟨u, cu, y, rfl, hy⟩ := lit_at (fun v => ∃ y : Int, v = .int .i64 y ∧ 0 ≤ y ∧ y ≤ 8) x6 hwr5 p (by simp; omega) (by simp; omega)
      have HX6 := Lib.hid (((HX4.out.trans x5).alloc _).trans x6)
      have HRow6 := Lib.hid (((HRow4.out.ex x5 hrl).ext ((Ext.refl _).alloc _)).ex x6 hrl)
      have HR6 := Lib.hid r6
      clear r5 x5 r6 x6 HX4 HRow4 HR4
      go_wp2
      go_roundw
      case rel => exact ⟨q - 1, _, _, by omega, by go_num, rfl, by omega, HX6.out, HR6.out.mono (by omega), HRow6.out, by have := HL.out.1; simp; omega, fun x hx => by
        rcases List.mem_append.1 hx with hx | hx
        · exact HL.out.2 x hx
        · simp at hx; subst hx; simp only [smLease, smI]; omega⟩
      case measure => simp [intOf]; omega
    · obtain rfl : q = 0 := by omega
      have HX2 := Lib.hid HA.out.1
      have HRow2 := Lib.hid HA.out.2.2.1
      have HL := Lib.hid HA.out.2.2.2
      go_wp2_with fail
      refine (odd_any rb _ n _ HA.out.2.1 (by omega) h2).mono ?_
      rintro e w2 ⟨k, rfl, r2, x2⟩
      have HX3 := Lib.hid (HX2.out.trans x2)
      have HRow3 := Lib.hid (HRow2.out.ex x2 hrl)
      have HR3 := Lib.hid r2
      clear HA r2 x2 HX2 HRow2
      have hwr2 := Nat.lt_of_lt_of_le hrl HX3.out.size
      cases k with
      | false =>
        go_wp2
        go_returns
        exact ⟨_, xs, rfl, HRow3.out.val, ⟨by have := HL.out.1; omega, HL.out.2⟩, HR3.out.mono (by omega), HX3.out⟩
      | true =>
        go_wp2_with fail
        refine (pick_any rb _ 4 _ (HR3.out.alloc _) (by omega) (by omega) (by omega)).mono ?_
        rintro e w3 ⟨k, rfl, k0, k1, r3, x3⟩
        obtain ⟨p, rfl⟩ := Int.eq_ofNat_of_zero_le k0
        obtain ⟨y, hy, hc⟩ := lits_at (m := 3) (enc := encLease) x3 hwr2 [⟨0, T, T⟩, ⟨4, T, T + 1⟩, ⟨0, T, 1001⟩, ⟨0, 0, 1⟩] rfl p (by simp; omega)
        have hsm : smLease y := by
          simp at hy
          rcases hy with rfl | rfl | rfl | rfl <;> (simp only [smLease, smI]; omega)
        have cu0 := hc 0 (by omega)
        have cu1 := hc 1 (by omega)
        have cu2 := hc 2 (by omega)
        obtain ⟨ya, yb, yc⟩ := y
        simp only [encLease, Nat.add_zero] at cu0 cu1 cu2
        have HX4 := Lib.hid ((HX3.out.alloc _).trans x3)
        have HRow4 := Lib.hid ((HRow3.out.ext ((Ext.refl _).alloc _)).ex x3 hrl)
        have HR4 := Lib.hid r3
        clear hy hc r3 x3 HX3 HRow3 HR3
        go_wp2_with (at_builtin; refine catLease rfl rfl rfl rfl (HRow4.out.ext ((Ext.refl _).alloc _)) (SlOf.lit _ _ _ _ [⟨ya, yb, yc⟩] rfl) (by simp; have := HL.out.1; omega) (by simp; have := HX4.out.size; omega) ?_; intro v' w4 hrow hg; have HG := Lib.hid (And.intro hrow hg); clear hrow hg)
        go_returns
        exact ⟨_, _, rfl, HG.out.1.val, ⟨by have := HL.out.1; simp; omega, fun x hx => by
          rcases List.mem_append.1 hx with hx | hx
          · exact HL.out.2 x hx
          · simp at hx; subst hx; exact hsm⟩, ((HR4.out.alloc _).grown HG.out.2 (fun k hk => Nat.lt_of_lt_of_le hrl (HRow4.out.block k hk))).mono (by omega), (HX4.out.alloc _).grown HG.out.2 HRow4.out.block⟩
end Go.Proofs.YtpkjgeidndbbbaaDoor
