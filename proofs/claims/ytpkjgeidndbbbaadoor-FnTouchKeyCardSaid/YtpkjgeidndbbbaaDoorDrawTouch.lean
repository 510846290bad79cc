/- Draws of keys with stamps. -/
import Derived.Test.YtpkjgeidndbbbaaDoorPick
import Derived.Test.YtpkjgeidndbbbaaDoorCats
import Derived.Test.YtpkjgeidndbbbaaDoorCut
namespace Go.Proofs.YtpkjgeidndbbbaaDoor
open Go.RowKit

def smTouch (x : Touch) : Prop := smI x.read ∧ smI x.write
def drawnTouch (xs : List Touch) : Prop := xs.length ≤ 6 ∧ ∀ x ∈ xs, smTouch x
set_option maxHeartbeats 2000000 in
theorem l20Touches_any (rb m : Nat) (n : Int) (w : World) (h : Rd w rb m) (hm : m ≤ 500000) (h2 : n ≤ 1000000) :
    Calls Tryd.prog 64 #[.pointer (some ⟨rb, 0, none⟩), .int .i64 n] w (DrawnS 2 encTouch rb (m + 100) drawnTouch w) := by
  have hrl := h.lt
  have HR := Lib.hid (h.alloc (.cells #[] 58))
  have HRow := Lib.hid (Row.made (m := 2) (enc := encTouch) w 58)
  clear h
  go_enter Tryd.func64, Tryd.ntmps64
  go_wp2
  go_loopw [5, 6] (fun o k wr => ∃ (q : Nat) (xs : List Touch), q ≤ 3 ∧ k = .int .i64 (q : Int) ∧ Hid (Ex rb w wr ∧ Rd wr rb (m + 2 * q) ∧ Row 58 2 encTouch w.heap.size wr o xs ∧ xs.length = q ∧ ∀ x ∈ xs, smTouch x)) (fun _ k _ => 3 - (intOf k).toNat)
  case atStart => exact ⟨0, [], by omega, rfl, (Ex.refl rb w).alloc _, HR.out, HRow.out, rfl, by simp⟩
  case round =>
    clear HRow HR
    obtain ⟨q, xs, hq, rfl, HA⟩ := hrel
    have hwr := Nat.lt_of_lt_of_le hrl HA.out.1.size
    by_cases hq0 : q < 3
    · go_wp2_with fail
      refine (pick_any rb _ 8 _ HA.out.2.1 (by omega) (by omega) (by omega)).mono ?_
      rintro e w2 ⟨U, rfl, u0, u1, r2, x2⟩
      go_wp2_with fail
      refine (pick_any rb _ 8 _ r2 (by omega) (by omega) (by omega)).mono ?_
      rintro e w3 ⟨V, rfl, v0, v1, r3, x3⟩
      have HX3 := Lib.hid ((HA.out.1.trans x2).trans x3)
      have HRow3 := Lib.hid (HA.out.2.2.1.ex (x2.trans x3) hrl)
      have HR3 := Lib.hid r3
      have HL := Lib.hid HA.out.2.2.2
      clear HA r2 x2 r3 x3
      go_wp2_with (at_builtin; refine catTouch rfl rfl rfl rfl (HRow3.out.ext ((Ext.refl _).alloc _)) (SlOf.lit _ _ _ _ [⟨_, _⟩] rfl) (by simp; have := HL.out.1; omega) (by simp; have := HX3.out.size; omega) ?_; intro v' w4 hrow hg; have HG := Lib.hid (And.intro hrow hg); clear hrow hg)
      go_roundw
      case rel => exact ⟨q + 1, _, by omega, by go_num, (HX3.out.alloc _).grown HG.out.2 HRow3.out.block, ((HR3.out.alloc _).grown HG.out.2 (fun k hk => Nat.lt_of_lt_of_le hrl (HRow3.out.block k hk))).mono (by omega), HG.out.1, by have := HL.out.1; simp; omega, fun x hx => by
        rcases List.mem_append.1 hx with hx | hx
        · exact HL.out.2 x hx
        · simp at hx; subst hx; simp only [smTouch, smI]; omega⟩
      case measure => simp [intOf]; omega
    · obtain rfl : q = 3 := by omega
      have HX2 := Lib.hid HA.out.1
      have HRow2 := Lib.hid HA.out.2.2.1
      have HL := Lib.hid HA.out.2.2.2
      go_wp2_with fail
      refine (odd_any rb _ n _ HA.out.2.1 (by omega) h2).mono ?_
      rintro e w2 ⟨k, rfl, r2, x2⟩
      have HX3 := Lib.hid (HX2.out.trans x2)
      have HRow3 := Lib.hid (HRow2.out.ex x2 hrl)
      have HR3 := Lib.hid r2
      clear HA r2 x2 HX2 HRow2
      cases k with
      | false =>
        go_wp2
        go_returns
        exact ⟨_, xs, rfl, HRow3.out.val, ⟨by have := HL.out.1; omega, HL.out.2⟩, HR3.out.mono (by omega), HX3.out⟩
      | true =>
        go_wp2_with fail
        refine (pick_any rb _ 2 _ HR3.out (by omega) (by omega) (by omega)).mono ?_
        rintro e w3 ⟨k, rfl, k0, k1, r3, x3⟩
        have HX4 := Lib.hid (HX3.out.trans x3)
        have HRow4 := Lib.hid (HRow3.out.ex x3 hrl)
        have HR4 := Lib.hid r3
        clear r3 x3 HX3 HRow3 HR3
        have hwr4 := Nat.lt_of_lt_of_le hrl HX4.out.size
        have hv := HRow4.out.val
        obtain ⟨A, c, hA, hcell⟩ := id hv.1
        have hxl := HL.out.1
        obtain ⟨b, off, rfl, hbl, hcs⟩ := hcell (by omega)
        rw [hxl] at hA
        subst hA
        have hcp := hv.2.2 _ _ _ rfl
        have HV := Lib.hid hv
        clear hcell hv hcs
        rcases (by omega : k = 0 ∨ k = 1) with rfl | rfl
        · go_wp2_with fail
          refine (pick_any rb _ 2 _ (HR4.out.alloc _) (by omega) (by omega) (by omega)).mono ?_
          rintro e w5 ⟨p, rfl, p0, p1, r5, x5⟩
          obtain ⟨p, rfl⟩ := Int.eq_ofNat_of_zero_le p0
          obtain ⟨u, cu, y, rfl, hy⟩ := lit_at (fun v => ∃ y : Int, v = .int .i64 y ∧ smI y) x5 hwr4 p (by simp; omega) (by simp [smI])
          have HX6 := Lib.hid ((HX4.out.alloc _).trans x5)
          have HV6 := Lib.hid ((HV.out.ext ((Ext.refl _).alloc _)).ex x5 hrl)
          have HR6 := Lib.hid r5
          clear r5 x5 HX4 HRow4 HR4 HV
          obtain ⟨x, hx⟩ := at_some (show 0 < xs.length by omega)
          obtain ⟨A', c', hA', hcell'⟩ := id HV6.out.1
          injection hA' with e1 e2 e3
          subst e1 e3
          clear e2
          obtain ⟨b', off', hb', hlt', hcl⟩ := hcell' (by omega)
          injection hb' with hb'
          injection hb' with e1 e2
          subst e1 e2
          have c0 := hcl 0 x hx 0 (by omega)
          simp only [Nat.zero_mul, Nat.add_zero] at c0
          have f0 : w5.frozen? ⟨b, off, none⟩ = false := HV6.out.2.1.cell_free (by omega) _
          have HS := Lib.hid (SlOf.set1 (j := 0) HV6.out.1 HV6.out.2.1 (by omega) hx (by omega) ⟨y, x.write⟩ (fun i hl hi => by match i with | 0 => exact absurd rfl hi | 1 => rfl | _ + 2 => omega))
          have HB := Lib.hid (HV6.out.2.1 _ _ _ rfl (by omega)).1
          have HXX := Lib.hid hx
          have HXL := Lib.hid hxl
          clear hcl hcell' hx hxl
          go_wp2
          go_returns
          simp only [Nat.zero_mul, Nat.add_zero] at HS
          refine ⟨_, xs.set 0 ⟨y, x.write⟩, rfl, ⟨HS.out.1, HS.out.2, HV6.out.2.2⟩, ⟨by have := HXL.out; simp; omega, fun z hz => ?_⟩, (HR6.out.grown (grownBy_set _ _ _ _) (fun k hk => by injection hk with hk; subst hk; exact Nat.lt_of_lt_of_le hrl HB.out)).mono (by omega), HX6.out.grown (grownBy_set _ _ _ _) (fun k hk => by injection hk with hk; subst hk; exact HB.out)⟩
          rcases List.mem_or_eq_of_mem_set hz with hz | rfl
          · exact HL.out.2 z hz
          · exact ⟨hy, (HL.out.2 x (List.mem_of_getElem? HXX.out)).2⟩
        · have hcut := run_cut_low (P := Tryd.prog) (n := 3) (A := some ⟨b, off, none⟩) (c := c) Tryd.underlying51 kinfo_Touch 1 (by omega)
          have hpt := HV.out.1.part 1 3 (by omega) (by omega) (by omega)
          rw [if_neg (by omega)] at hcut hpt
          simp only [Int.cast_ofNat_Int] at hcut
          obtain ⟨vc, hvc⟩ : ∃ vc, (Value.slice (Option.map (fun x : Addr => x.add (1 * 2)) (some (⟨b, off, none⟩ : Addr))) (3 - 1) (c - 1)) = vc := ⟨_, rfl⟩
          have hcp' : ∀ A n c, vc = .slice A n c → n ≤ c ∧ c ≤ 9223372036854775807 := by intro A n c' h; rw [← hvc] at h; injection h with e1 e2 e3; omega
          rw [hvc] at hcut hpt
          have HP := Lib.hid hpt
          have HCP := Lib.hid hcp'
          clear hpt hvc hcp'
          go_wp2
          go_returns
          exact ⟨_, part xs 1 3, rfl, ⟨HP.out.1, HP.out.2 _ HV.out.2.1, HCP.out⟩, ⟨by rw [part_len (by omega)]; omega, fun z hz => HL.out.2 z (List.mem_of_mem_take (List.mem_of_mem_drop hz))⟩, HR4.out.mono (by omega), HX4.out⟩
end Go.Proofs.YtpkjgeidndbbbaaDoor
