/- Draws of logs. -/
import Derived.Test.YtiakkgpkkpaldaaDoorPick
import Derived.Test.YtiakkgpkkpaldaaDoorCats
namespace Go.Proofs.YtiakkgpkkpaldaaDoor
open Go.RowKit

def smRec (x : Rec) : Prop := smI x.term ∧ smI x.value
def drawnLog (xs : List Rec) : Prop := xs.length ≤ 7 ∧ ∀ x ∈ xs, smRec x
set_option maxHeartbeats 2000000 in
theorem l20Log_any (rb m : Nat) (n : Int) (w : World) (h : Rd w rb m) (hm : m ≤ 500000) (h2 : n ≤ 1000000) :
    Calls Tryd.prog 55 #[.pointer (some ⟨rb, 0, none⟩), .int .i64 n] w (DrawnS 2 encRec rb (m + 100) drawnLog w) := by
  have hrl := h.lt
  have HR := Lib.hid h
  clear h
  go_enter Tryd.func55, Tryd.ntmps55
  go_wp2_with fail
  refine (pick_any rb m 7 _ (HR.out.alloc _) (by omega) (by omega) (by omega)).mono ?_
  rintro e w1 ⟨k, rfl, k0, k1, r1, x1⟩
  obtain ⟨K, rfl⟩ := Int.eq_ofNat_of_zero_le k0
  have HRow := Lib.hid (Row.ex (Row.made (m := 2) (enc := encRec) w 57) x1 hrl)
  have HX := Lib.hid (((Ex.refl rb w).alloc (.cells #[] 57)).trans x1)
  have R1 := Lib.hid r1
  clear r1 x1 HR
  go_wp2
  go_loopw [5, 6, 7] (fun o t k wr => ∃ (q : Nat) (T : Int) (xs : List Rec), q ≤ 6 ∧ k = .int .i64 (q : Int) ∧ t = .int .i64 T ∧ (1 ≤ T ∧ T ≤ 20) ∧ Hid (Ex rb w wr ∧ Rd wr rb (m + 50 - 2 * q) ∧ Row 57 2 encRec w.heap.size wr o xs ∧ xs.length + q ≤ 6 ∧ ∀ x ∈ xs, smRec x)) (fun _ _ k _ => (intOf k).toNat)
  case atStart => exact ⟨K, 1, [], by omega, rfl, rfl, by omega, HX.out, R1.out.mono (by omega), HRow.out, by simp; omega, by simp⟩
  case round =>
    clear HRow HX R1
    obtain ⟨q, T, xs, hq, rfl, rfl, hT, HA⟩ := hrel
    have hwr := Nat.lt_of_lt_of_le hrl HA.out.1.size
    by_cases hq0 : 0 < q
    · go_wp2_with fail
      refine (pick_any rb _ 4 _ (HA.out.2.1.alloc _) (by omega) (by omega) (by omega)).mono ?_
      rintro e w2 ⟨k, rfl, k0, k1, r2, x2⟩
      obtain ⟨p, rfl⟩ := Int.eq_ofNat_of_zero_le k0
      obtain ⟨u, cu, y, rfl, hy⟩ := lit_at (fun v => ∃ y : Int, v = .int .i64 y ∧ 0 ≤ y ∧ y ≤ 2) x2 hwr p (by simp; omega) (by simp)
      have HX2 := Lib.hid ((HA.out.1.alloc _).trans x2)
      have HR2 := Lib.hid r2
      have HRow2 := Lib.hid (Row.ex (HA.out.2.2.1.ext ((Ext.refl _).alloc _)) x2 hrl)
      have HL := Lib.hid HA.out.2.2.2
      have hwr2 := Nat.lt_of_lt_of_le hrl HX2.out.size
      clear HA r2 x2
      rcases (by omega : T + y < 20 ∨ 20 ≤ T + y) with hmin | hmin
      all_goals
        go_wp2_with fail
        refine (pick_any rb _ 9 _ HR2.out (by omega) (by omega) (by omega)).mono ?_
        rintro e w3 ⟨k, rfl, k2, k3, r3, x3⟩
        have HX3 := Lib.hid (HX2.out.trans x3)
        have HRow3 := Lib.hid (HRow2.out.ex x3 hrl)
        have HR3 := Lib.hid r3
        clear r3 x3
        go_wp2_with (at_builtin; refine catRec rfl rfl rfl rfl (HRow3.out.ext ((Ext.refl _).alloc _)) (SlOf.lit _ _ _ _ [⟨_, _⟩] rfl) (by simp; have := HL.out.1; omega) (by simp; have := HX3.out.size; omega) ?_; intro v' w4 hrow hg; have HG := Lib.hid (And.intro hrow hg); clear hrow hg)
        go_roundw
        case rel => exact ⟨q - 1, _, _, by omega, by go_num, rfl, by omega, (HX3.out.alloc _).grown HG.out.2 HRow3.out.block, ((HR3.out.alloc _).grown HG.out.2 (fun k hk => Nat.lt_of_lt_of_le hrl (HRow3.out.block k hk))).mono (by omega), HG.out.1, by have := HL.out.1; simp; omega, fun x hx => by
          rcases List.mem_append.1 hx with hx | hx
          · exact HL.out.2 x hx
          · simp at hx; subst hx; exact ⟨⟨by simp only []; omega, by simp only []; omega⟩, ⟨by simp only []; omega, by simp only []; omega⟩⟩⟩
        case measure => simp [intOf]; omega
    · obtain rfl : q = 0 := by omega
      have HX2 := Lib.hid HA.out.1
      have HRow2 := Lib.hid HA.out.2.2.1
      have HL := Lib.hid HA.out.2.2.2
      go_wp2_with fail
      refine (odd_any rb _ n _ HA.out.2.1 (by omega) h2).mono ?_
      rintro e w2 ⟨k, rfl, r2, x2⟩
      have HX3 := Lib.hid (HX2.out.trans x2)
      have HRow3 := Lib.hid (HRow2.out.ex x2 hrl)
      have HR3 := Lib.hid r2
      clear HA r2 x2 HX2 HRow2
      have hwr2 := Nat.lt_of_lt_of_le hrl HX3.out.size
      cases k with
      | false =>
        go_wp2
        go_returns
        exact ⟨_, xs, rfl, HRow3.out.val, ⟨by have := HL.out.1; omega, HL.out.2⟩, HR3.out.mono (by omega), HX3.out⟩
      | true =>
        go_wp2_with fail
        refine (pick_any rb _ 3 _ (HR3.out.alloc _) (by omega) (by omega) (by omega)).mono ?_
        rintro e w3 ⟨k, rfl, k0, k1, r3, x3⟩
        obtain ⟨p, rfl⟩ := Int.eq_ofNat_of_zero_le k0
        obtain ⟨y, hy, hc⟩ := lits_at (m := 2) (enc := encRec) x3 hwr2 [⟨0, 1⟩, ⟨21, 0⟩, ⟨T, -1⟩] rfl p (by simp; omega)
        have hsm : smRec y := by
          simp at hy
          rcases hy with rfl | rfl | rfl <;> exact ⟨⟨by simp only []; omega, by simp only []; omega⟩, ⟨by simp only []; omega, by simp only []; omega⟩⟩
        have cu0 := hc 0 (by omega)
        have cu1 := hc 1 (by omega)
        obtain ⟨yt, yv⟩ := y
        simp only [encRec, Nat.add_zero] at cu0 cu1
        have HX4 := Lib.hid ((HX3.out.alloc _).trans x3)
        have HRow4 := Lib.hid ((HRow3.out.ext ((Ext.refl _).alloc _)).ex x3 hrl)
        have HR4 := Lib.hid r3
        clear hy hc r3 x3 HX3 HRow3 HR3
        go_wp2_with (at_builtin; refine catRec rfl rfl rfl rfl (HRow4.out.ext ((Ext.refl _).alloc _)) (SlOf.lit _ _ _ _ [⟨yt, yv⟩] rfl) (by simp; have := HL.out.1; omega) (by simp; have := HX4.out.size; omega) ?_; intro v' w4 hrow hg; have HG := Lib.hid (And.intro hrow hg); clear hrow hg)
        go_returns
        exact ⟨_, _, rfl, HG.out.1.val, ⟨by have := HL.out.1; simp; omega, fun x hx => by
          rcases List.mem_append.1 hx with hx | hx
          · exact HL.out.2 x hx
          · simp at hx; subst hx; exact hsm⟩, ((HR4.out.alloc _).grown HG.out.2 (fun k hk => Nat.lt_of_lt_of_le hrl (HRow4.out.block k hk))).mono (by omega), (HX4.out.alloc _).grown HG.out.2 HRow4.out.block⟩
end Go.Proofs.YtiakkgpkkpaldaaDoor
