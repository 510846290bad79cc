/- Draws of votes. -/
import Derived.Test.YtiakkgpkkpaldaaDoorPick
import Derived.Test.YtiakkgpkkpaldaaDoorCats
namespace Go.Proofs.YtiakkgpkkpaldaaDoor
open Go.RowKit

def smVote (x : Vote) : Prop := smI x.ballot ∧ smI x.value
def drawnVote (xs : List Vote) : Prop := xs.length ≤ 8 ∧ ∀ x ∈ xs, smVote x
set_option maxHeartbeats 2000000 in
theorem l20Votes_any (rb m : Nat) (n : Int) (w : World) (h : Rd w rb m) (hm : m ≤ 500000) (h2 : n ≤ 1000000) :
    Calls Tryd.prog 43 #[.pointer (some ⟨rb, 0, none⟩), .int .i64 n] w (DrawnS 2 encVote rb (m + 100) drawnVote w) := by
  have hrl := h.lt
  have HR := Lib.hid h
  clear h
  go_enter Tryd.func43, Tryd.ntmps43
  go_wp2_with fail
  refine (pick_any rb m 7 _ ((HR.out.alloc _).alloc _) (by omega) (by omega) (by omega)).mono ?_
  rintro e w0 ⟨T0, rfl, t0, t1, r0, x0⟩
  go_wp2_with fail
  refine (pick_any rb _ 4 _ (r0.alloc _) (by omega) (by omega) (by omega)).mono ?_
  rintro e w1 ⟨p, rfl, p0, p1, r1, x1⟩
  obtain ⟨p, rfl⟩ := Int.eq_ofNat_of_zero_le p0
  have hr0 : rb < w0.heap.size := Nat.lt_of_lt_of_le hrl (((Ex.refl rb w).alloc _).alloc _ |>.trans x0).size
  obtain ⟨u, cu, K, rfl, hK⟩ := lit_at (fun v => ∃ y : Int, v = .int .i64 y ∧ 1 ≤ y ∧ y ≤ 7) x1 hr0 p (by simp; omega) (by simp; omega)
  obtain ⟨K, rfl⟩ := Int.eq_ofNat_of_zero_le (show 0 ≤ K by omega)
  have HRow := Lib.hid ((((Row.made (m := 2) (enc := encVote) w 45).ext ((Ext.refl _).alloc _)).ex x0 hrl).ext ((Ext.refl _).alloc _) |>.ex x1 hrl)
  have HX := Lib.hid ((((((Ex.refl rb w).alloc (.cells #[] 45)).alloc (.cells #[.int .i64 0, .int .i64 7, .int .i64 7, .int .i64 8, .int .i64 9] 3)).trans x0).alloc _).trans x1)
  have HSm : Hid (Smalls w1 (w.heap.size + 1) 5 3) := by
    show Smalls _ _ _ _
    refine Smalls.ex (rb := rb) ?_ ((x0.alloc _).trans x1) (by omega)
    refine ⟨⟨_, by rw [show w.heap.size + 1 = (w.alloc (.cells #[] 45)).heap.size from by simp]; exact heap_alloc_new _ _⟩, ?_⟩
    intro j hj
    match j, hj with
    | 0, _ => exact ⟨0, by go_cell, by simp [smI]⟩
    | 1, _ => exact ⟨7, by go_cell, by simp [smI]⟩
    | 2, _ => exact ⟨7, by go_cell, by simp [smI]⟩
    | 3, _ => exact ⟨8, by go_cell, by simp [smI]⟩
    | 4, _ => exact ⟨9, by go_cell, by simp [smI]⟩
    | _ + 5, hj => omega
  have R1 := Lib.hid r1
  clear r1 x1 HR r0 x0
  go_wp2
  go_loopw [5, 7] (fun o k wr => ∃ (q : Nat) (xs : List Vote), q ≤ 7 ∧ k = .int .i64 (q : Int) ∧ Hid (Ex rb w wr ∧ Rd wr rb (m + 50 - 4 * q) ∧ Row 45 2 encVote w.heap.size wr o xs ∧ (xs.length + q ≤ 7 ∧ ∀ x ∈ xs, smVote x) ∧ Smalls wr (w.heap.size + 1) 5 3)) (fun _ k _ => (intOf k).toNat)
  case atStart => exact ⟨K, [], by omega, rfl, HX.out, R1.out.mono (by omega), HRow.out, ⟨by simp; omega, by simp⟩, HSm.out⟩
  case round =>
    clear HRow HX R1 HSm
    obtain ⟨q, xs, hq, rfl, HA⟩ := hrel
    have hwr := Nat.lt_of_lt_of_le hrl HA.out.1.size
    by_cases hq0 : 0 < q
    · go_wp2_with fail
      refine (pick_any rb _ 6 _ (HA.out.2.1.alloc _) (by omega) (by omega) (by omega)).mono ?_
      rintro e w2 ⟨p, rfl, p0, p1, r2, x2⟩
      obtain ⟨p, rfl⟩ := Int.eq_ofNat_of_zero_le p0
      obtain ⟨u, cu, B, rfl, hB⟩ := lit_at (fun v => ∃ y : Int, v = .int .i64 y ∧ 0 ≤ y ∧ y ≤ 4) x2 hwr p (by simp; omega) (by simp)
      obtain ⟨B, rfl⟩ := Int.eq_ofNat_of_zero_le hB.1
      have HX3 := Lib.hid ((HA.out.1.alloc _).trans x2)
      have HRow3 := Lib.hid ((HA.out.2.2.1.ext ((Ext.refl _).alloc _)).ex x2 hrl)
      have HR3 := Lib.hid r2
      have HL := Lib.hid HA.out.2.2.2.1
      have HSm := Lib.hid (HA.out.2.2.2.2.ex (((Ex.refl rb wr).alloc _).trans x2) (by omega))
      obtain ⟨Y, cY, hY⟩ := HSm.out.2 B (by omega)
      have hwsz := HX3.out.size
      have hgs : w.heap.size + 1 < w2.heap.size := World.block_lt_of_cell? w2 _ cY
      clear HA r2 x2
      go_wp2_with (at_builtin; refine catVote rfl rfl rfl rfl (HRow3.out.ext ((Ext.refl _).alloc _)) (SlOf.lit _ _ _ _ [⟨_, _⟩] rfl) (by simp; have := HL.out.1; omega) (by simp; omega) ?_; intro v' w4 hrow hg; have HG := Lib.hid (And.intro hrow hg); clear hrow hg)
      go_roundw
      case rel => exact ⟨q - 1, _, by omega, by go_num, (HX3.out.alloc _).grown HG.out.2 HRow3.out.block, ((HR3.out.alloc _).grown HG.out.2 (fun k hk => Nat.lt_of_lt_of_le hrl (HRow3.out.block k hk))).mono (by omega), HG.out.1, ⟨by have := HL.out.1; simp; omega, fun x hx => by
        rcases List.mem_append.1 hx with hx | hx
        · exact HL.out.2 x hx
        · simp at hx; subst hx; exact ⟨by show smI (B : Int); unfold smI; omega, hY⟩⟩, (HSm.out.ex ((Ex.refl rb w2).alloc _) (by omega)).grown HG.out.2 (Row.ne HRow3.out HSm.out.1.choose_spec (by decide))⟩
      case measure => simp [intOf]; omega
    · obtain rfl : q = 0 := by omega
      have HX2 := Lib.hid HA.out.1
      have HRow2 := Lib.hid HA.out.2.2.1
      have HL := Lib.hid HA.out.2.2.2.1
      go_wp2_with fail
      refine (odd_any rb _ n _ HA.out.2.1 (by omega) h2).mono ?_
      rintro e w2 ⟨k, rfl, r2, x2⟩
      have HX3 := Lib.hid (HX2.out.trans x2)
      have HRow3 := Lib.hid (HRow2.out.ex x2 hrl)
      have HR3 := Lib.hid r2
      clear HA r2 x2 HX2 HRow2
      have hwr2 := Nat.lt_of_lt_of_le hrl HX3.out.size
      cases k with
      | false =>
        go_wp2
        go_returns
        exact ⟨_, xs, rfl, HRow3.out.val, ⟨by have := HL.out.1; omega, HL.out.2⟩, HR3.out.mono (by omega), HX3.out⟩
      | true =>
        go_wp2_with fail
        refine (pick_any rb _ 4 _ (HR3.out.alloc _) (by omega) (by omega) (by omega)).mono ?_
        rintro e w3 ⟨k, rfl, k0, k1, r3, x3⟩
        obtain ⟨p, rfl⟩ := Int.eq_ofNat_of_zero_le k0
        obtain ⟨y, hy, hc⟩ := lits_at (m := 2) (enc := encVote) x3 hwr2 [⟨0, 1⟩, ⟨-1, 0⟩, ⟨51, 0⟩, ⟨2, 100⟩] rfl p (by simp; omega)
        have hsm : smVote y := by
          simp at hy
          rcases hy with rfl | rfl | rfl | rfl <;> simp [smVote, smI]
        have cu0 := hc 0 (by omega)
        have cu1 := hc 1 (by omega)
        obtain ⟨ya, yb⟩ := y
        simp only [encVote, Nat.add_zero] at cu0 cu1
        have HX4 := Lib.hid ((HX3.out.alloc _).trans x3)
        have HRow4 := Lib.hid ((HRow3.out.ext ((Ext.refl _).alloc _)).ex x3 hrl)
        have HR4 := Lib.hid r3
        clear hy hc r3 x3 HX3 HRow3 HR3
        go_wp2_with (at_builtin; refine catVote rfl rfl rfl rfl (HRow4.out.ext ((Ext.refl _).alloc _)) (SlOf.lit _ _ _ _ [⟨ya, yb⟩] rfl) (by simp; have := HL.out.1; omega) (by simp; have := HX4.out.size; omega) ?_; intro v' w4 hrow hg; have HG := Lib.hid (And.intro hrow hg); clear hrow hg)
        go_returns
        exact ⟨_, _, rfl, HG.out.1.val, ⟨by have := HL.out.1; simp; omega, fun x hx => by
          rcases List.mem_append.1 hx with hx | hx
          · exact HL.out.2 x hx
          · simp at hx; subst hx; exact hsm⟩, ((HR4.out.alloc _).grown HG.out.2 (fun k hk => Nat.lt_of_lt_of_le hrl (HRow4.out.block k hk))).mono (by omega), (HX4.out.alloc _).grown HG.out.2 HRow4.out.block⟩
end Go.Proofs.YtiakkgpkkpaldaaDoor
