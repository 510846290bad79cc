/- Draws of records for redoing. -/
import Derived.Test.YtiggckhlbklngaaDoorPick
import Derived.Test.YtiggckhlbklngaaDoorCats
namespace Go.Proofs.YtiggckhlbklngaaDoor
open Go.RowKit

def smRedo (x : Redo) : Prop := smI x.who ∧ smI x.key ∧ smI x.value
def drawnRedo (xs : List Redo) : Prop := xs.length ≤ 14 ∧ ∀ x ∈ xs, smRedo x
theorem kinfo_b : (Tryd.prog.info? 4).map (fun i => (i.zero, i.size, i.bytes)) = some (some (.bool false), 1, 1) := by kernel_rfl
set_option maxHeartbeats 2000000 in
theorem l20Redo_any (rb m : Nat) (n : Int) (w : World) (h : Rd w rb m) (hm : m ≤ 500000) (h2 : n ≤ 1000000) :
    Calls Tryd.prog 41 #[.pointer (some ⟨rb, 0, none⟩), .int .i64 n] w (DrawnS 3 encRedo rb (m + 100) drawnRedo w) := by
  have hrl := h.lt
  have HR := Lib.hid h
  have hmk : ∀ W, (Instr.makeSlice 25 (.int .i64 6) (.int .i64 6)).run Tryd.prog W = .ok (.slice (some ⟨W.heap.size, 0, none⟩) 6 6) (W.alloc (.cells #[.bool false, .bool false, .bool false, .bool false, .bool false, .bool false] 4)) :=
    fun W => by
      have h := run_make_of (P := Tryd.prog) 25 4 Tryd.underlying25 kinfo_b 6 (by omega) (by omega) W
      rwa [show madeCells (Value.bool false).cells (6 * 1) = #[.bool false, .bool false, .bool false, .bool false, .bool false, .bool false] from by kernel_rfl] at h
  clear h
  go_enter Tryd.func41, Tryd.ntmps41
  go_wp2_with fail
  refine (pick_any rb m 14 _ ((HR.out.alloc _).alloc _) (by omega) (by omega) (by omega)).mono ?_
  rintro e w1 ⟨K, rfl, k0, k1, r1, x1⟩
  obtain ⟨K, rfl⟩ := Int.eq_ofNat_of_zero_le k0
  have HRow := Lib.hid (((Row.made (m := 3) (enc := encRedo) w 73).ext ((Ext.refl _).alloc _)).ex x1 hrl)
  have HX := Lib.hid ((((Ex.refl rb w).alloc (.cells #[] 73)).alloc (.cells #[.bool false, .bool false, .bool false, .bool false, .bool false, .bool false] 4)).trans x1)
  have HBo : Hid (Bools w1 (w.heap.size + 1) 6 4) := by
    show Bools _ _ _ _
    refine Bools.grown (w := (w.alloc (.cells #[] 73)).alloc (.cells #[.bool false, .bool false, .bool false, .bool false, .bool false, .bool false] 4)) ?_ x1 (by simp; omega)
    exact ⟨_, by rw [show w.heap.size + 1 = (w.alloc (.cells #[] 73)).heap.size from by simp]; exact heap_alloc_new _ _, rfl, by simp⟩
  have R1 := Lib.hid r1
  clear r1 x1 HR hmk
  go_wp2
  go_loopw [5, 7] (fun o k wr => ∃ (q : Nat) (xs : List Redo), q ≤ 13 ∧ k = .int .i64 (q : Int) ∧ Hid (Ex rb w wr ∧ Rd wr rb (m + 80 - 5 * q) ∧ Row 73 3 encRedo w.heap.size wr o xs ∧ (xs.length + q ≤ 13 ∧ ∀ x ∈ xs, smRedo x) ∧ Bools wr (w.heap.size + 1) 6 4)) (fun _ k _ => (intOf k).toNat)
  case atStart => exact ⟨K, [], by omega, rfl, HX.out, R1.out.mono (by omega), HRow.out, ⟨by simp; omega, by simp⟩, HBo.out⟩
  case round =>
    clear HRow HX R1 HBo
    obtain ⟨q, xs, hq, rfl, HA⟩ := hrel
    have hwr := Nat.lt_of_lt_of_le hrl HA.out.1.size
    by_cases hq0 : 0 < q
    · go_wp2_with fail
      refine (pick_any rb _ 4 _ HA.out.2.1 (by omega) (by omega) (by omega)).mono ?_
      rintro e w2 ⟨W, rfl, p0, p1, r2, x2⟩
      obtain ⟨W, rfl⟩ := Int.eq_ofNat_of_zero_le p0
      have HX3 := Lib.hid (HA.out.1.trans x2)
      have HRow3 := Lib.hid (HA.out.2.2.1.ex x2 hrl)
      have HR3 := Lib.hid r2
      have HL := Lib.hid HA.out.2.2.2.1
      have HBo := Lib.hid (HA.out.2.2.2.2.grown x2 (by simp; omega))
      obtain ⟨⟨B, cB⟩, fB⟩ := HBo.out.cell (j := W) (by omega)
      clear HA r2 x2
      cases B with
      | true =>
        go_wp2
        go_roundw
        case rel => exact ⟨q - 1, xs, by omega, by go_num, HX3.out, HR3.out.mono (by omega), HRow3.out, ⟨by have := HL.out.1; omega, HL.out.2⟩, HBo.out⟩
        case measure => simp [intOf]; omega
      | false =>
        go_wp2_with fail
        refine (pick_any rb _ 4 _ HR3.out (by omega) (by omega) (by omega)).mono ?_
        rintro e w3 ⟨V, rfl, v0, v1, r3, x3⟩
        have HX4 := Lib.hid (HX3.out.trans x3)
        have HRow4 := Lib.hid (HRow3.out.ex x3 hrl)
        have HR4 := Lib.hid r3
        have HBo4 := Lib.hid (HBo.out.grown x3 (by simp; omega))
        clear r3 x3 HX3 HRow3 HR3 HBo cB fB
        rcases (by omega : V = 0 ∨ 0 < V) with rfl | hV
        · obtain ⟨⟨B, cB⟩, fB⟩ := HBo4.out.cell (j := W) (by omega)
          have HX5 := Lib.hid (HX4.out.grown (grownBy_set w3 (w.heap.size + 1) W (.bool true)) (fun k hk => by injection hk with hk; omega))
          have HRow5 : Hid (Row 73 3 encRedo w.heap.size (w3.setCell ⟨w.heap.size + 1, W, none⟩ (.bool true)) _ xs) := World.ownsRow.kept HRow4.out (grownBy_set w3 (w.heap.size + 1) W (.bool true)) (by
            have := Row.ne HRow4.out HBo4.out.choose_spec.1 (by decide)
            exact .inr (fun e => this e.symm))
          have HR5 := Lib.hid (HR4.out.grown (grownBy_set w3 (w.heap.size + 1) W (.bool true)) (fun k hk => by injection hk with hk; omega))
          have HBo5 := Lib.hid (HBo4.out.set W true)
          clear HX4 HRow4 HR4 HBo4
          go_wp2_with (at_builtin; refine catRedo rfl rfl rfl rfl (HRow5.out.ext ((Ext.refl _).alloc _)) (SlOf.lit_n _ _ _ _ _ [⟨_, _, _⟩] rfl (by simp)) (by simp; have := HL.out.1; omega) (Nat.le_trans HX5.out.size (Ext.size ((Ext.refl _).alloc _))) ?_; intro v' w4 hrow hg; have HG := Lib.hid (And.intro hrow hg); clear hrow hg)
          go_roundw
          case rel => exact ⟨q - 1, _, by omega, by go_num, (HX5.out.alloc _).grown HG.out.2 HRow5.out.block, ((HR5.out.alloc _).grown HG.out.2 (fun k hk => Nat.lt_of_lt_of_le hrl (HRow5.out.block k hk))).mono (by omega), HG.out.1, ⟨by have := HL.out.1; simp; omega, fun x hx => by
            rcases List.mem_append.1 hx with hx | hx
            · exact HL.out.2 x hx
            · simp at hx; subst hx; exact ⟨by show smI (W : Int); unfold smI; omega, by show smI (-1); simp [smI], by show smI 0; simp [smI]⟩⟩, (HBo5.out.ext ((Ext.refl _).alloc _)).grown HG.out.2 (Row.ne HRow5.out HBo5.out.choose_spec.1 (by decide))⟩
          case measure => simp [intOf]; omega
        · go_wp2_with fail
          refine (pick_any rb _ 3 _ HR4.out (by omega) (by omega) (by omega)).mono ?_
          rintro e w5 ⟨Y, rfl, y0, y1, r5, x5⟩
          go_wp2_with fail
          refine (pick_any rb _ 20 _ r5 (by omega) (by omega) (by omega)).mono ?_
          rintro e w6 ⟨Z, rfl, z0, z1, r6, x6⟩
          have HX5 := Lib.hid ((HX4.out.trans x5).trans x6)
          have HRow5 := Lib.hid (HRow4.out.ex (x5.trans x6) hrl)
          have HR5 := Lib.hid r6
          have HBo5 := Lib.hid (HBo4.out.grown (x5.trans x6) (by simp; omega))
          clear r5 x5 r6 x6 HX4 HRow4 HR4 HBo4
          go_wp2_with (at_builtin; refine catRedo rfl rfl rfl rfl (HRow5.out.ext ((Ext.refl _).alloc _)) (SlOf.lit _ _ _ _ [⟨_, _, _⟩] rfl) (by simp; have := HL.out.1; omega) (Nat.le_trans HX5.out.size (Ext.size ((Ext.refl _).alloc _))) ?_; intro v' w4 hrow hg; have HG := Lib.hid (And.intro hrow hg); clear hrow hg)
          go_roundw
          case rel => exact ⟨q - 1, _, by omega, by go_num, (HX5.out.alloc _).grown HG.out.2 HRow5.out.block, ((HR5.out.alloc _).grown HG.out.2 (fun k hk => Nat.lt_of_lt_of_le hrl (HRow5.out.block k hk))).mono (by omega), HG.out.1, ⟨by have := HL.out.1; simp; omega, fun x hx => by
            rcases List.mem_append.1 hx with hx | hx
            · exact HL.out.2 x hx
            · simp at hx; subst hx; exact ⟨by show smI (W : Int); unfold smI; omega, by show smI Y; unfold smI; omega, by show smI Z; unfold smI; omega⟩⟩, (HBo5.out.ext ((Ext.refl _).alloc _)).grown HG.out.2 (Row.ne HRow5.out HBo5.out.choose_spec.1 (by decide))⟩
          case measure => simp [intOf]; omega
    · obtain rfl : q = 0 := by omega
      have HX2 := Lib.hid HA.out.1
      have HRow2 := Lib.hid HA.out.2.2.1
      have HL := Lib.hid HA.out.2.2.2.1
      go_wp2_with fail
      refine (odd_any rb _ n _ HA.out.2.1 (by omega) h2).mono ?_
      rintro e w2 ⟨k, rfl, r2, x2⟩
      have HX3 := Lib.hid (HX2.out.trans x2)
      have HRow3 := Lib.hid (HRow2.out.ex x2 hrl)
      have HR3 := Lib.hid r2
      clear HA r2 x2 HX2 HRow2
      have hwr2 := Nat.lt_of_lt_of_le hrl HX3.out.size
      cases k with
      | false =>
        go_wp2
        go_returns
        exact ⟨_, xs, rfl, HRow3.out.val, ⟨by have := HL.out.1; omega, HL.out.2⟩, HR3.out.mono (by omega), HX3.out⟩
      | true =>
        go_wp2_with fail
        refine (pick_any rb _ 4 _ (HR3.out.alloc _) (by omega) (by omega) (by omega)).mono ?_
        rintro e w3 ⟨k, rfl, k0, k1, r3, x3⟩
        obtain ⟨p, rfl⟩ := Int.eq_ofNat_of_zero_le k0
        obtain ⟨y, hy, hc⟩ := lits_at (m := 3) (enc := encRedo) x3 hwr2 [⟨6, 0, 0⟩, ⟨0, -2, 0⟩, ⟨0, -1, 1⟩, ⟨0, 0, 100⟩] rfl p (by simp; omega)
        have hsm : smRedo y := by
          simp at hy
          rcases hy with rfl | rfl | rfl | rfl <;> simp [smRedo, smI]
        have cu0 := hc 0 (by omega)
        have cu1 := hc 1 (by omega)
        have cu2 := hc 2 (by omega)
        obtain ⟨ya, yb, yc⟩ := y
        simp only [encRedo, Nat.add_zero] at cu0 cu1 cu2
        have HX4 := Lib.hid ((HX3.out.alloc _).trans x3)
        have HRow4 := Lib.hid ((HRow3.out.ext ((Ext.refl _).alloc _)).ex x3 hrl)
        have HR4 := Lib.hid r3
        clear hy hc r3 x3 HX3 HRow3 HR3
        go_wp2_with (at_builtin; refine catRedo rfl rfl rfl rfl (HRow4.out.ext ((Ext.refl _).alloc _)) (SlOf.lit _ _ _ _ [⟨ya, yb, yc⟩] rfl) (by simp; have := HL.out.1; omega) (by simp; have := HX4.out.size; omega) ?_; intro v' w4 hrow hg; have HG := Lib.hid (And.intro hrow hg); clear hrow hg)
        go_returns
        exact ⟨_, _, rfl, HG.out.1.val, ⟨by have := HL.out.1; simp; omega, fun x hx => by
          rcases List.mem_append.1 hx with hx | hx
          · exact HL.out.2 x hx
          · simp at hx; subst hx; exact hsm⟩, ((HR4.out.alloc _).grown HG.out.2 (fun k hk => Nat.lt_of_lt_of_le hrl (HRow4.out.block k hk))).mono (by omega), (HX4.out.alloc _).grown HG.out.2 HRow4.out.block⟩
set_option maxHeartbeats 400000 in
theorem DrawRedoShort_any {v : Value} (w : World) (h : CodeIn w v) : Calls Tryd.prog 17 #[v] w (DrawnL 3 encRedo drawnRedo w) := by
  have H := Lib.hid h
  clear h
  go_enter Tryd.func17, Tryd.ntmps17
  go_wp2_with fail
  refine (open_code _ H.out).mono ?_
  rintro e w1 ⟨rb, rfl, hl, r1, b1⟩
  go_wp2_with fail
  refine (l20Redo_any rb 0 9 _ r1 (by omega) (by omega)).mono ?_
  rintro e w2 ⟨u, xs, rfl, hrow, hphi, r2, x2⟩
  have HR := Lib.hid (hrow.lower b1.size)
  have HP := Lib.hid hphi
  have HB := Lib.hid (b1.ex x2 hl)
  clear hrow hphi r1 b1 r2 x2
  go_wp2
  go_returns
  exact ⟨u, xs, rfl, HR.out, HP.out, HB.out⟩
end Go.Proofs.YtiggckhlbklngaaDoor
