/- The draw of values and of records of transactions. -/
import Derived.Test.YtiggckhlbklngaaDoorDrawRedo
import Derived.Test.YtiggckhlbklngaaDoorDrawSets
import Derived.Test.YtiggckhlbklngaaDoorCut
namespace Go.Proofs.YtiggckhlbklngaaDoor
open Go.RowKit
set_option maxRecDepth 8000
/-- Values and records were drawn. -/
def DrawnIR (w : World) (en : Ending) (w' : World) : Prop :=
  ∃ u v vs xs, en = .returned (.tuple #[u, v]) ∧ Sl1 encI w' u vs ∧ vs.length ≤ 3 ∧ Val 3 encRedo w.heap.size w' v xs ∧ drawnRedo xs ∧ Ext w w'
set_option maxHeartbeats 4000000 in
theorem DrawRedoRun_any {v : Value} (w : World) (h : CodeIn w v) : Calls Tryd.prog 12 #[v] w (DrawnIR w) := by
  have H := Lib.hid h
  clear h
  go_enter Tryd.func12, Tryd.ntmps12
  go_wp2_with fail
  refine (open_code _ H.out).mono ?_
  rintro e w1 ⟨rb, rfl, hl, r1, b1⟩
  have hrl := r1.lt
  go_wp2_with fail
  refine (pick_any rb _ 9 _ r1 (by omega) (by omega) (by omega)).mono ?_
  rintro e w2 ⟨a, rfl, a0, a1, r2, x2⟩
  go_wp2_with fail
  refine (pick_any rb _ 9 _ r2 (by omega) (by omega) (by omega)).mono ?_
  rintro e w3 ⟨b, rfl, a2, a3, r3, x3⟩
  go_wp2_with fail
  refine (pick_any rb _ 9 _ r3 (by omega) (by omega) (by omega)).mono ?_
  rintro e w4 ⟨c, rfl, a4, a5, r4, x4⟩
  have hr4 := r4.lt
  have HX4 := Lib.hid ((x2.trans x3).trans x4)
  have HB1 := Lib.hid b1
  have HR4 := Lib.hid r4
  have hz4 := HX4.out.size
  have HRow : Hid (Row 3 1 (one encI) w4.heap.size (w4.alloc (.cells #[.int .i64 a, .int .i64 b, .int .i64 c] 3)) (.slice (some ⟨w4.heap.size, 0, none⟩) 3 3) [a, b, c]) := Row.lit (m := 1) (enc := one encI) w4 #[.int .i64 a, .int .i64 b, .int .i64 c] 3 [a, b, c] rfl (by simp)
  clear b1 r1 r2 r3 r4 x2 x3 x4 a0 a1 a2 a3 a4 a5
  go_wp2_with fail
  refine (odd_any rb _ 12 _ (HR4.out.alloc _) (by omega) (by omega)).mono ?_
  rintro e w5 ⟨k, rfl, r5, x5⟩
  have HX5 := Lib.hid ((HX4.out.alloc _).trans x5)
  have HR5 := Lib.hid r5
  have HRow5 := Lib.hid (HRow.out.ex x5 hr4)
  clear r5 x5 HRow HR4
  cases k
  case' false =>
    obtain ⟨vs, hvs⟩ : ∃ vs, [a, b, c] = vs := ⟨_, rfl⟩
    have hvl : vs.length = 3 := by rw [← hvs]; rfl
    have HRow7 := HRow5
    have HX7 := HX5
    have HR7 : Hid (Rd w5 rb 200) := HR5.out.mono (by omega)
    rw [hvs] at HRow7
    clear hvs HRow5 HR5
    go_wp2_with fail
  case' true =>
    go_wp2_with fail
    refine (pick_any rb _ 2 _ (HR5.out.alloc _) (by omega) (by omega) (by omega)).mono ?_
    rintro e w6 ⟨i, rfl, i0, i1, r6, x6⟩
    obtain ⟨i, rfl⟩ := Int.eq_ofNat_of_zero_le i0
    have hr5 := HR5.out.lt
    obtain ⟨u, cu, y, rfl, hy⟩ := lit_at (fun v => ∃ y : Int, v = .int .i64 y ∧ smI y) x6 hr5 i (by simp; omega) (by simp [smI])
    have HRow6 := Lib.hid ((HRow5.out.ext ((Ext.refl _).alloc (.cells #[.int .i64 (-1), .int .i64 100] 3))).ex x6 hr4)
    have HX6 := Lib.hid ((HX5.out.alloc (.cells #[.int .i64 (-1), .int .i64 100] 3)).trans x6)
    have HR6 := Lib.hid r6
    obtain ⟨A', c', hA', hcell'⟩ := id HRow6.out.cell.1
    injection hA' with e1 e4 e3
    subst e1
    obtain ⟨b', off', hb', hlt', hcl⟩ := hcell' (by simp)
    injection hb' with hb'
    injection hb' with e5 e6
    subst e5 e6
    have c0 := hcl 0 a rfl 0 (by omega)
    simp only [Nat.zero_add, Nat.mul_one, Nat.add_zero, one, encI] at c0
    have f0 : w6.frozen? ⟨w4.heap.size, 0, none⟩ = false := HRow6.out.cell.2.cell_free (by simp) _
    have hset := Row.set1 HRow6.out 0 y
    have HX7 := Lib.hid (HX6.out.grown hset.2 (fun k hk => by injection hk with hk; omega))
    have HR7 : Hid (Rd (w6.setCell ⟨w4.heap.size, 0, none⟩ (.int .i64 y)) rb 200) := (HR6.out.grown hset.2 (fun k hk => by injection hk with hk; omega)).mono (by omega)
    have HRow7 := Lib.hid hset.1
    obtain ⟨vs, hvs⟩ : ∃ vs, [a, b, c].set 0 y = vs := ⟨_, rfl⟩
    have hvl : vs.length = 3 := by rw [← hvs]; rfl
    rw [hvs] at HRow7
    clear hcl hcell' e4 e3 hset hvs HRow6 HX6 HR6 r6 x6 HRow5 HR5 hy
    go_wp2_with fail
    obtain ⟨w7, hw7⟩ : ∃ w7, w6.setCell ⟨w4.heap.size, 0, none⟩ (.int .i64 y) = w7 := ⟨_, rfl⟩
    rw [hw7] at HX7 HR7 HRow7 ⊢
  all_goals
    have HVL := Lib.hid hvl
    clear hvl
    refine (odd_any rb _ 14 _ HR7.out (by omega) (by omega)).mono ?_
    rintro e w8 ⟨k2, rfl, r8, x8⟩
    have HX8 := Lib.hid (HX7.out.trans x8)
    have HRow8 := Lib.hid (HRow7.out.ex x8 hr4)
    have HR8 := Lib.hid r8
    clear HX7 HRow7 HR7 r8 x8
    cases k2 with
    | false =>
      go_wp2_with fail
      refine (l20Redo_any rb _ 12 _ HR8.out (by omega) (by omega)).mono ?_
      rintro e w9 ⟨u, xs, rfl, hrow, hphi, r9, x9⟩
      have HE := Lib.hid (HB1.out.ex (HX8.out.trans x9) hl)
      have HP := Lib.hid hphi
      have HW := Lib.hid (hrow.lower (show w.heap.size ≤ w8.heap.size from Nat.le_trans HB1.out.size HX8.out.size))
      have HV := Lib.hid (HRow8.out.ex x9 hr4).cell.1.to1
      clear hrow hphi r9 x9
      go_wp2
      go_returns
      exact ⟨_, u, vs, xs, rfl, HV.out, by have := HVL.out; omega, HW.out, HP.out, HE.out⟩
    | true =>
      have hsl2 : SlOf 1 (one encI) w8 (.slice (some ⟨w4.heap.size, 0, none⟩) vs.length 3) vs := by rw [HVL.out]; exact HRow8.out.cell.1
      have hpt := (hsl2.part 1 vs.length (by have := HVL.out; omega) (Nat.le_refl _) (by have := HVL.out; omega)).1
      rw [HVL.out] at hpt
      have HPT : Hid (SlOf 1 (one encI) w8 (.slice (some ⟨w4.heap.size, 1, none⟩) 2 2) (part vs 1 3)) := by
        show SlOf 1 (one encI) w8 (.slice (some ⟨w4.heap.size, 1, none⟩) 2 2) (part vs 1 3)
        simpa [Addr.add] using hpt
      have hpl : (part vs 1 3).length ≤ 3 := by rw [part_len (by have := HVL.out; omega)]; omega
      have HPL := Lib.hid hpl
      have HOF : Hid (Off rb (.slice (some ⟨w4.heap.size, 1, none⟩) 2 2)) := by
        show Off rb _
        intro a n c h hn e
        injection h with h1 _ _
        injection h1 with h1
        subst h1
        simp at e
        omega
      clear hsl2 hpt hpl HRow8
      go_wp2_with fail
      refine (l20Redo_any rb _ 12 _ HR8.out (by omega) (by omega)).mono ?_
      rintro e w9 ⟨u, xs, rfl, hrow, hphi, r9, x9⟩
      have HE := Lib.hid (HB1.out.ex (HX8.out.trans x9) hl)
      have HP := Lib.hid hphi
      have HW := Lib.hid (hrow.lower (show w.heap.size ≤ w8.heap.size from Nat.le_trans HB1.out.size HX8.out.size))
      have HV := Lib.hid ((HPT.out.off x9 (HOF.out))).to1
      clear hrow hphi r9 x9
      go_wp2
      go_returns
      exact ⟨_, u, part vs 1 3, xs, rfl, HV.out, HPL.out, HW.out, HP.out, HE.out⟩
end Go.Proofs.YtiggckhlbklngaaDoor
