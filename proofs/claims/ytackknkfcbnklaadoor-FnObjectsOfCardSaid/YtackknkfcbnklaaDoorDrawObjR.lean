/- The draws of objects and answers. -/
import Derived.Test.YtackknkfcbnklaaDoorDrawObj
import Derived.Test.YtackknkfcbnklaaDoorObjSR
namespace Go.Proofs.YtackknkfcbnklaaDoor
open Go.RowKit
set_option maxRecDepth 8000

theorem QRow.ex {E base rb : Nat} {W W' : World} {v : Value} {xs : List Int} (h : QRow E base W v xs) (hx : Ex rb W W') (hr : rb < base) : QRow E base W' v xs :=
  h.same fun g hg => World.grownBy.block hx g (h.lt hg).1 (by have := (h.lt hg).2.1; simp; omega)
theorem QRow.val {E base lo : Nat} {W : World} {v : Value} {xs : List Int} (h : QRow E base W v xs) (hl : lo ≤ base) : Val 1 (one encI) lo W v xs := by
  refine ⟨h.sl1.of_, h.owned.mono hl, fun A n c hv => ?_⟩
  obtain ⟨A', c', hv', h1, h2⟩ := h.shape
  rw [hv] at hv'
  injection hv' with e1 e2 e3
  subst e2 e3
  simp only [maxLen] at h2
  omega
theorem Val.kept {α : Type} {m lo : Nat} {enc : α → Nat → Value} {w w' : World} {v : Value} {xs : List α} {row : Option Nat} (h : Val m enc lo w v xs) (hg : w.grownBy w' row) (hr : ∀ a n c, v = .slice (some a) n c → 0 < n → some a.block ≠ row) : Val m enc lo w' v xs := by
  refine ⟨?_, fun a n c hv hn => ?_, h.2.2⟩
  · obtain ⟨A, c, hA, h1⟩ := h.1
    refine ⟨A, c, hA, fun hn => ?_⟩
    obtain ⟨b, off, hb, hlt, hc⟩ := h1 hn
    have hne := hr ⟨b, off, none⟩ xs.length c (by rw [hA, hb]) hn
    refine ⟨b, off, hb, Nat.lt_of_lt_of_le hlt hg.size, fun i x hi j hj => ?_⟩
    first
      | exact World.grownBy.cell hg (hc i x hi j hj) hne
      | exact World.grownBy.cell hg (hc i x hi j hj) (fun e => hne e.symm)
      | exact World.grownBy.cell hg (hc i x hi j hj) hne.symm
  · obtain ⟨h1, h2, h3⟩ := h.2.1 a n c hv hn
    refine ⟨h1, Nat.lt_of_lt_of_le h2 hg.size, fun i => ?_⟩
    rw [← h3 i]
    exact World.frozen?_of_block (a := ⟨a.block, i, none⟩) (hg.block a.block h2 (hr a n c hv hn))
/-- A kind, calls and answers were drawn. -/
def DrawnKOO (w : World) (en : Ending) (w' : World) : Prop := ∃ v xs u ys, ∃ k : Int, en = .returned (.tuple #[.int .i64 k, v, u]) ∧ Val 1 (one encI) w.heap.size w' v xs ∧ Val 1 (one encI) w.heap.size w' u ys ∧ drawnAsk xs ∧ ys.length ≤ 21 ∧ Ext w w'
set_option maxHeartbeats 8000000 in
theorem DrawObjectRight_any {v : Value} (w : World) (h : CodeIn w v) : Calls Tryd.prog 11 #[v] w (DrawnKOO w) := by
  have H := Lib.hid h
  clear h
  go_enter Tryd.func11, Tryd.ntmps11
  go_wp2_with fail
  refine (open_code _ H.out).mono ?_
  rintro e w1 ⟨rb, rfl, hl, r1, b1⟩
  have hrl := r1.lt
  go_wp2_with fail
  refine (pick_any rb _ 8 _ ((r1.alloc _).alloc _) (by omega) (by omega) (by omega)).mono ?_
  rintro e w2 ⟨i, rfl, i0, i1, r2, x2⟩
  obtain ⟨i, rfl⟩ := Int.eq_ofNat_of_zero_le i0
  obtain ⟨u, cu, y, rfl, y0, y1⟩ := lit_at (fun v => ∃ y : Nat, v = .int .i64 (y : Int) ∧ 0 ≤ y ∧ y ≤ 4) x2 (by simp; omega) i (by simp; omega) (by simp only [List.forall_mem_cons]; exact ⟨⟨0, rfl, by omega, by omega⟩, ⟨0, rfl, by omega, by omega⟩, ⟨1, rfl, by omega, by omega⟩, ⟨1, rfl, by omega, by omega⟩, ⟨2, rfl, by omega, by omega⟩, ⟨2, rfl, by omega, by omega⟩, ⟨3, rfl, by omega, by omega⟩, ⟨4, rfl, by omega, by omega⟩, fun _ h => by cases h⟩)
  have x2' := ((Ex.refl rb (w1.alloc (.cells #[.int .i64 1, .int .i64 2, .int .i64 3, .int .i64 0, .int .i64 4] 3))).alloc (.cells #[.int .i64 0, .int .i64 0, .int .i64 1, .int .i64 1, .int .i64 2, .int .i64 2, .int .i64 3, .int .i64 4] 3)).trans x2
  obtain ⟨u2, cu2, k, rfl⟩ := lit_at (fun v => ∃ y : Int, v = .int .i64 y) x2' hrl y (by simp; omega) (by simp)
  simp only [World.size_alloc] at cu
  have R2 := Lib.hid r2
  have X2 := Lib.hid (((Ex.refl rb w1).alloc _).trans x2')
  have B1 := Lib.hid b1
  clear r1 r2 x2 x2' b1
  go_wp2_with fail
  refine (l20Asked_any rb _ _ R2.out (by omega)).mono ?_
  rintro e w3 ⟨v3, xs, rfl, hv, hp, r3, x3⟩
  have hrl2 : rb < w2.heap.size := Nat.lt_of_lt_of_le hrl X2.out.size
  have hrl3 : rb < w3.heap.size := Nat.lt_of_lt_of_le hrl2 x3.size
  have HVB : Hid (∀ a n c, v3 = .slice (some a) n c → 0 < n → a.block < w3.heap.size) := fun a n c e hn => (hv.2.1 a n c e hn).2.1
  have HV := Lib.hid hv
  have X3 := Lib.hid (X2.out.trans x3)
  have HP := Lib.hid hp
  have R3 := Lib.hid r3
  clear cu cu2 hv hp r3 x3 R2
  go_wp2_with fail
  refine (pick_any rb _ 4 _ (R3.out.alloc _) (by omega) (by omega) (by omega)).mono ?_
  rintro e w4 ⟨j, rfl, j0, j1, r4, x4⟩
  obtain ⟨j, rfl⟩ := Int.eq_ofNat_of_zero_le j0
  obtain ⟨u4, cu4, kk, rfl⟩ := lit_at (fun v => ∃ y : Int, v = .int .i64 y) x4 hrl3 j (by simp; omega) (by simp)
  have x4' := ((Ex.refl rb w3).alloc (.cells #[.int .i64 k, .int .i64 1, .int .i64 2, .int .i64 3] 3)).trans x4
  have HV4 := Lib.hid (HV.out.ex x4' hrl2)
  have X4 := Lib.hid (X3.out.trans x4')
  have hs34 : w3.heap.size ≤ w4.heap.size := x4'.size
  have R4 := Lib.hid r4
  clear r4 x4 x4' R3 HV
  go_wp2_with fail
  refine (spec_ObjectRunQ kk _ HV4.out.1.to1 (by have : xs.length ≤ 21 := HP.out; omega)).mono ?_
  rintro e w5 ⟨v5, rfl, hq, b5⟩
  have hyl := objL_len kk xs
  obtain ⟨ys, hys⟩ : ∃ ys, objL kk xs = ys := ⟨_, rfl⟩
  rw [hys] at hq hyl
  have HQ5 := Lib.hid hq
  have HV5 := Lib.hid (HV4.out.ext b5)
  have X5 := Lib.hid (X4.out.ext b5)
  have R5 := Lib.hid (R4.out.ext b5)
  have hrl4 : rb < w4.heap.size := by omega
  have hs45 : w4.heap.size ≤ w5.heap.size := b5.size
  clear hys b5 hq R4 X4 HV4 cu4
  obtain ⟨A5, c5, rfl, -, -⟩ := HQ5.out.shape
  go_wp2_with fail
  refine (odd_any rb _ 4 _ R5.out (by omega) (by omega)).mono ?_
  rintro e w6 ⟨o, rfl, r6, x6⟩
  have HQ6 := Lib.hid (HQ5.out.ex x6 hrl4)
  have HV6 := Lib.hid (HV5.out.ex x6 hrl2)
  have X6 := Lib.hid (X5.out.trans x6)
  have R6 := Lib.hid r6
  have hs46 : w4.heap.size ≤ w6.heap.size := Nat.le_trans hs45 x6.size
  clear r6 x6 HQ5 HV5 X5 R5
  have hcase : o = false ∨ (o = true ∧ ys.length = 0) ∨ (o = true ∧ 0 < ys.length) := by
    cases o
    · exact .inl rfl
    · by_cases h : ys.length = 0
      · exact .inr (.inl ⟨rfl, h⟩)
      · exact .inr (.inr ⟨rfl, by omega⟩)
  rcases hcase with rfl | ⟨rfl, h0⟩ | ⟨rfl, h0⟩
  case' inl =>
    obtain ⟨zs, hzs⟩ : ∃ zs, ys = zs := ⟨_, rfl⟩
    have hzl : zs.length ≤ 20 := by rw [← hzs]; exact hyl
    have HQ7 := HQ6
    have HV7 := HV6
    have X7 := X6
    have R7 : Hid (Rd w6 rb 1000) := R6.out.mono (by omega)
    have hs47 := hs46
    have hsl : ys.length = zs.length := by rw [hzs]
    rw [hzs] at HQ7
    rw [hsl]
    clear HQ6 HV6 X6 R6 hs46 hzs hyl hsl
    go_wp2_with fail
  case' inr.inl =>
    obtain ⟨zs, hzs⟩ : ∃ zs, ys = zs := ⟨_, rfl⟩
    have hzl : zs.length ≤ 20 := by rw [← hzs]; exact hyl
    have HQ7 := HQ6
    have HV7 := HV6
    have X7 := X6
    have R7 : Hid (Rd w6 rb 1000) := R6.out.mono (by omega)
    have hs47 := hs46
    rw [h0] at HQ7 ⊢
    rw [hzs] at HQ7
    clear HQ6 HV6 X6 R6 hs46 hzs hyl h0
    go_wp2_with fail
  case' inr.inr =>
    obtain ⟨g, off, c, hve, -, -, -, hfro⟩ := HQ6.out.slot h0
    injection hve with e1 _ e2
    subst e1 e2
    have hh0 : ((ys.length : Int) > 0) := by omega
    have HFRO := Lib.hid hfro
    clear hfro
    go_wp2_with fail
    refine (pick_any rb _ (ys.length : Int) _ R6.out (by omega) (by omega) (by omega)).mono ?_
    rintro e w7 ⟨a, rfl, a0, a1, r7, x7⟩
    obtain ⟨a, rfl⟩ := Int.eq_ofNat_of_zero_le a0
    go_wp2_with fail
    refine (pick_any rb _ 6 _ r7 (by omega) (by omega) (by omega)).mono ?_
    rintro e w8 ⟨z, rfl, z0, z1, r8, x8⟩
    have HQ8 := Lib.hid (HQ6.out.ex (x7.trans x8) hrl4)
    have hal : a < ys.length := by omega
    obtain ⟨_, _, _, hve, -, -, hcell8, hfro8⟩ := HQ8.out.slot h0
    injection hve with e1 _ e2
    injection e1 with e1
    injection e1 with e1 e3
    subst e1 e2 e3
    have d8 := hcell8 a _ (gD_at hal)
    have f8 := hfro8 (off + a)
    have hgb : w4.heap.size ≤ g := (HQ8.out.lt rfl).2.1
    obtain ⟨zs, hzs⟩ : ∃ zs, ys.set a z = zs := ⟨_, rfl⟩
    have hzl : zs.length ≤ 20 := by rw [← hzs, List.length_set]; exact hyl
    have HQ7 := Lib.hid (HQ8.out.put hal z)
    have hgs := grownBy_set w8 g (off + a) (.int .i64 z)
    have HV7 := Lib.hid ((HV6.out.ex (x7.trans x8) hrl2).kept hgs (fun b n c e hn => by have := HVB.out b n c e hn; simp; omega))
    have X7 := Lib.hid ((X6.out.trans (x7.trans x8)).grown hgs (fun k hk => by injection hk with hk; have := X3.out.size; omega))
    have R7 : Hid (Rd (w8.setCell ⟨g, off + a, none⟩ (.int .i64 z)) rb 1000) := (r8.grown hgs (fun k hk => by injection hk with hk; omega)).mono (by omega)
    have hs47 : w4.heap.size ≤ (w8.setCell ⟨g, off + a, none⟩ (.int .i64 z)).heap.size := Nat.le_trans (Nat.le_trans hs46 (x7.trans x8).size) hgs.size
    rw [hzs] at HQ7
    clear HQ6 HV6 X6 R6 hs46 hzs hyl r7 x7 r8 x8 hcell8 hfro8 HQ8 hgs HFRO
    go_wp2_with fail
  all_goals
    refine (odd_any rb _ 14 _ R7.out (by omega) (by omega)).mono ?_
    rintro e w9 ⟨o2, rfl, r9, x9⟩
    have HQ9 := Lib.hid (HQ7.out.ex x9 hrl4)
    have HV9 := Lib.hid (HV7.out.ex x9 hrl2)
    have X9 := Lib.hid (X7.out.trans x9)
    have hs49 := Nat.le_trans hs47 x9.size
    clear r9 x9 HQ7 HV7 X7 R7
    cases o2 with
    | false =>
      go_wp2
      go_returns
      exact ⟨v3, xs, _, zs, k, rfl, HV9.out.lower (Nat.le_trans B1.out.size X2.out.size), HQ9.out.val (by have := B1.out.size; have := X3.out.size; omega), HP.out, by omega, B1.out.ex X9.out hl⟩
    | true =>
      obtain ⟨v', w', hrun, hq, hgr, -⟩ := q_push (P := Tryd.prog) (t := 23) (ty := 23) Tryd.underlying23 qinfo HQ9.out 0 (by omega) hs49
      have HRUN := Lib.hid hrun
      have HQA := Lib.hid hq
      have HVA := Lib.hid ((HV9.out.ext ((Ext.refl _).alloc (.cells #[.int .i64 0] 3))).kept hgr (fun b n c e hn he => by have := HVB.out b n c e hn; have := (HQ9.out.lt he.symm).2.1; omega))
      have XA := Lib.hid ((X9.out.alloc (.cells #[.int .i64 0] 3)).grown hgr (fun k hk => by have := (HQ9.out.lt hk).2.1; have := X3.out.size; omega))
      clear hrun hq hgr
      go_wp2_with (at_builtin; refine wpList_append_run rfl rfl rfl rfl HRUN.out ?_)
      go_returns
      exact ⟨v3, xs, _, _, k, rfl, HVA.out.lower (Nat.le_trans B1.out.size X2.out.size), HQA.out.val (by have := B1.out.size; have := X3.out.size; omega), HP.out, by simp; omega, B1.out.ex XA.out hl⟩
/-- Calls and answers were drawn. -/
def DrawnOO (w : World) (en : Ending) (w' : World) : Prop := ∃ v xs u ys, en = .returned (.tuple #[v, u]) ∧ Val 1 (one encI) w.heap.size w' v xs ∧ Val 1 (one encI) w.heap.size w' u ys ∧ drawnAsk xs ∧ ys.length ≤ 21 ∧ Ext w w'
theorem DrawObjectsOf_any {v : Value} (w : World) (h : CodeIn w v) : Calls Tryd.prog 14 #[v] w (DrawnOO w) := by
  have H := Lib.hid h
  clear h
  go_enter Tryd.func14, Tryd.ntmps14
  go_wp2_with fail
  refine (DrawObjectRight_any _ H.out).mono ?_
  rintro e w1 ⟨v, xs, u, ys, k, rfl, h1, h2, h3, h4, h5⟩
  have HH := Lib.hid (And.intro h1 (And.intro h2 (And.intro h3 (And.intro h4 h5))))
  clear h1 h2 h3 h4 h5
  go_wp2
  go_returns
  exact ⟨v, xs, u, ys, rfl, HH.out⟩
end Go.Proofs.YtackknkfcbnklaaDoor
