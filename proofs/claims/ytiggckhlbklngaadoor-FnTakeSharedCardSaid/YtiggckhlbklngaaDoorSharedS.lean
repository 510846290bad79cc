/- Shared sets: what laws compare; the reference's side. -/
import Derived.Test.YtiggckhlbklngaaDoorSharedP
import Derived.Test.YtiggckhlbklngaaDoorSameI
import Derived.Test.YtiggckhlbklngaaDoorSetHas
namespace Go.Proofs.YtiggckhlbklngaaDoor
open Go.RowKit
set_option maxRecDepth 8000

/-- Whether numbers ascend, place by place. -/
def goodS (xs : List Int) (k : Nat) : Bool := inB (xs.getD k 0) 0 30 && (decide (k = 0) || decide (xs.getD (k - 1) 0 < xs.getD k 0))
theorem goodS_take {xs : List Int} : ∀ q, q ≤ xs.length → (∀ i, i < q → goodS xs i = true) → okS (xs.take q) := by
  intro q
  induction q with
  | zero => intro _ _; exact okS_nil
  | succ q ih =>
    intro hq h
    have h0 := ih (by omega) fun i hi => h i (by omega)
    obtain ⟨x, hx⟩ := at_some (show q < xs.length by omega)
    have hg := h q (by omega)
    unfold goodS at hg
    rw [Bool.and_eq_true, Bool.or_eq_true, decide_eq_true_eq, decide_eq_true_eq] at hg
    have hxg : xs.getD q 0 = x := by rw [List.getD_eq_getElem?_getD, hx]; rfl
    rw [hxg] at hg
    have hb := inB_true.1 hg.1
    rw [List.take_add_one, hx, Option.toList_some]
    refine okS_snoc.2 ⟨h0, inB_true.2 ⟨?_, hb.2⟩⟩
    rcases Nat.eq_zero_or_pos q with e | e
    · subst e; simp [lastOf]; omega
    · obtain ⟨y, hy⟩ := at_some (show q - 1 < xs.length by omega)
      have hyg : xs.getD (q - 1) 0 = y := by rw [List.getD_eq_getElem?_getD, hy]; rfl
      have hlast : lastOf (xs.take q) = y := by
        have : xs.take q = xs.take (q - 1) ++ [y] := by
          have h1 := List.take_add_one (l := xs) (i := q - 1)
          rw [hy, Option.toList_some] at h1
          rw [← h1]; congr 1; omega
        rw [this, lastOf_snoc]
      rw [hlast]
      rcases hg.2 with h1 | h1
      · omega
      · rw [hyg] at h1; omega
theorem okS_good {xs : List Int} (h : okS xs) {k : Nat} (hk : k < xs.length) : goodS xs k = true := by
  obtain ⟨x, hx⟩ := at_some hk
  have hxg : xs.getD k 0 = x := by rw [List.getD_eq_getElem?_getD, hx]; rfl
  unfold goodS
  rw [hxg, inB_true.2 (h.1 x (List.mem_of_getElem? hx)), Bool.true_and, Bool.or_eq_true, decide_eq_true_eq, decide_eq_true_eq]
  rcases Nat.eq_zero_or_pos k with e | e
  · exact .inl e
  · right
    have ha := h.2
    unfold Asc at ha
    rw [List.pairwise_iff_getElem] at ha
    have h1 := ha (k - 1) k (by omega) hk (by omega)
    have hyg : xs.getD (k - 1) 0 = xs[k - 1] := by rw [List.getD_eq_getElem?_getD, List.getElem?_eq_getElem (by omega)]; rfl
    have hxk : xs[k] = x := by have := List.getElem?_eq_getElem hk; rw [hx] at this; exact (Option.some.inj this).symm
    rw [hyg]
    omega
theorem okS_all {xs : List Int} : okS xs ↔ ∀ i, i < xs.length → goodS xs i = true :=
  ⟨fun h i hi => okS_good h hi, fun h => by have := goodS_take xs.length (Nat.le_refl _) h; rwa [List.take_length] at this⟩
set_option maxHeartbeats 2000000 in
theorem l30Sorted_any {v : Value} {xs : List Int} (w : World) (h : Sl1 encI w v xs) (hlen : xs.length ≤ 2097152) :
    Calls Tryd.prog 76 #[v] w fun e w' => e = .returned (.bool (decide (okS xs))) ∧ Ext w w' := by
  obtain ⟨A, c, rfl, hc⟩ := id h
  have HC := Lib.hid hc
  clear h hc
  obtain ⟨B, hB⟩ : ∃ B, decide (okS xs) = B := ⟨_, rfl⟩
  have HB := Lib.hid hB
  rw [hB]
  clear hB
  go_enter Tryd.func76, Tryd.ntmps76
  go_wp2
  go_loopw [3] (fun i wr => Ext w wr ∧ ∃ q : Nat, q ≤ xs.length ∧ i = .int .i64 q ∧ Hid (∀ i, i < q → goodS xs i = true)) (fun i _ => xs.length - (intOf i).toNat)
  case atStart => exact ⟨Ext.refl _, 0, Nat.zero_le _, rfl, fun _ h => absurd h (Nat.not_lt_zero _)⟩
  case round =>
    obtain ⟨hb, q, hq, rfl, HI⟩ := hrel
    by_cases hlt : q < xs.length
    · obtain ⟨b, off, rfl, hbl, hcell⟩ := HC.out (by omega)
      obtain ⟨x, hx⟩ := at_some hlt
      have c0 : ∀ e, (over wr e).cell? ⟨b, off + q, none⟩ = some (.int .i64 x) := over_cell (hb.cell (hcell q x hx))
      have hxg : xs.getD q 0 = x := by rw [List.getD_eq_getElem?_getD, hx]; rfl
      have HXG := Lib.hid hxg
      have HCELL := Lib.hid hcell
      have HBAD : Hid (goodS xs q = false → B = false) := fun hg => by
        rw [← HB.out]
        refine decide_eq_false fun hok => ?_
        rw [okS_good hok hlt] at hg
        cases hg
      clear hxg hx hcell
      cases hin : inB x 0 30 with
      | false =>
        have hf := Lib.hid (HBAD.out (by unfold goodS; rw [HXG.out, hin]; rfl))
        go_wp2
        refine wp_region_over (by kernel_rfl) (by kernel_rfl) ?_
        repeat (go_big_quiet_step ((go_at_call 38; exact quiet_same (l1In_any _ _ _ _))))
        refine wpQuiet_nil ?_
        intro w5 hb5
        go_wp2
        go_returns
        exact ⟨ret_bool hf.out.symm, hb.trans hb5⟩
      | true =>
        cases q with
        | zero =>
          rw [Nat.add_zero] at c0
          have HN : Hid (∀ i, i < 1 → goodS xs i = true) := fun i hi => by
            obtain rfl : i = 0 := by omega
            unfold goodS; rw [HXG.out, hin]; rfl
          go_wp2
          refine wp_region_over (by kernel_rfl) (by kernel_rfl) ?_
          repeat (go_big_quiet_step ((go_at_call 38; exact quiet_same (l1In_any _ _ _ _))))
          refine wpQuiet_nil ?_
          intro w5 hb5
          go_wp2
          go_roundw
          case rel => exact ⟨hb.trans hb5, 1, by omega, by go_num, HN.out⟩
          case measure => simp [intOf]; omega
        | succ p =>
          obtain ⟨y, hy⟩ := at_some (show p < xs.length by omega)
          have d0 : ∀ e, (over wr e).cell? ⟨b, off + p, none⟩ = some (.int .i64 y) := over_cell (hb.cell (HCELL.out p y hy))
          have hyg : xs.getD p 0 = y := by rw [List.getD_eq_getElem?_getD, hy]; rfl
          have HG : Hid (goodS xs (p + 1) = decide (y < x)) := by
            show _ = _
            unfold goodS; rw [HXG.out, hin, Nat.add_sub_cancel, hyg]; simp
          obtain ⟨q, hpq⟩ : ∃ q, p + 1 = q := ⟨_, rfl⟩
          rw [hpq] at c0 hlt hq HI HG HBAD ⊢
          have hqi : (q : Int) - 1 = (p : Int) := by omega
          have hq0 : decide (0 < q) = true := by rw [decide_eq_true_eq]; omega
          have hpl : p < xs.length := by omega
          clear hy hyg HXG hpq
          by_cases hyx : y < x
          · have hxy : decide (x ≤ y) = false := by rw [decide_eq_false_iff_not]; omega
            have HN : Hid (∀ i, i < q + 1 → goodS xs i = true) := fun i hi => by
              by_cases e : i = q
              · subst e; rw [HG.out]; exact decide_eq_true hyx
              · exact HI.out i (by omega)
            clear hyx
            go_wp2
            refine wp_region_over (by kernel_rfl) (by kernel_rfl) ?_
            repeat (go_big_quiet_step ((go_at_call 38; exact quiet_same (l1In_any _ _ _ _))))
            refine wpQuiet_nil ?_
            intro w5 hb5
            go_wp2
            go_roundw
            case rel => exact ⟨hb.trans hb5, q + 1, by omega, by go_num, HN.out⟩
            case measure => simp [intOf]; omega
          · have hxy : decide (x ≤ y) = true := by rw [decide_eq_true_eq]; omega
            have hf := Lib.hid (HBAD.out (by rw [HG.out]; exact decide_eq_false hyx))
            clear hyx
            go_wp2
            refine wp_region_over (by kernel_rfl) (by kernel_rfl) ?_
            repeat (go_big_quiet_step ((go_at_call 38; exact quiet_same (l1In_any _ _ _ _))))
            refine wpQuiet_nil ?_
            intro w5 hb5
            go_wp2
            go_returns
            exact ⟨ret_bool hf.out.symm, hb.trans hb5⟩
    · obtain rfl : q = xs.length := by omega
      have hf : Hid (B = true) := by show _ = _; rw [← HB.out]; exact decide_eq_true (okS_all.2 HI.out)
      go_wp2
      go_returns
      exact ⟨ret_bool hf.out.symm, hb⟩
set_option maxHeartbeats 2000000 in
theorem spec_SharedValid {vi vo : Value} {i o : List Int} (w : World) (hi : Sl1 encI w vi i) (ho : Sl1 encI w vo o) (hli : i.length ≤ 1000000) (hlo : o.length ≤ 1000000) :
    Calls Tryd.prog 61 #[.agg #[vi, vo]] w fun e w' => e = .returned (.bool (okSh i o)) ∧ Ext w w' := by
  have hE : Ext w (w.alloc (.cells #[vi, vo] 40)) := (Ext.refl w).alloc _
  have HI := Lib.hid (hi.ext hE)
  have HO := Lib.hid (ho.ext hE)
  obtain ⟨A, c, rfl, hc⟩ := ho.ext hE
  have HC := Lib.hid hc
  have HE := Lib.hid hE
  obtain ⟨r, hr⟩ : ∃ r, okSh i o = r := ⟨_, rfl⟩
  have HR := Lib.hid hr
  rw [hr]
  clear hi ho hE hc hr
  have hb0 : (w.alloc (.cells #[vi, .slice A o.length c] 40)).cell? ⟨w.heap.size, 0, none⟩ = some vi := by rw [cell_of_row _ _ _ _ _ (0, 0) (heap_alloc_new w _)]; rfl
  have hb1 : (w.alloc (.cells #[vi, .slice A o.length c] 40)).cell? ⟨w.heap.size, 1, none⟩ = some (.slice A o.length c) := by rw [cell_of_row _ _ _ _ _ (0, 0) (heap_alloc_new w _)]; rfl
  go_enter Tryd.func61, Tryd.ntmps61
  obtain ⟨W0, hW0⟩ : ∃ W0, w.alloc (.cells #[vi, .slice A o.length c] 40) = W0 := ⟨_, rfl⟩
  go_wp2
  rw [hW0] at HI HO HC HE hb0 hb1
  have HB0 := Lib.hid hb0
  have HB1 := Lib.hid hb1
  clear hb0 hb1
  go_loopw [3] (fun k wr => Ext W0 wr ∧ ∃ q : Nat, q ≤ o.length ∧ k = .int .i64 q ∧ Hid (∀ j y, j < q → o[j]? = some y → (i.any fun x => x == y) = true)) (fun k _ => o.length - (intOf k).toNat)
  case atStart => exact ⟨by rw [← hW0]; exact Ext.refl _, 0, Nat.zero_le _, rfl, fun _ _ h => absurd h (Nat.not_lt_zero _)⟩
  case round =>
    obtain ⟨hb, q, hq, rfl, HH⟩ := hrel
    have HBW := Lib.hid hb
    by_cases hlt : q < o.length
    · obtain ⟨b, off, rfl, hbl, hcell⟩ := HC.out (by omega)
      obtain ⟨y, hy⟩ := at_some hlt
      have e0 := over_cell (hb.cell HB0.out)
      have e1 := over_cell (hb.cell HB1.out)
      have e1' := hb.cell HB1.out
      have c0 : ∀ e, (over wr e).cell? ⟨b, off + q, none⟩ = some (.int .i64 y) := over_cell (hb.cell (hcell q y hy))
      have hcall := fun e => l30Has_any y (over wr e) ((HI.out.ext hb).ext (over_below wr e)) hli
      have HY := Lib.hid hy
      clear hcell hy hb
      cases hin : (i.any fun x => x == y) with
      | false =>
        rw [hin] at hcall
        have HCALL := Lib.hid hcall
        have hf : Hid (r = false) := by
          show _ = _
          rw [← HR.out]
          cases h : okSh i o with
          | false => rfl
          | true =>
            have := (okSh_true.1 h).2.2 y (List.mem_of_getElem? HY.out)
            rw [List.any_eq_false] at hin
            exact absurd (by simp) (hin y this)
        clear hcall hin
        go_wp2
        refine wp_region_over (by kernel_rfl) (by kernel_rfl) ?_
        repeat (go_big_quiet_step ((go_at_call 50; exact quiet_same (HCALL.out _))))
        refine wpQuiet_nil ?_
        intro w5 hb5
        go_wp2
        go_returns
        exact ⟨ret_bool hf.out.symm, (HE.out.trans HBW.out).trans hb5⟩
      | true =>
        rw [hin] at hcall
        have HCALL := Lib.hid hcall
        have HN : Hid (∀ j z, j < q + 1 → o[j]? = some z → (i.any fun x => x == z) = true) := fun j z hj hz => by
          by_cases e : j = q
          · subst e; rw [HY.out] at hz; cases hz; exact hin
          · exact HH.out j z (by omega) hz
        clear hcall hin
        go_wp2
        refine wp_region_over (by kernel_rfl) (by kernel_rfl) ?_
        repeat (go_big_quiet_step ((go_at_call 50; exact quiet_same (HCALL.out _))))
        refine wpQuiet_nil ?_
        intro w5 hb5
        go_wp2
        go_roundw
        case rel => exact ⟨HBW.out.trans hb5, q + 1, by omega, by go_num, HN.out⟩
        case measure => simp [intOf]; omega
    · obtain rfl : q = o.length := by omega
      have hall : (o.all fun y => i.any fun x => x == y) = true := by
        rw [List.all_eq_true]
        intro y hy
        obtain ⟨j, hj⟩ := List.getElem?_of_mem hy
        exact HH.out j y (List.getElem?_eq_some_iff.1 hj).1 hj
      have hrr : r = (decide (okS i) && decide (okS o)) := by rw [← HR.out]; unfold okSh; rw [hall, Bool.and_true]
      have HRR := Lib.hid hrr
      have e0 := hb.cell HB0.out
      have e1 := hb.cell HB1.out
      obtain ⟨p, hp⟩ : ∃ p, decide (okS i) = p := ⟨_, rfl⟩
      obtain ⟨t, ht⟩ : ∃ t, decide (okS o) = t := ⟨_, rfl⟩
      have h1 := l30Sorted_any _ (HI.out.ext hb) (by omega)
      rw [hp] at h1 HRR
      have H1 := Lib.hid h1
      have HT := Lib.hid ht
      clear hall hrr hp h1 hb
      cases p with
      | false =>
        go_wp2_with fail
        refine H1.out.mono ?_
        rintro e w2 ⟨rfl, b2⟩
        go_wp2
        go_returns
        exact ⟨ret_bool (by rw [HRR.out]; rfl), (HE.out.trans HBW.out).trans b2⟩
      | true =>
        go_wp2_with fail
        refine H1.out.mono ?_
        rintro e w2 ⟨rfl, b2⟩
        have HB2 := Lib.hid b2
        have f1 := b2.cell e1
        clear b2
        go_wp2_with fail
        refine (l30Sorted_any _ ((HO.out.ext HBW.out).ext HB2.out) (by omega)).mono ?_
        rw [HT.out]
        rintro e w3 ⟨rfl, b3⟩
        go_wp2
        go_returns
        exact ⟨ret_bool (by rw [HRR.out, HT.out]; simp), ((HE.out.trans HBW.out).trans HB2.out).trans b3⟩
end Go.Proofs.YtiggckhlbklngaaDoor
