/- Values after records for redoing: RedoRun of the program. -/
import Derived.Test.YtiggckhlbklngaaDoorRedoRun
namespace Go.Proofs.YtiggckhlbklngaaDoor
open Go.RowKit
set_option maxRecDepth 8000
theorem redoRun1_any (x : Int) (w : World) : Calls Tryd.prog 44 #[.int .i64 x] w fun e w' => e = .returned (.bool (!inB x 0 99)) ∧ Ext w w' := by
  go_enter Tryd.func44, Tryd.ntmps44
  go_wp2_with fail
  refine (valueOk_any _ _).mono ?_
  rintro e w' ⟨rfl, rfl⟩
  go_wp2
  go_returns
  exact ⟨rfl, Ext.refl _⟩
theorem valsOk_any (vs : List Int) : (vs.any fun x => !inB x 0 99) = !(vs.all fun x => inB x 0 99) := by
  induction vs with
  | nil => rfl
  | cons x xs ih => rw [List.any_cons, List.all_cons, ih, Bool.not_and]
set_option maxHeartbeats 8000000 in
theorem impl_RedoRun {u v : Value} {vs : List Int} {xs : List Redo} (w : World) (hu : Sl1 encI w u vs) (h : SlOf 3 encRedo w v xs) (hul : vs.length ≤ 2097152) (hlen : xs.length ≤ 2097152) :
    Calls Tryd.prog 13 #[u, v] w (Ret1 encI w (runL vs xs)) := by
  have H := Lib.hid h
  have HU := Lib.hid hu
  obtain ⟨A, c, rfl, hc0⟩ := id h
  obtain ⟨Au, cu, rfl, hcu0⟩ := id hu
  have HC := Lib.hid hc0
  clear h hc0 hu hcu0
  by_cases hv : redoOk xs = true
  case neg =>
    have hf : Hid (runL vs xs = []) := by show _ = _; unfold runL; rw [if_neg (fun h => hv h.2)]
    rw [hf.out]
    simp only [Bool.not_eq_true] at hv
    go_enter Tryd.func13, Tryd.ntmps13
    go_wp2_with fail
    refine (finished_any _ H.out hlen).mono ?_
    rw [hv]
    rintro e w1 ⟨rfl, b1⟩
    go_wp2
    go_returns
    exact ⟨_, rfl, Sl1.nil _ _ _ _, Own.nil _ _ _ _, b1⟩
  have hs : finSet xs = setTo xs xs.length := (finSet_end (fun i hi => redo_good hv hi)).1
  have hlt64 := setTo_lt (fun i hi => redo_good hv hi) (k := xs.length)
  have hl30 : xs.length ≤ 30 := (allGood_true.1 hv).2
  obtain ⟨S, hS⟩ : ∃ S, setTo xs xs.length = S := ⟨_, rfl⟩
  have HSE := Lib.hid hS
  rw [hS] at hs hlt64
  have HV := Lib.hid hv
  by_cases h3 : vs.length = 3
  case neg =>
    have hf := Lib.hid (runL_no (xs := xs) (show valsOk vs = false by unfold valsOk; rw [decide_eq_false h3, Bool.false_and]))
    have hg : ((vs.length : Int) != 3) = true := by rw [bne_iff_ne]; omega
    rw [hf.out]
    clear h3 hS
    go_enter Tryd.func13, Tryd.ntmps13
    go_wp2_with fail
    refine (finished_any _ H.out hlen).mono ?_
    rw [hv, hs]
    rintro e w1 ⟨rfl, b1⟩
    clear hs hv
    go_wp2
    go_returns
    exact ⟨_, rfl, Sl1.nil _ _ _ _, Own.nil _ _ _ _, b1⟩
  have hg : ((vs.length : Int) != 3) = false := by rw [bne_eq_false_iff_eq]; omega
  have H3 := Lib.hid h3
  obtain ⟨g, hge⟩ : ∃ g, (vs.any fun x => !inB x 0 99) = g := ⟨_, rfl⟩
  have HG := Lib.hid hge
  cases g with
  | true =>
    have hf : Hid (runL vs xs = []) := runL_no (by rw [valsOk_any, Bool.not_eq_true'] at hge; unfold valsOk; rw [hge, Bool.and_false])
    rw [hf.out]
    clear h3 hS hge
    go_enter Tryd.func13, Tryd.ntmps13
    go_wp2_with fail
    refine (finished_any _ H.out hlen).mono ?_
    rw [hv, hs]
    rintro e w1 ⟨rfl, b1⟩
    clear hs hv
    go_wp2_with fail
    refine (containsFuncI_any _ 44 #[] (fun x => !inB x 0 99) (HU.out.ext b1) hul (fun _ _ => by kernel_rfl) (fun x _ W _ => redoRun1_any x W)).mono ?_
    rw [HG.out]
    rintro e w2 ⟨rfl, b2⟩
    go_wp2
    go_returns
    exact ⟨_, rfl, Sl1.nil _ _ _ _, Own.nil _ _ _ _, b1.trans b2⟩
  | false =>
    have hvo : valsOk vs = true := by rw [valsOk_any, Bool.not_eq_false'] at hge; unfold valsOk; rw [hge, decide_eq_true h3]; rfl
    have hf : Hid (runL vs xs = runTo S vs xs xs.length) := by show _ = _; unfold runL; rw [if_pos ⟨hvo, hv⟩, hS]
    rw [hf.out]
    clear h3 hS hge hvo
    go_enter Tryd.func13, Tryd.ntmps13
    go_wp2_with fail
    refine (finished_any _ H.out hlen).mono ?_
    rw [hv, hs]
    rintro e w1 ⟨rfl, b1⟩
    clear hs hv
    go_wp2_with fail
    refine (containsFuncI_any _ 44 #[] (fun x => !inB x 0 99) (HU.out.ext b1) hul (fun _ _ => by kernel_rfl) (fun x _ W _ => redoRun1_any x W)).mono ?_
    rw [HG.out]
    rintro e w2 ⟨rfl, b2⟩
    go_wp2_with fail
    refine (cloneI_any _ ((HU.out.ext b1).ext b2).of_ hul).mono ?_
    rintro e w3 ⟨v3, rfl, hrow, b3⟩
    go_wp2_with fail
    refine (clipI_any _ hrow.cell.1 hrow.cell.2 hrow.cap).mono ?_
    rintro e w4 ⟨v4, rfl, hs4, ho4, rfl⟩
    have hb := (b1.trans b2).trans b3
    have hw2 := (b1.trans b2).size
    have HS4 := Lib.hid hs4
    have HO4 := Lib.hid ho4
    obtain ⟨A4, c4, hv4, hc4⟩ := id hs4
    obtain ⟨g, off2, hA4, _⟩ := hc4 (by rw [H3.out]; omega)
    subst hA4
    subst hv4
    clear hrow hc4 b1 b2 b3 hs4 ho4
    go_wp2
    go_loopw [31] (fun i wr => Ext w wr ∧ ∃ k : Nat, k ≤ xs.length ∧ i = .int .i64 k ∧ Hid (SlOf 1 (one encI) wr (.slice (some ⟨g, off2, none⟩) vs.length c4) (runTo S vs xs k) ∧ Own w2.heap.size wr (.slice (some ⟨g, off2, none⟩) vs.length c4))) (fun i _ => xs.length - (intOf i).toNat)
    case atStart => exact ⟨hb, 0, Nat.zero_le _, rfl, HS4.out, HO4.out⟩
    case round =>
      clear HS4 HO4 hb
      obtain ⟨hb, k, hk, rfl, HI⟩ := hrel
      by_cases hlt : k < xs.length
      · obtain ⟨b, off, rfl, hbl, hcell⟩ := HC.out (by omega)
        obtain ⟨⟨xw, xk, xv⟩, hx⟩ := at_some hlt
        have hgd := goodRedo_who hx (redo_good HV.out hlt)
        simp only at hgd
        have c0 := hb.cell (hcell k _ hx 0 (by omega))
        have c1 := hb.cell (hcell k _ hx 1 (by omega))
        have c2' := hb.cell (hcell k _ hx 2 (by omega))
        simp only [encRedo, Nat.add_zero] at c0 c1 c2'
        have Hx := Lib.hid hx
        clear hcell hx
        have HX := Lib.hid ((Ext.refl wr).alloc (.cells #[.int .i64 xw, .int .i64 xk, .int .i64 xv] 73))
        by_cases hneg : xk < 0
        · have hkd : decide (0 ≤ xk) = false := by simp; omega
          have HN := Lib.hid (runTo_no (S := S) (vs := vs) Hx.out (by rintro ⟨h1, _⟩; simp only at h1; omega))
          go_wp2
          go_roundw
          case rel => exact ⟨hb.alloc _, k + 1, by omega, by go_num, by rw [HN.out]; exact HI.out.1.ext HX.out, HI.out.2.ext HX.out⟩
          case measure => simp [intOf]; omega
        have hkp : 0 ≤ xk := by omega
        have hkd : decide (0 ≤ xk) = true := by simpa using hkp
        clear hneg
        have hbit := u64_bit S xw.toNat (by omega)
        by_cases ht : S.testBit xw.toNat = true
        · rw [if_pos ht] at hbit
          obtain ⟨q, hq⟩ := Int.eq_ofNat_of_zero_le hkp
          have hq3 : q < 3 := by omega
          have HN : Hid (runTo S vs xs (k + 1) = (runTo S vs xs k).set q xv) := by
            show _ = _
            rw [runTo_yes Hx.out hkp ht, hq]
            rfl
          have hLl := runTo_len S vs xs k
          obtain ⟨L, hLe⟩ : ∃ L, runTo S vs xs k = L := ⟨_, rfl⟩
          have hI := HI.out
          have hN := HN.out
          rw [hLe] at hI hLl hN
          rw [H3.out] at hLl
          obtain ⟨y, hy⟩ := at_some (show q < L.length by omega)
          obtain ⟨p1, p2, p3⟩ := put_cell (j := 0) (w0 := w) (hI.1.ext HX.out) (hI.2.ext HX.out) (hb.trans HX.out) hw2 (by rw [H3.out]; omega) hy (by omega) xv (fun i hl hi => by omega)
          rw [← hN] at p1
          rw [show off2 + q * 1 + 0 = off2 + q by omega] at p1 p2 p3
          have hci : ∃ z, wr.cell? ⟨g, off2 + q, none⟩ = some z := by
            obtain ⟨A5, c5, hA5, hc5⟩ := id hI.1.to1
            injection hA5 with e1 e2 e3
            subst e1
            obtain ⟨b5, off5, hb5, _, hcell5⟩ := hc5 (by omega)
            injection hb5 with hb5
            injection hb5 with e1 e2
            subst e1 e2
            exact ⟨_, hcell5 q y hy⟩
          obtain ⟨z, hz⟩ := hci
          have hfr := hI.2.cell_free (by rw [H3.out]; omega) (off2 + q)
          have hz' := HX.out.cell hz
          have hfr' := (hI.2.ext HX.out).cell_free (by rw [H3.out]; omega) (off2 + q)
          have HP1 := Lib.hid p1
          have HP2 := Lib.hid p2
          have HP3 := Lib.hid p3
          have i0 : (0 : Int) ≤ (q : Int) := by omega
          have h3i : (vs.length : Int) = 3 := by rw [H3.out]; rfl
          have hi2 : (q : Int) < (vs.length : Int) := by omega
          have hqd : decide ((0 : Int) ≤ (q : Int)) = true := by simp
          subst hq
          clear p1 p2 p3 hI hN hLe hLl hy HI h3i HX
          go_wp2
          go_roundw
          case rel => exact ⟨HP3.out, k + 1, by omega, by go_num, HP1.out, HP2.out⟩
          case measure => simp [intOf]; omega
        · rw [if_neg ht] at hbit
          have HN := Lib.hid (runTo_no (S := S) (vs := vs) Hx.out (by rintro ⟨_, h2⟩; exact ht h2))
          clear ht
          go_wp2
          go_roundw
          case rel => exact ⟨hb.alloc _, k + 1, by omega, by go_num, by rw [HN.out]; exact HI.out.1.ext HX.out, HI.out.2.ext HX.out⟩
          case measure => simp [intOf]; omega
      · obtain rfl : k = xs.length := by omega
        go_wp2
        go_returns
        exact ⟨_, rfl, HI.out.1.to1, HI.out.2.mono hw2, hb⟩
end Go.Proofs.YtiggckhlbklngaaDoor
