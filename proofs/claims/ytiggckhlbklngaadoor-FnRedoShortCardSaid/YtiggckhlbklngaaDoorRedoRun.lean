/- Values after records for redoing: RedoRun, of the reference and of the program. -/
import Derived.Test.YtiggckhlbklngaaDoorRedoDone
import Derived.Test.YtiggckhlbklngaaDoorClone
import Derived.Test.YtiggckhlbklngaaDoorPut
import Derived.StillTailTactics
namespace Go.Proofs.YtiggckhlbklngaaDoor
open Go.RowKit
set_option maxRecDepth 8000

def valsOk (vs : List Int) : Bool := decide (vs.length = 3) && vs.all fun x => inB x 0 99
/-- The values behind k records, those of the set's transactions. -/
def runTo (S : Nat) (vs : List Int) (xs : List Redo) : Nat → List Int
  | 0 => vs
  | k + 1 => match xs[k]? with
    | some x => if 0 ≤ x.key ∧ S.testBit x.who.toNat = true then (runTo S vs xs k).set x.key.toNat x.value else runTo S vs xs k
    | none => runTo S vs xs k
theorem runTo_yes {S k : Nat} {vs : List Int} {xs : List Redo} {x : Redo} (hx : xs[k]? = some x) (h : 0 ≤ x.key) (h' : S.testBit x.who.toNat = true) : runTo S vs xs (k + 1) = (runTo S vs xs k).set x.key.toNat x.value := by rw [runTo, hx]; simp only; rw [if_pos ⟨h, h'⟩]
theorem runTo_no {S k : Nat} {vs : List Int} {xs : List Redo} {x : Redo} (hx : xs[k]? = some x) (h : ¬ (0 ≤ x.key ∧ S.testBit x.who.toNat = true)) : runTo S vs xs (k + 1) = runTo S vs xs k := by rw [runTo, hx]; simp only; rw [if_neg h]
theorem runTo_len (S : Nat) (vs : List Int) (xs : List Redo) (k : Nat) : (runTo S vs xs k).length = vs.length := by
  induction k with
  | zero => rfl
  | succ k ih =>
    rw [runTo]
    split
    · split
      · simp [ih]
      · exact ih
    · exact ih
/-- What RedoRun returns. -/
def runL (vs : List Int) (xs : List Redo) : List Int := if valsOk vs = true ∧ redoOk xs = true then runTo (setTo xs xs.length) vs xs xs.length else []
theorem runL_len (vs : List Int) (xs : List Redo) : (runL vs xs).length ≤ 3 := by
  unfold runL
  split
  · rename_i h
    rw [runTo_len]
    have := h.1
    simp [valsOk] at this
    omega
  · simp
theorem valsOk_bad {vs : List Int} {k : Nat} {x : Int} (hx : vs[k]? = some x) (h : inB x 0 99 = false) : valsOk vs = false := by
  unfold valsOk
  rw [show (vs.all fun x => inB x 0 99) = false from by rw [List.all_eq_false]; exact ⟨x, List.mem_of_getElem? hx, by simp [h]⟩, Bool.and_false]
theorem runL_no {vs : List Int} {xs : List Redo} (h : valsOk vs = false) : runL vs xs = [] := by unfold runL; rw [if_neg (by rintro ⟨h1, _⟩; rw [h] at h1; cases h1)]
theorem has_done {xs : List Redo} (h : redoOk xs = true) {k : Nat} (hk : k < 7) : ((doneL xs).any fun x => x == (k : Int)) = (setTo xs xs.length).testBit k := by rw [doneL, if_pos h]; exact has_members hk
set_option maxHeartbeats 8000000 in
theorem spec_RedoRun {u v : Value} {vs : List Int} {xs : List Redo} (w : World) (hu : Sl1 encI w u vs) (h : SlOf 3 encRedo w v xs) (hul : vs.length ≤ 2097152) (hlen : xs.length ≤ 2097152) :
    Calls Tryd.prog 15 #[u, v] w (Ret1 encI w (runL vs xs)) := by
  have H := Lib.hid h
  have HU := Lib.hid hu
  obtain ⟨A, c, rfl, hc0⟩ := id h
  obtain ⟨Au, cu, rfl, hcu0⟩ := id hu
  have HC := Lib.hid hc0
  have HCU := Lib.hid hcu0
  clear h hc0 hu hcu0
  go_enter Tryd.func15, Tryd.ntmps15
  go_wp2
  go_loop [5] (fun i => ∃ k : Nat, k ≤ vs.length ∧ i = .int .i64 k ∧ Hid (∀ i x, i < k → vs[i]? = some x → inB x 0 99 = true)) (fun i => vs.length - (intOf i).toNat)
  case atStart => exact ⟨0, Nat.zero_le _, rfl, fun _ _ h => absurd h (Nat.not_lt_zero _)⟩
  case round =>
    obtain ⟨k, hk, rfl, HK⟩ := hrel
    by_cases hlt : k < vs.length
    · obtain ⟨b, off, rfl, hbl, hcell⟩ := HCU.out (by omega)
      obtain ⟨x, hx⟩ := at_some hlt
      have c0 : w.cell? ⟨b, off + k, none⟩ = some (.int .i64 x) := hcell k x hx
      have Hx := Lib.hid hx
      clear hx hcell
      by_cases hB : inB x 0 99 = true
      case neg =>
        simp only [Bool.not_eq_true] at hB
        have hf := Lib.hid (runL_no (xs := xs) (valsOk_bad Hx.out hB))
        have hrow : Row 3 1 (one encI) w.heap.size (w.alloc (.cells #[] 3)) (.slice (some ⟨w.heap.size, 0, none⟩) 0 0) ([] : List Int) := World.ownsRow_made w #[] 0 (Nat.le_refl _) (by simp [maxLen]) (by simp)
        have HROW := Lib.hid hrow
        clear hrow
        go_wp2_with ((go_at_call 38; refine (l1In_any _ _ _ _).mono ?_; rintro e w' ⟨rfl, rfl⟩))
        go_returns
        rw [hf.out]
        exact ⟨_, rfl, HROW.out.cell.1.to1, HROW.out.cell.2, (Ext.refl _).alloc _⟩
      have HBB := Lib.hid hB
      go_wp2_with ((go_at_call 38; refine (l1In_any _ _ _ _).mono ?_; rintro e w' ⟨rfl, rfl⟩))
      go_round
      case rel => exact ⟨k + 1, by omega, by go_num, fun i y hi hy => if e : i = k then (by subst e; rw [Hx.out] at hy; cases hy; exact HBB.out) else HK.out i y (by omega) hy⟩
      case measure => simp [intOf]; omega
    · obtain rfl : k = vs.length := by omega
      have hrowN : Row 3 1 (one encI) w.heap.size (w.alloc (.cells #[] 3)) (.slice (some ⟨w.heap.size, 0, none⟩) 0 0) ([] : List Int) := World.ownsRow_made w #[] 0 (Nat.le_refl _) (by simp [maxLen]) (by simp)
      have HRN := Lib.hid hrowN
      clear hrowN
      by_cases h3 : vs.length = 3
      case neg =>
        have hf := Lib.hid (runL_no (xs := xs) (show valsOk vs = false by unfold valsOk; rw [decide_eq_false h3, Bool.false_and]))
        have hg : ((vs.length : Int) != 3) = true := by rw [bne_iff_ne]; omega
        clear h3 hlt
        go_wp2
        go_returns
        rw [hf.out]
        exact ⟨_, rfl, HRN.out.cell.1.to1, HRN.out.cell.2, (Ext.refl _).alloc _⟩
      have hg : ((vs.length : Int) != 3) = false := by rw [bne_eq_false_iff_eq]; omega
      by_cases hv : redoOk xs = true
      case neg =>
        have hf : Hid (runL vs xs = []) := by show _ = _; unfold runL; rw [if_neg (fun h => hv h.2)]
        simp only [Bool.not_eq_true] at hv
        clear h3
        go_wp2_with fail
        refine (spec_RedoValid _ H.out hlen).mono ?_
        rw [hv]
        rintro e w1 ⟨rfl, b1⟩
        have hrow : Row 3 1 (one encI) w1.heap.size (w1.alloc (.cells #[] 3)) (.slice (some ⟨w1.heap.size, 0, none⟩) 0 0) ([] : List Int) := World.ownsRow_made w1 #[] 0 (Nat.le_refl _) (by simp [maxLen]) (by simp)
        have HROW := Lib.hid hrow
        clear hrow
        go_wp2
        go_returns
        rw [hf.out]
        exact ⟨_, rfl, HROW.out.cell.1.to1, HROW.out.cell.2.mono b1.size, b1.alloc _⟩
      have hvo : valsOk vs = true := by
        unfold valsOk
        rw [decide_eq_true h3, Bool.true_and, List.all_eq_true]
        intro x hx
        obtain ⟨i, hi⟩ := List.getElem?_of_mem hx
        exact HK.out i x (List.getElem?_eq_some_iff.1 hi).1 hi
      have hf : Hid (runL vs xs = runTo (setTo xs xs.length) vs xs xs.length) := by show _ = _; unfold runL; rw [if_pos ⟨hvo, hv⟩]
      have hl30 : xs.length ≤ 30 := (allGood_true.1 hv).2
      have HV := Lib.hid hv
      have H3 := Lib.hid h3
      clear hv hvo h3
      go_wp2_with fail
      refine (spec_RedoValid _ H.out hlen).mono ?_
      rw [HV.out]
      rintro e w1 ⟨rfl, b1⟩
      have hrow1 : Row 3 1 (one encI) w1.heap.size (w1.alloc (.cells #[] 3)) (.slice (some ⟨w1.heap.size, 0, none⟩) 0 0) ([] : List Int) := World.ownsRow_made w1 #[] 0 (Nat.le_refl _) (by simp [maxLen]) (by simp)
      obtain ⟨v2, W2, hrun, hrow2, hgrow⟩ := run_cat (P := Tryd.prog) (t := 23) (ty := 23) (e := 3) Tryd.underlying23 pinfo_I rfl (by omega) hrow1 ((HU.out.ext b1).of_.ext ((Ext.refl w1).alloc _)) (fun x _ j => rfl) (by simp; omega) (by omega) (by simp)
      rw [List.nil_append] at hrow2
      have Hrun := Lib.hid hrun
      have Hrow := Lib.hid hrow2
      have hxt := Lib.hid (Ext.grown ((Ext.refl w1).alloc _) hgrow hrow1.block)
      clear hrun hrow2 hgrow hrow1
      go_wp2_with (at_builtin; refine wpList_append_run rfl rfl rfl rfl Hrun.out ?_)
      have b2 := b1.trans hxt.out
      refine (spec_RedoDone _ (H.out.ext b2) hlen).mono ?_
      rintro e w3 ⟨v3, rfl, d3, o3, b3⟩
      have hd7 := doneL_len xs
      have HD3 := Lib.hid d3
      have HO3 := Lib.hid o3
      have HROW3 := Lib.hid (Hrow.out.ext b3)
      have HAP := Lib.hid (Hrow.out.cell.1.apart o3)
      obtain ⟨A2, c2, hv2, hc2⟩ := id Hrow.out.cell.1
      obtain ⟨g, off2, hA2, _⟩ := hc2 (by rw [H3.out]; omega)
      subst hA2
      subst hv2
      have hw1 := b1.size
      have b4 := b2.trans b3
      clear b1 b2 b3 hc2 Hrun hxt Hrow HRN d3 o3
      go_wp2
      go_loopw [8] (fun i wr => Ext w wr ∧ ∃ k : Nat, k ≤ xs.length ∧ i = .int .i64 k ∧ Hid (SlOf 1 (one encI) wr (.slice (some ⟨g, off2, none⟩) vs.length c2) (runTo (setTo xs xs.length) vs xs k) ∧ Own w1.heap.size wr (.slice (some ⟨g, off2, none⟩) vs.length c2) ∧ Sl1 encI wr v3 (doneL xs))) (fun i _ => xs.length - (intOf i).toNat)
      case atStart => exact ⟨b4, 0, Nat.zero_le _, rfl, HROW3.out.cell.1, HROW3.out.cell.2, HD3.out⟩
      case round =>
        clear HROW3 HD3 HO3 b4
        obtain ⟨hb, k, hk, rfl, HI⟩ := hrel
        by_cases hlt : k < xs.length
        · obtain ⟨b, off, rfl, hbl, hcell⟩ := HC.out (by omega)
          obtain ⟨x, hx⟩ := at_some hlt
          have hgd := goodRedo_who hx (redo_good HV.out hlt)
          have c0 := hb.cell (hcell k x hx 0 (by omega))
          have c1 := hb.cell (hcell k x hx 1 (by omega))
          have c2' := hb.cell (hcell k x hx 2 (by omega))
          simp only [encRedo, Nat.add_zero] at c0 c1 c2'
          have Hx := Lib.hid hx
          clear hcell hx
          obtain ⟨yo, hyo⟩ := Int.eq_ofNat_of_zero_le hgd.1.1
          have hhas := has_done HV.out (k := yo) (by omega)
          obtain ⟨t, ht⟩ : ∃ t, (setTo xs xs.length).testBit yo = t := ⟨_, rfl⟩
          rw [ht, ← hyo] at hhas
          have HH := Lib.hid hhas
          have HT := Lib.hid ht
          have HYO := Lib.hid hyo
          clear hhas ht hyo
          by_cases hneg : x.key < 0
          · have hkd : decide (0 ≤ x.key) = false := by simp; omega
            have HN := Lib.hid (runTo_no (S := setTo xs xs.length) (vs := vs) Hx.out (by rintro ⟨h1, _⟩; omega))
            go_wp2
            go_roundw
            case rel => exact ⟨hb, k + 1, by omega, by go_num, by rw [HN.out]; exact HI.out⟩
            case measure => simp [intOf]; omega
          have hkp : 0 ≤ x.key := by omega
          have hkd : decide (0 ≤ x.key) = true := by simpa using hkp
          clear hneg
          cases t with
          | false =>
            have HN := Lib.hid (runTo_no (S := setTo xs xs.length) (vs := vs) Hx.out (by rintro ⟨_, h2⟩; rw [HYO.out] at h2; simp only [Int.toNat_natCast] at h2; rw [HT.out] at h2; cases h2))
            go_wp2_with fail
            refine (l30Has_any _ _ HI.out.2.2 (by omega)).mono ?_
            rw [HH.out]
            rintro e w' ⟨rfl, rfl⟩
            go_wp2
            go_roundw
            case rel => exact ⟨hb, k + 1, by omega, by go_num, by rw [HN.out]; exact HI.out⟩
            case measure => simp [intOf]; omega
          | true =>
            obtain ⟨q, hq⟩ := Int.eq_ofNat_of_zero_le hkp
            have hq3 : q < 3 := by omega
            have HN : Hid (runTo (setTo xs xs.length) vs xs (k + 1) = (runTo (setTo xs xs.length) vs xs k).set q x.value) := by
              show _ = _
              rw [runTo_yes Hx.out hkp (by rw [HYO.out]; exact HT.out), hq]
              rfl
            have hLl := runTo_len (setTo xs xs.length) vs xs k
            obtain ⟨L, hLe⟩ : ∃ L, runTo (setTo xs xs.length) vs xs k = L := ⟨_, rfl⟩
            have hI := HI.out
            have hN := HN.out
            rw [hLe] at hI hLl hN
            rw [H3.out] at hLl
            obtain ⟨y, hy⟩ := at_some (show q < L.length by omega)
            obtain ⟨p1, p2, p3⟩ := put_cell (j := 0) (w0 := w) hI.1 hI.2.1 hb hw1 (by rw [H3.out]; omega) hy (by omega) x.value (fun i hl hi => by omega)
            rw [← hN] at p1
            rw [show off2 + q * 1 + 0 = off2 + q by omega] at p1 p2 p3
            have hci : ∃ z, wr.cell? ⟨g, off2 + q, none⟩ = some z := by
              obtain ⟨A5, c5, hA5, hc5⟩ := id hI.1.to1
              injection hA5 with e1 e2 e3
              subst e1
              obtain ⟨b5, off5, hb5, _, hcell5⟩ := hc5 (by omega)
              injection hb5 with hb5
              injection hb5 with e1 e2
              subst e1 e2
              exact ⟨_, hcell5 q y hy⟩
            obtain ⟨z, hz⟩ := hci
            have hfr := hI.2.1.cell_free (by rw [H3.out]; omega) (off2 + q)
            have HP1 := Lib.hid p1
            have HP2 := Lib.hid p2
            have HP3 := Lib.hid p3
            have HP4 : Hid (Sl1 encI (wr.setCell ⟨g, off2 + q, none⟩ (.int .i64 x.value)) v3 (doneL xs)) := by
              refine hI.2.2.only (v := .slice (some ⟨g, off2, none⟩) vs.length c2) (Only.setCell (by rw [H3.out]; omega) _ _) HAP.out.symm
            have i0 : (0 : Int) ≤ (q : Int) := by omega
            have i1 : (q : Int) < 3 := by omega
            rw [hq] at c1
            have hqd : decide ((0 : Int) ≤ (q : Int)) = true := by simp
            have u0 : ({ wr with drawn := wr.drawn + 1 } : World).cell? ⟨b, off + k * 3 + 1, none⟩ = some (.int .i64 (q : Int)) := c1
            have u1 : ({ wr with drawn := wr.drawn + 1 } : World).cell? ⟨b, off + k * 3 + 2, none⟩ = some (.int .i64 x.value) := c2'
            have h3i : (vs.length : Int) = 3 := by rw [H3.out]; rfl
            have hi2 : (q : Int) < (vs.length : Int) := by omega
            have HI3 := Lib.hid hI.2.2
            clear p1 p2 p3 hI hN hLe hLl hy HI hq h3i
            go_wp2_with fail
            refine (l30Has_any _ _ HI3.out (by omega)).mono ?_
            rw [HH.out]
            rintro e w' ⟨rfl, rfl⟩
            go_wp2
            go_still_tail 11, (by kernel_rfl)
            change wpList _ _ _ _ _ wr.drew
            clear u0 u1
            go_wp2
            go_roundw
            case rel => exact ⟨Ext.drew HP3.out, k + 1, by omega, by go_num, SlOf.ext HP1.out (Ext.refl _).drew, Own.ext HP2.out (Ext.refl _).drew, HP4.out.ext (Ext.refl _).drew⟩
            case measure => simp [intOf]; omega
        · obtain rfl : k = xs.length := by omega
          go_wp2
          go_returns
          rw [hf.out]
          exact ⟨_, rfl, HI.out.1.to1, HI.out.2.1.mono hw1, hb⟩
end Go.Proofs.YtiggckhlbklngaaDoor
