/- Whether an owner waits for itself: LockCycle of the reference. -/
import Derived.Test.YtbbfdnmlfjdidaaDoorWaits
import Derived.Test.YtbbfdnmlfjdidaaDoorReach
import Derived.Test.YtbbfdnmlfjdidaaDoorSetHas
namespace Go.Proofs.YtbbfdnmlfjdidaaDoor
open Go.RowKit
set_option maxRecDepth 8000

/-- For whom each owner waits. -/
def Wof (xs : List Hold) (o : Nat) : Nat := if o < 5 then waitsTo xs (o : Int) xs.length else 0
theorem Wof_lt {xs : List Hold} (h : holdsOk xs = true) (o : Nat) : Wof xs o < 2 ^ 5 := by
  unfold Wof
  split
  · exact waitsTo_lt h _
  · simp
/-- What LockCycle answers. -/
def cycleB (xs : List Hold) : Bool := holdsOk xs && (List.range 5).any fun o => (closeN (Wof xs) 5 (Wof xs o) 5).testBit o
theorem waitsLL_at {xs : List Hold} (h : holdsOk xs = true) {o : Nat} (ho : o < 5) : (waitsLL xs)[o]? = some (membersL (Wof xs o)) := by
  unfold waitsLL Wof
  rw [if_pos h, if_pos ho, List.getElem?_map, List.getElem?_range ho]
  rfl
theorem waitsLL_five {xs : List Hold} (h : holdsOk xs = true) : (waitsLL xs).length = 5 := by unfold waitsLL; rw [if_pos h]; simp
/-- Numbers put to a set, one after the other. -/
def putsTo (R : Nat) (L : List Int) (j : Nat) : Nat := (L.take j).foldl (fun r (z : Int) => r ||| 2 ^ z.toNat) R
theorem puts_bit (L : List Int) (R i : Nat) : (L.foldl (fun r (z : Int) => r ||| 2 ^ z.toNat) R).testBit i = (R.testBit i || L.any fun z => z.toNat == i) := by
  induction L generalizing R with
  | nil => simp
  | cons z L ih =>
    rw [List.foldl_cons, ih, Nat.testBit_or, Nat.testBit_two_pow, List.any_cons, Bool.or_assoc]
    congr 2
theorem putsTo_next {R j : Nat} {L : List Int} {z : Int} (h : L[j]? = some z) : putsTo R L (j + 1) = putsTo R L j ||| 2 ^ z.toNat := by
  unfold putsTo
  rw [List.take_add_one, h]
  simp
theorem putsTo_mono {R j i : Nat} {L : List Int} (h : R.testBit i = true) : (putsTo R L j).testBit i = true := by
  unfold putsTo
  rw [puts_bit, h, Bool.true_or]
theorem putsTo_end {R n : Nat} (hn : n < 128) : putsTo R (membersL n) (membersL n).length = R ||| n := by
  unfold putsTo
  rw [List.take_length]
  apply Nat.eq_of_testBit_eq
  intro i
  rw [puts_bit, Nat.testBit_or]
  congr 1
  rw [Bool.eq_iff_iff, List.any_eq_true]
  constructor
  · rintro ⟨z, hz, hi⟩
    obtain ⟨j, _, hb, rfl⟩ := mem_membersL.1 hz
    have : j = i := by simpa using hi
    subst this
    exact hb
  · intro hb
    have hi : i < 7 := by
      rcases Nat.lt_or_ge i 7 with h | h
      · exact h
      · rw [Nat.testBit_lt_two_pow (Nat.lt_of_lt_of_le (show n < 2 ^ 7 by omega) (Nat.pow_le_pow_right (by omega) h))] at hb
        cases hb
    exact ⟨(i : Int), mem_membersL.2 ⟨i, hi, hb, rfl⟩, by simp⟩
theorem putsTo_zero (R : Nat) (L : List Int) : putsTo R L 0 = R := by simp [putsTo]
theorem closeTo_yes {W : Nat → Nat} {R k : Nat} (h : (closeTo W R k).testBit k = true) : closeTo W R (k + 1) = closeTo W R k ||| W k := by rw [closeTo, if_pos h]
theorem closeTo_no {W : Nat → Nat} {R k : Nat} (h : (closeTo W R k).testBit k = false) : closeTo W R (k + 1) = closeTo W R k := by rw [closeTo, if_neg (by simp [h])]
set_option maxHeartbeats 8000000 in
theorem spec_LockCycle {v : Value} {xs : List Hold} (w : World) (h : SlOf 4 encHold w v xs) (hlen : xs.length ≤ 2097152) :
    Calls Tryd.prog 36 #[v] w fun e w' => e = .returned (.bool (cycleB xs)) ∧ Ext w w' := by
  have H := Lib.hid h
  clear h
  by_cases hv : holdsOk xs = true
  case neg =>
    have hf : Hid (cycleB xs = false) := by show _ = _; simp only [Bool.not_eq_true] at hv; rw [cycleB, hv]; rfl
    have hw : Hid (waitsLL xs = []) := by show _ = _; rw [waitsLL, if_neg hv]
    rw [hf.out]
    clear hv
    go_enter Tryd.func36, Tryd.ntmps36
    go_wp2_with fail
    refine (spec_LockWaits _ H.out hlen).mono ?_
    rw [hw.out]
    rintro e w1 ⟨v', us, rfl, hl, _, b1⟩
    obtain ⟨l1, ⟨A, c, rfl, _⟩, _⟩ := hl
    have hus : us = [] := List.eq_nil_of_length_eq_zero l1
    subst hus
    go_wp2
    go_loop [4] (fun i => i = .int .i64 0) (fun _ => 0)
    case atStart => rfl
    case round =>
      subst hrel
      go_wp2
      go_returns
      exact ⟨rfl, b1⟩
  obtain ⟨R, hR⟩ : ∃ R, cycleB xs = R := ⟨_, rfl⟩
  rw [hR]
  have HR : Hid (((List.range 5).any fun o => (closeN (Wof xs) 5 (Wof xs o) 5).testBit o) = R) := by show _ = _; rw [← hR, cycleB, hv]; rfl
  have HV := Lib.hid hv
  clear hv hR
  go_enter Tryd.func36, Tryd.ntmps36
  go_wp2_with fail
  refine (spec_LockWaits _ H.out hlen).mono ?_
  rintro e w1 ⟨v', us, rfl, hl, _, b1⟩
  have HL := Lib.hid hl
  obtain ⟨l1, ⟨A, c, rfl, _⟩, _⟩ := hl
  rw [waitsLL_five HV.out] at l1
  have H5 := Lib.hid l1
  rw [l1]
  clear l1
  go_wp2
  go_loopw [4] (fun i wr => Ext w1 wr ∧ ∃ q : Nat, q ≤ 5 ∧ i = .int .i64 q ∧ Hid (∀ o, o < q → (closeN (Wof xs) 5 (Wof xs o) 5).testBit o = false)) (fun i _ => 5 - (intOf i).toNat)
  case atStart => exact ⟨Ext.refl _, 0, by omega, rfl, fun _ h => absurd h (Nat.not_lt_zero _)⟩
  case round =>
    obtain ⟨hb, q, hq, rfl, HQ⟩ := hrel
    by_cases hq5 : q < 5
    · have hqd : decide ((q : Int) < 5) = true := by simp; omega
      have hL := HL.out.ext hb
      obtain ⟨u, hu⟩ := at_some (show q < us.length by rw [H5.out]; exact hq5)
      have hsu := hL.2.2 q u _ hu (waitsLL_at HV.out hq5)
      obtain ⟨A1, c1, hA1, hcc⟩ := id hL.2.1
      injection hA1 with e1 e2 e3
      subst e1 e3
      clear e2
      obtain ⟨b, off, rfl, hbl, hcell⟩ := hcc (by rw [H5.out]; omega)
      obtain ⟨Au, cu, rfl, _⟩ := id hsu
      have d0 : wr.cell? ⟨b, off + q, none⟩ = some (.slice Au (membersL (Wof xs q)).length cu) := hcell q _ hu
      have hml := membersL_len (Wof xs q)
      have hrowN : Row 3 1 (one encI) wr.heap.size (wr.alloc (.cells #[] 3)) (.slice (some ⟨wr.heap.size, 0, none⟩) 0 0) ([] : List Int) := World.ownsRow_made wr #[] 0 (Nat.le_refl _) (by simp [maxLen]) (by simp)
      obtain ⟨v2, W2, hrun, hrow2, hgrow⟩ := run_cat (P := Tryd.prog) (t := 25) (ty := 25) (e := 3) Tryd.underlying25 pinfo_I rfl (by omega) hrowN (hsu.of_.ext ((Ext.refl wr).alloc _)) (fun x _ j => rfl) (by simp; omega) (by omega) (by simp)
      rw [List.nil_append] at hrow2
      have Hrun := Lib.hid hrun
      have Hrow := Lib.hid (Row.low hrow2 hb.size)
      have hxt := Lib.hid (hb.trans (Ext.grown ((Ext.refl wr).alloc _) hgrow hrowN.block))
      clear hrun hrow2 hgrow hrowN hcell hcc hu hsu hL
      go_wp2_with (at_builtin; refine wpList_append_run rfl rfl rfl rfl Hrun.out ?_)
      go_loopw [5, 6] (fun r i wr => Ext w1 wr ∧ ∃ s : Nat, s ≤ 5 ∧ i = .int .i64 s ∧ Hid (Row 3 1 (one encI) w1.heap.size wr r (membersL (closeN (Wof xs) 5 (Wof xs q) s)))) (fun _ i _ => 5 - (intOf i).toNat)
      case atStart => exact ⟨hxt.out, 0, by omega, rfl, Hrow.out⟩
      case round =>
        clear Hrow Hrun hxt d0 hb
        obtain ⟨hb, s, hs, rfl, HS⟩ := hrel
        by_cases hs5 : s < 5
        · have hsd : decide ((s : Int) < 5) = true := by simp; omega
          go_wp2
          go_loopw [5, 7] (fun r i wr => Ext w1 wr ∧ ∃ k : Nat, k ≤ 5 ∧ i = .int .i64 k ∧ Hid (Row 3 1 (one encI) w1.heap.size wr r (membersL (closeTo (Wof xs) (closeN (Wof xs) 5 (Wof xs q) s) k)))) (fun _ i _ => 5 - (intOf i).toNat)
          case atStart => exact ⟨hb, 0, by omega, rfl, HS.out⟩
          case round =>
            clear HS hb
            obtain ⟨hb, k, hk, rfl, HK⟩ := hrel
            by_cases hk5 : k < 5
            · have hkd : decide ((k : Int) < 5) = true := by simp; omega
              obtain ⟨C, hC⟩ : ∃ C, closeTo (Wof xs) (closeN (Wof xs) 5 (Wof xs q) s) k = C := ⟨_, rfl⟩
              have HCE := Lib.hid hC
              have HK' := HK.out
              rw [hC] at HK'
              have HK2 := Lib.hid HK'
              clear HK HK' hC
              obtain ⟨u, hu⟩ := at_some (show k < us.length by rw [H5.out]; exact hk5)
              have Hu := Lib.hid hu
              obtain ⟨Au, cu, hue, _⟩ := id (HL.out.2.2 k u _ hu (waitsLL_at HV.out hk5))
              subst hue
              clear hu
              have hml := membersL_len (Wof xs k)
              have hW := Wof_lt HV.out k
              have HEND := Lib.hid (putsTo_end (R := C) (n := Wof xs k) (by omega))
              obtain ⟨L, hLe⟩ : ∃ L, membersL (Wof xs k) = L := ⟨_, rfl⟩
              have HLE := Lib.hid hLe
              have hu' := Hu.out
              rw [hLe] at hu' hml
              have Hu2 := Lib.hid hu'
              have he' := HEND.out
              rw [hLe] at he'
              have HEND2 := Lib.hid he'
              clear hLe hu' Hu he' HEND hW
              go_wp2
              go_loopw [5, 8] (fun r i wr => Ext w1 wr ∧ ∃ j : Nat, j ≤ L.length ∧ i = .int .i64 j ∧ Hid (Row 3 1 (one encI) w1.heap.size wr r (membersL (putsTo C L j))) ∧ Hid (j = 0 ∨ C.testBit k = true)) (fun _ i _ => L.length - (intOf i).toNat)
              case atStart => exact ⟨hb, 0, by omega, rfl, by rw [putsTo_zero]; exact HK2.out, .inl rfl⟩
              case round =>
                clear HK2 hb
                obtain ⟨hb, j, hj, rfl, HJ, HJ0⟩ := hrel
                have hL := HL.out.ext hb
                have hsu := hL.2.2 k _ _ Hu2.out (waitsLL_at HV.out hk5)
                rw [HLE.out] at hsu
                have HSU := Lib.hid hsu
                obtain ⟨A1, c1, hA1, hcc⟩ := id hL.2.1
                injection hA1 with e1 e2 e3
                subst e1 e3
                clear e2
                obtain ⟨b2, off2, hbe, hbl, hcell⟩ := hcc (by rw [H5.out]; omega)
                injection hbe with hbe
                injection hbe with e1 e2
                subst e1 e2
                have d0 : wr.cell? ⟨b, off + k, none⟩ = some (.slice Au L.length cu) := hcell k _ Hu2.out
                clear hcell hcc hsu hL
                by_cases hjl : j < L.length
                · have hhas := has_members (n := putsTo C L j) (k := k) (by omega)
                  have HH := Lib.hid hhas
                  clear hhas
                  have hm7 := membersL_len (putsTo C L j)
                  obtain ⟨z, hz⟩ := at_some hjl
                  have Hz := Lib.hid hz
                  by_cases hbit : (putsTo C L j).testBit k = true
                  · obtain ⟨A3, c3, hA3, hc3⟩ := id HSU.out
                    injection hA3 with e1 e2 e3
                    subst e1 e3
                    clear e2
                    obtain ⟨b3, off3, rfl, _, hcell3⟩ := hc3 (by omega)
                    have d1 : wr.cell? ⟨b3, off3 + j, none⟩ = some (.int .i64 z) := hcell3 j z hz
                    obtain ⟨zn, hz7, _, hzn⟩ := mem_membersL.1 (by rw [HLE.out]; exact List.mem_of_getElem? hz : z ∈ membersL (Wof xs k))
                    subst hzn
                    have HCK : Hid (C.testBit k = true) := by
                      rcases HJ0.out with h | h
                      · subst h; rw [putsTo_zero] at hbit; exact hbit
                      · exact h
                    have HN := Lib.hid (putsTo_next (R := C) Hz.out)
                    have HB := Lib.hid hbit
                    clear hz hbit hcell3 hc3
                    go_wp2_with fail
                    refine (l30Has_any _ _ HJ.out.cell.1.to1 (by omega)).mono ?_
                    rw [HH.out, HB.out]
                    rintro e w' ⟨rfl, rfl⟩
                    go_wp2_with fail
                    refine (l30Put_any _ _ HJ.out.cell.1.to1 (by omega) HJ.out.cap).mono ?_
                    rintro e w4 ⟨v4, rfl, hrow, b4⟩
                    have hn : putsTo C L (j + 1) = putsTo C L j ||| 2 ^ zn := by rw [HN.out]; rfl
                    rw [putL_members _ hz7, ← hn] at hrow
                    have HROW := Lib.hid (Row.low hrow hb.size)
                    clear hrow
                    go_wp2
                    go_roundw
                    case rel => exact ⟨hb.trans b4, j + 1, by omega, by go_num, HROW, .inr HCK.out⟩
                    case measure => simp [intOf]; omega
                  · simp only [Bool.not_eq_true] at hbit
                    have HB := Lib.hid hbit
                    have hC0 : j = 0 ∧ C.testBit k = false := by
                      rcases HJ0.out with h | h
                      · subst h; rw [putsTo_zero] at hbit; exact ⟨rfl, hbit⟩
                      · rw [putsTo_mono h] at hbit; cases hbit
                    obtain ⟨hj0, hCk⟩ := hC0
                    have HCN : Hid (closeTo (Wof xs) (closeN (Wof xs) 5 (Wof xs q) s) (k + 1) = putsTo C L j) := by
                      show _ = _
                      rw [closeTo_no (by rw [HCE.out]; exact hCk), HCE.out, hj0, putsTo_zero]
                    clear hz hbit hj0 hCk
                    go_wp2_with fail
                    refine (l30Has_any _ _ HJ.out.cell.1.to1 (by omega)).mono ?_
                    rw [HH.out, HB.out]
                    rintro e w' ⟨rfl, rfl⟩
                    go_wp2
                    go_roundw
                    case rel => exact ⟨hb, k + 1, by omega, by go_num, by rw [HCN.out]; exact HJ.out⟩
                    case measure => simp [intOf]; omega
                · have hje : j = L.length := by omega
                  have HCN : Hid (closeTo (Wof xs) (closeN (Wof xs) 5 (Wof xs q) s) (k + 1) = putsTo C L j) := by
                    show _ = _
                    rcases HJ0.out with h | h
                    · have hL0 : L = [] := List.eq_nil_of_length_eq_zero (by omega)
                      have hW0 := HEND2.out
                      rw [hL0] at hW0
                      have h2 : C = C ||| Wof xs k := by simpa [putsTo] using hW0
                      rw [h, putsTo_zero]
                      by_cases hCk : C.testBit k = true
                      · rw [closeTo_yes (by rw [HCE.out]; exact hCk), HCE.out, ← h2]
                      · rw [closeTo_no (by rw [HCE.out]; simpa using hCk), HCE.out]
                    · rw [closeTo_yes (by rw [HCE.out]; exact h), HCE.out, hje, HEND2.out]
                  clear hje
                  go_wp2
                  go_roundw
                  case rel => exact ⟨hb, k + 1, by omega, by go_num, by rw [HCN.out]; exact HJ.out⟩
                  case measure => simp [intOf]; omega
            · obtain rfl : k = 5 := by omega
              go_wp2
              go_roundw
              case rel => exact ⟨hb, s + 1, by omega, by go_num, HK.out⟩
              case measure => simp [intOf]; omega
        · obtain rfl : s = 5 := by omega
          have hhas := has_members (n := closeN (Wof xs) 5 (Wof xs q) 5) (k := q) (by omega)
          have HH := Lib.hid hhas
          clear hhas
          have hm7 := membersL_len (closeN (Wof xs) 5 (Wof xs q) 5)
          obtain ⟨t, ht⟩ : ∃ t, (closeN (Wof xs) 5 (Wof xs q) 5).testBit q = t := ⟨_, rfl⟩
          have HT := Lib.hid ht
          clear ht
          cases t with
          | true =>
            have hf : Hid (true = R) := by show _ = _; rw [← HR.out]; symm; rw [List.any_eq_true]; exact ⟨q, by simpa using hq5, HT.out⟩
            go_wp2_with fail
            refine (l30Has_any _ _ HS.out.cell.1.to1 (by omega)).mono ?_
            rw [HH.out, HT.out]
            rintro e w' ⟨rfl, rfl⟩
            go_wp2
            go_returns
            exact ⟨ret_bool hf.out, b1.trans hb⟩
          | false =>
            go_wp2_with fail
            refine (l30Has_any _ _ HS.out.cell.1.to1 (by omega)).mono ?_
            rw [HH.out, HT.out]
            rintro e w' ⟨rfl, rfl⟩
            go_wp2
            go_roundw
            case rel => exact ⟨hb, q + 1, by omega, by go_num, fun o ho => if e : o = q then e ▸ HT.out else HQ.out o (by omega)⟩
            case measure => simp [intOf]; omega
    · obtain rfl : q = 5 := by omega
      have hf : Hid (false = R) := by
        show _ = _
        rw [← HR.out]; symm
        rw [List.any_eq_false]
        intro o ho
        rw [HQ.out o (by simpa using ho)]
        decide
      go_wp2
      go_returns
      exact ⟨ret_bool hf.out, b1.trans hb⟩
end Go.Proofs.YtbbfdnmlfjdidaaDoor
