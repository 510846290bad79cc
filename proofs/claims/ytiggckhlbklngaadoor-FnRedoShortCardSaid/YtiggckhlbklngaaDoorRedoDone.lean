/- The transactions that are done: RedoDone, of the reference and of the program. -/
import Derived.Test.YtiggckhlbklngaaDoorRedo
import Derived.Test.YtiggckhlbklngaaDoorSetPut
import Derived.Test.YtiggckhlbklngaaDoorSetHas
namespace Go.Proofs.YtiggckhlbklngaaDoor
open Go.RowKit
set_option maxRecDepth 8000

/-- What RedoDone returns. -/
def doneL (xs : List Redo) : List Int := if redoOk xs = true then membersL (setTo xs xs.length) else []
theorem doneL_len (xs : List Redo) : (doneL xs).length ≤ 7 := by
  unfold doneL
  split
  · exact membersL_len _
  · simp
theorem redo_good {xs : List Redo} (h : redoOk xs = true) {k : Nat} (hk : k < xs.length) : goodRedo xs k = true := (allGood_true.1 h).1 k hk
theorem setTo_yes {xs : List Redo} {k : Nat} {x : Redo} (hx : xs[k]? = some x) (h : x.key < 0) : setTo xs (k + 1) = setTo xs k ||| 2 ^ x.who.toNat := by rw [setTo, hx]; simp only; rw [if_pos h]
theorem setTo_no {xs : List Redo} {k : Nat} {x : Redo} (hx : xs[k]? = some x) (h : ¬ x.key < 0) : setTo xs (k + 1) = setTo xs k := by rw [setTo, hx]; simp only; rw [if_neg h]
theorem redoOk_empty {xs : List Redo} (h : ¬ redoOk xs = true) : 0 < xs.length := by
  rcases Nat.eq_zero_or_pos xs.length with h0 | h0
  · have : xs = [] := List.eq_nil_of_length_eq_zero h0
    subst this
    exact absurd (by decide) h
  · exact h0
set_option maxHeartbeats 4000000 in
theorem spec_RedoDone_row {v : Value} {xs : List Redo} (w : World) (h : SlOf 3 encRedo w v xs) (hlen : xs.length ≤ 2097152) :
    Calls Tryd.prog 49 #[v] w fun e w' => ∃ v', e = .returned v' ∧ Row 3 1 (one encI) w.heap.size w' v' (doneL xs) ∧ Ext w w' := by
  have H := Lib.hid h
  obtain ⟨A, c, rfl, hc0⟩ := id h
  have HC := Lib.hid hc0
  clear h hc0
  have hr0 : Row 3 1 (one encI) w.heap.size (w.alloc (.cells #[] 3)) (.slice (some ⟨w.heap.size, 0, none⟩) 0 0) ([] : List Int) := World.ownsRow_made w #[] 0 (Nat.le_refl _) (by simp [maxLen]) (by simp)
  have HR0 := Lib.hid hr0
  clear hr0
  by_cases hv : redoOk xs = true
  case neg =>
    have hf : Hid (doneL xs = []) := by show _ = _; rw [doneL, if_neg hv]
    have hpos := redoOk_empty hv
    rw [hf.out]
    simp only [Bool.not_eq_true] at hv
    go_enter Tryd.func49, Tryd.ntmps49
    go_wp2
    go_loopw [3, 4] (fun o i wr => Ext (w.alloc (.cells #[] 3)) wr ∧ i = .int .i64 0 ∧ o = .slice (some ⟨w.heap.size, 0, none⟩) 0 0) (fun _ _ _ => 0)
    case atStart => exact ⟨Ext.refl _, rfl, rfl⟩
    case round =>
      obtain ⟨hb, rfl, rfl⟩ := hrel
      go_wp2_with fail
      refine (spec_RedoValid _ (H.out.ext (((Ext.refl _).alloc _).trans hb)) hlen).mono ?_
      rw [hv]
      rintro e w1 ⟨rfl, b1⟩
      go_wp2
      go_returns
      exact ⟨_, rfl, (HR0.out.ext hb).ext b1, (((Ext.refl _).alloc _).trans hb).trans b1⟩
  have hl30 : xs.length ≤ 30 := (allGood_true.1 hv).2
  have hf : Hid (doneL xs = membersL (setTo xs xs.length)) := by show _ = _; rw [doneL, if_pos hv]
  rw [hf.out]
  have HV := Lib.hid hv
  clear hv
  go_enter Tryd.func49, Tryd.ntmps49
  go_wp2
  go_loopw [3, 4] (fun o i wr => Ext w wr ∧ ∃ k : Nat, k ≤ xs.length ∧ i = .int .i64 k ∧ Hid (Row 3 1 (one encI) w.heap.size wr o (membersL (setTo xs k)))) (fun _ i _ => xs.length - (intOf i).toNat)
  case atStart => exact ⟨(Ext.refl _).alloc _, 0, Nat.zero_le _, rfl, by rw [show setTo xs 0 = 0 from rfl, membersL_zero]; exact HR0.out⟩
  case round =>
    clear HR0
    obtain ⟨hb, k, hk, rfl, HR⟩ := hrel
    by_cases hlt : k < xs.length
    · obtain ⟨b, off, rfl, hbl, hcell⟩ := HC.out (by omega)
      obtain ⟨x, hx⟩ := at_some hlt
      have hg := goodRedo_who hx (redo_good HV.out hlt)
      have c0 := Lib.hid (hb.cell (hcell k x hx 0 (by omega)))
      have c1 := Lib.hid (hb.cell (hcell k x hx 1 (by omega)))
      have Hx := Lib.hid hx
      clear hcell hx
      go_wp2_with fail
      refine (spec_RedoValid _ (H.out.ext hb) hlen).mono ?_
      rw [HV.out]
      rintro e w1 ⟨rfl, b1⟩
      have d0 := b1.cell c0.out
      have d1 := b1.cell c1.out
      simp only [encRedo, Nat.add_zero] at d0 d1
      have HR1 := Lib.hid (HR.out.ext b1)
      by_cases hneg : x.key < 0
      · have he : (x.key == -1) = true := by rw [beq_iff_eq]; omega
        obtain ⟨yo, hyo⟩ := Int.eq_ofNat_of_zero_le hg.1.1
        have h7 := membersL_len (setTo xs k)
        have hn : setTo xs (k + 1) = setTo xs k ||| 2 ^ yo := by rw [setTo_yes Hx.out hneg, hyo]; rfl
        have HN := Lib.hid hn
        have HYO := Lib.hid hyo
        clear hn hyo hneg
        go_wp2_with fail
        refine (l30Put_any _ _ HR1.out.cell.1.to1 (by omega) HR1.out.cap).mono ?_
        rintro e w2 ⟨v2, rfl, hrow, b2⟩
        rw [HYO.out, putL_members _ (by have := HYO.out; omega), ← HN.out] at hrow
        have HROW := Lib.hid (Row.low hrow (hb.trans b1).size)
        clear hrow
        go_wp2
        go_roundw
        case rel => exact ⟨(hb.trans b1).trans b2, k + 1, by omega, by go_num, HROW⟩
        case measure => simp [intOf]; omega
      · have he : (x.key == -1) = false := by rw [beq_eq_false_iff_ne]; omega
        have HN := Lib.hid (setTo_no Hx.out hneg)
        clear hneg
        go_wp2
        go_roundw
        case rel => exact ⟨hb.trans b1, k + 1, by omega, by go_num, by rw [HN.out]; exact HR1.out⟩
        case measure => simp [intOf]; omega
    · obtain rfl : k = xs.length := by omega
      go_wp2
      go_returns
      exact ⟨_, rfl, HR.out, hb⟩
theorem spec_RedoDone {v : Value} {xs : List Redo} (w : World) (h : SlOf 3 encRedo w v xs) (hlen : xs.length ≤ 2097152) :
    Calls Tryd.prog 49 #[v] w (Ret1 encI w (doneL xs)) :=
  (spec_RedoDone_row w h hlen).mono fun _ _ ⟨v', he, hr, hb⟩ => ⟨v', he, hr.cell.1.to1, hr.cell.2, hb⟩
end Go.Proofs.YtiggckhlbklngaaDoor
