/- Logs: what LogValid answers, of the reference and of the program. -/
import Derived.Test.YtiakkgpkkpaldaaDoorLeaf
import Derived.Test.YtiakkgpkkpaldaaDoorTypes
namespace Go.Proofs.YtiakkgpkkpaldaaDoor
open Go.RowKit

def gRec (p : Option Rec) (x : Rec) : Bool := inB x.term 1 20 && inB x.value 0 99 && (match p with | some y => decide (y.term ≤ x.term) | none => true)
def goodRec (xs : List Rec) (k : Nat) : Bool := goodAt gRec xs k
/-- What LogValid answers. -/
def logOk (xs : List Rec) : Bool := allGood xs (goodRec xs) 12

set_option maxHeartbeats 1000000 in
theorem spec_LogValid {v : Value} {xs : List Rec} (w : World) (h : SlOf 2 encRec w v xs) (hlen : xs.length ≤ 2097152) :
    Calls Tryd.prog 58 #[v] w fun e w' => e = .returned (.bool (logOk xs)) ∧ Ext w w' := by
  obtain ⟨A, c, rfl, h⟩ := h
  go_enter Tryd.func58, Tryd.ntmps58
  go_wp2
  go_loopw [3] (fun i wr => Ext w wr ∧ ∃ k : Nat, k ≤ xs.length ∧ i = .int .i64 k ∧ Hid (∀ i, i < k → goodRec xs i = true)) (fun i _ => xs.length - (intOf i).toNat)
  case atStart => exact ⟨Ext.refl _, 0, Nat.zero_le _, rfl, fun _ h => absurd h (Nat.not_lt_zero _)⟩
  case round =>
    obtain ⟨hb, k, hk, rfl, Hgood⟩ := hrel
    by_cases hlt : k < xs.length
    · obtain ⟨b, off, rfl, hbl, hc⟩ := h (by omega)
      obtain ⟨x, hx⟩ := at_some hlt
      have c0 : ∀ e, (over wr e).cell? ⟨b, off + k * 2, none⟩ = some (.int .i64 x.term) := over_cell (hb.cell (hc k x hx 0 (by omega)))
      have c1 : ∀ e, (over wr e).cell? ⟨b, off + k * 2 + 1, none⟩ = some (.int .i64 x.value) := over_cell (hb.cell (hc k x hx 1 (by omega)))
      have Hc := Lib.hid hc
      have Hx := Lib.hid hx
      have Hbad : goodRec xs k = false → Hid (logOk xs = false) := fun hg => allGood_bad hlt hg
      have HB := Lib.hid Hbad
      clear h hc hx Hbad
      go_wp2
      refine wp_region_over (by kernel_rfl) (by kernel_rfl) ?_
      by_cases hT : inB x.term 1 20 = true
      · by_cases hV : inB x.value 0 99 = true
        · by_cases h0 : 0 < k
          · obtain ⟨y, hy⟩ := at_some (show k - 1 < xs.length by omega)
            have e0 : ∀ e, (over wr e).cell? ⟨b, off + (k - 1) * 2, none⟩ = some (.int .i64 y.term) := over_cell (hb.cell (Hc.out (k - 1) y hy 0 (by omega)))
            have Hy := Lib.hid hy
            clear hy
            have hk1 : (k : Int) - 1 = ((k - 1 : Nat) : Int) := by omega
            by_cases hlt2 : x.term < y.term
            · have hf := HB.out ((goodAt_pos h0 Hx.out Hy.out).trans (by simp [gRec, hT, hV]; omega))
              repeat (go_big_quiet_step (((go_at_call 37; exact quiet_same (l1In_any _ _ _ _)))))
              refine wpQuiet_nil ?_
              intro w1 hb1
              go_wp2
              go_returns
              exact ⟨ret_bool hf.out.symm, hb.trans hb1⟩
            · have hgk : Hid (goodRec xs k = true) := (goodAt_pos h0 Hx.out Hy.out).trans (by simp [gRec, hT, hV]; omega)
              repeat (go_big_quiet_step (((go_at_call 37; exact quiet_same (l1In_any _ _ _ _)))))
              refine wpQuiet_nil ?_
              intro w1 hb1
              go_wp2
              go_roundw
              case rel => exact ⟨hb.trans hb1, k + 1, by omega, by go_num, fun i hi => if e : i = k then e ▸ hgk.out else Hgood.out i (by omega)⟩
              case measure => simp [intOf]; omega
          · have hgk : Hid (goodRec xs k = true) := (goodAt_zero h0 Hx.out).trans (by simp [gRec, hT, hV])
            have hz : decide (0 < k) = false := by simp; omega
            clear h0
            repeat (go_big_quiet_step (((go_at_call 37; exact quiet_same (l1In_any _ _ _ _)))))
            refine wpQuiet_nil ?_
            intro w1 hb1
            go_wp2
            go_roundw
            case rel => exact ⟨hb.trans hb1, k + 1, by omega, by go_num, fun i hi => if e : i = k then e ▸ hgk.out else Hgood.out i (by omega)⟩
            case measure => simp [intOf]; omega
        · simp only [Bool.not_eq_true] at hV
          have hf := HB.out ((goodAt_any Hx.out).trans (by simp [gRec, hT, hV]))
          repeat (go_big_quiet_step (((go_at_call 37; exact quiet_same (l1In_any _ _ _ _)))))
          refine wpQuiet_nil ?_
          intro w1 hb1
          go_wp2
          go_returns
          exact ⟨ret_bool hf.out.symm, hb.trans hb1⟩
      · simp only [Bool.not_eq_true] at hT
        have hf := HB.out ((goodAt_any Hx.out).trans (by simp [gRec, hT]))
        repeat (go_big_quiet_step (((go_at_call 37; exact quiet_same (l1In_any _ _ _ _)))))
        refine wpQuiet_nil ?_
        intro w1 hb1
        go_wp2
        go_returns
        exact ⟨ret_bool hf.out.symm, hb.trans hb1⟩
    · go_wp2
      go_returns
      refine ⟨ret_bool ?_, hb⟩
      rw [logOk, allGood_end (fun i hi => Hgood.out i (by omega))]
      simp; omega
set_option maxHeartbeats 1000000 in
theorem impl_LogValid {v : Value} {xs : List Rec} (w : World) (h : SlOf 2 encRec w v xs) (hlen : xs.length ≤ 2097152) :
    Calls Tryd.prog 31 #[v] w fun e w' => e = .returned (.bool (logOk xs)) ∧ Ext w w' := by
  obtain ⟨A, c, rfl, h⟩ := h
  by_cases hlong : 12 < xs.length
  · have hf : Hid (logOk xs = false) := allGood_long hlong
    go_enter Tryd.func31, Tryd.ntmps31
    go_wp2
    go_returns
    exact ⟨ret_bool hf.out.symm, Ext.refl _⟩
  have h12 : xs.length ≤ 12 := by omega
  clear hlong
  go_enter Tryd.func31, Tryd.ntmps31
  go_wp2
  go_loopw [10] (fun i wr => Ext w wr ∧ ∃ k : Nat, k ≤ xs.length ∧ i = .int .i64 k ∧ Hid (∀ i, i < k → goodRec xs i = true)) (fun i _ => xs.length - (intOf i).toNat)
  case atStart => exact ⟨Ext.refl _, 0, Nat.zero_le _, rfl, fun _ h => absurd h (Nat.not_lt_zero _)⟩
  case round =>
    obtain ⟨hb, k, hk, rfl, Hgood⟩ := hrel
    by_cases hlt : k < xs.length
    · obtain ⟨b, off, rfl, hbl, hc⟩ := h (by omega)
      obtain ⟨x, hx⟩ := at_some hlt
      have c0 : wr.cell? ⟨b, off + k * 2, none⟩ = some (.int .i64 x.term) := hb.cell (hc k x hx 0 (by omega))
      have c1 : wr.cell? ⟨b, off + k * 2 + 1, none⟩ = some (.int .i64 x.value) := hb.cell (hc k x hx 1 (by omega))
      have Hc := Lib.hid hc
      have Hx := Lib.hid hx
      have Hbad : goodRec xs k = false → Hid (logOk xs = false) := fun hg => allGood_bad hlt hg
      have HB := Lib.hid Hbad
      clear h hc hx Hbad
      go_wp2
      refine wp_world (fun W => Ext wr W ∧ W.cell? ⟨wr.heap.size, 0, none⟩ = some (.int .i64 x.term) ∧ W.cell? ⟨wr.heap.size, 1, none⟩ = some (.int .i64 x.value)) ⟨(Ext.refl _).alloc _, by go_cell, by go_cell⟩ ?_
      rintro W ⟨hW, e0, e1⟩
      replace e0 := over_cell e0
      replace e1 := over_cell e1
      replace hb := hb.trans hW
      clear c0 c1
      refine wp_region_over (by kernel_rfl) (by kernel_rfl) ?_
      by_cases hT : inB x.term 1 20 = true
      · by_cases hV : inB x.value 0 99 = true
        · by_cases h0 : 0 < k
          · obtain ⟨y, hy⟩ := at_some (show k - 1 < xs.length by omega)
            have c0 : ∀ e, (over W e).cell? ⟨b, off + (k - 1) * 2, none⟩ = some (.int .i64 y.term) := over_cell (hb.cell (Hc.out (k - 1) y hy 0 (by omega)))
            have Hy := Lib.hid hy
            clear hy
            by_cases hlt2 : x.term < y.term
            · have hf := HB.out ((goodAt_pos h0 Hx.out Hy.out).trans (by simp [gRec, hT, hV]; omega))
              repeat (go_big_quiet_step (((first | (go_at_call 34; exact quiet_same (within_any _ _ _ _)) | (go_at_call 45; exact quiet_same (valueOk_any _ _))))))
              refine wpQuiet_nil ?_
              intro w1 hb1
              go_wp2
              go_returns
              exact ⟨ret_bool hf.out.symm, hb.trans hb1⟩
            · have hgk : Hid (goodRec xs k = true) := (goodAt_pos h0 Hx.out Hy.out).trans (by simp [gRec, hT, hV]; omega)
              repeat (go_big_quiet_step (((first | (go_at_call 34; exact quiet_same (within_any _ _ _ _)) | (go_at_call 45; exact quiet_same (valueOk_any _ _))))))
              refine wpQuiet_nil ?_
              intro w1 hb1
              go_wp2
              go_roundw
              case rel => exact ⟨hb.trans hb1, k + 1, by omega, by go_num, fun i hi => if e : i = k then e ▸ hgk.out else Hgood.out i (by omega)⟩
              case measure => simp [intOf]; omega
          · have hgk : Hid (goodRec xs k = true) := (goodAt_zero h0 Hx.out).trans (by simp [gRec, hT, hV])
            have hz : decide (0 < k) = false := by simp; omega
            clear h0
            repeat (go_big_quiet_step (((first | (go_at_call 34; exact quiet_same (within_any _ _ _ _)) | (go_at_call 45; exact quiet_same (valueOk_any _ _))))))
            refine wpQuiet_nil ?_
            intro w1 hb1
            go_wp2
            go_roundw
            case rel => exact ⟨hb.trans hb1, k + 1, by omega, by go_num, fun i hi => if e : i = k then e ▸ hgk.out else Hgood.out i (by omega)⟩
            case measure => simp [intOf]; omega
        · simp only [Bool.not_eq_true] at hV
          have hf := HB.out ((goodAt_any Hx.out).trans (by simp [gRec, hT, hV]))
          repeat (go_big_quiet_step (((first | (go_at_call 34; exact quiet_same (within_any _ _ _ _)) | (go_at_call 45; exact quiet_same (valueOk_any _ _))))))
          refine wpQuiet_nil ?_
          intro w1 hb1
          go_wp2
          go_returns
          exact ⟨ret_bool hf.out.symm, hb.trans hb1⟩
      · simp only [Bool.not_eq_true] at hT
        have hf := HB.out ((goodAt_any Hx.out).trans (by simp [gRec, hT]))
        repeat (go_big_quiet_step (((first | (go_at_call 34; exact quiet_same (within_any _ _ _ _)) | (go_at_call 45; exact quiet_same (valueOk_any _ _))))))
        refine wpQuiet_nil ?_
        intro w1 hb1
        go_wp2
        go_returns
        exact ⟨ret_bool hf.out.symm, hb.trans hb1⟩
    · go_wp2
      go_returns
      refine ⟨ret_bool ?_, hb⟩
      rw [logOk, allGood_end (fun i hi => Hgood.out i (by omega))]
      simp; omega
end Go.Proofs.YtiakkgpkkpaldaaDoor
