/- Leases: LeaseHeld and LeasesValid, of the reference and of the program. -/
import Derived.Test.YtpkjgeidndbbbaaDoorLeaf
import Derived.Test.YtpkjgeidndbbbaaDoorTypes
namespace Go.Proofs.YtpkjgeidndbbbaaDoor
open Go.RowKit

def heldB (l : Lease) (now skew : Int) : Bool := inB skew 0 50 && inB now (-2000) 2000 && decide (l.frm ≤ now - skew) && decide (now + skew < l.til)

set_option maxHeartbeats 400000 in
theorem impl_LeaseHeld (l : Lease) (now skew : Int) (w : World) :
    Calls Tryd.prog 28 #[.agg #[.int .i64 l.who, .int .i64 l.frm, .int .i64 l.til], .int .i64 now, .int .i64 skew] w fun e w' => e = .returned (.bool (heldB l now skew)) ∧ Ext w w' := by
  by_cases h1 : inB skew 0 50 = true
  · by_cases h2 : inB now (-2000) 2000 = true
    · have h1' := inB_true.1 h1
      have h2' := inB_true.1 h2
      by_cases h3 : l.frm ≤ now - skew
      all_goals
        have hf : Hid (heldB l now skew = (decide (l.frm ≤ now - skew) && decide (now + skew < l.til))) := by show _ = _; simp [heldB, h1, h2]
        go_enter Tryd.func28, Tryd.ntmps28
        go_wp2_with ((first | (go_at_call 58; refine (skewOk_any _ _).mono ?_; rintro e w' ⟨rfl, rfl⟩) | (go_at_call 42; refine (within_any _ _ _ _).mono ?_; rintro e w' ⟨rfl, rfl⟩)))
        go_returns
        exact ⟨ret_bool (by rw [hf.out]; simp [h3] <;> (intros; omega)), (Ext.refl _).alloc _⟩
    · simp only [Bool.not_eq_true] at h2
      have hf : Hid (heldB l now skew = false) := by show _ = _; simp [heldB, h2]
      go_enter Tryd.func28, Tryd.ntmps28
      go_wp2_with ((first | (go_at_call 58; refine (skewOk_any _ _).mono ?_; rintro e w' ⟨rfl, rfl⟩) | (go_at_call 42; refine (within_any _ _ _ _).mono ?_; rintro e w' ⟨rfl, rfl⟩)))
      go_returns
      exact ⟨ret_bool hf.out.symm, (Ext.refl _).alloc _⟩
  · simp only [Bool.not_eq_true] at h1
    have hf : Hid (heldB l now skew = false) := by show _ = _; simp [heldB, h1]
    go_enter Tryd.func28, Tryd.ntmps28
    go_wp2_with ((first | (go_at_call 58; refine (skewOk_any _ _).mono ?_; rintro e w' ⟨rfl, rfl⟩) | (go_at_call 42; refine (within_any _ _ _ _).mono ?_; rintro e w' ⟨rfl, rfl⟩)))
    go_returns
    exact ⟨ret_bool hf.out.symm, (Ext.refl _).alloc _⟩
set_option maxHeartbeats 400000 in
theorem spec_LeaseHeld (l : Lease) (now skew : Int) (w : World) :
    Calls Tryd.prog 63 #[.agg #[.int .i64 l.who, .int .i64 l.frm, .int .i64 l.til], .int .i64 now, .int .i64 skew] w fun e w' => e = .returned (.bool (heldB l now skew)) ∧ Ext w w' := by
  by_cases h1 : inB skew 0 50 = true
  · by_cases h2 : inB now (-2000) 2000 = true
    · have h1' := inB_true.1 h1
      have h2' := inB_true.1 h2
      by_cases h3 : l.frm ≤ now - skew
      all_goals
        have hf : Hid (heldB l now skew = (decide (l.frm ≤ now - skew) && decide (now + skew < l.til))) := by show _ = _; simp [heldB, h1, h2]
        go_enter Tryd.func63, Tryd.ntmps63
        go_wp2_with ((go_at_call 62; refine (l1In_any _ _ _ _).mono ?_; rintro e w' ⟨rfl, rfl⟩))
        go_returns
        exact ⟨ret_bool (by rw [hf.out]; simp [h3] <;> (intros; omega)), (Ext.refl _).alloc _⟩
    · simp only [Bool.not_eq_true] at h2
      have hf : Hid (heldB l now skew = false) := by show _ = _; simp [heldB, h2]
      go_enter Tryd.func63, Tryd.ntmps63
      go_wp2_with ((go_at_call 62; refine (l1In_any _ _ _ _).mono ?_; rintro e w' ⟨rfl, rfl⟩))
      go_returns
      exact ⟨ret_bool hf.out.symm, (Ext.refl _).alloc _⟩
  · simp only [Bool.not_eq_true] at h1
    have hf : Hid (heldB l now skew = false) := by show _ = _; simp [heldB, h1]
    go_enter Tryd.func63, Tryd.ntmps63
    go_wp2_with ((go_at_call 62; refine (l1In_any _ _ _ _).mono ?_; rintro e w' ⟨rfl, rfl⟩))
    go_returns
    exact ⟨ret_bool hf.out.symm, (Ext.refl _).alloc _⟩

def gLease (p : Option Lease) (x : Lease) : Bool :=
  inB x.who 0 3 && inB x.frm 0 1000 && inB x.til 0 1000 && decide (x.frm < x.til) && (match p with | some y => decide (y.til ≤ x.frm) | none => true)
def goodLease (xs : List Lease) (k : Nat) : Bool := goodAt gLease xs k
/-- What LeasesValid answers. -/
def leasesOk (xs : List Lease) : Bool := allGood xs (goodLease xs) 6

set_option maxHeartbeats 1000000 in
theorem spec_LeasesValid {v : Value} {xs : List Lease} (w : World) (h : SlOf 3 encLease w v xs) (hlen : xs.length ≤ 2097152) :
    Calls Tryd.prog 61 #[v] w fun e w' => e = .returned (.bool (leasesOk xs)) ∧ Ext w w' := by
  obtain ⟨A, c, rfl, h⟩ := h
  go_enter Tryd.func61, Tryd.ntmps61
  go_wp2
  go_loopw [3] (fun i wr => Ext w wr ∧ ∃ k : Nat, k ≤ xs.length ∧ i = .int .i64 k ∧ Hid (∀ i, i < k → goodLease xs i = true)) (fun i _ => xs.length - (intOf i).toNat)
  case atStart => exact ⟨Ext.refl _, 0, Nat.zero_le _, rfl, fun _ h => absurd h (Nat.not_lt_zero _)⟩
  case round =>
    obtain ⟨hb, k, hk, rfl, Hgood⟩ := hrel
    by_cases hlt : k < xs.length
    · obtain ⟨b, off, rfl, hbl, hc⟩ := h (by omega)
      obtain ⟨x, hx⟩ := at_some hlt
      have c0 : ∀ e, (over wr e).cell? ⟨b, off + k * 3, none⟩ = some (.int .i64 x.who) := over_cell (hb.cell (hc k x hx 0 (by omega)))
      have c1 : ∀ e, (over wr e).cell? ⟨b, off + k * 3 + 1, none⟩ = some (.int .i64 x.frm) := over_cell (hb.cell (hc k x hx 1 (by omega)))
      have c2 : ∀ e, (over wr e).cell? ⟨b, off + k * 3 + 2, none⟩ = some (.int .i64 x.til) := over_cell (hb.cell (hc k x hx 2 (by omega)))
      have Hc := Lib.hid hc
      have Hx := Lib.hid hx
      have Hbad : goodLease xs k = false → Hid (leasesOk xs = false) := fun hg => allGood_bad hlt hg
      have HB := Lib.hid Hbad
      clear h hc hx Hbad
      go_wp2
      refine wp_region_over (by kernel_rfl) (by kernel_rfl) ?_
      by_cases hT : inB x.who 0 3 = true
      · by_cases hV : inB x.til 1 1000 = true
        · have hV' := inB_true.1 hV
          by_cases hF : inB x.frm 0 (x.til - 1) = true
          · have hF' := inB_true.1 hF
            by_cases h0 : 0 < k
            · obtain ⟨y, hy⟩ := at_some (show k - 1 < xs.length by omega)
              have e0 : ∀ e, (over wr e).cell? ⟨b, off + (k - 1) * 3 + 2, none⟩ = some (.int .i64 y.til) := over_cell (hb.cell (Hc.out (k - 1) y hy 2 (by omega)))
              have Hy := Lib.hid hy
              clear hy
              by_cases hlt2 : x.frm < y.til
              · have hf := HB.out ((goodAt_pos h0 Hx.out Hy.out).trans (by simp [gLease]; omega))
                repeat (go_big_quiet_step (((go_at_call 62; exact quiet_same (l1In_any _ _ _ _)))))
                refine wpQuiet_nil ?_
                intro w1 hb1
                go_wp2
                go_returns
                exact ⟨ret_bool hf.out.symm, hb.trans hb1⟩
              · have hgk : Hid (goodLease xs k = true) := (goodAt_pos h0 Hx.out Hy.out).trans (by have := inB_true.1 hT; simp [gLease, inB]; omega)
                repeat (go_big_quiet_step (((go_at_call 62; exact quiet_same (l1In_any _ _ _ _)))))
                refine wpQuiet_nil ?_
                intro w1 hb1
                go_wp2
                go_roundw
                case rel => exact ⟨hb.trans hb1, k + 1, by omega, by go_num, fun i hi => if e : i = k then e ▸ hgk.out else Hgood.out i (by omega)⟩
                case measure => simp [intOf]; omega
            · have hgk : Hid (goodLease xs k = true) := (goodAt_zero h0 Hx.out).trans (by have := inB_true.1 hT; simp [gLease, inB]; omega)
              have hz : decide (0 < k) = false := by simp; omega
              clear h0
              repeat (go_big_quiet_step (((go_at_call 62; exact quiet_same (l1In_any _ _ _ _)))))
              refine wpQuiet_nil ?_
              intro w1 hb1
              go_wp2
              go_roundw
              case rel => exact ⟨hb.trans hb1, k + 1, by omega, by go_num, fun i hi => if e : i = k then e ▸ hgk.out else Hgood.out i (by omega)⟩
              case measure => simp [intOf]; omega
          · simp only [Bool.not_eq_true] at hF
            have hf := HB.out ((goodAt_any Hx.out).trans (by have := inB_false.1 hF; simp [gLease, inB]; intros; omega))
            repeat (go_big_quiet_step (((go_at_call 62; exact quiet_same (l1In_any _ _ _ _)))))
            refine wpQuiet_nil ?_
            intro w1 hb1
            go_wp2
            go_returns
            exact ⟨ret_bool hf.out.symm, hb.trans hb1⟩
        · simp only [Bool.not_eq_true] at hV
          have hf := HB.out ((goodAt_any Hx.out).trans (by have := inB_false.1 hV; simp [gLease, inB]; intros; omega))
          repeat (go_big_quiet_step (((go_at_call 62; exact quiet_same (l1In_any _ _ _ _)))))
          refine wpQuiet_nil ?_
          intro w1 hb1
          go_wp2
          go_returns
          exact ⟨ret_bool hf.out.symm, hb.trans hb1⟩
      · simp only [Bool.not_eq_true] at hT
        have hf := HB.out ((goodAt_any Hx.out).trans (by simp [gLease, hT]))
        repeat (go_big_quiet_step (((go_at_call 62; exact quiet_same (l1In_any _ _ _ _)))))
        refine wpQuiet_nil ?_
        intro w1 hb1
        go_wp2
        go_returns
        exact ⟨ret_bool hf.out.symm, hb.trans hb1⟩
    · go_wp2
      go_returns
      refine ⟨ret_bool ?_, hb⟩
      rw [leasesOk, allGood_end (fun i hi => Hgood.out i (by omega))]
      simp; omega

set_option maxHeartbeats 1000000 in
theorem impl_LeasesValid {v : Value} {xs : List Lease} (w : World) (h : SlOf 3 encLease w v xs) (hlen : xs.length ≤ 2097152) :
    Calls Tryd.prog 57 #[v] w fun e w' => e = .returned (.bool (leasesOk xs)) ∧ Ext w w' := by
  obtain ⟨A, c, rfl, h⟩ := h
  go_enter Tryd.func57, Tryd.ntmps57
  go_wp2
  go_loopw [7] (fun i wr => Ext w wr ∧ ∃ k : Nat, k ≤ xs.length ∧ i = .int .i64 k ∧ Hid (∀ i, i < k → goodLease xs i = true)) (fun i _ => xs.length - (intOf i).toNat)
  case atStart => exact ⟨Ext.refl _, 0, Nat.zero_le _, rfl, fun _ h => absurd h (Nat.not_lt_zero _)⟩
  case round =>
    obtain ⟨hb, k, hk, rfl, Hgood⟩ := hrel
    by_cases hlt : k < xs.length
    · obtain ⟨b, off, rfl, hbl, hc⟩ := h (by omega)
      obtain ⟨x, hx⟩ := at_some hlt
      have c0 : wr.cell? ⟨b, off + k * 3, none⟩ = some (.int .i64 x.who) := hb.cell (hc k x hx 0 (by omega))
      have c1 : wr.cell? ⟨b, off + k * 3 + 1, none⟩ = some (.int .i64 x.frm) := hb.cell (hc k x hx 1 (by omega))
      have c2 : wr.cell? ⟨b, off + k * 3 + 2, none⟩ = some (.int .i64 x.til) := hb.cell (hc k x hx 2 (by omega))
      have Hc := Lib.hid hc
      have Hx := Lib.hid hx
      have Hbad : goodLease xs k = false → Hid (leasesOk xs = false) := fun hg => allGood_bad hlt hg
      have HB := Lib.hid Hbad
      clear h hc hx Hbad
      go_wp2
      refine wp_world (fun W => Ext wr W ∧ W.cell? ⟨wr.heap.size, 0, none⟩ = some (.int .i64 x.who) ∧ W.cell? ⟨wr.heap.size, 1, none⟩ = some (.int .i64 x.frm) ∧ W.cell? ⟨wr.heap.size, 2, none⟩ = some (.int .i64 x.til)) ⟨(Ext.refl _).alloc _, by go_cell, by go_cell, by go_cell⟩ ?_
      rintro W ⟨hW, e0, e1, e2⟩
      replace e0 := over_cell e0
      replace e1 := over_cell e1
      replace e2 := over_cell e2
      replace hb := hb.trans hW
      clear c0 c1 c2
      refine wp_region_over (by kernel_rfl) (by kernel_rfl) ?_
      by_cases hT : inB x.who 0 3 = true
      · by_cases hF : inB x.frm 0 1000 = true
        · by_cases hV : inB x.til 0 1000 = true
          · by_cases hFT : x.frm < x.til
            · have hge : decide (x.til ≤ x.frm) = false := by simp; omega
              by_cases h0 : 0 < k
              · obtain ⟨y, hy⟩ := at_some (show k - 1 < xs.length by omega)
                have c0 : ∀ e, (over W e).cell? ⟨b, off + (k - 1) * 3 + 2, none⟩ = some (.int .i64 y.til) := over_cell (hb.cell (Hc.out (k - 1) y hy 2 (by omega)))
                have Hy := Lib.hid hy
                clear hy
                by_cases hlt2 : x.frm < y.til
                · have hf := HB.out ((goodAt_pos h0 Hx.out Hy.out).trans (by simp [gLease]; omega))
                  repeat (go_big_quiet_step (((first | (go_at_call 83; exact quiet_same (sessionOk_any _ _)) | (go_at_call 72; exact quiet_same (timeOk_any _ _))))))
                  refine wpQuiet_nil ?_
                  intro w1 hb1
                  go_wp2
                  go_returns
                  exact ⟨ret_bool hf.out.symm, hb.trans hb1⟩
                · have hgk : Hid (goodLease xs k = true) := (goodAt_pos h0 Hx.out Hy.out).trans (by simp [gLease, hT, hF, hV]; omega)
                  repeat (go_big_quiet_step (((first | (go_at_call 83; exact quiet_same (sessionOk_any _ _)) | (go_at_call 72; exact quiet_same (timeOk_any _ _))))))
                  refine wpQuiet_nil ?_
                  intro w1 hb1
                  go_wp2
                  go_roundw
                  case rel => exact ⟨hb.trans hb1, k + 1, by omega, by go_num, fun i hi => if e : i = k then e ▸ hgk.out else Hgood.out i (by omega)⟩
                  case measure => simp [intOf]; omega
              · have hgk : Hid (goodLease xs k = true) := (goodAt_zero h0 Hx.out).trans (by simp [gLease, hT, hF, hV]; omega)
                have hz : decide (0 < k) = false := by simp; omega
                clear h0
                repeat (go_big_quiet_step (((first | (go_at_call 83; exact quiet_same (sessionOk_any _ _)) | (go_at_call 72; exact quiet_same (timeOk_any _ _))))))
                refine wpQuiet_nil ?_
                intro w1 hb1
                go_wp2
                go_roundw
                case rel => exact ⟨hb.trans hb1, k + 1, by omega, by go_num, fun i hi => if e : i = k then e ▸ hgk.out else Hgood.out i (by omega)⟩
                case measure => simp [intOf]; omega
            · have hge : decide (x.til ≤ x.frm) = true := by simp; omega
              have hf := HB.out ((goodAt_any Hx.out).trans (by simp [gLease, hFT]))
              clear hFT
              repeat (go_big_quiet_step (((first | (go_at_call 83; exact quiet_same (sessionOk_any _ _)) | (go_at_call 72; exact quiet_same (timeOk_any _ _))))))
              refine wpQuiet_nil ?_
              intro w1 hb1
              go_wp2
              go_returns
              exact ⟨ret_bool hf.out.symm, hb.trans hb1⟩
          · simp only [Bool.not_eq_true] at hV
            have hf := HB.out ((goodAt_any Hx.out).trans (by simp [gLease, hV]))
            repeat (go_big_quiet_step (((first | (go_at_call 83; exact quiet_same (sessionOk_any _ _)) | (go_at_call 72; exact quiet_same (timeOk_any _ _))))))
            refine wpQuiet_nil ?_
            intro w1 hb1
            go_wp2
            go_returns
            exact ⟨ret_bool hf.out.symm, hb.trans hb1⟩
        · simp only [Bool.not_eq_true] at hF
          have hf := HB.out ((goodAt_any Hx.out).trans (by simp [gLease, hF]))
          repeat (go_big_quiet_step (((first | (go_at_call 83; exact quiet_same (sessionOk_any _ _)) | (go_at_call 72; exact quiet_same (timeOk_any _ _))))))
          refine wpQuiet_nil ?_
          intro w1 hb1
          go_wp2
          go_returns
          exact ⟨ret_bool hf.out.symm, hb.trans hb1⟩
      · simp only [Bool.not_eq_true] at hT
        have hf := HB.out ((goodAt_any Hx.out).trans (by simp [gLease, hT]))
        repeat (go_big_quiet_step (((first | (go_at_call 83; exact quiet_same (sessionOk_any _ _)) | (go_at_call 72; exact quiet_same (timeOk_any _ _))))))
        refine wpQuiet_nil ?_
        intro w1 hb1
        go_wp2
        go_returns
        exact ⟨ret_bool hf.out.symm, hb.trans hb1⟩
    · go_wp2
      go_returns
      refine ⟨ret_bool ?_, hb⟩
      rw [leasesOk, allGood_end (fun i hi => Hgood.out i (by omega))]
      simp; omega
end Go.Proofs.YtpkjgeidndbbbaaDoor
