/- How many members a set has, by the reference and by the program. -/
import Derived.Test.YtiakkgpkkpaldaaDoorLeaf
namespace Go.Proofs.YtiakkgpkkpaldaaDoor
open Go.RowKit

/-- The ones of a number below 128. -/
def pc (n : Nat) : Nat := n % 2 + n / 2 % 2 + n / 4 % 2 + n / 8 % 2 + n / 16 % 2 + n / 32 % 2 + n / 64 % 2
/-- What SetSize answers. -/
def sizeB (set : Int) : Int := if inB set 0 127 then (pc set.toNat : Int) else -1
theorem pc_half (n : Nat) (h : n ≤ 127) : pc n = n % 2 + pc (n / 2) := by unfold pc; omega
theorem pc_le (n : Nat) : pc n ≤ 7 := by unfold pc; omega

set_option maxHeartbeats 1000000 in
theorem onesCount64_any (n : Nat) (w : World) (h : n < 128) :
    Calls Tryd.prog 73 #[.int .u64 (n : Int)] w fun e w' => e = .returned (.int .i64 (pc n : Int)) ∧ w = w' := by
  go_enter Tryd.func73, Tryd.ntmps73
  go_wp2
  go_returns
  refine ⟨ret_int ?_, rfl⟩
  clear w
  revert n
  decide +kernel
theorem onesCount_any (n : Nat) (w : World) (h : n < 128) :
    Calls Tryd.prog 64 #[.int .u64 (n : Int)] w fun e w' => e = .returned (.int .i64 (pc n : Int)) ∧ w = w' := by
  go_enter Tryd.func64, Tryd.ntmps64
  go_wp2_with (go_at_call 73; refine (onesCount64_any _ _ h).mono ?_; rintro e w' ⟨rfl, rfl⟩)
  go_returns
  exact ⟨rfl, rfl⟩
set_option maxHeartbeats 400000 in
theorem impl_SetSize (set : Int) (w : World) :
    Calls Tryd.prog 46 #[.int .i64 set] w fun e w' => e = .returned (.int .i64 (sizeB set)) ∧ w = w' := by
  by_cases h : inB set 0 127 = true
  · have h' := inB_true.1 h
    obtain ⟨n, rfl⟩ := Int.eq_ofNat_of_zero_le h'.1
    have hf : Hid (sizeB (n : Int) = (pc n : Int)) := by show _ = _; simp [sizeB, h]
    have hn : n < 128 := by omega
    go_enter Tryd.func46, Tryd.ntmps46
    go_wp2_with (first | (go_at_call 34; refine (within_any _ _ _ _).mono ?_; rintro e w' ⟨rfl, rfl⟩) | (go_at_call 64; refine (onesCount_any _ _ hn).mono ?_; rintro e w' ⟨rfl, rfl⟩))
    go_returns
    exact ⟨ret_int hf.out.symm, rfl⟩
  · simp only [Bool.not_eq_true] at h
    have hf : Hid (sizeB set = -1) := by show _ = _; simp [sizeB, h]
    go_enter Tryd.func46, Tryd.ntmps46
    go_wp2_with ((go_at_call 34; refine (within_any _ _ _ _).mono ?_; rintro e w' ⟨rfl, rfl⟩))
    go_returns
    exact ⟨ret_int hf.out.symm, rfl⟩
set_option maxHeartbeats 400000 in
theorem spec_SetSize (set : Int) (w : World) :
    Calls Tryd.prog 50 #[.int .i64 set] w fun e w' => e = .returned (.int .i64 (sizeB set)) ∧ w = w' := by
  by_cases h : inB set 0 127 = true
  · have h' := inB_true.1 h
    obtain ⟨n, rfl⟩ := Int.eq_ofNat_of_zero_le h'.1
    have hf : Hid (sizeB (n : Int) = (pc n : Int)) := by show _ = _; simp [sizeB, h]
    go_enter Tryd.func50, Tryd.ntmps50
    go_wp2_with ((go_at_call 37; refine (l1In_any _ _ _ _).mono ?_; rintro e w' ⟨rfl, rfl⟩))
    go_loop [0, 3] (fun s m => ∃ a b : Nat, a ≤ 127 ∧ b ≤ 7 ∧ s = .int .i64 a ∧ m = .int .i64 b ∧ Hid (b + pc a = pc n)) (fun s _ => (intOf s).toNat)
    case atStart => exact ⟨n, 0, by omega, by omega, rfl, rfl, by show _ = _; omega⟩
    case round =>
      obtain ⟨a, b, ha, hb, rfl, rfl, HI⟩ := hrel
      by_cases h0 : 0 < a
      · have h7 : b + a % 2 ≤ 7 := by have := HI.out; have := pc_half a ha; have := pc_le n; omega
        go_wp2
        go_round
        case rel => exact ⟨a / 2, b + a % 2, by omega, h7, by go_num, by go_num, by have := HI.out; have := pc_half a ha; show _ = _; omega⟩
        case measure => simp [intOf]; omega
      · have h00 : a < 1 := by omega
        have hr : Hid (b = pc n) := by
          have := HI.out
          have e : a = 0 := by omega
          rw [e] at this
          exact this
        clear h0
        go_wp2
        go_returns
        exact ⟨ret_int (by rw [hf.out, hr.out]), rfl⟩
  · simp only [Bool.not_eq_true] at h
    have hf : Hid (sizeB set = -1) := by show _ = _; simp [sizeB, h]
    go_enter Tryd.func50, Tryd.ntmps50
    go_wp2_with ((go_at_call 37; refine (l1In_any _ _ _ _).mono ?_; rintro e w' ⟨rfl, rfl⟩))
    go_returns
    exact ⟨ret_int hf.out.symm, rfl⟩
end Go.Proofs.YtiakkgpkkpaldaaDoor
