/- Stamps of keys: TouchesValid, of the reference and of the program. -/
import Derived.Test.YtiggckhlbklngaaDoorLeaf
import Derived.Test.YtiggckhlbklngaaDoorTypes
namespace Go.Proofs.YtiggckhlbklngaaDoor
open Go.RowKit

def gTouch (x : Touch) : Bool := inB x.read 0 1000 && inB x.write 0 1000
/-- What TouchesValid answers. -/
def touchesOk (xs : List Touch) : Bool := decide (xs.length = 3) && xs.all gTouch
theorem touchesOk_bad {xs : List Touch} {k : Nat} {x : Touch} (hx : xs[k]? = some x) (h : gTouch x = false) : touchesOk xs = false := by
  unfold touchesOk
  rw [show xs.all gTouch = false from by rw [List.all_eq_false]; exact ⟨x, List.mem_of_getElem? hx, by rw [h]; simp⟩, Bool.and_false]
theorem touchesOk_end {xs : List Touch} (h : ∀ i x, i < xs.length → xs[i]? = some x → gTouch x = true) : touchesOk xs = decide (xs.length = 3) := by
  unfold touchesOk
  rw [show xs.all gTouch = true from by
    rw [List.all_eq_true]
    intro x hx
    obtain ⟨i, hi⟩ := List.getElem?_of_mem hx
    exact h i x (List.getElem?_eq_some_iff.1 hi).1 hi, Bool.and_true]

set_option maxHeartbeats 1000000 in
theorem spec_TouchesValid {v : Value} {xs : List Touch} (w : World) (h : SlOf 2 encTouch w v xs) (hlen : xs.length ≤ 2097152) :
    Calls Tryd.prog 65 #[v] w fun e w' => e = .returned (.bool (touchesOk xs)) ∧ Ext w w' := by
  obtain ⟨A, c, rfl, h⟩ := h
  go_enter Tryd.func65, Tryd.ntmps65
  go_wp2
  go_loop [3] (fun i => ∃ k : Nat, k ≤ xs.length ∧ i = .int .i64 k ∧ Hid (∀ i x, i < k → xs[i]? = some x → gTouch x = true)) (fun i => xs.length - (intOf i).toNat)
  case atStart => exact ⟨0, Nat.zero_le _, rfl, fun _ _ h => absurd h (Nat.not_lt_zero _)⟩
  case round =>
    obtain ⟨k, hk, rfl, HG⟩ := hrel
    by_cases hlt : k < xs.length
    · obtain ⟨b, off, rfl, hbl, hc⟩ := h (by omega)
      obtain ⟨x, hx⟩ := at_some hlt
      have c0 : w.cell? ⟨b, off + k * 2, none⟩ = some (.int .i64 x.read) := hc k x hx 0 (by omega)
      have c1 : w.cell? ⟨b, off + k * 2 + 1, none⟩ = some (.int .i64 x.write) := hc k x hx 1 (by omega)
      have Hx := Lib.hid hx
      clear h hc hx
      by_cases hT : inB x.read 0 1000 = true
      · by_cases hV : inB x.write 0 1000 = true
        · have hg : Hid (gTouch x = true) := by show _ = _; simp [gTouch, hT, hV]
          go_wp2_with ((go_at_call 38; refine (l1In_any _ _ _ _).mono ?_; rintro e w' ⟨rfl, rfl⟩))
          go_round
          case rel => exact ⟨k + 1, by omega, by go_num, fun i y hi hy => if e : i = k then by subst e; rw [Hx.out] at hy; cases hy; exact hg.out else HG.out i y (by omega) hy⟩
          case measure => simp [intOf]; omega
        · simp only [Bool.not_eq_true] at hV
          have hf := Lib.hid (touchesOk_bad Hx.out (by simp [gTouch, hV]))
          go_wp2_with ((go_at_call 38; refine (l1In_any _ _ _ _).mono ?_; rintro e w' ⟨rfl, rfl⟩))
          go_returns
          exact ⟨ret_bool hf.out.symm, Ext.refl _⟩
      · simp only [Bool.not_eq_true] at hT
        have hf := Lib.hid (touchesOk_bad Hx.out (by simp [gTouch, hT]))
        go_wp2_with ((go_at_call 38; refine (l1In_any _ _ _ _).mono ?_; rintro e w' ⟨rfl, rfl⟩))
        go_returns
        exact ⟨ret_bool hf.out.symm, Ext.refl _⟩
    · have hf := Lib.hid (touchesOk_end (fun i x hi hx => HG.out i x (by omega) hx))
      go_wp2
      go_returns
      refine ⟨ret_bool ?_, Ext.refl _⟩
      rw [hf.out]
      first | done | (rw [Bool.eq_iff_iff]; simp; omega)
end Go.Proofs.YtiggckhlbklngaaDoor
