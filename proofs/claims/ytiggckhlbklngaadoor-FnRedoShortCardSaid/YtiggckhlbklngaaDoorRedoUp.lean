/- Redoing twice is redoing once. -/
import Derived.Test.YtiggckhlbklngaaDoorRedoRun
namespace Go.Proofs.YtiggckhlbklngaaDoor
open Go.RowKit

/-- What was written last to place i. -/
def wrote (S : Nat) (xs : List Redo) : Nat → Nat → Option Int
  | 0, _ => none
  | k + 1, i => match xs[k]? with
    | some x => if (0 ≤ x.key ∧ S.testBit x.who.toNat = true) ∧ x.key.toNat = i then some x.value else wrote S xs k i
    | none => wrote S xs k i
theorem runTo_get (S : Nat) (vs : List Int) (xs : List Redo) (k i : Nat) (hi : i < vs.length) : (runTo S vs xs k)[i]? = match wrote S xs k i with | some y => some y | none => vs[i]? := by
  induction k with
  | zero => rfl
  | succ k ih =>
    cases hx : xs[k]? with
    | none =>
      rw [runTo, wrote, hx]
      exact ih
    | some x =>
      by_cases h : 0 ≤ x.key ∧ S.testBit x.who.toNat = true
      · rw [runTo_yes hx h.1 h.2, wrote, hx]
        simp only
        by_cases e : x.key.toNat = i
        · rw [if_pos ⟨h, e⟩, e, List.getElem?_set_self (by rw [runTo_len]; exact hi)]
        · rw [if_neg (fun hh => e hh.2), List.getElem?_set_ne e]
          exact ih
      · rw [runTo_no hx h, wrote, hx]
        simp only
        rw [if_neg (fun hh => h hh.1)]
        exact ih
theorem runTo_twice (S : Nat) (vs : List Int) (xs : List Redo) (n : Nat) : runTo S (runTo S vs xs n) xs n = runTo S vs xs n := by
  apply List.ext_getElem?
  intro i
  by_cases hi : i < vs.length
  · rw [runTo_get S _ xs n i (by rw [runTo_len]; exact hi)]
    cases hw : wrote S xs n i with
    | none => rfl
    | some y =>
      simp only
      rw [runTo_get S vs xs n i hi, hw]
  · rw [List.getElem?_eq_none (by rw [runTo_len, runTo_len]; omega), List.getElem?_eq_none (by rw [runTo_len]; omega)]
theorem runTo_vals {S : Nat} {vs : List Int} {xs : List Redo} (hv : valsOk vs = true) (hx : redoOk xs = true) (k : Nat) (hk : k ≤ xs.length) : valsOk (runTo S vs xs k) = true := by
  unfold valsOk at *
  rw [Bool.and_eq_true, decide_eq_true_eq, List.all_eq_true] at *
  refine ⟨by rw [runTo_len]; exact hv.1, ?_⟩
  induction k with
  | zero => exact hv.2
  | succ k ih =>
    have ih := ih (by omega)
    obtain ⟨x, hxk⟩ := at_some (show k < xs.length by omega)
    by_cases h : 0 ≤ x.key ∧ S.testBit x.who.toNat = true
    · rw [runTo_yes hxk h.1 h.2]
      intro y hy
      rcases List.mem_or_eq_of_mem_set hy with hy | rfl
      · exact ih y hy
      · exact inB_true.2 (goodRedo_who hxk (redo_good hx (by omega))).2.2
    · rw [runTo_no hxk h]
      exact ih
/-- Redoing the same records behind them changes nothing. -/
theorem runL_twice {vs : List Int} {xs : List Redo} (h : 0 < (runL vs xs).length) : runL (runL vs xs) xs = runL vs xs := by
  have hc : valsOk vs = true ∧ redoOk xs = true := by
    unfold runL at h
    split at h
    · assumption
    · simp at h
  have e : runL vs xs = runTo (setTo xs xs.length) vs xs xs.length := by unfold runL; rw [if_pos hc]
  rw [e]
  unfold runL
  rw [if_pos ⟨runTo_vals hc.1 hc.2 _ (Nat.le_refl _), hc.2⟩, runTo_twice]
end Go.Proofs.YtiggckhlbklngaaDoor
