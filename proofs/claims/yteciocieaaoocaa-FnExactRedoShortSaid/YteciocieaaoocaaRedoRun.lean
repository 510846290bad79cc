/- Values after records for redoing: RedoRun, of the reference and of the program. -/
import Derived.Test.YteciocieaaoocaaRedoDone
import Derived.Test.YteciocieaaoocaaClone
import Derived.Test.YteciocieaaoocaaPut
import Derived.StillTailTactics
namespace Go.Proofs.Yteciocieaaoocaa
open Go.RowKit
set_option maxRecDepth 8000

def valsOk (vs : List Int) : Bool := decide (vs.length = 3) && vs.all fun x => inB x 0 99
/-- The values behind k records, those of the set's transactions. -/
def runTo (S : Nat) (vs : List Int) (xs : List Redo) : Nat → List Int
  | 0 => vs
  | k + 1 => match xs[k]? with
    | some x => if 0 ≤ x.key ∧ S.testBit x.who.toNat = true then (runTo S vs xs k).set x.key.toNat x.value else runTo S vs xs k
    | none => runTo S vs xs k
theorem runTo_yes {S k : Nat} {vs : List Int} {xs : List Redo} {x : Redo} (hx : xs[k]? = some x) (h : 0 ≤ x.key) (h' : S.testBit x.who.toNat = true) : runTo S vs xs (k + 1) = (runTo S vs xs k).set x.key.toNat x.value := by rw [runTo, hx]; simp only; rw [if_pos ⟨h, h'⟩]
theorem runTo_no {S k : Nat} {vs : List Int} {xs : List Redo} {x : Redo} (hx : xs[k]? = some x) (h : ¬ (0 ≤ x.key ∧ S.testBit x.who.toNat = true)) : runTo S vs xs (k + 1) = runTo S vs xs k := by rw [runTo, hx]; simp only; rw [if_neg h]
theorem runTo_len (S : Nat) (vs : List Int) (xs : List Redo) (k : Nat) : (runTo S vs xs k).length = vs.length := by
  induction k with
  | zero => rfl
  | succ k ih =>
    rw [runTo]
    split
    · split
      · simp [ih]
      · exact ih
    · exact ih
/-- What RedoRun returns. -/
def runL (vs : List Int) (xs : List Redo) : List Int := if valsOk vs = true ∧ redoOk xs = true then runTo (setTo xs xs.length) vs xs xs.length else []
theorem runL_len (vs : List Int) (xs : List Redo) : (runL vs xs).length ≤ 3 := by
  unfold runL
  split
  · rename_i h
    rw [runTo_len]
    have := h.1
    simp [valsOk] at this
    omega
  · simp
theorem valsOk_bad {vs : List Int} {k : Nat} {x : Int} (hx : vs[k]? = some x) (h : inB x 0 99 = false) : valsOk vs = false := by
  unfold valsOk
  rw [show (vs.all fun x => inB x 0 99) = false from by rw [List.all_eq_false]; exact ⟨x, List.mem_of_getElem? hx, by simp [h]⟩, Bool.and_false]
theorem runL_no {vs : List Int} {xs : List Redo} (h : valsOk vs = false) : runL vs xs = [] := by unfold runL; rw [if_neg (by rintro ⟨h1, _⟩; rw [h] at h1; cases h1)]
theorem has_done {xs : List Redo} (h : redoOk xs = true) {k : Nat} (hk : k < 7) : ((doneL xs).any fun x => x == (k : Int)) = (setTo xs xs.length).testBit k := by rw [doneL, if_pos h]; exact has_members hk
end Go.Proofs.Yteciocieaaoocaa
