/- Cells of the call's own slices that are written. -/
import Derived.Test.YtiggckhlbklngaaDoorAppend
namespace Go.Proofs.YtiggckhlbklngaaDoor
open Go.RowKit

/-- One cell of an element of the call's own slice is written. -/
theorem put_cell {α : Type} {m lo : Nat} {enc : α → Nat → Value} {w0 w : World} {b off n c : Nat} {xs : List α} {k : Nat} {x : α} {j : Nat} (h : SlOf m enc w (.slice (some ⟨b, off, none⟩) n c) xs) (ho : Own lo w (.slice (some ⟨b, off, none⟩) n c)) (he : Ext w0 w) (hl : w0.heap.size ≤ lo) (hn : 0 < n)
    (hx : xs[k]? = some x) (hj : j < m) (x' : α) (hoth : ∀ i, i < m → i ≠ j → enc x' i = enc x i) :
    let w' := w.setCell ⟨b, off + k * m + j, none⟩ (enc x' j)
    SlOf m enc w' (.slice (some ⟨b, off, none⟩) n c) (xs.set k x') ∧ Own lo w' (.slice (some ⟨b, off, none⟩) n c) ∧ Ext w0 w' := by
  have hon := Only.setCell (a := ⟨b, off, none⟩) (c := c) (w := w) hn (off + k * m + j) (enc x' j)
  refine ⟨?_, ho.only hon, Ext.only he hon ho hl⟩
  obtain ⟨A, c', hA, hc⟩ := id h
  injection hA with e1 e2 e3
  subst e1 e2 e3
  obtain ⟨b', off', hb', hlt, hcell⟩ := hc hn
  injection hb' with hb'
  injection hb' with e1 e2
  subst e1 e2
  refine SlOf.put h x' (fun i u hne hu => ?_) (fun i hi => ?_) hon.size
  · rw [cell_set_other (by intro e; injection e with _ e _; exact hne j hj e.symm)]
    exact hu
  · by_cases e : i = j
    · subst e
      exact cell_set_at (hcell k x hx _ hi) _
    · rw [cell_set_other (by intro e'; injection e' with _ e' _; omega), hoth i hi e]
      exact hcell k x hx i hi
theorem set_set_ {α : Type} {xs : List α} {k : Nat} {a b : α} : (xs.set k a).set k b = xs.set k b := by simp

end Go.Proofs.YtiggckhlbklngaaDoor
