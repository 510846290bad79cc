/- Slices of ints: the laws' helpers, and slices.IndexFunc, ContainsFunc. -/
import Derived.Test.YtiakkgpkkpaldaaDoorRows
import Derived.Test.YtiakkgpkkpaldaaDoorBase
namespace Go.Proofs.YtiakkgpkkpaldaaDoor
open Go.RowKit

/-! ### A block of ints of the call's own -/
def Filling1 {α : Type} (enc : α → Value) (g N : Nat) (xs : List α) (k : Nat) (w : World) : Prop :=
  BlkN w g N ∧ ∀ i x, i < k → xs[i]? = some x → w.cell? ⟨g, i, none⟩ = some (enc x)
section
variable {α : Type} {enc : α → Value} {g N k : Nat} {xs : List α} {w w' : World} {x : α}
theorem Filling1.start (e : TypeId) (cs : Array Value) (hN : cs.size = N) : Filling1 enc w.heap.size N xs 0 (w.alloc (.cells cs e)) :=
  ⟨hN ▸ BlkN.made w cs e, fun i _ hi => absurd hi (Nat.not_lt_zero i)⟩
theorem Filling1.ext (h : Filling1 enc g N xs k w) (hb : Ext w w') : Filling1 enc g N xs k w' := ⟨h.1.ext hb, fun i x hi hx => hb.cell (h.2 i x hi hx)⟩
theorem Filling1.set (h : Filling1 enc g N xs k w) (hk : k < N) (hx : xs[k]? = some x) : Filling1 enc g N xs (k + 1) (w.setCell ⟨g, k, none⟩ (enc x)) := by
  refine ⟨h.1.set _ _, fun i y hi hy => ?_⟩
  by_cases e : i = k
  · subst e
    rw [hx] at hy
    cases hy
    exact cell_set_self h.1 hk _
  · rw [cell_set_other]
    · exact h.2 i y (by omega) hy
    · intro e'
      injection e' with _ e' _
      omega
theorem Filling1.done (h : Filling1 enc g N xs xs.length w) (c : Nat) : Sl1 enc w (.slice (some ⟨g, 0, none⟩) xs.length c) xs := by
  refine ⟨_, c, rfl, fun _ => ⟨g, 0, rfl, h.1.lt, fun i x hx => ?_⟩⟩
  rw [Nat.zero_add]
  exact h.2 i x (List.getElem?_eq_some_iff.1 hx).1 hx
end

end Go.Proofs.YtiakkgpkkpaldaaDoor
