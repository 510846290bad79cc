/- Draws of sets of members. -/
import Derived.Test.YtiggckhlbklngaaDoorPick
import Derived.Test.YtiggckhlbklngaaDoorCats
import Derived.Laws.OwnMore
namespace Go.Proofs.YtiggckhlbklngaaDoor
open Go.RowKit

theorem cells_one (xs : List Int) : xs.flatMap (cellsOf_ 1 (one encI)) = xs.map encI := by
  induction xs with
  | nil => rfl
  | cons x xs ih => rw [List.flatMap_cons, ih]; rfl
theorem Row.set1 {e : TypeId} {base : Nat} {w : World} {g n c : Nat} {xs : List Int} (h : Row e 1 (one encI) base w (.slice (some ⟨g, 0, none⟩) n c) xs) (j : Nat) (y : Int) :
    Row e 1 (one encI) base (w.setCell ⟨g, j, none⟩ (.int .i64 y)) (.slice (some ⟨g, 0, none⟩) n c) (xs.set j y) ∧ w.grownBy (w.setCell ⟨g, j, none⟩ (.int .i64 y)) (some g) := by
  unfold Row at *
  rw [cells_one] at *
  have hn : n = xs.length := by
    rcases h.2 with ⟨h', _⟩ | ⟨g', cap', cur, h', _⟩
    · simp at h'
    · injection h'
  subst hn
  have := World.ownsRow.stored h j (.int .i64 y)
  rw [List.length_set, show (xs.set j y).map encI = (xs.map encI).set j (.int .i64 y) from by rw [List.map_set]; rfl]
  exact this
theorem Row.form {α : Type} {e : TypeId} {m : Nat} {enc : α → Nat → Value} {base : Nat} {w : World} {v : Value} {xs : List α} (h : Row e m enc base w v xs) (hn : 0 < xs.length) :
    ∃ g cap, v = .slice (some ⟨g, 0, none⟩) xs.length cap ∧ base ≤ g ∧ g < w.heap.size ∧ xs.length ≤ cap := by
  rcases h.2 with ⟨_, h0⟩ | ⟨g, cap, cur, hv, hb, hg, hnc, _⟩
  · omega
  · exact ⟨g, cap, hv, hb, (Array.getElem?_eq_some_iff.1 hg).1, hnc⟩
def drawnInts (N : Nat) (xs : List Int) : Prop := xs.length ≤ N ∧ ∀ x ∈ xs, smI x
end Go.Proofs.YtiggckhlbklngaaDoor
