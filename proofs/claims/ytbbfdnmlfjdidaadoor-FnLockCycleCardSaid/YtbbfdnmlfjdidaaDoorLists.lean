/- Slices of slices of numbers, of the call's own; and the helpers that compare, mark and hold them. -/
import Derived.Test.YtbbfdnmlfjdidaaDoorInts
import Derived.Test.YtbbfdnmlfjdidaaDoorAppend
namespace Go.Proofs.YtbbfdnmlfjdidaaDoor
open Go.RowKit
set_option maxRecDepth 8000

def encV (u : Value) : Value := u
/-- It reads as these lists; us are the inner slices. -/
def LLr (w : World) (v : Value) (us : List Value) (xss : List (List Int)) : Prop :=
  us.length = xss.length ∧ Sl1 encV w v us ∧ ∀ (i : Nat) u xs, us[i]? = some u → xss[i]? = some xs → Sl1 encI w u xs
theorem LLr.ext {w w' : World} {v : Value} {us : List Value} {xss : List (List Int)} (h : LLr w v us xss) (hb : Ext w w') : LLr w' v us xss :=
  ⟨h.1, h.2.1.ext hb, fun i u xs hu hx => (h.2.2 i u xs hu hx).ext hb⟩
/-- All its cells are the call's own, and no two of its slices lie in one block. -/
def LLo (lo : Nat) (w : World) (v : Value) (us : List Value) : Prop :=
  Own lo w v ∧ (∀ (i : Nat) u, us[i]? = some u → Own lo w u ∧ Apart v u) ∧ ∀ (i j : Nat) u u', i < j → us[i]? = some u → us[j]? = some u' → Apart u u'
theorem LLo.ext {lo : Nat} {w w' : World} {v : Value} {us : List Value} (h : LLo lo w v us) (hb : Ext w w') : LLo lo w' v us :=
  ⟨h.1.ext hb, fun i u hu => ⟨(h.2.1 i u hu).1.ext hb, (h.2.1 i u hu).2⟩, h.2.2⟩
theorem LLo.mono {lo lo' : Nat} {w : World} {v : Value} {us : List Value} (h : LLo lo w v us) (hl : lo' ≤ lo) : LLo lo' w v us :=
  ⟨h.1.mono hl, fun i u hu => ⟨(h.2.1 i u hu).1.mono hl, (h.2.1 i u hu).2⟩, h.2.2⟩
/-- As it is built by appending. -/
def LLb (E I : TypeId) (base : Nat) (w : World) (v : Value) (us : List Value) (xss : List (List Int)) : Prop :=
  us.length = xss.length ∧ Row E 1 (one encV) base w v us ∧ (∀ (i : Nat) u xs, us[i]? = some u → xss[i]? = some xs → Row I 1 (one encI) base w u xs) ∧ ∀ (i j : Nat) u u', i < j → us[i]? = some u → us[j]? = some u' → Apart u u'
theorem LLb.ext {E I : TypeId} {base : Nat} {w w' : World} {v : Value} {us : List Value} {xss : List (List Int)} (h : LLb E I base w v us xss) (hb : Ext w w') : LLb E I base w' v us xss :=
  ⟨h.1, h.2.1.ext hb, fun i u xs hu hx => (h.2.2.1 i u xs hu hx).ext hb, h.2.2.2⟩
theorem rows_ne {α β : Type} {e e' : TypeId} {m m' : Nat} {enc : α → Nat → Value} {enc' : β → Nat → Value} {base base' : Nat} {w : World} {v u : Value} {xs : List α} {ys : List β}
    (h : Row e m enc base w v xs) (h' : Row e' m' enc' base' w u ys) (hne : e ≠ e') : u.ownBlock = none ∨ u.ownBlock ≠ v.ownBlock := by
  rcases h.2 with ⟨rfl, _⟩ | ⟨g, cap, cur, rfl, hb, hg, _⟩
  · cases u.ownBlock with
    | none => exact .inl rfl
    | some k => exact .inr (by simp [Value.ownBlock])
  · rcases h'.2 with ⟨rfl, _⟩ | ⟨g', cap', cur', rfl, hb', hg', _⟩
    · exact .inl rfl
    · right
      intro e
      simp [Value.ownBlock] at e
      subst e
      rw [hg] at hg'
      injection hg' with hg'
      injection hg' with _ h2 _
      exact hne h2
theorem rows_apart {α β : Type} {e e' : TypeId} {m m' : Nat} {enc : α → Nat → Value} {enc' : β → Nat → Value} {base base' : Nat} {w : World} {v u : Value} {xs : List α} {ys : List β}
    (h : Row e m enc base w v xs) (h' : Row e' m' enc' base' w u ys) (hne : e ≠ e') : Apart v u := by
  intro a n c a' n' c' hv hu hn hn' eb
  have := rows_ne h h' hne
  subst hv hu
  rcases h.2 with ⟨hv, _⟩ | ⟨g, cap, cur, hv, hb, hg, _⟩
  · cases hv
  rcases h'.2 with ⟨hu, _⟩ | ⟨g', cap', cur', hu, hb', hg', _⟩
  · cases hu
  injection hv with hv _ _
  injection hu with hu _ _
  injection hv with hv
  injection hu with hu
  subst hv hu
  simp only at eb
  subst eb
  rw [hg] at hg'
  injection hg' with hg'
  injection hg' with _ h2 _
  exact hne h2
theorem LLb.nil {E I : TypeId} (w : World) : LLb E I w.heap.size (w.alloc (.cells #[] E)) (.slice (some ⟨w.heap.size, 0, none⟩) 0 0) [] [] :=
  ⟨rfl, World.ownsRow_made w #[] 0 (Nat.le_refl _) (by simp [maxLen]) (by simp), fun _ _ _ h => by simp at h, fun _ _ _ _ _ h => by simp at h⟩
theorem LLb.push {E I : TypeId} (hEI : E ≠ I) {base : Nat} {w0 w w' : World} {v v' u : Value} {us : List Value} {xss : List (List Int)} {xs : List Int} (h0 : LLb E I base w0 v us xss) (hx : Ext w0 w) (hu : Row I 1 (one encI) w0.heap.size w u xs) (hb : base ≤ w0.heap.size)
    (hrow : Row E 1 (one encV) base w' v' (us ++ [u])) (hg : w.grownBy w' v.ownBlock) : LLb E I base w' v' (us ++ [u]) (xss ++ [xs]) := by
  have h := h0.ext hx
  have hlow : Row I 1 (one encI) base w u xs := ⟨hu.1, hu.2.imp id fun ⟨g, cap, cur, a, b, rest⟩ => ⟨g, cap, cur, a, Nat.le_trans hb b, rest⟩⟩
  have keep : ∀ y ys, Row I 1 (one encI) base w y ys → Row I 1 (one encI) base w' y ys := fun y ys hy => World.ownsRow.kept (row := v.ownBlock) hy hg (rows_ne h.2.1 hy hEI)
  refine ⟨by simp [h.1], hrow, fun i y ys hy hys => ?_, fun i j y y' hij hy hy' => ?_⟩
  · rw [List.getElem?_append] at hy hys
    split at hy
    · rename_i hi
      rw [if_pos (by rw [← h.1]; exact hi)] at hys
      exact keep _ _ (h.2.2.1 i y ys hy hys)
    · rename_i hi
      rw [if_neg (by rw [← h.1]; exact hi)] at hys
      have hi0 : i - us.length = 0 := by
        have := (List.getElem?_eq_some_iff.1 hy).1
        simp at this
        omega
      rw [hi0] at hy
      rw [← h.1, hi0] at hys
      simp at hy hys
      subst hy hys
      exact keep _ _ hlow
  · rw [List.getElem?_append] at hy hy'
    split at hy'
    · rename_i hj
      rw [if_pos (by omega)] at hy
      exact h.2.2.2 i j y y' hij hy hy'
    · rename_i hj
      have hj0 : j - us.length = 0 := by
        have := (List.getElem?_eq_some_iff.1 hy').1
        simp at this
        omega
      rw [hj0] at hy'
      simp at hy'
      subst hy'
      rw [if_pos (by omega)] at hy
      have hil : i < xss.length := by rw [← h.1]; exact (List.getElem?_eq_some_iff.1 hy).1
      obtain ⟨ys, hys⟩ := at_some hil
      exact ((h0.2.2.1 i y ys hy hys).cell.1).apart hu.cell.2
theorem LLb.done {E I : TypeId} (hEI : E ≠ I) {base : Nat} {w : World} {v : Value} {us : List Value} {xss : List (List Int)} (h : LLb E I base w v us xss) : LLr w v us xss ∧ LLo base w v us := by
  refine ⟨⟨h.1, h.2.1.cell.1.to1, fun i u xs hu hx => (h.2.2.1 i u xs hu hx).cell.1.to1⟩, h.2.1.cell.2, fun i u hu => ?_, h.2.2.2⟩
  have hil : i < xss.length := by rw [← h.1]; exact (List.getElem?_eq_some_iff.1 hu).1
  obtain ⟨xs, hxs⟩ := at_some hil
  have hr := h.2.2.1 i u xs hu hxs
  exact ⟨hr.cell.2, rows_apart h.2.1 hr hEI⟩
theorem LLr.only {w w' : World} {v x : Value} {us : List Value} {xss : List (List Int)} (h : LLr w v us xss) (ho : Only x w w') (ha : Apart v x) (hus : ∀ (i : Nat) u, us[i]? = some u → Apart u x) : LLr w' v us xss :=
  ⟨h.1, h.2.1.only ho ha, fun i u xs hu hx => (h.2.2 i u xs hu hx).only ho (hus i u hu)⟩
theorem LLo.far {α : Type} {m : Nat} {enc : α → Nat → Value} {w w' : World} {v x : Value} {us : List Value} {xs : List α} (h : LLo w.heap.size w' v us) (t : SlOf m enc w x xs) : Apart v x ∧ ∀ (i : Nat) u, us[i]? = some u → Apart u x :=
  ⟨(t.apart h.1).symm, fun i u hu => (t.apart (h.2.1 i u hu).1).symm⟩
/-- The lengths of the first k. -/
def totL (xss : List (List Int)) (k : Nat) : Nat := ((xss.take k).map List.length).sum
theorem totL_next {xss : List (List Int)} {k : Nat} {xs : List Int} (h : xss[k]? = some xs) : totL xss (k + 1) = totL xss k + xs.length := by
  unfold totL
  rw [List.take_add_one, h]
  simp
end Go.Proofs.YtbbfdnmlfjdidaaDoor
