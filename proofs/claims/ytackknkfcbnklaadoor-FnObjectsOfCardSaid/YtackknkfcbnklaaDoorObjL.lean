/- What objects answer: the plain law. -/
import Derived.Test.YtackknkfcbnklaaDoorPile
namespace Go.Proofs.YtackknkfcbnklaaDoor

/-- The place of the least of the first k, by the reference's search. -/
def leastTo (l : List Int) : Nat → Nat
  | 0 => 0
  | k + 1 => if gD l k < gD l (leastTo l k) then k else leastTo l k
theorem leastTo_lt (l : List Int) (k : Nat) (hk : 0 < k) : leastTo l k < k := by
  induction k with
  | zero => omega
  | succ k ih =>
    unfold leastTo
    split
    · omega
    · rcases Nat.eq_zero_or_pos k with h | h
      · subst h; simp [leastTo]
      · have := ih h; omega
theorem leastTo_le (l : List Int) (k : Nat) : ∀ j, j < k → gD l (leastTo l k) ≤ gD l j := by
  induction k with
  | zero => intro j h; omega
  | succ k ih =>
    intro j hj
    unfold leastTo
    split
    · rename_i h
      by_cases e : j = k
      · subst e; exact Int.le_refl _
      · have := ih j (by omega); omega
    · rename_i h
      by_cases e : j = k
      · subst e; omega
      · exact ih j (by omega)
/-- The place that is taken. -/
def takeAt (kind : Int) (l : List Int) : Nat := if kind = 2 then l.length - 1 else if kind = 3 then leastTo l l.length else 0
theorem takeAt_lt {kind : Int} {l : List Int} (h : 0 < l.length) : takeAt kind l < l.length := by
  unfold takeAt
  split
  · omega
  · split
    · exact leastTo_lt _ _ h
    · exact h
/-- One call. -/
def ansStep (kind : Int) (s : List Int × List Int) (n : Int) : List Int × List Int :=
  if 0 ≤ n then (s.1 ++ [n], s.2 ++ [0]) else if s.1.length = 0 then (s.1, s.2 ++ [-1]) else (s.1.eraseIdx (takeAt kind s.1), s.2 ++ [gD s.1 (takeAt kind s.1)])
def runO (kind : Int) (calls : List Int) : List Int × List Int := calls.foldl (ansStep kind) ([], [])
theorem runO_snoc (kind : Int) (calls : List Int) (n : Int) : runO kind (calls ++ [n]) = ansStep kind (runO kind calls) n := by simp [runO]
theorem runO_len (kind : Int) (calls : List Int) : (runO kind calls).2.length = calls.length ∧ (runO kind calls).1.length ≤ calls.length := by
  suffices h : ∀ (cs : List Int) (s : List Int × List Int), (cs.foldl (ansStep kind) s).2.length = s.2.length + cs.length ∧ (cs.foldl (ansStep kind) s).1.length ≤ s.1.length + cs.length by
    have := h calls ([], [])
    simpa [runO] using this
  intro cs
  induction cs with
  | nil => intro s; simp
  | cons c cs ih =>
    intro s
    rw [List.foldl_cons]
    obtain ⟨h1, h2⟩ := ih (ansStep kind s c)
    have h3 : (ansStep kind s c).2.length = s.2.length + 1 ∧ (ansStep kind s c).1.length ≤ s.1.length + 1 := by
      unfold ansStep
      split
      · simp
      · split
        · simp
        · simp only [List.length_append, List.length_singleton, List.length_eraseIdx]
          refine ⟨by trivial, ?_⟩
          split <;> omega
    simp only [List.length_cons]
    omega
/-- Whether calls are calls. -/
def okCalls (calls : List Int) : Bool := decide (calls.length ≤ 20) && calls.all fun x => inB x (-1) 99
/-- What ObjectRun returns. -/
def objL (kind : Int) (calls : List Int) : List Int := if okCalls calls = true ∧ inB kind 1 3 = true then (runO kind calls).2 else []
theorem objL_no {kind : Int} {calls : List Int} (h : ¬ (okCalls calls = true ∧ inB kind 1 3 = true)) : objL kind calls = [] := by unfold objL; rw [if_neg h]
theorem objL_yes {kind : Int} {calls : List Int} (h1 : okCalls calls = true) (h2 : inB kind 1 3 = true) : objL kind calls = (runO kind calls).2 := by unfold objL; rw [if_pos ⟨h1, h2⟩]
theorem objL_len (kind : Int) (calls : List Int) : (objL kind calls).length ≤ 20 := by
  unfold objL
  split
  · rename_i h
    have := h.1
    rw [okCalls, Bool.and_eq_true, decide_eq_true_eq] at this
    rw [(runO_len kind calls).1]
    exact this.1
  · simp
theorem okCalls_at {calls : List Int} (h : okCalls calls = true) : calls.length ≤ 20 ∧ ∀ x ∈ calls, -1 ≤ x ∧ x ≤ 99 := by
  rw [okCalls, Bool.and_eq_true, decide_eq_true_eq, List.all_eq_true] at h
  exact ⟨h.1, fun x hx => inB_true.1 (h.2 x hx)⟩
theorem erase_perm {l : List Int} {k : Nat} (h : k < l.length) : (gD l k :: l.eraseIdx k).Perm l := by
  have he : gD l k = l[k] := gD_get (by simp [h])
  rw [he, List.eraseIdx_eq_take_drop_succ]
  have h2 : l.take k ++ l[k] :: l.drop (k + 1) = l := by
    rw [← List.drop_eq_getElem_cons h, List.take_append_drop]
  have h3 := (List.perm_middle (a := l[k]) (l₁ := l.take k) (l₂ := l.drop (k + 1))).symm
  rwa [h2] at h3
theorem take_last {l : List Int} (h : 0 < l.length) : l.eraseIdx (l.length - 1) = l.take (l.length - 1) := by
  rw [List.eraseIdx_eq_take_drop_succ, List.drop_eq_nil_of_le (by omega), List.append_nil]
theorem least_same {zs l : List Int} (hp : zs.Perm l) (hh : Heap zs zs.length) (h : 0 < l.length) : gD zs 0 = gD l (leastTo l l.length) := by
  have hz : zs.length = l.length := hp.length_eq
  have h1 : gD l (leastTo l l.length) ∈ zs := hp.symm.subset (by
    have hlt := leastTo_lt l l.length h
    have : gD l (leastTo l l.length) = l[leastTo l l.length] := gD_get (by simp [hlt])
    rw [this]
    exact List.getElem_mem _)
  have h2 : gD zs 0 ∈ l := hp.subset (by
    have : gD zs 0 = zs[0] := gD_get (by simp [hz, h])
    rw [this]
    exact List.getElem_mem _)
  obtain ⟨i, hi⟩ := List.getElem?_of_mem h1
  obtain ⟨j, hj⟩ := List.getElem?_of_mem h2
  have a1 := hh.least i (List.getElem?_eq_some_iff.1 hi).1
  have a2 := leastTo_le l l.length j (List.getElem?_eq_some_iff.1 hj).1
  rw [gD_get hi] at a1
  rw [gD_get hj] at a2
  omega
/-- The same numbers, for a heap in a heap's order; for the others in order. -/
def Rel (kind : Int) (zs l : List Int) : Prop := if kind = 3 then zs.Perm l ∧ Heap zs zs.length else zs = l
theorem Rel.len {kind : Int} {zs l : List Int} (h : Rel kind zs l) : zs.length = l.length := by
  unfold Rel at h
  split at h
  · exact h.1.length_eq
  · rw [h]
end Go.Proofs.YtackknkfcbnklaaDoor
