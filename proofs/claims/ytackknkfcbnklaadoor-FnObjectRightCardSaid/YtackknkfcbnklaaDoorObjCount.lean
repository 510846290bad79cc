/- What goes into an object and what comes out: the plain law. -/
import Derived.Test.YtackknkfcbnklaaDoorObjL
import Derived.Test.YtackknkfcbnklaaDoorHeapObj
namespace Go.Proofs.YtackknkfcbnklaaDoor

def ansOf (k : Int) (l : List Int) (x : Int) : Int := if 0 ≤ x then 0 else if l.length = 0 then -1 else gD l (takeAt k l)
theorem ansStep_snd (k : Int) (s : List Int × List Int) (x : Int) : (ansStep k s x).2 = s.2 ++ [ansOf k s.1 x] := by
  unfold ansStep ansOf
  split
  · rfl
  · split <;> rfl
theorem run_front (k : Int) (cs : List Int) (s : List Int × List Int) : ∃ r, (cs.foldl (ansStep k) s).2 = s.2 ++ r := by
  induction cs generalizing s with
  | nil => exact ⟨[], by simp⟩
  | cons c cs ih =>
    obtain ⟨r, hr⟩ := ih (ansStep k s c)
    rw [List.foldl_cons, hr, ansStep_snd, List.append_assoc]
    exact ⟨_, rfl⟩
theorem runO_next {k : Int} {xs : List Int} {q : Nat} {x : Int} (hx : xs[q]? = some x) : runO k (xs.take (q + 1)) = ansStep k (runO k (xs.take q)) x := by
  rw [List.take_add_one, hx, Option.toList_some, runO_snoc]
theorem runO_at {k : Int} {xs : List Int} {q : Nat} {x : Int} (hx : xs[q]? = some x) : (runO k xs).2[q]? = some (ansOf k (runO k (xs.take q)).1 x) := by
  have hq := (List.getElem?_eq_some_iff.1 hx).1
  obtain ⟨r, hr⟩ := run_front k (xs.drop (q + 1)) (runO k (xs.take (q + 1)))
  have he : (xs.drop (q + 1)).foldl (ansStep k) (runO k (xs.take (q + 1))) = runO k xs := by
    unfold runO
    rw [← List.foldl_append, List.take_append_drop]
  rw [he, runO_next hx, ansStep_snd, List.append_assoc] at hr
  have hl := (runO_len k (xs.take q)).1
  rw [List.length_take, Nat.min_eq_left (by omega)] at hl
  rw [hr, List.getElem?_append_right (by omega), hl]
  simp
/-- What is in it: as many as were put in and not taken out, none negative. -/
def CountO (k : Int) (xs : List Int) (q i o : Nat) : Prop := (runO k (xs.take q)).1.length + o = i ∧ ∀ y ∈ (runO k (xs.take q)).1, 0 ≤ y
theorem CountO.start (k : Int) (xs : List Int) : CountO k xs 0 0 0 := ⟨by simp [runO], by simp [runO]⟩
theorem CountO.put {k : Int} {xs : List Int} {q i o : Nat} {x : Int} (h : CountO k xs q i o) (hx : xs[q]? = some x) (h0 : 0 ≤ x) : CountO k xs (q + 1) (i + 1) o := by
  unfold CountO
  rw [runO_next hx]
  unfold ansStep
  rw [if_pos h0]
  refine ⟨by have := h.1; simp; omega, fun y hy => ?_⟩
  rcases List.mem_append.1 hy with hy | hy
  · exact h.2 y hy
  · simp at hy; omega
theorem CountO.none {k : Int} {xs : List Int} {q i o : Nat} {x : Int} (h : CountO k xs q i o) (hx : xs[q]? = some x) (h0 : ¬ 0 ≤ x) (hl : (runO k (xs.take q)).1.length = 0) : CountO k xs (q + 1) i o ∧ ansOf k (runO k (xs.take q)).1 x = -1 ∧ i = o := by
  refine ⟨?_, ?_, by have := h.1; omega⟩
  · unfold CountO
    rw [runO_next hx]
    unfold ansStep
    rw [if_neg h0, if_pos hl]
    exact h
  · unfold ansOf
    rw [if_neg h0, if_pos hl]
theorem CountO.take {k : Int} {xs : List Int} {q i o : Nat} {x : Int} (h : CountO k xs q i o) (hx : xs[q]? = some x) (h0 : ¬ 0 ≤ x) (hl : (runO k (xs.take q)).1.length ≠ 0) : CountO k xs (q + 1) i (o + 1) ∧ 0 ≤ ansOf k (runO k (xs.take q)).1 x := by
  have ht := takeAt_lt (kind := k) (l := (runO k (xs.take q)).1) (by omega)
  refine ⟨?_, ?_⟩
  · unfold CountO
    rw [runO_next hx]
    unfold ansStep
    rw [if_neg h0, if_neg hl]
    refine ⟨by have := h.1; rw [List.length_eraseIdx, if_pos ht]; omega, fun y hy => h.2 y (List.mem_of_mem_eraseIdx hy)⟩
  · unfold ansOf
    rw [if_neg h0, if_neg hl]
    exact h.2 _ (List.mem_of_getElem? (gD_at ht))
end Go.Proofs.YtackknkfcbnklaaDoor
