/- The middle of a sorted list: the greatest number that more than half are at least. Nothing of the program is used here. -/
import Derived.Test.YtiggckhlbklngaaDoorBase
namespace Go.Proofs.YtiggckhlbklngaaDoor

/-- How many are at least n. -/
def manyOf (xs : List Int) (n : Int) : Nat := xs.countP fun x => decide (n ≤ x)
theorem manyOf_perm {xs ys : List Int} (h : xs.Perm ys) (n : Int) : manyOf xs n = manyOf ys n := h.countP_eq _
theorem manyOf_anti {xs : List Int} {m n : Int} (h : m ≤ n) : manyOf xs n ≤ manyOf xs m := by
  unfold manyOf
  exact List.countP_mono_left fun x _ hx => by simp only [decide_eq_true_eq] at hx ⊢; omega
theorem many_cut (xs : List Int) (n : Int) (k : Nat) : manyOf xs n = manyOf (xs.take k) n + manyOf (xs.drop k) n := by
  unfold manyOf
  rw [← List.countP_append, List.take_append_drop]
theorem many_all {xs : List Int} {n : Int} (h : ∀ x ∈ xs, n ≤ x) : manyOf xs n = xs.length := by
  unfold manyOf
  rw [List.countP_eq_length]
  intro x hx
  simpa using h x hx
theorem many_none {xs : List Int} {n : Int} (h : ∀ x ∈ xs, x < n) : manyOf xs n = 0 := by
  unfold manyOf
  rw [List.countP_eq_zero]
  intro x hx
  have := h x hx
  simp; omega
theorem sorted_le {xs : List Int} (hs : xs.Pairwise (· ≤ ·)) {i j : Nat} {x y : Int} (hx : xs[i]? = some x) (hy : xs[j]? = some y) (h : i ≤ j) : x ≤ y := by
  obtain ⟨hi, rfl⟩ := List.getElem?_eq_some_iff.1 hx
  obtain ⟨hj, rfl⟩ := List.getElem?_eq_some_iff.1 hy
  rcases Nat.lt_or_ge i j with h' | h'
  · exact List.pairwise_iff_getElem.1 hs i j hi hj h'
  · obtain rfl : i = j := by omega
    exact Int.le_refl _
/-- The middle is at least n just where more than half are. -/
theorem middle_iff {xs : List Int} (hs : xs.Pairwise (· ≤ ·)) {m n : Int} (hm : xs[(xs.length - 1) / 2]? = some m) : xs.length < 2 * manyOf xs n ↔ n ≤ m := by
  have hi := (List.getElem?_eq_some_iff.1 hm).1
  constructor
  · intro h
    apply Classical.byContradiction
    intro hlt
    have h1 : manyOf (xs.take ((xs.length - 1) / 2 + 1)) n = 0 := many_none fun x hx => by
      obtain ⟨j, hj⟩ := List.getElem?_of_mem hx
      rw [List.getElem?_take] at hj
      split at hj
      · have := sorted_le hs hj hm (by omega)
        omega
      · cases hj
    have h2 : manyOf (xs.drop ((xs.length - 1) / 2 + 1)) n ≤ (xs.drop ((xs.length - 1) / 2 + 1)).length := List.countP_le_length
    rw [many_cut xs n ((xs.length - 1) / 2 + 1), h1] at h
    rw [List.length_drop] at h2
    omega
  · intro h
    have h1 : manyOf (xs.drop ((xs.length - 1) / 2)) n = (xs.drop ((xs.length - 1) / 2)).length := many_all fun x hx => by
      obtain ⟨j, hj⟩ := List.getElem?_of_mem hx
      rw [List.getElem?_drop] at hj
      have := sorted_le hs hm hj (by omega)
      omega
    rw [many_cut xs n ((xs.length - 1) / 2), h1, List.length_drop]
    omega
/-- The best so far: the greatest number below n that more than half are at least, or -1. -/
def bestN (xs : List Int) : Nat → Int
  | 0 => -1
  | n + 1 => if xs.length < 2 * manyOf xs (n : Int) then (n : Int) else bestN xs n
theorem bestN_perm {xs ys : List Int} (h : xs.Perm ys) (n : Nat) : bestN xs n = bestN ys n := by
  induction n with
  | zero => rfl
  | succ n ih => unfold bestN; rw [manyOf_perm h, h.length_eq, ih]
theorem bestN_range (xs : List Int) (n : Nat) : -1 ≤ bestN xs n ∧ bestN xs n < n := by
  induction n with
  | zero => simp [bestN]
  | succ n ih => unfold bestN; split <;> omega
theorem bestN_middle {xs : List Int} (hs : xs.Pairwise (· ≤ ·)) {m : Int} (hm : xs[(xs.length - 1) / 2]? = some m) (h0 : 0 ≤ m) {n : Nat} : (m < n → bestN xs n = m) ∧ ((n : Int) ≤ m → bestN xs n = (n : Int) - 1) := by
  induction n with
  | zero => exact ⟨fun h => by omega, fun _ => rfl⟩
  | succ n ih =>
    have hi := middle_iff hs (n := (n : Int)) hm
    unfold bestN
    refine ⟨fun h => ?_, fun h => ?_⟩
    · by_cases e : (n : Int) ≤ m
      · rw [if_pos (hi.2 e)]; omega
      · rw [if_neg (fun h' => e (hi.1 h'))]; exact ih.1 (by omega)
    · rw [if_pos (hi.2 (by omega))]; omega
end Go.Proofs.YtiggckhlbklngaaDoor
