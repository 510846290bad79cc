/- Sets of small numbers as ascending lists: a number put into its place. -/
import Derived.Test.YtiggckhlbklngaaDoorMembers
namespace Go.Proofs.YtiggckhlbklngaaDoor
open Go.RowKit

def Asc (xs : List Int) : Prop := xs.Pairwise (· < ·)
theorem asc_ext : ∀ {xs ys : List Int}, Asc xs → Asc ys → (∀ a, a ∈ xs ↔ a ∈ ys) → xs = ys
  | [], [], _, _, _ => rfl
  | [], y :: ys, _, _, h => by have := (h y).2 (by simp); cases this
  | x :: xs, [], _, _, h => by have := (h x).1 (by simp); cases this
  | x :: xs, y :: ys, hx, hy, h => by
    unfold Asc at hx hy
    rw [List.pairwise_cons] at hx hy
    have e : x = y := by
      rcases Int.lt_trichotomy x y with h1 | h1 | h1
      · have := (h x).1 (by simp)
        rcases List.mem_cons.1 this with h2 | h2
        · exact h2
        · have := hy.1 x h2; omega
      · exact h1
      · have := (h y).2 (by simp)
        rcases List.mem_cons.1 this with h2 | h2
        · exact h2.symm
        · have := hx.1 y h2; omega
    subst e
    refine congrArg (x :: ·) (asc_ext hx.2 hy.2 fun a => ?_)
    have h3 := h a
    simp only [List.mem_cons] at h3
    constructor
    · intro ha
      rcases h3.1 (.inr ha) with h2 | h2
      · subst h2; exact absurd (hx.1 a ha) (Int.lt_irrefl a)
      · exact h2
    · intro ha
      rcases h3.2 (.inr ha) with h2 | h2
      · subst h2; exact absurd (hy.1 a ha) (Int.lt_irrefl a)
      · exact h2
/-- A number put into an ascending list, once. -/
def putL : List Int → Int → List Int
  | [], n => [n]
  | x :: xs, n => if x < n then x :: putL xs n else if x = n then x :: xs else n :: x :: xs
theorem mem_putL {xs : List Int} {n a : Int} : a ∈ putL xs n ↔ a = n ∨ a ∈ xs := by
  induction xs with
  | nil => simp [putL]
  | cons x xs ih =>
    unfold putL
    split
    · simp only [List.mem_cons, ih]
      constructor
      · rintro (h | h | h) <;> simp [h]
      · rintro (h | h | h) <;> simp [h]
    · split
      · rename_i h; subst h; simp
      · simp
theorem asc_putL {xs : List Int} {n : Int} (h : Asc xs) : Asc (putL xs n) := by
  induction xs with
  | nil => simp [putL, Asc]
  | cons x xs ih =>
    unfold Asc at h
    rw [List.pairwise_cons] at h
    unfold putL Asc
    split
    · rw [List.pairwise_cons]
      refine ⟨fun b hb => ?_, ih h.2⟩
      rcases mem_putL.1 hb with rfl | hb
      · assumption
      · exact h.1 b hb
    · split
      · rw [List.pairwise_cons]; exact h
      · rw [List.pairwise_cons, List.pairwise_cons]
        refine ⟨fun b hb => ?_, h⟩
        rcases List.mem_cons.1 hb with rfl | hb
        · omega
        · have := h.1 b hb; omega
theorem putL_len (xs : List Int) (n : Int) : (putL xs n).length ≤ xs.length + 1 := by
  induction xs with
  | nil => simp [putL]
  | cons x xs ih => unfold putL; split <;> (try split) <;> simp <;> omega
/-- How a walk finds the place. -/
theorem putL_at {xs : List Int} {n : Int} {k : Nat} (h1 : ∀ i x, i < k → xs[i]? = some x → x < n) (hk : k ≤ xs.length) (h2 : ∀ x, xs[k]? = some x → ¬ x < n) :
    putL xs n = if xs[k]? = some n then xs else xs.take k ++ (n :: xs.drop k) := by
  induction xs generalizing k with
  | nil => simp at hk; subst hk; simp [putL]
  | cons x xs ih =>
    unfold putL
    cases k with
    | zero =>
      have := h2 x (by simp)
      rw [if_neg this]
      by_cases e : x = n
      · subst e; simp
      · simp [e]
    | succ k =>
      have hx := h1 0 x (by omega) (by simp)
      rw [if_pos hx, ih (k := k) (fun i y hi hy => h1 (i + 1) y (by omega) (by simpa using hy)) (by simpa using hk) (fun y hy => h2 y (by simpa using hy))]
      simp only [List.getElem?_cons_succ, List.take_succ_cons, List.drop_succ_cons, List.cons_append]
      split <;> rfl
theorem mem_membersL {n : Nat} {a : Int} : a ∈ membersL n ↔ ∃ j : Nat, j < 7 ∧ n.testBit j = true ∧ a = (j : Int) := by
  unfold membersL
  simp only [List.mem_map, List.mem_filter, List.mem_range]
  constructor
  · rintro ⟨j, ⟨h1, h2⟩, rfl⟩; exact ⟨j, h1, h2, rfl⟩
  · rintro ⟨j, h1, h2, rfl⟩; exact ⟨j, ⟨h1, h2⟩, rfl⟩
theorem asc_membersL (n : Nat) : Asc (membersL n) := by
  unfold Asc membersL
  rw [List.pairwise_map]
  exact (List.Pairwise.filter _ (List.pairwise_lt_range (n := 7))).imp fun h => by omega
theorem membersL_len (n : Nat) : (membersL n).length ≤ 7 := by
  unfold membersL
  rw [List.length_map]
  exact Nat.le_trans (List.length_filter_le _ _) (by simp)
theorem membersL_zero : membersL 0 = [] := by simp [membersL]
theorem putL_members (n : Nat) {k : Nat} (hk : k < 7) : putL (membersL n) (k : Int) = membersL (n ||| 2 ^ k) := by
  refine asc_ext (asc_putL (asc_membersL n)) (asc_membersL _) fun a => ?_
  rw [mem_putL, mem_membersL, mem_membersL]
  constructor
  · rintro (rfl | ⟨j, h1, h2, rfl⟩)
    · exact ⟨k, hk, by simp, rfl⟩
    · exact ⟨j, h1, by simp [h2], rfl⟩
  · rintro ⟨j, h1, h2, rfl⟩
    rw [Nat.testBit_or, Bool.or_eq_true, Nat.testBit_two_pow] at h2
    rcases h2 with h2 | h2
    · exact .inr ⟨j, h1, h2, rfl⟩
    · exact .inl (by simp at h2; omega)
theorem has_members {n k : Nat} (hk : k < 7) : (membersL n).any (fun x => x == (k : Int)) = n.testBit k := by
  rw [Bool.eq_iff_iff, List.any_eq_true]
  constructor
  · rintro ⟨x, hx, hk'⟩
    obtain ⟨j, _, h2, rfl⟩ := mem_membersL.1 hx
    have h3 : (j : Int) = (k : Int) := by simpa using hk'
    have : j = k := by omega
    subst this; exact h2
  · intro h
    exact ⟨_, mem_membersL.2 ⟨k, hk, h, rfl⟩, by simp⟩
end Go.Proofs.YtiggckhlbklngaaDoor
