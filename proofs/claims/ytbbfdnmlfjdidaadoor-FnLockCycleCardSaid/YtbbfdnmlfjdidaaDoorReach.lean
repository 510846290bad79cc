/- Who is reached by edges in a small graph, whose rows are sets as bits: by closing a set, and by Warshall's rounds. -/
import Derived.Test.YtbbfdnmlfjdidaaDoorSetSize
namespace Go.Proofs.YtbbfdnmlfjdidaaDoor
open Go.RowKit

section
variable {W : Nat → Nat}
/-- From a to b by one edge or more. -/
inductive Path (W : Nat → Nat) : Nat → Nat → Prop
  | edge {a b : Nat} : (W a).testBit b = true → Path W a b
  | step {a b c : Nat} : Path W a b → (W b).testBit c = true → Path W a c
theorem Path.trans {a b c : Nat} (h : Path W a b) (k : Path W b c) : Path W a c := by
  induction k with
  | edge e => exact h.step e
  | step _ e ih => exact ih.step e
/-- Warshall's rounds. -/
def war (W : Nat → Nat) : Nat → Nat → Nat
  | 0, x => W x
  | k + 1, x => if (war W k x).testBit k = true then war W k x ||| war W k k else war W k x
theorem war_bit {k x y : Nat} : (war W (k + 1) x).testBit y = true ↔ (war W k x).testBit y = true ∨ ((war W k x).testBit k = true ∧ (war W k k).testBit y = true) := by
  rw [war]
  split
  · rename_i h
    rw [Nat.testBit_or, Bool.or_eq_true]
    simp [h]
  · rename_i h
    simp [h]
theorem war_sound {k x y : Nat} (h : (war W k x).testBit y = true) : Path W x y := by
  induction k generalizing x y with
  | zero => exact .edge h
  | succ k ih =>
    rcases war_bit.1 h with h | ⟨h1, h2⟩
    · exact ih h
    · exact (ih h1).trans (ih h2)
theorem war_mono {k x y : Nat} (h : (W x).testBit y = true) : (war W k x).testBit y = true := by
  induction k with
  | zero => exact h
  | succ k ih => exact war_bit.2 (.inl ih)
theorem war_trans {k : Nat} : ∀ {x y z : Nat}, z < k → (war W k x).testBit z = true → (war W k z).testBit y = true → (war W k x).testBit y = true := by
  induction k with
  | zero => intro x y z hz; omega
  | succ k ih =>
    intro x y z hz h1 h2
    rw [war_bit] at h1 h2 ⊢
    by_cases e : z = k
    · subst e
      have h1' : (war W z x).testBit z = true := h1.elim id And.left
      have h2' : (war W z z).testBit y = true := h2.elim id And.right
      exact .inr ⟨h1', h2'⟩
    · have hz' : z < k := by omega
      rcases h1 with h1 | ⟨h1, h1'⟩ <;> rcases h2 with h2 | ⟨h2, h2'⟩
      · exact .inl (ih hz' h1 h2)
      · exact .inr ⟨ih hz' h1 h2, h2'⟩
      · exact .inr ⟨h1, ih hz' h1' h2⟩
      · exact .inr ⟨h1, h2'⟩
theorem war_path {N a b : Nat} (hW : ∀ x y, (W x).testBit y = true → y < N) : (war W N a).testBit b = true ↔ Path W a b := by
  refine ⟨war_sound, fun h => ?_⟩
  induction h with
  | edge e => exact war_mono e
  | @step b c hp e ih =>
    refine war_trans (z := b) ?_ ih (war_mono e)
    cases hp with
    | edge e' => exact hW _ _ e'
    | step _ e' => exact hW _ _ e'

/-- One round of closing a set: the rows of its members, one after the other. -/
def closeTo (W : Nat → Nat) (R : Nat) : Nat → Nat
  | 0 => R
  | k + 1 => if (closeTo W R k).testBit k = true then closeTo W R k ||| W k else closeTo W R k
/-- So many rounds. -/
def closeN (W : Nat → Nat) (N : Nat) (R : Nat) : Nat → Nat
  | 0 => R
  | s + 1 => closeTo W (closeN W N R s) N
theorem closeTo_mono {R k y : Nat} (h : R.testBit y = true) : (closeTo W R k).testBit y = true := by
  induction k with
  | zero => exact h
  | succ k ih =>
    rw [closeTo]
    split
    · rw [Nat.testBit_or, ih, Bool.true_or]
    · exact ih
theorem closeTo_up {R k j y : Nat} (hj : j ≤ k) (h : (closeTo W R j).testBit y = true) : (closeTo W R k).testBit y = true := by
  induction k with
  | zero => obtain rfl : j = 0 := by omega
            exact h
  | succ k ih =>
    by_cases e : j = k + 1
    · subst e; exact h
    · have := ih (by omega)
      rw [closeTo]
      split
      · rw [Nat.testBit_or, this, Bool.true_or]
      · exact this
theorem closeTo_lt {R k M : Nat} (hR : R < 2 ^ M) (hW : ∀ x, W x < 2 ^ M) : closeTo W R k < 2 ^ M := by
  induction k with
  | zero => exact hR
  | succ k ih =>
    rw [closeTo]
    split
    · exact Nat.or_lt_two_pow ih (hW k)
    · exact ih
theorem closeTo_sound {a R k y : Nat} (hR : ∀ b, R.testBit b = true → Path W a b) (h : (closeTo W R k).testBit y = true) : Path W a y := by
  induction k generalizing y with
  | zero => exact hR y h
  | succ k ih =>
    rw [closeTo] at h
    split at h
    · rename_i hk
      rw [Nat.testBit_or, Bool.or_eq_true] at h
      rcases h with h | h
      · exact ih h
      · exact (ih hk).step h
    · exact ih h
theorem closeN_sound {a N R s y : Nat} (hR : ∀ b, R.testBit b = true → Path W a b) (h : (closeN W N R s).testBit y = true) : Path W a y := by
  induction s generalizing y with
  | zero => exact hR y h
  | succ s ih => exact closeTo_sound (fun b hb => ih hb) h
/-- Closed under the rows. -/
def Closed (W : Nat → Nat) (N R : Nat) : Prop := ∀ k y, k < N → R.testBit k = true → (W k).testBit y = true → R.testBit y = true
theorem closed_of_same {N R : Nat} (h : ∀ y, (closeTo W R N).testBit y = true → R.testBit y = true) : Closed W N R := fun k y hk hR hy => by
  refine h y (closeTo_up (j := k + 1) hk ?_)
  rw [closeTo, if_pos (closeTo_mono hR), Nat.testBit_or, hy, Bool.or_true]
theorem closeTo_closed {N R : Nat} (h : Closed W N R) {k : Nat} (hk : k ≤ N) : closeTo W R k = R := by
  induction k with
  | zero => rfl
  | succ k ih =>
    rw [closeTo, ih (by omega)]
    split
    · rename_i hb
      apply Nat.eq_of_testBit_eq
      intro i
      rw [Nat.testBit_or]
      cases hi : (W k).testBit i with
      | false => simp
      | true => rw [h k i (by omega) hb hi]; rfl
    · rfl
theorem pc_less : ((List.range 32).all fun a => (List.range 32).all fun b => decide (a &&& b = a → a ≠ b → pc a < pc b)) = true := by decide +kernel
theorem pc_grow {a b : Nat} (ha : a < 32) (hb : b < 32) (h : ∀ y, a.testBit y = true → b.testBit y = true) (hne : a ≠ b) : pc a < pc b := by
  have h1 := List.all_eq_true.1 (List.all_eq_true.1 pc_less a (by simpa using ha)) b (by simpa using hb)
  simp only [decide_eq_true_eq] at h1
  refine h1 ?_ hne
  apply Nat.eq_of_testBit_eq
  intro i
  rw [Nat.testBit_and]
  cases hi : a.testBit i with
  | false => simp
  | true => rw [h i hi]; rfl
theorem pc_five (a : Nat) (ha : a < 32) : pc a ≤ 5 := by unfold pc; omega
theorem pc_pos (a : Nat) (ha : a < 32) (h : a ≠ 0) : 1 ≤ pc a := by
  have h1 : ((List.range 32).all fun a => a == 0 || decide (1 ≤ pc a)) = true := by decide +kernel
  have h2 := List.all_eq_true.1 h1 a (by simpa using ha)
  simpa [h] using h2
theorem closeN_lt {N R s : Nat} (hR : R < 2 ^ 5) (hW : ∀ x, W x < 2 ^ 5) : closeN W N R s < 2 ^ 5 := by
  induction s with
  | zero => exact hR
  | succ s ih => exact closeTo_lt ih hW
theorem closeN_mono {N R s y : Nat} (h : R.testBit y = true) : (closeN W N R s).testBit y = true := by
  induction s with
  | zero => exact h
  | succ s ih => exact closeTo_mono ih
theorem closeN_grows {N R : Nat} (hR : R < 2 ^ 5) (hW : ∀ x, W x < 2 ^ 5) (h0 : R ≠ 0) (s : Nat) : Closed W N (closeN W N R s) ∨ s + 1 ≤ pc (closeN W N R s) := by
  induction s with
  | zero => exact .inr (pc_pos R (by omega) h0)
  | succ s ih =>
    have hlt := closeN_lt (N := N) (s := s) hR hW
    have hlt' := closeTo_lt (k := N) hlt hW
    rcases ih with ih | ih
    · left
      rw [closeN, closeTo_closed ih (Nat.le_refl _)]
      exact ih
    · by_cases e : closeN W N R s = closeTo W (closeN W N R s) N
      · left
        rw [closeN, ← e]
        exact closed_of_same (fun y hy => by rw [← e] at hy; exact hy)
      · right
        have := pc_grow (by omega) (by omega) (fun y hy => closeTo_mono (W := W) (k := N) hy) e
        rw [closeN]
        omega
theorem closed_zero {N : Nat} : Closed W N 0 := fun k y _ h => by simp at h
/-- Five rounds close a set of five. -/
theorem closeN_closed {N R : Nat} (hR : R < 2 ^ 5) (hW : ∀ x, W x < 2 ^ 5) : Closed W N (closeN W N R 5) := by
  by_cases h0 : R = 0
  · subst h0
    have : ∀ s, closeN W N 0 s = 0 := fun s => by
      induction s with
      | zero => rfl
      | succ s ih => rw [closeN, ih, closeTo_closed closed_zero (Nat.le_refl _)]
    rw [this]
    exact closed_zero
  · rcases closeN_grows (N := N) hR hW h0 5 with h | h
    · exact h
    · have := pc_five _ (closeN_lt (N := N) (s := 5) hR hW)
      omega
theorem close_path {N a b : Nat} (hW : ∀ x, W x < 2 ^ 5) (hN : ∀ x y, (W x).testBit y = true → y < N) : (closeN W N (W a) 5).testBit b = true ↔ Path W a b := by
  refine ⟨closeN_sound (fun b hb => .edge hb), fun h => ?_⟩
  induction h with
  | edge e => exact closeN_mono e
  | @step b c hp e ih =>
    refine closeN_closed (hW a) hW b c ?_ ih e
    cases hp with
    | edge e' => exact hN _ _ e'
    | step _ e' => exact hN _ _ e'
/-- Both ways tell the same cycles. -/
theorem cycles_same (hW : ∀ x, W x < 2 ^ 5) (h5 : ∀ x, 5 ≤ x → W x = 0) : ((List.range 5).any fun o => (closeN W 5 (W o) 5).testBit o) = ((List.range 6).any fun i => (war W 6 i).testBit i) := by
  have hb : ∀ x y, (W x).testBit y = true → y < 5 := fun x y h => by
    rcases Nat.lt_or_ge y 5 with h' | h'
    · exact h'
    · rw [Nat.testBit_lt_two_pow (Nat.lt_of_lt_of_le (hW x) (Nat.pow_le_pow_right (by omega) h'))] at h; cases h
  rw [Bool.eq_iff_iff, List.any_eq_true, List.any_eq_true]
  constructor
  · rintro ⟨o, ho, h⟩
    exact ⟨o, by simp at ho ⊢; omega, (war_path (fun x y h => by have := hb x y h; omega)).2 ((close_path hW hb).1 h)⟩
  · rintro ⟨i, hi, h⟩
    have hp := (war_path (W := W) (N := 6) (fun x y h => by have := hb x y h; omega)).1 h
    have hi5 : i < 5 := by
      rcases Nat.lt_or_ge i 5 with h' | h'
      · exact h'
      · have hz := h5 i h'
        have : ∀ {a b}, Path W a b → W a ≠ 0 := fun {a b} hp => by
          induction hp with
          | edge e => intro h; rw [h] at e; simp at e
          | step _ _ ih => exact ih
        exact absurd hz (this hp)
    exact ⟨i, by simpa using hi5, (close_path hW hb).2 hp⟩
end
end Go.Proofs.YtbbfdnmlfjdidaaDoor
