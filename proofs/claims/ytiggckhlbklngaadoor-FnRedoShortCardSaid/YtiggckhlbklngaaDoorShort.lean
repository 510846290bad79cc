/- Records that are left: the plain law of RedoShort. -/
import Derived.Test.YtiggckhlbklngaaDoorRedoUp
namespace Go.Proofs.YtiggckhlbklngaaDoor
open Go.RowKit

/-- Whether a record with the key of a transaction that is done comes. -/
def laterB (S : Nat) (key : Int) (xs : List Redo) : Bool := xs.any fun y => y.key == key && S.testBit y.who.toNat
/-- The records that are left. -/
def shortS (S : Nat) : List Redo → List Redo
  | [] => []
  | x :: xs => if S.testBit x.who.toNat = true ∧ (x.key = -1 ∨ laterB S x.key xs = false) then x :: shortS S xs else shortS S xs
theorem shortS_sub (S : Nat) (xs : List Redo) : (shortS S xs).Sublist xs := by
  induction xs with
  | nil => exact List.Sublist.slnil
  | cons x xs ih =>
    rw [shortS]
    split
    · exact ih.cons_cons x
    · exact ih.cons x
theorem laterB_sub {S : Nat} {key : Int} {xs ys : List Redo} (h : ys.Sublist xs) (hf : laterB S key xs = false) : laterB S key ys = false := by
  unfold laterB at *
  rw [List.any_eq_false] at *
  exact fun y hy => hf y (h.subset hy)
/-- What is left is left again. -/
theorem shortS_twice (S : Nat) (xs : List Redo) : shortS S (shortS S xs) = shortS S xs := by
  induction xs with
  | nil => rfl
  | cons x xs ih =>
    rw [shortS]
    split
    · rename_i h
      rw [shortS, ih, if_pos ⟨h.1, h.2.imp id (laterB_sub (shortS_sub S xs))⟩]
    · exact ih
/-- What one record does to the values. -/
def runStep (S : Nat) (v : List Int) (x : Redo) : List Int := if 0 ≤ x.key ∧ S.testBit x.who.toNat = true then v.set x.key.toNat x.value else v
theorem runTo_fold (S : Nat) (vs : List Int) (xs : List Redo) (k : Nat) (hk : k ≤ xs.length) : runTo S vs xs k = (xs.take k).foldl (runStep S) vs := by
  induction k with
  | zero => rfl
  | succ k ih =>
    obtain ⟨x, hx⟩ := at_some (show k < xs.length by omega)
    rw [List.take_add_one, hx, Option.toList_some, List.foldl_append, ← ih (by omega)]
    simp only [List.foldl_cons, List.foldl_nil]
    unfold runStep
    by_cases h : 0 ≤ x.key ∧ S.testBit x.who.toNat = true
    · rw [if_pos h, runTo_yes hx h.1 h.2]
    · rw [if_neg h, runTo_no hx h]
theorem fold_over {S : Nat} {key a : Int} (hk : 0 ≤ key) : ∀ (xs : List Redo) (v : List Int), laterB S key xs = true → xs.foldl (runStep S) (v.set key.toNat a) = xs.foldl (runStep S) v := by
  intro xs
  induction xs with
  | nil => intro v h; cases h
  | cons z xs ih =>
    intro v h
    rw [List.foldl_cons, List.foldl_cons]
    unfold laterB at h
    rw [List.any_cons, Bool.or_eq_true] at h
    by_cases hz : (z.key == key && S.testBit z.who.toNat) = true
    · rw [Bool.and_eq_true, beq_iff_eq] at hz
      have hw : 0 ≤ z.key ∧ S.testBit z.who.toNat = true := ⟨by omega, hz.2⟩
      unfold runStep
      rw [if_pos hw, if_pos hw, hz.1, List.set_set]
    · have h := h.resolve_left hz
      unfold runStep
      by_cases hw : 0 ≤ z.key ∧ S.testBit z.who.toNat = true
      · rw [if_pos hw, if_pos hw]
        have hne : z.key.toNat ≠ key.toNat := fun e => hz (by rw [Bool.and_eq_true, beq_iff_eq]; exact ⟨by omega, hw.2⟩)
        rw [List.set_comm _ _ (fun e => hne e.symm)]
        exact ih _ h
      · rw [if_neg hw, if_neg hw]
        exact ih _ h
/-- The records that are left do the same. -/
theorem fold_short (S : Nat) : ∀ (xs : List Redo) (v : List Int), (∀ x ∈ xs, -1 ≤ x.key) → (shortS S xs).foldl (runStep S) v = xs.foldl (runStep S) v := by
  intro xs
  induction xs with
  | nil => intro v _; rfl
  | cons x xs ih =>
    intro v hx
    have hxs := fun y hy => hx y (List.mem_cons_of_mem _ hy)
    rw [shortS]
    split
    · rw [List.foldl_cons, List.foldl_cons]
      exact ih _ hxs
    · rename_i h
      rw [ih _ hxs, List.foldl_cons]
      by_cases hb : 0 ≤ x.key ∧ S.testBit x.who.toNat = true
      · have hl : laterB S x.key xs = true := by
          cases hl : laterB S x.key xs with
          | true => rfl
          | false => exact absurd ⟨hb.2, .inr hl⟩ h
        rw [show runStep S v x = v.set x.key.toNat x.value from by unfold runStep; rw [if_pos hb], fold_over hb.1 xs v hl]
      · rw [show runStep S v x = v from by unfold runStep; rw [if_neg hb]]
/-- A record by itself. -/
def Good1 (x : Redo) : Prop := inB x.who 0 5 = true ∧ inB x.key (-1) 2 = true ∧ inB x.value 0 99 = true ∧ (x.key = -1 → x.value = 0)
theorem redoOk_pair {xs : List Redo} : redoOk xs = true ↔ xs.length ≤ 30 ∧ (∀ x ∈ xs, Good1 x) ∧ xs.Pairwise (fun y x => ¬ (y.who = x.who ∧ y.key = -1)) := by
  constructor
  · intro h
    obtain ⟨h1, h2⟩ := allGood_true.1 h
    refine ⟨h2, fun x hx => ?_, List.pairwise_iff_getElem.2 fun i j hi hj hij ⟨e1, e2⟩ => ?_⟩
    · obtain ⟨k, hk⟩ := List.getElem?_of_mem hx
      have hg := h1 k (List.getElem?_eq_some_iff.1 hk).1
      simp only [goodRedo, hk, Bool.and_eq_true] at hg
      refine ⟨hg.1, hg.2.1, hg.2.2.1, fun e => ?_⟩
      have h3 := hg.2.2.2.1
      simp [e] at h3
      exact h3
    · have hg := h1 j hj
      rw [goodRedo_j (List.getElem?_eq_getElem hj) (List.getElem?_eq_getElem hi) hij e1 e2] at hg
      cases hg
  · rintro ⟨h1, h2, h3⟩
    refine allGood_true.2 ⟨fun k hk => ?_, h1⟩
    have hg := h2 _ (List.getElem_mem hk)
    refine goodRedo_yes (List.getElem?_eq_getElem hk) hg.1 hg.2.1 hg.2.2.1 hg.2.2.2 fun j y hj hy e1 e2 => ?_
    obtain ⟨hj', rfl⟩ := List.getElem?_eq_some_iff.1 hy
    exact List.pairwise_iff_getElem.1 h3 j k hj' hk hj ⟨e1, e2⟩
theorem redoOk_sub {xs ys : List Redo} (hs : ys.Sublist xs) (h : redoOk xs = true) : redoOk ys = true := by
  obtain ⟨h1, h2, h3⟩ := redoOk_pair.1 h
  exact redoOk_pair.2 ⟨Nat.le_trans hs.length_le h1, fun x hx => h2 x (hs.subset hx), h3.sublist hs⟩
theorem mem_shortS {S : Nat} {xs : List Redo} {y : Redo} (hy : y ∈ xs) (hb : S.testBit y.who.toNat = true) (hk : y.key = -1) : y ∈ shortS S xs := by
  induction xs with
  | nil => cases hy
  | cons x xs ih =>
    rw [shortS]
    rcases List.mem_cons.1 hy with rfl | hy
    · rw [if_pos ⟨hb, .inl hk⟩]
      exact List.mem_cons_self
    · split
      · exact List.mem_cons_of_mem _ (ih hy)
      · exact ih hy
theorem setTo_short {xs : List Redo} (h : redoOk xs = true) : setTo (shortS (setTo xs xs.length) xs) (shortS (setTo xs xs.length) xs).length = setTo xs xs.length := by
  obtain ⟨_, h2, _⟩ := redoOk_pair.1 h
  apply Nat.eq_of_testBit_eq
  intro i
  rw [Bool.eq_iff_iff]
  constructor
  · intro hb
    obtain ⟨j, y, _, hy, hneg, hw⟩ := setTo_bit.1 hb
    obtain ⟨q, hq⟩ := List.getElem?_of_mem ((shortS_sub _ xs).subset (List.mem_of_getElem? hy))
    exact setTo_bit.2 ⟨q, y, (List.getElem?_eq_some_iff.1 hq).1, hq, hneg, hw⟩
  · intro hb
    obtain ⟨j, y, _, hy, hneg, hw⟩ := setTo_bit.1 hb
    have hm := List.mem_of_getElem? hy
    have hk := inB_true.1 (h2 y hm).2.1
    obtain ⟨q, hq⟩ := List.getElem?_of_mem (mem_shortS (S := setTo xs xs.length) hm (by rw [hw]; exact hb) (by omega))
    exact setTo_bit.2 ⟨q, y, (List.getElem?_eq_some_iff.1 hq).1, hq, hneg, hw⟩
/-- What RedoShort returns. -/
def shortL (xs : List Redo) : List Redo := if redoOk xs = true then shortS (setTo xs xs.length) xs else []
theorem shortL_len (xs : List Redo) : (shortL xs).length ≤ xs.length := by
  unfold shortL
  split
  · exact (shortS_sub _ _).length_le
  · simp
theorem shortL_ok {xs : List Redo} (h : redoOk xs = true) : redoOk (shortL xs) = true := by
  unfold shortL
  rw [if_pos h]
  exact redoOk_sub (shortS_sub _ _) h
theorem shortL_twice {xs : List Redo} (h : redoOk xs = true) : shortL (shortL xs) = shortL xs := by
  have e : shortL xs = shortS (setTo xs xs.length) xs := by unfold shortL; rw [if_pos h]
  rw [e, shortL, if_pos (redoOk_sub (shortS_sub _ _) h), setTo_short h, shortS_twice]
theorem runL_short {xs : List Redo} (vs : List Int) (h : redoOk xs = true) : runL vs (shortL xs) = runL vs xs := by
  have e : shortL xs = shortS (setTo xs xs.length) xs := by unfold shortL; rw [if_pos h]
  have hk : ∀ x ∈ xs, -1 ≤ x.key := fun x hx => (inB_true.1 ((redoOk_pair.1 h).2.1 x hx).2.1).1
  unfold runL
  by_cases hv : valsOk vs = true
  · rw [if_pos ⟨hv, shortL_ok h⟩, if_pos ⟨hv, h⟩, e, setTo_short h, runTo_fold _ _ _ _ (Nat.le_refl _), runTo_fold _ _ _ _ (Nat.le_refl _), List.take_length, List.take_length]
    exact fold_short _ xs vs hk
  · rw [if_neg (fun hh => hv hh.1), if_neg (fun hh => hv hh.1)]
end Go.Proofs.YtiggckhlbklngaaDoor
