/- A heap of numbers in a list: what going up and going down keep. Nothing of the program is used here. -/
import Derived.Test.YtackknkfcbnklaaDoorBase
namespace Go.Proofs.YtackknkfcbnklaaDoor

def gD (xs : List Int) (i : Nat) : Int := xs.getD i 0
def swapL (xs : List Int) (i j : Nat) : List Int := (xs.set i (gD xs j)).set j (gD xs i)
theorem swapL_len (xs : List Int) (i j : Nat) : (swapL xs i j).length = xs.length := by simp [swapL]
theorem gD_get {xs : List Int} {i : Nat} {x : Int} (h : xs[i]? = some x) : gD xs i = x := by simp [gD, List.getD, h]
theorem gD_swap {xs : List Int} {i j : Nat} (hi : i < xs.length) (hj : j < xs.length) (k : Nat) : gD (swapL xs i j) k = if k = j then gD xs i else if k = i then gD xs j else gD xs k := by
  unfold gD swapL
  simp only [List.getD_eq_getElem?_getD, List.getElem?_set, List.length_set]
  by_cases h1 : k = j
  · subst h1; simp [hj, gD]
  · rw [if_neg (fun h => h1 h.symm), if_neg h1]
    by_cases h2 : k = i
    · subst h2; simp [hi, gD]
    · rw [if_neg (fun h => h2 h.symm), if_neg h2]
theorem swapL_perm {xs : List Int} {i j : Nat} (hi : i < xs.length) (hj : j < xs.length) : (swapL xs i j).Perm xs := by
  have h1 : gD xs j = xs[j] := gD_get (by simp [hj])
  have h2 : gD xs i = xs[i] := gD_get (by simp [hi])
  unfold swapL
  rw [h1, h2]
  exact List.set_set_perm hi hj
/-- None is less than what it hangs on. -/
def Heap (xs : List Int) (n : Nat) : Prop := ∀ k, 0 < k → k < n → gD xs ((k - 1) / 2) ≤ gD xs k
theorem Heap.least {xs : List Int} {n : Nat} (h : Heap xs n) : ∀ k, k < n → gD xs 0 ≤ gD xs k := by
  intro k
  induction k using Nat.strongRecOn with
  | _ k ih =>
    intro hk
    by_cases h0 : k = 0
    · subst h0; exact Int.le_refl _
    · exact Int.le_trans (ih ((k - 1) / 2) (by omega) (by omega)) (h k (by omega) hk)
theorem Heap.nil : Heap [] 0 := fun k _ h => by omega
/-- A heap but for place j, which may be less than what it hangs on. -/
def UpTo (xs : List Int) (n j : Nat) : Prop :=
  (∀ k, 0 < k → k < n → k ≠ j → gD xs ((k - 1) / 2) ≤ gD xs k) ∧ (∀ k, 0 < k → k < n → (k - 1) / 2 = j → 0 < j → gD xs ((j - 1) / 2) ≤ gD xs k)
theorem UpTo.start {xs : List Int} (h : Heap xs xs.length) (x : Int) : UpTo (xs ++ [x]) (xs.length + 1) xs.length := by
  have hg : ∀ k, k < xs.length → gD (xs ++ [x]) k = gD xs k := fun k hk => by
    unfold gD
    simp only [List.getD_eq_getElem?_getD, List.getElem?_append_left hk]
  refine ⟨fun k h0 hk hne => ?_, fun k h0 hk he _ => by omega⟩
  rw [hg _ (by omega), hg _ (by omega)]
  exact h k h0 (by omega)
theorem UpTo.swap {xs : List Int} {n j : Nat} (h : UpTo xs n j) (hj : 0 < j) (hn : j < n) (hl : n ≤ xs.length) (hlt : gD xs j < gD xs ((j - 1) / 2)) : UpTo (swapL xs ((j - 1) / 2) j) n ((j - 1) / 2) := by
  have hs := gD_swap (xs := xs) (i := (j - 1) / 2) (j := j) (by omega) (by omega)
  refine ⟨fun k h0 hk hne => ?_, fun k h0 hk he hi => ?_⟩
  · rw [hs, hs]
    by_cases e : k = j
    · subst e
      rw [if_neg (by omega), if_pos rfl, if_pos rfl]
      omega
    · rw [if_neg e, if_neg hne]
      by_cases e1 : (k - 1) / 2 = j
      · rw [if_pos e1]
        exact h.2 k h0 hk e1 hj
      · rw [if_neg e1]
        have h1 := h.1 k h0 hk e
        by_cases e2 : (k - 1) / 2 = (j - 1) / 2
        · rw [if_pos e2]
          rw [e2] at h1
          omega
        · rw [if_neg e2]
          exact h1
  · have hp := h.1 ((j - 1) / 2) hi (by omega) (by omega)
    rw [hs, hs, if_neg (by omega), if_neg (by omega)]
    by_cases e : k = j
    · rw [if_pos e]; exact hp
    · rw [if_neg e, if_neg (by omega)]
      have h1 := h.1 k h0 hk e
      rw [he] at h1
      omega
theorem UpTo.done {xs : List Int} {n j : Nat} (h : UpTo xs n j) (hd : j = 0 ∨ gD xs ((j - 1) / 2) ≤ gD xs j) : Heap xs n := fun k h0 hk => by
  by_cases e : k = j
  · subst e
    rcases hd with hd | hd
    · omega
    · exact hd
  · exact h.1 k h0 hk e
/-- A heap but for place i, which may be greater than what hangs on it. -/
def DownTo (xs : List Int) (n i : Nat) : Prop :=
  (∀ k, 0 < k → k < n → (k - 1) / 2 ≠ i → gD xs ((k - 1) / 2) ≤ gD xs k) ∧ (∀ k, 0 < k → k < n → (k - 1) / 2 = i → 0 < i → gD xs ((i - 1) / 2) ≤ gD xs k)
theorem DownTo.start {xs : List Int} {n : Nat} (h : Heap xs (n + 1)) (hl : xs.length = n + 1) : DownTo (swapL xs 0 n) n 0 := by
  have hs := gD_swap (xs := xs) (i := 0) (j := n) (by omega) (by omega)
  refine ⟨fun k h0 hk hne => ?_, fun k _ _ _ h' => by omega⟩
  rw [hs, hs, if_neg (by omega), if_neg (by omega), if_neg (by omega), if_neg (by omega)]
  exact h k h0 (by omega)
theorem DownTo.swap {xs : List Int} {n i j : Nat} (h : DownTo xs n i) (hj0 : 0 < j) (hj : (j - 1) / 2 = i) (hn : j < n) (hl : n ≤ xs.length) (hlt : gD xs j < gD xs i)
    (hmin : ∀ k, 0 < k → k < n → (k - 1) / 2 = i → gD xs j ≤ gD xs k) : DownTo (swapL xs i j) n j := by
  have hs := gD_swap (xs := xs) (i := i) (j := j) (by omega) (by omega)
  refine ⟨fun k h0 hk hne => ?_, fun k h0 hk he _ => ?_⟩
  · rw [hs, hs]
    by_cases e : k = j
    · subst e
      rw [if_neg (by omega), if_pos hj, if_pos rfl]
      omega
    · rw [if_neg hne, if_neg e]
      by_cases e1 : (k - 1) / 2 = i
      · rw [if_pos e1, if_neg (by omega)]
        exact hmin k h0 hk e1
      · rw [if_neg e1]
        by_cases e2 : k = i
        · rw [if_pos e2]
          subst e2
          exact h.2 j hj0 hn hj h0
        · rw [if_neg e2]
          exact h.1 k h0 hk e1
  · rw [hs, hs, if_neg (by omega), if_pos hj, if_neg (by omega), if_neg (by omega)]
    have := h.1 k h0 hk (by omega)
    rw [he] at this
    exact this
theorem DownTo.done {xs : List Int} {n i : Nat} (h : DownTo xs n i) (hd : ∀ k, 0 < k → k < n → (k - 1) / 2 = i → gD xs i ≤ gD xs k) : Heap xs n := fun k h0 hk => by
  by_cases e : (k - 1) / 2 = i
  · rw [e]; exact hd k h0 hk e
  · exact h.1 k h0 hk e
theorem Heap.take {xs : List Int} {n : Nat} (h : Heap xs n) (hl : n ≤ xs.length) : Heap (xs.take n) n := fun k h0 hk => by
  have hg : ∀ k, k < n → gD (xs.take n) k = gD xs k := fun k hk => by
    unfold gD
    simp only [List.getD_eq_getElem?_getD, List.getElem?_take_of_lt hk]
  rw [hg _ (by omega), hg _ hk]
  exact h k h0 hk
end Go.Proofs.YtackknkfcbnklaaDoor
