/- Touches whose stamps do not fall are all let through. -/
import Derived.Test.YtiggckhlbklngaaDoorTouchRun
namespace Go.Proofs.YtiggckhlbklngaaDoor
open Go.RowKit

/-- Three keys whose stamps are not above M. -/
def Bnd (M : Int) (xs : List Touch) : Prop := xs.length = 3 ∧ ∀ x ∈ xs, (0 ≤ x.read ∧ x.read ≤ M) ∧ (0 ≤ x.write ∧ x.write ≤ M)
theorem Bnd.ok {M : Int} {xs : List Touch} (h : Bnd M xs) (hM : M ≤ 1000) : touchesOk xs = true := by
  rw [touchesOk, Bool.and_eq_true, decide_eq_true_eq, List.all_eq_true]
  refine ⟨h.1, fun x hx => ?_⟩
  have := h.2 x hx
  rw [gTouch, Bool.and_eq_true, inB_true, inB_true]
  omega
theorem touch_up {xs : List Touch} {M stamp key : Int} {write : Bool} (hb : Bnd M xs) (hM : M ≤ stamp) (h1 : inB stamp 1 1000 = true) (h2 : inB key 0 2 = true) : (touchKeyL xs stamp key write).2 = true ∧ Bnd stamp (touchKeyL xs stamp key write).1 := by
  have h3 := inB_true.1 h1
  have h4 := inB_true.1 h2
  obtain ⟨q, rfl⟩ := Int.eq_ofNat_of_zero_le h4.1
  obtain ⟨x, hx⟩ := at_some (show q < xs.length by rw [hb.1]; omega)
  have hxb := hb.2 x (List.mem_of_getElem? hx)
  have hok := hb.ok (show M ≤ 1000 by omega)
  have ht : touchB x stamp write = (if write then (⟨x.read, stamp⟩, true) else (⟨max x.read stamp, x.write⟩, true)) := by
    unfold touchB
    rw [if_neg]
    rintro (h | ⟨_, h⟩) <;> omega
  rw [touchKeyL, if_pos ⟨hok, h1, h2⟩, Int.toNat_natCast, hx]
  simp only
  rw [ht]
  have hset : ∀ y : Touch, (0 ≤ y.read ∧ y.read ≤ stamp) ∧ (0 ≤ y.write ∧ y.write ≤ stamp) → Bnd stamp (xs.set q y) := fun y hy => ⟨by simp [hb.1], fun z hz => by
    rcases List.mem_or_eq_of_mem_set hz with hz | rfl
    · have := hb.2 z hz; omega
    · exact hy⟩
  cases write with
  | true => exact ⟨rfl, hset ⟨x.read, stamp⟩ ⟨by show 0 ≤ x.read ∧ x.read ≤ stamp; omega, by show 0 ≤ stamp ∧ stamp ≤ stamp; omega⟩⟩
  | false => exact ⟨rfl, hset ⟨max x.read stamp, x.write⟩ ⟨by show 0 ≤ max x.read stamp ∧ max x.read stamp ≤ stamp; omega, by show 0 ≤ x.write ∧ x.write ≤ stamp; omega⟩⟩
/-- The stamp of the touch ahead of place k. -/
def lastS (vs : List Int) (k : Nat) : Int := if k = 0 then 0 else vs.getD (3 * (k - 1)) 0
theorem runT_up {vs : List Int} {n : Nat} (hok : ∀ j, j < n → tripOk vs j = true) (hup : ∀ j, 0 < j → j < n → vs.getD (3 * (j - 1)) 0 ≤ vs.getD (3 * j) 0) : ∀ k, k ≤ n → Bnd (lastS vs k) (runT vs k).1 ∧ ∀ b ∈ (runT vs k).2, b = true := by
  intro k
  induction k with
  | zero =>
    intro _
    refine ⟨⟨rfl, fun x hx => ?_⟩, fun b hb => by simp [runT] at hb⟩
    simp [runT] at hx
    subst hx
    unfold lastS
    simp
  | succ k ih =>
    intro hk
    obtain ⟨h1, h2⟩ := ih (by omega)
    have ht := hok k (by omega)
    unfold tripOk at ht
    rw [Bool.and_eq_true, Bool.and_eq_true] at ht
    have hs : lastS vs k ≤ vs.getD (3 * k) 0 := by
      unfold lastS
      split
      · have := inB_true.1 ht.1; omega
      · exact hup k (by omega) (by omega)
    obtain ⟨h3, h4⟩ := touch_up (write := (vs.getD (3 * k + 2) 0 == 1)) h1 hs ht.1 ht.2.1
    refine ⟨?_, fun b hb => ?_⟩
    · unfold lastS
      rw [if_neg (by omega), Nat.add_sub_cancel]
      exact h4
    · rw [runT] at hb
      rcases List.mem_append.1 hb with hb | hb
      · exact h2 b hb
      · simp only [List.mem_singleton] at hb
        rw [hb]
        exact h3
/-- Where the stamps do not fall every answer is yes. -/
theorem touchRun_up {vs : List Int} (hup : ∀ j, 0 < j → 3 * j + 2 < vs.length → vs.getD (3 * (j - 1)) 0 ≤ vs.getD (3 * j) 0) : ∀ b ∈ touchRunL vs, b = true := by
  unfold touchRunL
  split
  · rename_i h
    refine (runT_up (n := vs.length / 3) (fun j hj => List.all_eq_true.1 h.2.2 j (by simpa using hj)) (fun j h0 hj => hup j h0 (by omega)) _ (Nat.le_refl _)).2
  · intro b hb; cases hb
end Go.Proofs.YtiggckhlbklngaaDoor
