/- Quorums: sets of members as numbers; whether they meet. -/
import Derived.Test.YtiakkgpkkpaldaaDoorLeaf
import Derived.Test.YtiakkgpkkpaldaaDoorInts
namespace Go.Proofs.YtiakkgpkkpaldaaDoor
open Go.RowKit

/-- Two sets have a member in common. -/
def comB (a b : Int) : Bool := decide (0 < a) && (decide (0 < b) && decide (a.toNat &&& b.toNat ≠ 0))
theorem land_halves (m n : Nat) : m &&& n = 0 ↔ ¬ (m % 2 = 1 ∧ n % 2 = 1) ∧ m / 2 &&& n / 2 = 0 := by
  constructor
  · intro h
    refine ⟨fun ⟨h1, h2⟩ => ?_, ?_⟩
    · have := congrArg (fun x => x % 2) h
      simp only [Nat.and_mod_two_pow (n := 1), Nat.pow_one] at this
      rw [h1, h2] at this
      simp at this
    · have := congrArg (fun x => x / 2) h
      simpa [Nat.and_div_two] using this
  · rintro ⟨h1, h2⟩
    apply Nat.eq_of_testBit_eq
    intro i
    rw [Nat.zero_testBit]
    cases i with
    | zero =>
      rw [Nat.testBit_and, Nat.testBit_zero, Nat.testBit_zero]
      by_cases hm : m % 2 = 1 <;> by_cases hn : n % 2 = 1 <;> simp [hm, hn] <;> exact h1 ⟨hm, hn⟩
    | succ i =>
      have := congrArg (fun x => x.testBit i) h2
      rw [Nat.testBit_and, Nat.zero_testBit] at this
      rw [Nat.testBit_and, Nat.testBit_succ, Nat.testBit_succ]
      exact this
theorem comB_half {a b : Int} (ha : 0 < a) (hb : 0 < b) (h : ¬ (a % 2 = 1 ∧ b % 2 = 1)) : comB a b = comB (a / 2) (b / 2) := by
  have h1 := land_halves a.toNat b.toNat
  have e1 : (a / 2).toNat = a.toNat / 2 := by omega
  have e2 : (b / 2).toNat = b.toNat / 2 := by omega
  have h2 : ¬ (a.toNat % 2 = 1 ∧ b.toNat % 2 = 1) := by omega
  unfold comB
  rw [e1, e2]
  by_cases h3 : a.toNat / 2 &&& b.toNat / 2 = 0
  · have h4 := h1.2 ⟨h2, h3⟩
    simp [h3, h4]
  · have h4 : ¬ (a.toNat &&& b.toNat = 0) := fun h => h3 (h1.1 h).2
    have h5 : 0 < a / 2 := by
      rcases Int.lt_or_le 0 (a / 2) with h | h
      · exact h
      · exfalso; apply h3; rw [show a.toNat / 2 = 0 by omega]; simp
    have h6 : 0 < b / 2 := by
      rcases Int.lt_or_le 0 (b / 2) with h | h
      · exact h
      · exfalso; apply h3; rw [show b.toNat / 2 = 0 by omega]; simp
    simp [h3, h4, ha, hb, h5, h6]
theorem comB_odd {a b : Int} (ha : 0 < a) (hb : 0 < b) (h1 : a % 2 = 1) (h2 : b % 2 = 1) : comB a b = true := by
  have h := land_halves a.toNat b.toNat
  have h4 : ¬ (a.toNat &&& b.toNat = 0) := fun h' => (h.1 h').1 ⟨by omega, by omega⟩
  simp [comB, ha, hb, h4]
theorem comB_symm (a b : Int) : comB a b = comB b a := by
  unfold comB
  rw [Nat.and_comm]
  cases decide (0 < a) <;> cases decide (0 < b) <;> simp

/-- Sets of many members, not too many of them. -/
def setsB (many : Int) (xs : List Int) : Bool := inB many 1 7 && (decide (xs.length ≤ 10) && xs.all fun s => inB s 0 ((2 ^ many.toNat : Nat) - 1))
theorem setsB_bad {many : Int} {xs : List Int} {k p : Nat} {x : Int} (hx : xs[k]? = some x) (hp : 1 ≤ many → many ≤ 7 → p = 2 ^ many.toNat) (h : inB x 0 (p - 1) = false) : setsB many xs = false := by
  unfold setsB
  by_cases hm : inB many 1 7 = true
  · have hm' := inB_true.1 hm
    have e := hp hm'.1 hm'.2
    subst e
    have : xs.all (fun s => inB s 0 ((2 ^ many.toNat : Nat) - 1)) = false := by
      rw [List.all_eq_false]
      exact ⟨x, List.mem_of_getElem? hx, by rw [h]; simp⟩
    rw [this]; simp
  · simp [hm]
theorem setsB_end {many : Int} {xs : List Int} {p : Nat} (hp : 1 ≤ many → many ≤ 7 → p = 2 ^ many.toNat) (h : ∀ i x, i < xs.length → xs[i]? = some x → inB x 0 (p - 1) = true) : setsB many xs = (inB many 1 7 && decide (xs.length ≤ 10)) := by
  unfold setsB
  by_cases hm : inB many 1 7 = true
  · have hm' := inB_true.1 hm
    have e := hp hm'.1 hm'.2
    subst e
    have : xs.all (fun s => inB s 0 ((2 ^ many.toNat : Nat) - 1)) = true := by
      rw [List.all_eq_true]
      intro x hx
      obtain ⟨i, hi⟩ := List.getElem?_of_mem hx
      exact h i x (List.getElem?_eq_some_iff.1 hi).1 hi
    rw [this]; simp
  · simp [hm]
set_option maxHeartbeats 1000000 in
theorem l32Valid_any {v : Value} {xs : List Int} (many : Int) (w : World) (h : Sl1 encI w v xs) (hlen : xs.length ≤ 2097152) (hm : many ≤ 9223372036854775807) :
    Calls Tryd.prog 49 #[.int .i64 many, v] w fun e w' => e = .returned (.bool (setsB many xs)) ∧ Ext w w' := by
  obtain ⟨A, c, rfl, h⟩ := h
  go_enter Tryd.func49, Tryd.ntmps49
  go_wp2
  go_loop [5, 6] (fun a i => ∃ k p : Nat, k ≤ 8 ∧ (k : Int) ≤ max many 0 ∧ p ≤ 256 ∧ i = .int .i64 k ∧ a = .int .i64 p ∧ Hid (p = 2 ^ k)) (fun _ i => 9 - (intOf i).toNat)
  case atStart => exact ⟨0, 1, by omega, by omega, by omega, rfl, rfl, rfl⟩
  case round =>
    obtain ⟨k, p, hk, hkm, hp, rfl, rfl, HP⟩ := hrel
    by_cases h1 : (k : Int) < many ∧ k ≤ 7
    · obtain ⟨h1, h2⟩ := h1
      have hp2 : p ≤ 128 := by
        have := Nat.pow_le_pow_right (n := 2) (by omega) h2
        have := HP.out
        omega
      go_wp2
      go_round
      case rel => exact ⟨k + 1, 2 * p, by omega, by omega, by omega, by go_num, by go_num, by have := HP.out; show _ = _; rw [Nat.pow_succ]; omega⟩
      case measure => simp [intOf]; omega
    · have hpm : Hid (1 ≤ many → many ≤ 7 → p = 2 ^ many.toNat) := fun h2 h3 => by
        have := HP.out
        rw [this, show many.toNat = k by omega]
      have hsplit : (many ≤ (k : Int)) ∨ ((k : Int) < many ∧ ¬ k ≤ 7) := by omega
      clear h1 HP
      rcases hsplit with h1 | ⟨h1, h2⟩
      case' inl =>
        have hx' : many ≤ (k : Int) := h1
        clear h1
      case' inr =>
        have hx' : 8 ≤ k := by omega
        clear h2
      all_goals
        go_wp2
        go_loopw [7] (fun i wr => Ext w wr ∧ ∃ k : Nat, k ≤ xs.length ∧ i = .int .i64 k ∧ Hid (∀ i x, i < k → xs[i]? = some x → inB x 0 (p - 1) = true)) (fun i _ => xs.length - (intOf i).toNat)
        case atStart => exact ⟨Ext.refl _, 0, Nat.zero_le _, rfl, fun i _ h => absurd h (Nat.not_lt_zero _)⟩
        case round =>
          clear hx' hkm hk
          obtain ⟨hb, k, hk, rfl, HG⟩ := hrel
          by_cases hlt : k < xs.length
          · obtain ⟨b, off, rfl, hbl, hc⟩ := h (by omega)
            obtain ⟨x, hx⟩ := at_some hlt
            have c0 : wr.cell? ⟨b, off + k, none⟩ = some (.int .i64 x) := hb.cell (hc k x hx)
            have Hx := Lib.hid hx
            clear h hc hx
            by_cases hg : inB x 0 (p - 1) = true
            · go_wp2_with fail
              refine (l1In_any _ _ _ _).mono ?_
              rintro e w' ⟨rfl, rfl⟩
              go_wp2
              go_roundw
              case rel => exact ⟨hb, k + 1, by omega, by go_num, fun i y hi hy => if e : i = k then by subst e; rw [Hx.out] at hy; cases hy; exact hg else HG.out i y (by omega) hy⟩
              case measure => simp [intOf]; omega
            · simp only [Bool.not_eq_true] at hg
              have hf := Lib.hid (setsB_bad Hx.out hpm.out hg)
              go_wp2_with fail
              refine (l1In_any _ _ _ _).mono ?_
              rintro e w' ⟨rfl, rfl⟩
              go_wp2
              go_returns
              exact ⟨ret_bool hf.out.symm, hb⟩
          · have hf := Lib.hid (setsB_end hpm.out (fun i x hi hx => HG.out i x (by omega) hx))
            by_cases hmm : inB many 1 7 = true
            · go_wp2_with fail
              refine (l1In_any _ _ _ _).mono ?_
              rintro e w' ⟨rfl, rfl⟩
              go_wp2
              go_returns
              exact ⟨ret_bool (by rw [hf.out, hmm]; simp; omega), hb⟩
            · simp only [Bool.not_eq_true] at hmm
              go_wp2_with fail
              refine (l1In_any _ _ _ _).mono ?_
              rintro e w' ⟨rfl, rfl⟩
              go_wp2
              go_returns
              exact ⟨ret_bool (by rw [hf.out, hmm]; simp), hb⟩
/-- Every set of the one list meets every set of the other. -/
def meetB (xs ys : List Int) : Bool := xs.all fun a => ys.all fun b => comB a b
theorem meetB_bad {xs ys : List Int} {i j : Nat} {x y : Int} (hx : xs[i]? = some x) (hy : ys[j]? = some y) (h : comB x y = false) : meetB xs ys = false := by
  unfold meetB
  rw [List.all_eq_false]
  refine ⟨x, List.mem_of_getElem? hx, ?_⟩
  rw [Bool.not_eq_true, List.all_eq_false]
  exact ⟨y, List.mem_of_getElem? hy, by rw [h]; simp⟩
theorem meetB_end {xs ys : List Int} (h : ∀ i x, i < xs.length → xs[i]? = some x → ∀ j y, j < ys.length → ys[j]? = some y → comB x y = true) : meetB xs ys = true := by
  unfold meetB
  rw [List.all_eq_true]
  intro x hx
  rw [List.all_eq_true]
  intro y hy
  obtain ⟨i, hi⟩ := List.getElem?_of_mem hx
  obtain ⟨j, hj⟩ := List.getElem?_of_mem hy
  exact h i x (List.getElem?_eq_some_iff.1 hi).1 hi j y (List.getElem?_eq_some_iff.1 hj).1 hj
/-- What QuorumsBetween answers. -/
def betweenB (many : Int) (xs ys : List Int) : Bool := setsB many xs && (setsB many ys && meetB xs ys)

end Go.Proofs.YtiakkgpkkpaldaaDoor
