/- Quorums: sets of members as numbers; whether they meet. -/
import Derived.Test.YtpkjgeidndbbbaaDoorLeaf
import Derived.Test.YtpkjgeidndbbbaaDoorInts
namespace Go.Proofs.YtpkjgeidndbbbaaDoor
open Go.RowKit

/-- Two sets have a member in common. -/
def comB (a b : Int) : Bool := decide (0 < a) && (decide (0 < b) && decide (a.toNat &&& b.toNat ≠ 0))
theorem land_halves (m n : Nat) : m &&& n = 0 ↔ ¬ (m % 2 = 1 ∧ n % 2 = 1) ∧ m / 2 &&& n / 2 = 0 := by
  constructor
  · intro h
    refine ⟨fun ⟨h1, h2⟩ => ?_, ?_⟩
    · have := congrArg (fun x => x % 2) h
      simp only [Nat.and_mod_two_pow (n := 1), Nat.pow_one] at this
      rw [h1, h2] at this
      simp at this
    · have := congrArg (fun x => x / 2) h
      simpa [Nat.and_div_two] using this
  · rintro ⟨h1, h2⟩
    apply Nat.eq_of_testBit_eq
    intro i
    rw [Nat.zero_testBit]
    cases i with
    | zero =>
      rw [Nat.testBit_and, Nat.testBit_zero, Nat.testBit_zero]
      by_cases hm : m % 2 = 1 <;> by_cases hn : n % 2 = 1 <;> simp [hm, hn] <;> exact h1 ⟨hm, hn⟩
    | succ i =>
      have := congrArg (fun x => x.testBit i) h2
      rw [Nat.testBit_and, Nat.zero_testBit] at this
      rw [Nat.testBit_and, Nat.testBit_succ, Nat.testBit_succ]
      exact this
theorem comB_half {a b : Int} (ha : 0 < a) (hb : 0 < b) (h : ¬ (a % 2 = 1 ∧ b % 2 = 1)) : comB a b = comB (a / 2) (b / 2) := by
  have h1 := land_halves a.toNat b.toNat
  have e1 : (a / 2).toNat = a.toNat / 2 := by omega
  have e2 : (b / 2).toNat = b.toNat / 2 := by omega
  have h2 : ¬ (a.toNat % 2 = 1 ∧ b.toNat % 2 = 1) := by omega
  unfold comB
  rw [e1, e2]
  by_cases h3 : a.toNat / 2 &&& b.toNat / 2 = 0
  · have h4 := h1.2 ⟨h2, h3⟩
    simp [h3, h4]
  · have h4 : ¬ (a.toNat &&& b.toNat = 0) := fun h => h3 (h1.1 h).2
    have h5 : 0 < a / 2 := by
      rcases Int.lt_or_le 0 (a / 2) with h | h
      · exact h
      · exfalso; apply h3; rw [show a.toNat / 2 = 0 by omega]; simp
    have h6 : 0 < b / 2 := by
      rcases Int.lt_or_le 0 (b / 2) with h | h
      · exact h
      · exfalso; apply h3; rw [show b.toNat / 2 = 0 by omega]; simp
    simp [h3, h4, ha, hb, h5, h6]
theorem comB_odd {a b : Int} (ha : 0 < a) (hb : 0 < b) (h1 : a % 2 = 1) (h2 : b % 2 = 1) : comB a b = true := by
  have h := land_halves a.toNat b.toNat
  have h4 : ¬ (a.toNat &&& b.toNat = 0) := fun h' => (h.1 h').1 ⟨by omega, by omega⟩
  simp [comB, ha, hb, h4]
theorem comB_symm (a b : Int) : comB a b = comB b a := by
  unfold comB
  rw [Nat.and_comm]
  cases decide (0 < a) <;> cases decide (0 < b) <;> simp

set_option maxHeartbeats 400000 in
theorem l32Common_any (a b : Int) (w : World) (ha : a ≤ 9223372036854775807) (hb : b ≤ 9223372036854775807) :
    Calls Tryd.prog 51 #[.int .i64 a, .int .i64 b] w fun e w' => e = .returned (.bool (comB a b)) ∧ w = w' := by
  go_enter Tryd.func51, Tryd.ntmps51
  go_wp2
  go_loop [0, 1] (fun x y => ∃ c d : Int, x = .int .i64 c ∧ y = .int .i64 d ∧ c ≤ 9223372036854775807 ∧ d ≤ 9223372036854775807 ∧ Hid (comB a b = comB c d)) (fun x _ => (intOf x).toNat)
  case atStart => exact ⟨a, b, rfl, rfl, ha, hb, rfl⟩
  case round =>
    obtain ⟨c, d, rfl, rfl, hc, hd, HI⟩ := hrel
    by_cases h1 : 0 < c
    · by_cases h2 : 0 < d
      · by_cases h3 : c % 2 = 1
        · by_cases h4 : d % 2 = 1
          · have hr := Lib.hid (HI.out.trans (comB_odd h1 h2 h3 h4))
            have h3' : ((c % 2 : Int) == 1) = true := by simp [h3]
            have h4' : ((d % 2 : Int) == 1) = true := by simp [h4]
            clear h3 h4
            go_wp2
            go_returns
            exact ⟨ret_bool hr.out.symm, rfl⟩
          · have hr := Lib.hid (HI.out.trans (comB_half h1 h2 (fun h => h4 h.2)))
            have h3' : ((c % 2 : Int) == 1) = true := by simp [h3]
            have h4' : ((d % 2 : Int) == 1) = false := by simp [h4]
            clear h3 h4
            go_wp2
            go_round
            case rel => exact ⟨c / 2, d / 2, by go_num, by go_num, by omega, by omega, hr⟩
            case measure => simp [intOf]; omega
        · have hr := Lib.hid (HI.out.trans (comB_half h1 h2 (fun h => h3 h.1)))
          have h3' : ((c % 2 : Int) == 1) = false := by simp [h3]
          clear h3
          go_wp2
          go_round
          case rel => exact ⟨c / 2, d / 2, by go_num, by go_num, by omega, by omega, hr⟩
          case measure => simp [intOf]; omega
      · have hr := Lib.hid (HI.out.trans (show comB c d = false by simp [comB, h2]))
        have h2' : decide (0 < d) = false := by simp [h2]
        clear h2
        go_wp2
        go_returns
        exact ⟨ret_bool hr.out.symm, rfl⟩
    · have hr := Lib.hid (HI.out.trans (show comB c d = false by simp [comB, h1]))
      have h1' : decide (0 < c) = false := by simp [h1]
      clear h1
      go_wp2
      go_returns
      exact ⟨ret_bool hr.out.symm, rfl⟩
/-- Sets of many members, not too many of them. -/
def setsB (many : Int) (xs : List Int) : Bool := inB many 1 7 && (decide (xs.length ≤ 10) && xs.all fun s => inB s 0 ((2 ^ many.toNat : Nat) - 1))
theorem setsB_bad {many : Int} {xs : List Int} {k p : Nat} {x : Int} (hx : xs[k]? = some x) (hp : 1 ≤ many → many ≤ 7 → p = 2 ^ many.toNat) (h : inB x 0 (p - 1) = false) : setsB many xs = false := by
  unfold setsB
  by_cases hm : inB many 1 7 = true
  · have hm' := inB_true.1 hm
    have e := hp hm'.1 hm'.2
    subst e
    have : xs.all (fun s => inB s 0 ((2 ^ many.toNat : Nat) - 1)) = false := by
      rw [List.all_eq_false]
      exact ⟨x, List.mem_of_getElem? hx, by rw [h]; simp⟩
    rw [this]; simp
  · simp [hm]
theorem setsB_end {many : Int} {xs : List Int} {p : Nat} (hp : 1 ≤ many → many ≤ 7 → p = 2 ^ many.toNat) (h : ∀ i x, i < xs.length → xs[i]? = some x → inB x 0 (p - 1) = true) : setsB many xs = (inB many 1 7 && decide (xs.length ≤ 10)) := by
  unfold setsB
  by_cases hm : inB many 1 7 = true
  · have hm' := inB_true.1 hm
    have e := hp hm'.1 hm'.2
    subst e
    have : xs.all (fun s => inB s 0 ((2 ^ many.toNat : Nat) - 1)) = true := by
      rw [List.all_eq_true]
      intro x hx
      obtain ⟨i, hi⟩ := List.getElem?_of_mem hx
      exact h i x (List.getElem?_eq_some_iff.1 hi).1 hi
    rw [this]; simp
  · simp [hm]
set_option maxHeartbeats 1000000 in
theorem l32Valid_any {v : Value} {xs : List Int} (many : Int) (w : World) (h : Sl1 encI w v xs) (hlen : xs.length ≤ 2097152) (hm : many ≤ 9223372036854775807) :
    Calls Tryd.prog 52 #[.int .i64 many, v] w fun e w' => e = .returned (.bool (setsB many xs)) ∧ Ext w w' := by
  obtain ⟨A, c, rfl, h⟩ := h
  go_enter Tryd.func52, Tryd.ntmps52
  go_wp2
  go_loop [5, 6] (fun a i => ∃ k p : Nat, k ≤ 8 ∧ (k : Int) ≤ max many 0 ∧ p ≤ 256 ∧ i = .int .i64 k ∧ a = .int .i64 p ∧ Hid (p = 2 ^ k)) (fun _ i => 9 - (intOf i).toNat)
  case atStart => exact ⟨0, 1, by omega, by omega, by omega, rfl, rfl, rfl⟩
  case round =>
    obtain ⟨k, p, hk, hkm, hp, rfl, rfl, HP⟩ := hrel
    by_cases h1 : (k : Int) < many ∧ k ≤ 7
    · obtain ⟨h1, h2⟩ := h1
      have hp2 : p ≤ 128 := by
        have := Nat.pow_le_pow_right (n := 2) (by omega) h2
        have := HP.out
        omega
      go_wp2
      go_round
      case rel => exact ⟨k + 1, 2 * p, by omega, by omega, by omega, by go_num, by go_num, by have := HP.out; show _ = _; rw [Nat.pow_succ]; omega⟩
      case measure => simp [intOf]; omega
    · have hpm : Hid (1 ≤ many → many ≤ 7 → p = 2 ^ many.toNat) := fun h2 h3 => by
        have := HP.out
        rw [this, show many.toNat = k by omega]
      have hsplit : (many ≤ (k : Int)) ∨ ((k : Int) < many ∧ ¬ k ≤ 7) := by omega
      clear h1 HP
      rcases hsplit with h1 | ⟨h1, h2⟩
      case' inl =>
        have hx' : many ≤ (k : Int) := h1
        clear h1
      case' inr =>
        have hx' : 8 ≤ k := by omega
        clear h2
      all_goals
        go_wp2
        go_loopw [7] (fun i wr => Ext w wr ∧ ∃ k : Nat, k ≤ xs.length ∧ i = .int .i64 k ∧ Hid (∀ i x, i < k → xs[i]? = some x → inB x 0 (p - 1) = true)) (fun i _ => xs.length - (intOf i).toNat)
        case atStart => exact ⟨Ext.refl _, 0, Nat.zero_le _, rfl, fun i _ h => absurd h (Nat.not_lt_zero _)⟩
        case round =>
          clear hx' hkm hk
          obtain ⟨hb, k, hk, rfl, HG⟩ := hrel
          by_cases hlt : k < xs.length
          · obtain ⟨b, off, rfl, hbl, hc⟩ := h (by omega)
            obtain ⟨x, hx⟩ := at_some hlt
            have c0 : wr.cell? ⟨b, off + k, none⟩ = some (.int .i64 x) := hb.cell (hc k x hx)
            have Hx := Lib.hid hx
            clear h hc hx
            by_cases hg : inB x 0 (p - 1) = true
            · go_wp2_with fail
              refine (l1In_any _ _ _ _).mono ?_
              rintro e w' ⟨rfl, rfl⟩
              go_wp2
              go_roundw
              case rel => exact ⟨hb, k + 1, by omega, by go_num, fun i y hi hy => if e : i = k then by subst e; rw [Hx.out] at hy; cases hy; exact hg else HG.out i y (by omega) hy⟩
              case measure => simp [intOf]; omega
            · simp only [Bool.not_eq_true] at hg
              have hf := Lib.hid (setsB_bad Hx.out hpm.out hg)
              go_wp2_with fail
              refine (l1In_any _ _ _ _).mono ?_
              rintro e w' ⟨rfl, rfl⟩
              go_wp2
              go_returns
              exact ⟨ret_bool hf.out.symm, hb⟩
          · have hf := Lib.hid (setsB_end hpm.out (fun i x hi hx => HG.out i x (by omega) hx))
            by_cases hmm : inB many 1 7 = true
            · go_wp2_with fail
              refine (l1In_any _ _ _ _).mono ?_
              rintro e w' ⟨rfl, rfl⟩
              go_wp2
              go_returns
              exact ⟨ret_bool (by rw [hf.out, hmm]; simp; omega), hb⟩
            · simp only [Bool.not_eq_true] at hmm
              go_wp2_with fail
              refine (l1In_any _ _ _ _).mono ?_
              rintro e w' ⟨rfl, rfl⟩
              go_wp2
              go_returns
              exact ⟨ret_bool (by rw [hf.out, hmm]; simp), hb⟩
set_option maxHeartbeats 400000 in
theorem setsOk1_any {a : Addr} {many x : Int} (w : World) (hc : w.cell? a = some (.int .i64 many)) (h1 : 1 ≤ many) (h7 : many ≤ 7) :
    Calls Tryd.prog 80 #[.int .i64 x, .pointer (some a)] w fun e w' => e = .returned (.bool (!inB x 0 ((2 ^ many.toNat : Nat) - 1))) ∧ Ext w w' := by
  have hm : many = 1 ∨ many = 2 ∨ many = 3 ∨ many = 4 ∨ many = 5 ∨ many = 6 ∨ many = 7 := by omega
  rcases hm with rfl | rfl | rfl | rfl | rfl | rfl | rfl
  all_goals
    go_enter Tryd.func80, Tryd.ntmps80
    go_wp2_with ((go_at_call 42; refine (within_any _ _ _ _).mono ?_; rintro e w' ⟨rfl, rfl⟩))
    go_returns
    exact ⟨rfl, Ext.refl _⟩
set_option maxHeartbeats 400000 in
theorem setsOk_any {v : Value} {xs : List Int} (many : Int) (w : World) (h : Sl1 encI w v xs) (hlen : xs.length ≤ 2097152) :
    Calls Tryd.prog 50 #[.int .i64 many, v] w fun e w' => e = .returned (.bool (setsB many xs)) ∧ Ext w w' := by
  obtain ⟨A, c, rfl, h'⟩ := id h
  by_cases hm : inB many 1 7 = true
  · have hm' := inB_true.1 hm
    by_cases hl : xs.length ≤ 10
    · have hf : Hid (setsB many xs = !xs.any fun s => !inB s 0 ((2 ^ many.toNat : Nat) - 1)) := by
        show _ = _
        rw [setsB, hm, List.not_any_eq_all_not]
        simp [hl]
      have hbox := h.ext ((Ext.refl w).alloc (.cells #[.int .i64 many] 3))
      have H := Lib.hid h
      clear h h'
      go_enter Tryd.func50, Tryd.ntmps50
      go_wp2_with fail
      refine (within_any _ _ _ _).mono ?_
      rintro e w' ⟨rfl, rfl⟩
      go_wp2_with fail
      refine (containsFuncI_any _ 80 #[.pointer (some ⟨w.heap.size, 0, none⟩)] (fun s => !inB s 0 ((2 ^ many.toNat : Nat) - 1)) hbox hlen (fun _ _ => by kernel_rfl) (fun x _ W hW => setsOk1_any W (hW.cell (by go_cell)) hm'.1 hm'.2)).mono ?_
      rintro e w1 ⟨rfl, b1⟩
      go_wp2
      go_returns
      exact ⟨ret_bool hf.out.symm, ((Ext.refl _).alloc _).trans b1⟩
    · have hf : Hid (setsB many xs = false) := by show _ = _; simp [setsB, hl]
      have hl2 : 10 < xs.length := by omega
      clear hl
      go_enter Tryd.func50, Tryd.ntmps50
      go_wp2_with ((go_at_call 42; refine (within_any _ _ _ _).mono ?_; rintro e w' ⟨rfl, rfl⟩))
      go_returns
      exact ⟨ret_bool hf.out.symm, (Ext.refl _).alloc _⟩
  · simp only [Bool.not_eq_true] at hm
    have hf : Hid (setsB many xs = false) := by show _ = _; simp [setsB, hm]
    go_enter Tryd.func50, Tryd.ntmps50
    go_wp2_with ((go_at_call 42; refine (within_any _ _ _ _).mono ?_; rintro e w' ⟨rfl, rfl⟩))
    go_returns
    exact ⟨ret_bool hf.out.symm, (Ext.refl _).alloc _⟩
/-- Every set of the one list meets every set of the other. -/
def meetB (xs ys : List Int) : Bool := xs.all fun a => ys.all fun b => comB a b
theorem meetB_bad {xs ys : List Int} {i j : Nat} {x y : Int} (hx : xs[i]? = some x) (hy : ys[j]? = some y) (h : comB x y = false) : meetB xs ys = false := by
  unfold meetB
  rw [List.all_eq_false]
  refine ⟨x, List.mem_of_getElem? hx, ?_⟩
  rw [Bool.not_eq_true, List.all_eq_false]
  exact ⟨y, List.mem_of_getElem? hy, by rw [h]; simp⟩
theorem meetB_end {xs ys : List Int} (h : ∀ i x, i < xs.length → xs[i]? = some x → ∀ j y, j < ys.length → ys[j]? = some y → comB x y = true) : meetB xs ys = true := by
  unfold meetB
  rw [List.all_eq_true]
  intro x hx
  rw [List.all_eq_true]
  intro y hy
  obtain ⟨i, hi⟩ := List.getElem?_of_mem hx
  obtain ⟨j, hj⟩ := List.getElem?_of_mem hy
  exact h i x (List.getElem?_eq_some_iff.1 hi).1 hi j y (List.getElem?_eq_some_iff.1 hj).1 hj
/-- What QuorumsBetween answers. -/
def betweenB (many : Int) (xs ys : List Int) : Bool := setsB many xs && (setsB many ys && meetB xs ys)

set_option maxHeartbeats 1000000 in
theorem spec_QuorumsBetween {u v : Value} {xs ys : List Int} (many : Int) (w : World) (h : Sl1 encI w u xs) (h' : Sl1 encI w v ys) (hlen : xs.length ≤ 2097152) (hlen' : ys.length ≤ 2097152) (hm : many ≤ 9223372036854775807) (sx : Small xs) (sy : Small ys) :
    Calls Tryd.prog 20 #[.int .i64 many, u, v] w fun e w' => e = .returned (.bool (betweenB many xs ys)) ∧ Ext w w' := by
  have H := Lib.hid h
  have H' := Lib.hid h'
  have SX := Lib.hid sx
  have SY := Lib.hid sy
  clear sx sy
  obtain ⟨A, c, rfl, h⟩ := h
  obtain ⟨A', c', rfl, h'⟩ := h'
  go_enter Tryd.func20, Tryd.ntmps20
  go_wp2
  go_loopw [7] (fun i wr => Ext w wr ∧ ∃ k : Nat, k ≤ xs.length ∧ i = .int .i64 k ∧ Hid (∀ i x, i < k → xs[i]? = some x → ∀ j y, j < ys.length → ys[j]? = some y → comB x y = true)) (fun i _ => xs.length - (intOf i).toNat)
  case atStart => exact ⟨Ext.refl _, 0, Nat.zero_le _, rfl, fun i _ h => absurd h (Nat.not_lt_zero _)⟩
  case round =>
    obtain ⟨hb, k, hk, rfl, HG⟩ := hrel
    by_cases hlt : k < xs.length
    · obtain ⟨b, off, rfl, hbl, hc⟩ := h (by omega)
      obtain ⟨x, hx⟩ := at_some hlt
      have c0 := hb.cell (hc k x hx)
      have Hx := Lib.hid hx
      have hxs := SX.out x (List.mem_of_getElem? hx)
      clear h hc hx
      obtain ⟨wo, rfl⟩ : ∃ wo : World, wo = wr := ⟨_, rfl⟩
      go_wp2
      go_loopw [8] (fun i wr => Ext wo wr ∧ ∃ j : Nat, j ≤ ys.length ∧ i = .int .i64 j ∧ Hid (∀ i y, i < j → ys[i]? = some y → comB x y = true)) (fun i _ => ys.length - (intOf i).toNat)
      case atStart => exact ⟨Ext.refl _, 0, Nat.zero_le _, rfl, fun i _ h => absurd h (Nat.not_lt_zero _)⟩
      case round =>
        obtain ⟨hb2, j, hj, rfl, HJ⟩ := hrel
        by_cases hlt2 : j < ys.length
        · obtain ⟨b', off', rfl, hbl', hc'⟩ := h' (by omega)
          obtain ⟨y, hy⟩ := at_some hlt2
          have d0 : ∀ e, (over wr e).cell? ⟨b', off' + j, none⟩ = some (.int .i64 y) := over_cell (hb2.cell (hb.cell (hc' j y hy)))
          have e0 : ∀ e, (over wr e).cell? ⟨b, off + k, none⟩ = some (.int .i64 x) := over_cell (hb2.cell c0)
          have Hy := Lib.hid hy
          have hys := SY.out y (List.mem_of_getElem? hy)
          clear h' hc' hy c0
          go_wp2
          refine wp_region_over (by kernel_rfl) (by kernel_rfl) ?_
          by_cases hcm : comB x y = true
          · repeat (go_big_quiet_step ((go_at_call 51; exact quiet_same (l32Common_any _ _ _ hxs hys))))
            refine wpQuiet_nil ?_
            intro w1 hb1
            go_wp2
            go_roundw
            case rel => exact ⟨hb2.trans hb1, j + 1, by omega, by go_num, fun i z hi hz => if e : i = j then by subst e; rw [Hy.out] at hz; cases hz; exact hcm else HJ.out i z (by omega) hz⟩
            case measure => simp [intOf]; omega
          · simp only [Bool.not_eq_true] at hcm
            have hf : Hid (betweenB many xs ys = false) := by show _ = _; rw [betweenB, meetB_bad Hx.out Hy.out hcm]; simp
            repeat (go_big_quiet_step ((go_at_call 51; exact quiet_same (l32Common_any _ _ _ hxs hys))))
            refine wpQuiet_nil ?_
            intro w1 hb1
            go_wp2
            go_returns
            exact ⟨ret_bool hf.out.symm, (hb.trans hb2).trans hb1⟩
        · go_wp2
          go_roundw
          case rel => exact ⟨hb.trans hb2, k + 1, by omega, by go_num, fun i z hi hz => if e : i = k then (by subst e; rw [Hx.out] at hz; cases hz; exact fun l y hl hy => HJ.out l y (by omega) hy) else HG.out i z (by omega) hz⟩
          case measure => simp [intOf]; omega
    · have hf : Hid (betweenB many xs ys = (setsB many xs && setsB many ys)) := by show _ = _; rw [betweenB, meetB_end (fun i x hi hx => HG.out i x (by omega) hx)]; simp
      by_cases hv : setsB many xs = true
      · go_wp2_with fail
        refine (l32Valid_any many _ (H.out.ext hb) hlen hm).mono ?_
        rintro e w1 ⟨rfl, b1⟩
        go_wp2_with fail
        refine (l32Valid_any many _ (H'.out.ext (hb.trans b1)) hlen' hm).mono ?_
        rintro e w2 ⟨rfl, b2⟩
        go_wp2
        go_returns
        exact ⟨ret_bool (by rw [hf.out, hv]; simp), (hb.trans b1).trans b2⟩
      · simp only [Bool.not_eq_true] at hv
        go_wp2_with fail
        refine (l32Valid_any many _ (H.out.ext hb) hlen hm).mono ?_
        rintro e w1 ⟨rfl, b1⟩
        go_wp2
        go_returns
        exact ⟨ret_bool (by rw [hf.out, hv]; simp), hb.trans b1⟩
theorem setsB_mem {many : Int} {xs : List Int} (h : setsB many xs = true) : xs.length ≤ 10 ∧ ∀ x ∈ xs, 0 ≤ x ∧ x ≤ 127 := by
  unfold setsB at h
  rw [Bool.and_eq_true, Bool.and_eq_true, inB_true, decide_eq_true_eq, List.all_eq_true] at h
  obtain ⟨⟨h1, h2⟩, h3, h4⟩ := h
  refine ⟨h3, fun x hx => ?_⟩
  have h5 := inB_true.1 (h4 x hx)
  have h6 : 2 ^ many.toNat ≤ 2 ^ 7 := Nat.pow_le_pow_right (by omega) (by omega)
  omega
theorem bits_comB {x y : Int} (hx : 0 ≤ x ∧ x ≤ 127) (hy : 0 ≤ y ∧ y ≤ 127) : (bits .and .i64 x y == 0) = !comB x y := by
  obtain ⟨m, rfl⟩ := Int.eq_ofNat_of_zero_le hx.1
  obtain ⟨n, rfl⟩ := Int.eq_ofNat_of_zero_le hy.1
  have h1 : bits .and .i64 (m : Int) (n : Int) = ((m &&& n : Nat) : Int) := by
    have ha : (BitVec.ofInt 64 (m : Int)).toNat = m := by rw [BitVec.ofInt_natCast, BitVec.toNat_ofNat]; exact Nat.mod_eq_of_lt (by omega)
    have hb : (BitVec.ofInt 64 (n : Int)).toNat = n := by rw [BitVec.ofInt_natCast, BitVec.toNat_ofNat]; exact Nat.mod_eq_of_lt (by omega)
    have hx : m &&& n < 2 ^ 63 := Nat.and_lt_two_pow _ (by omega)
    show IntKind.i64.wrap ((BitVec.ofInt 64 (m : Int) &&& BitVec.ofInt 64 (n : Int)).toNat : Int) = _
    rw [BitVec.toNat_and, ha, hb, IntKind.wrap_i64]
    omega
  rw [h1]
  unfold comB
  by_cases h : m &&& n = 0
  · simp [h]
  · have h2 : 0 < m := Nat.pos_of_ne_zero (fun e => h (by rw [e]; simp))
    have h3 : 0 < n := Nat.pos_of_ne_zero (fun e => h (by rw [e]; simp))
    simp [h2, h3, h]
set_option maxHeartbeats 1000000 in
theorem impl_QuorumsBetween {u v : Value} {xs ys : List Int} (many : Int) (w : World) (h : Sl1 encI w u xs) (h' : Sl1 encI w v ys) (hlen : xs.length ≤ 2097152) (hlen' : ys.length ≤ 2097152) :
    Calls Tryd.prog 19 #[.int .i64 many, u, v] w fun e w' => e = .returned (.bool (betweenB many xs ys)) ∧ Ext w w' := by
  have H := Lib.hid h
  have H' := Lib.hid h'
  by_cases hv : setsB many xs = true
  · by_cases hv' : setsB many ys = true
    · have SX := Lib.hid (setsB_mem hv)
      have SY := Lib.hid (setsB_mem hv')
      obtain ⟨A, c, rfl, h⟩ := h
      obtain ⟨A', c', rfl, h'⟩ := h'
      go_enter Tryd.func19, Tryd.ntmps19
      go_wp2_with fail
      refine (setsOk_any many _ H.out hlen).mono ?_
      rintro e w1 ⟨rfl, b1⟩
      go_wp2_with fail
      refine (setsOk_any many _ (H'.out.ext b1) hlen').mono ?_
      rintro e w2 ⟨rfl, b2⟩
      have B2 := b1.trans b2
      clear b1 b2
      go_wp2
      go_loopw [23] (fun i wr => Ext w2 wr ∧ ∃ k : Nat, k ≤ xs.length ∧ i = .int .i64 k ∧ Hid (∀ i x, i < k → xs[i]? = some x → ∀ j y, j < ys.length → ys[j]? = some y → comB x y = true)) (fun i _ => xs.length - (intOf i).toNat)
      case atStart => exact ⟨Ext.refl _, 0, Nat.zero_le _, rfl, fun i _ h => absurd h (Nat.not_lt_zero _)⟩
      case round =>
        obtain ⟨hb, k, hk, rfl, HG⟩ := hrel
        by_cases hlt : k < xs.length
        · obtain ⟨b, off, rfl, hbl, hc⟩ := h (by omega)
          obtain ⟨x, hx⟩ := at_some hlt
          have c0 : wr.cell? ⟨b, off + k, none⟩ = some (.int .i64 x) := hb.cell (B2.cell (hc k x hx))
          have Hx := Lib.hid hx
          have hxs := SX.out.2 x (List.mem_of_getElem? hx)
          clear h hc hx
          obtain ⟨wo, rfl⟩ : ∃ wo : World, wo = wr := ⟨_, rfl⟩
          go_wp2
          go_loopw [29] (fun i wr => Ext wo wr ∧ ∃ j : Nat, j ≤ ys.length ∧ i = .int .i64 j ∧ Hid (∀ i y, i < j → ys[i]? = some y → comB x y = true)) (fun i _ => ys.length - (intOf i).toNat)
          case atStart => exact ⟨Ext.refl _, 0, Nat.zero_le _, rfl, fun i _ h => absurd h (Nat.not_lt_zero _)⟩
          case round =>
            obtain ⟨hb2, j, hj, rfl, HJ⟩ := hrel
            by_cases hlt2 : j < ys.length
            · obtain ⟨b', off', rfl, hbl', hc'⟩ := h' (by omega)
              obtain ⟨y, hy⟩ := at_some hlt2
              have d0 : wr.cell? ⟨b', off' + j, none⟩ = some (.int .i64 y) := hb2.cell (hb.cell (B2.cell (hc' j y hy)))
              have Hy := Lib.hid hy
              have hys := SY.out.2 y (List.mem_of_getElem? hy)
              have hbit := bits_comB hxs hys
              clear h' hc' hy c0
              by_cases hcm : comB x y = true
              · rw [hcm] at hbit
                go_wp2
                go_roundw
                case rel => exact ⟨hb2, j + 1, by omega, by go_num, fun i z hi hz => if e : i = j then by subst e; rw [Hy.out] at hz; cases hz; exact hcm else HJ.out i z (by omega) hz⟩
                case measure => simp [intOf]; omega
              · simp only [Bool.not_eq_true] at hcm
                rw [hcm] at hbit
                have hf : Hid (betweenB many xs ys = false) := by show _ = _; rw [betweenB, meetB_bad Hx.out Hy.out hcm]; simp
                go_wp2
                go_returns
                exact ⟨ret_bool hf.out.symm, (B2.trans hb).trans hb2⟩
            · go_wp2
              go_roundw
              case rel => exact ⟨hb.trans hb2, k + 1, by omega, by go_num, fun i z hi hz => if e : i = k then (by subst e; rw [Hx.out] at hz; cases hz; exact fun l y hl hy => HJ.out l y (by omega) hy) else HG.out i z (by omega) hz⟩
              case measure => simp [intOf]; omega
        · have hf : Hid (betweenB many xs ys = true) := by show _ = _; rw [betweenB, meetB_end (fun i x hi hx => HG.out i x (by omega) hx), hv, hv']; simp
          go_wp2
          go_returns
          exact ⟨ret_bool hf.out.symm, B2.trans hb⟩
    · simp only [Bool.not_eq_true] at hv'
      have hf : Hid (betweenB many xs ys = false) := by show _ = _; rw [betweenB, hv']; simp
      go_enter Tryd.func19, Tryd.ntmps19
      go_wp2_with fail
      refine (setsOk_any many _ H.out hlen).mono ?_
      rintro e w1 ⟨rfl, b1⟩
      go_wp2_with fail
      refine (setsOk_any many _ (H'.out.ext b1) hlen').mono ?_
      rintro e w2 ⟨rfl, b2⟩
      go_wp2
      go_returns
      exact ⟨ret_bool hf.out.symm, b1.trans b2⟩
  · simp only [Bool.not_eq_true] at hv
    have hf : Hid (betweenB many xs ys = false) := by show _ = _; rw [betweenB, hv]; simp
    go_enter Tryd.func19, Tryd.ntmps19
    go_wp2_with fail
    refine (setsOk_any many _ H.out hlen).mono ?_
    rintro e w1 ⟨rfl, b1⟩
    go_wp2
    go_returns
    exact ⟨ret_bool hf.out.symm, b1⟩
theorem betweenB_tri {many : Int} {xs : List Int} (h : ∀ i x, i < xs.length → xs[i]? = some x → ∀ j y, j ≤ i → xs[j]? = some y → comB x y = true) : betweenB many xs xs = setsB many xs := by
  rw [betweenB, meetB_end (fun i x hi hx j y hj hy => if e : j ≤ i then h i x hi hx j y e hy else by rw [comB_symm]; exact h j y hj hy i x (by omega) hx)]
  simp
set_option maxHeartbeats 1000000 in
theorem spec_QuorumsMeet {u : Value} {xs : List Int} (many : Int) (w : World) (h : Sl1 encI w u xs) (hlen : xs.length ≤ 2097152) (hm : many ≤ 9223372036854775807) (sx : Small xs) :
    Calls Tryd.prog 23 #[.int .i64 many, u] w fun e w' => e = .returned (.bool (betweenB many xs xs)) ∧ Ext w w' := by
  have H := Lib.hid h
  have SX := Lib.hid sx
  clear sx
  obtain ⟨A, c, rfl, h⟩ := h
  go_enter Tryd.func23, Tryd.ntmps23
  go_wp2
  go_loopw [5] (fun i wr => Ext w wr ∧ ∃ k : Nat, k ≤ xs.length ∧ i = .int .i64 k ∧ Hid (∀ i x, i < k → xs[i]? = some x → ∀ j y, j ≤ i → xs[j]? = some y → comB x y = true)) (fun i _ => xs.length - (intOf i).toNat)
  case atStart => exact ⟨Ext.refl _, 0, Nat.zero_le _, rfl, fun i _ h => absurd h (Nat.not_lt_zero _)⟩
  case round =>
    obtain ⟨hb, k, hk, rfl, HG⟩ := hrel
    by_cases hlt : k < xs.length
    · obtain ⟨b, off, rfl, hbl, hc⟩ := h (by omega)
      obtain ⟨x, hx⟩ := at_some hlt
      have c0 := hb.cell (hc k x hx)
      have Hx := Lib.hid hx
      have Hc := Lib.hid hc
      have hxs := SX.out x (List.mem_of_getElem? hx)
      clear h hc hx
      obtain ⟨wo, rfl⟩ : ∃ wo : World, wo = wr := ⟨_, rfl⟩
      go_wp2
      go_loopw [6] (fun i wr => Ext wo wr ∧ ∃ j : Nat, j ≤ k + 1 ∧ i = .int .i64 j ∧ Hid (∀ i y, i < j → xs[i]? = some y → comB x y = true)) (fun i _ => k + 1 - (intOf i).toNat)
      case atStart => exact ⟨Ext.refl _, 0, Nat.zero_le _, rfl, fun i _ h => absurd h (Nat.not_lt_zero _)⟩
      case round =>
        obtain ⟨hb2, j, hj, rfl, HJ⟩ := hrel
        by_cases hlt2 : j ≤ k
        · obtain ⟨y, hy⟩ := at_some (show j < xs.length by omega)
          have d0 : ∀ e, (over wr e).cell? ⟨b, off + j, none⟩ = some (.int .i64 y) := over_cell (hb2.cell (hb.cell (Hc.out j y hy)))
          have e0 : ∀ e, (over wr e).cell? ⟨b, off + k, none⟩ = some (.int .i64 x) := over_cell (hb2.cell c0)
          have hjl : j < xs.length := by omega
          have Hy := Lib.hid hy
          have hys := SX.out y (List.mem_of_getElem? hy)
          clear hy c0
          go_wp2
          refine wp_region_over (by kernel_rfl) (by kernel_rfl) ?_
          by_cases hcm : comB x y = true
          · repeat (go_big_quiet_step ((go_at_call 51; exact quiet_same (l32Common_any _ _ _ hxs hys))))
            refine wpQuiet_nil ?_
            intro w1 hb1
            go_wp2
            go_roundw
            case rel => exact ⟨hb2.trans hb1, j + 1, by omega, by go_num, fun i z hi hz => if e : i = j then by subst e; rw [Hy.out] at hz; cases hz; exact hcm else HJ.out i z (by omega) hz⟩
            case measure => simp [intOf]; omega
          · simp only [Bool.not_eq_true] at hcm
            have hf : Hid (betweenB many xs xs = false) := by show _ = _; rw [betweenB, meetB_bad Hx.out Hy.out hcm]; simp
            repeat (go_big_quiet_step ((go_at_call 51; exact quiet_same (l32Common_any _ _ _ hxs hys))))
            refine wpQuiet_nil ?_
            intro w1 hb1
            go_wp2
            go_returns
            exact ⟨ret_bool hf.out.symm, (hb.trans hb2).trans hb1⟩
        · go_wp2
          go_roundw
          case rel => exact ⟨hb.trans hb2, k + 1, by omega, by go_num, fun i z hi hz => if e : i = k then (by subst e; rw [Hx.out] at hz; cases hz; exact fun l y hl hy => HJ.out l y (by omega) hy) else HG.out i z (by omega) hz⟩
          case measure => simp [intOf]; omega
    · have hf : Hid (betweenB many xs xs = setsB many xs) := betweenB_tri (fun i x hi hx => HG.out i x (by omega) hx)
      go_wp2_with fail
      refine (l32Valid_any many _ (H.out.ext hb) hlen hm).mono ?_
      rintro e w1 ⟨rfl, b1⟩
      go_wp2
      go_returns
      exact ⟨ret_bool hf.out.symm, hb.trans b1⟩
theorem impl_QuorumsMeet {u : Value} {xs : List Int} (many : Int) (w : World) (h : Sl1 encI w u xs) (hlen : xs.length ≤ 2097152) :
    Calls Tryd.prog 21 #[.int .i64 many, u] w fun e w' => e = .returned (.bool (betweenB many xs xs)) ∧ Ext w w' := by
  go_enter Tryd.func21, Tryd.ntmps21
  go_wp2_with fail
  refine (impl_QuorumsBetween many _ h h hlen hlen).mono ?_
  rintro e w1 ⟨rfl, b1⟩
  go_wp2
  go_returns
  exact ⟨rfl, b1⟩
end Go.Proofs.YtpkjgeidndbbbaaDoor
