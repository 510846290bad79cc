/- Records for redoing: which are valid, which transactions are done. -/
import Derived.Test.YtiggckhlbklngaaDoorLeaf
import Derived.Test.YtiggckhlbklngaaDoorTypes
import Derived.Test.YtiggckhlbklngaaDoorRedo64
namespace Go.Proofs.YtiggckhlbklngaaDoor
open Go.RowKit

def redoAgree (xs : List Redo) (x : Redo) (j : Nat) : Bool :=
  match xs[j]? with
  | some y => !(y.who == x.who && y.key == -1)
  | none => true
def goodRedo (xs : List Redo) (k : Nat) : Bool :=
  match xs[k]? with
  | some x => inB x.who 0 5 && (inB x.key (-1) 2 && (inB x.value 0 99 && (!(x.key == -1 && x.value != 0) && (List.range k).all (redoAgree xs x))))
  | none => true
/-- What RedoValid answers. -/
def redoOk (xs : List Redo) : Bool := allGood xs (goodRedo xs) 30
theorem goodRedo_b {xs : List Redo} {k : Nat} {x : Redo} (hx : xs[k]? = some x) (h : inB x.who 0 5 = false) : goodRedo xs k = false := by simp [goodRedo, hx, h]
theorem goodRedo_k {xs : List Redo} {k : Nat} {x : Redo} (hx : xs[k]? = some x) (h : inB x.key (-1) 2 = false) : goodRedo xs k = false := by simp [goodRedo, hx, h]
theorem goodRedo_v {xs : List Redo} {k : Nat} {x : Redo} (hx : xs[k]? = some x) (h : inB x.value 0 99 = false) : goodRedo xs k = false := by simp [goodRedo, hx, h]
theorem goodRedo_0 {xs : List Redo} {k : Nat} {x : Redo} (hx : xs[k]? = some x) (h : x.key = -1) (h' : x.value ≠ 0) : goodRedo xs k = false := by simp [goodRedo, hx, h, h']
theorem goodRedo_j {xs : List Redo} {k j : Nat} {x y : Redo} (hx : xs[k]? = some x) (hy : xs[j]? = some y) (hj : j < k) (h : y.who = x.who) (h' : y.key = -1) : goodRedo xs k = false := by
  simp only [goodRedo, hx]
  rw [show (List.range k).all (redoAgree xs x) = false from by
    rw [List.all_eq_false]; exact ⟨j, by simp [hj], by simp [redoAgree, hy, h, h']⟩]
  simp
theorem goodRedo_yes {xs : List Redo} {k : Nat} {x : Redo} (hx : xs[k]? = some x) (h1 : inB x.who 0 5 = true) (h2 : inB x.key (-1) 2 = true) (h2' : inB x.value 0 99 = true) (h3 : x.key = -1 → x.value = 0)
    (h4 : ∀ j y, j < k → xs[j]? = some y → y.who = x.who → y.key ≠ -1) : goodRedo xs k = true := by
  simp only [goodRedo, hx, h1, h2, h2']
  rw [show (List.range k).all (redoAgree xs x) = true from by
    rw [List.all_eq_true]
    intro j hj
    simp at hj
    unfold redoAgree
    cases hy : xs[j]? with
    | none => rfl
    | some y =>
      have := h4 j y hj hy
      by_cases e : y.who = x.who <;> simp [e, this]]
  by_cases e : x.key = -1 <;> simp [e, h3]
theorem goodRedo_who {xs : List Redo} {k : Nat} {x : Redo} (hx : xs[k]? = some x) (h : goodRedo xs k = true) : (0 ≤ x.who ∧ x.who ≤ 5) ∧ (-1 ≤ x.key ∧ x.key ≤ 2) ∧ (0 ≤ x.value ∧ x.value ≤ 99) := by
  simp only [goodRedo, hx, Bool.and_eq_true, inB_true] at h
  exact ⟨h.1, h.2.1, h.2.2.1⟩

/-- The bits of the transactions that are done behind k records. -/
def setTo (xs : List Redo) : Nat → Nat
  | 0 => 0
  | k + 1 => match xs[k]? with
    | some x => if x.key < 0 then setTo xs k ||| 2 ^ x.who.toNat else setTo xs k
    | none => setTo xs k
theorem setTo_bit {xs : List Redo} {k i : Nat} : (setTo xs k).testBit i = true ↔ ∃ j y, j < k ∧ xs[j]? = some y ∧ y.key < 0 ∧ y.who.toNat = i := by
  induction k with
  | zero => simp [setTo]
  | succ k ih =>
    rw [setTo]
    cases hx : xs[k]? with
    | none =>
      simp only
      rw [ih]
      constructor
      · rintro ⟨j, y, hj, h⟩; exact ⟨j, y, by omega, h⟩
      · rintro ⟨j, y, hj, hy, h⟩
        rcases Nat.lt_or_ge j k with h' | h'
        · exact ⟨j, y, h', hy, h⟩
        · obtain rfl : j = k := by omega
          rw [hx] at hy; cases hy
    | some x =>
      simp only
      by_cases hk : x.key < 0
      · rw [if_pos hk, Nat.testBit_or, Bool.or_eq_true, ih, Nat.testBit_two_pow]
        constructor
        · rintro (⟨j, y, hj, h⟩ | h)
          · exact ⟨j, y, by omega, h⟩
          · exact ⟨k, x, by omega, hx, hk, by simpa using h⟩
        · rintro ⟨j, y, hj, hy, h1, h2⟩
          rcases Nat.lt_or_ge j k with h' | h'
          · exact .inl ⟨j, y, h', hy, h1, h2⟩
          · obtain rfl : j = k := by omega
            rw [hx] at hy; cases hy
            exact .inr (by simpa using h2)
      · rw [if_neg hk, ih]
        constructor
        · rintro ⟨j, y, hj, h⟩; exact ⟨j, y, by omega, h⟩
        · rintro ⟨j, y, hj, hy, h1, h2⟩
          rcases Nat.lt_or_ge j k with h' | h'
          · exact ⟨j, y, h', hy, h1, h2⟩
          · obtain rfl : j = k := by omega
            rw [hx] at hy; cases hy
            exact absurd h1 hk
theorem setTo_lt {xs : List Redo} {k : Nat} (h : ∀ i, i < k → goodRedo xs i = true) : setTo xs k < 64 := by
  induction k with
  | zero => simp [setTo]
  | succ k ih =>
    have ih := ih (fun i hi => h i (by omega))
    rw [setTo]
    cases hx : xs[k]? with
    | none => exact ih
    | some x =>
      simp only
      split
      · have hw := (goodRedo_who hx (h k (by omega))).1
        have : 2 ^ x.who.toNat < 2 ^ 6 := Nat.pow_lt_pow_right (by omega) (by omega)
        exact Nat.or_lt_two_pow (n := 6) ih this
      · exact ih
/-- What finished returns beside the answer. -/
def finSet (xs : List Redo) : Nat := if (List.range xs.length).all (goodRedo xs) then setTo xs xs.length else 0
theorem finSet_bad {xs : List Redo} {k : Nat} (hk : k < xs.length) (h : goodRedo xs k = false) : finSet xs = 0 ∧ redoOk xs = false := by
  refine ⟨?_, allGood_bad hk h⟩
  rw [finSet, if_neg]
  rw [List.all_eq_true]
  intro h'
  have := h' k (by simp [hk])
  rw [h] at this
  cases this
theorem finSet_end {xs : List Redo} (h : ∀ i, i < xs.length → goodRedo xs i = true) : finSet xs = setTo xs xs.length ∧ redoOk xs = decide (xs.length ≤ 30) := by
  refine ⟨?_, allGood_end h⟩
  rw [finSet, if_pos]
  rw [List.all_eq_true]
  intro i hi
  exact h i (by simpa using hi)
theorem ret_two {a b : Int} {c d : Bool} (h : a = b) (h' : c = d) : Ending.returned (.tuple #[.int .u64 a, .bool c]) = .returned (.tuple #[.int .u64 b, .bool d]) := by rw [h, h']

set_option maxHeartbeats 2000000 in
theorem finished_any {v : Value} {xs : List Redo} (w : World) (h : SlOf 3 encRedo w v xs) (hlen : xs.length ≤ 2097152) :
    Calls Tryd.prog 42 #[v] w fun e w' => e = .returned (.tuple #[.int .u64 (finSet xs : Int), .bool (redoOk xs)]) ∧ Ext w w' := by
  obtain ⟨A, c, rfl, h⟩ := h
  go_enter Tryd.func42, Tryd.ntmps42
  go_wp2
  go_loopw [4, 9] (fun s i wr => Ext w wr ∧ ∃ k n : Nat, k ≤ xs.length ∧ i = .int .i64 k ∧ s = .int .u64 n ∧ n < 64 ∧ Hid (n = setTo xs k) ∧ Hid (∀ i, i < k → goodRedo xs i = true)) (fun _ i _ => xs.length - (intOf i).toNat)
  case atStart => exact ⟨Ext.refl _, 0, 0, Nat.zero_le _, rfl, rfl, by omega, rfl, fun _ h => absurd h (Nat.not_lt_zero _)⟩
  case round =>
    obtain ⟨hb, k, n, hk, rfl, rfl, hn, HN, HG⟩ := hrel
    by_cases hlt : k < xs.length
    · obtain ⟨b, off, rfl, hbl, hc⟩ := h (by omega)
      obtain ⟨x, hx⟩ := at_some hlt
      have c0 : wr.cell? ⟨b, off + k * 3, none⟩ = some (.int .i64 x.who) := hb.cell (hc k x hx 0 (by omega))
      have c1 : wr.cell? ⟨b, off + k * 3 + 1, none⟩ = some (.int .i64 x.key) := hb.cell (hc k x hx 1 (by omega))
      have c2 : wr.cell? ⟨b, off + k * 3 + 2, none⟩ = some (.int .i64 x.value) := hb.cell (hc k x hx 2 (by omega))
      have Hx := Lib.hid hx
      clear h hc hx
      by_cases hB : inB x.who 0 5 = true
      case neg =>
        simp only [Bool.not_eq_true] at hB
        have hf := Lib.hid (finSet_bad hlt (goodRedo_b Hx.out hB))
        go_wp2_with ((first | (go_at_call 35; refine (within_any _ _ _ _).mono ?_; rintro e w' ⟨rfl, rfl⟩) | (go_at_call 45; refine (valueOk_any _ _).mono ?_; rintro e w' ⟨rfl, rfl⟩)))
        go_returns
        exact ⟨ret_two (by rw [hf.out.1]; rfl) hf.out.2.symm, hb.alloc _⟩
      by_cases hK : inB x.key (-1) 2 = true
      case neg =>
        simp only [Bool.not_eq_true] at hK
        have hf := Lib.hid (finSet_bad hlt (goodRedo_k Hx.out hK))
        go_wp2_with ((first | (go_at_call 35; refine (within_any _ _ _ _).mono ?_; rintro e w' ⟨rfl, rfl⟩) | (go_at_call 45; refine (valueOk_any _ _).mono ?_; rintro e w' ⟨rfl, rfl⟩)))
        go_returns
        exact ⟨ret_two (by rw [hf.out.1]; rfl) hf.out.2.symm, hb.alloc _⟩
      by_cases hV : inB x.value 0 99 = true
      case neg =>
        simp only [Bool.not_eq_true] at hV
        have hf := Lib.hid (finSet_bad hlt (goodRedo_v Hx.out hV))
        go_wp2_with ((first | (go_at_call 35; refine (within_any _ _ _ _).mono ?_; rintro e w' ⟨rfl, rfl⟩) | (go_at_call 45; refine (valueOk_any _ _).mono ?_; rintro e w' ⟨rfl, rfl⟩)))
        go_returns
        exact ⟨ret_two (by rw [hf.out.1]; rfl) hf.out.2.symm, hb.alloc _⟩
      have hwho := inB_true.1 hB
      have hkey := inB_true.1 hK
      have hbit := u64_bit n x.who.toNat (by omega)
      by_cases hT : n.testBit x.who.toNat = true
      · rw [if_pos hT] at hbit
        have hf := Lib.hid (finSet_bad hlt (by
          rw [HN.out, setTo_bit] at hT
          obtain ⟨j, y, hj, hy, h1, h2⟩ := hT
          have hy' := goodRedo_who hy (HG.out j hj)
          exact goodRedo_j Hx.out hy hj (by omega) (by omega)))
        clear hT
        go_wp2_with ((first | (go_at_call 35; refine (within_any _ _ _ _).mono ?_; rintro e w' ⟨rfl, rfl⟩) | (go_at_call 45; refine (valueOk_any _ _).mono ?_; rintro e w' ⟨rfl, rfl⟩)))
        go_returns
        exact ⟨ret_two (by rw [hf.out.1]; rfl) hf.out.2.symm, hb.alloc _⟩
      rw [if_neg hT] at hbit
      have hno : Hid (∀ j y, j < k → xs[j]? = some y → y.who = x.who → y.key ≠ -1) := fun j y hj hy e1 e2 => hT (by
        rw [HN.out, setTo_bit]; exact ⟨j, y, hj, hy, by omega, by rw [e1]⟩)
      clear hT
      by_cases hneg : x.key < 0
      · by_cases hv0 : x.value = 0
        · have hr := Lib.hid (goodRedo_yes Hx.out hB hK hV (fun _ => hv0) hno.out)
          have hor := u64_set n x.who.toNat (by omega) (by omega)
          have hne : (x.value != 0) = false := by simp [hv0]
          have hs : Hid (n ||| 2 ^ x.who.toNat = setTo xs (k + 1)) := by show _ = _; rw [setTo, Hx.out, HN.out]; simp only; rw [if_pos hneg]
          have hlt2 : Hid (n ||| 2 ^ x.who.toNat < 64) := by
            have : 2 ^ x.who.toNat < 2 ^ 6 := Nat.pow_lt_pow_right (by omega) (by omega)
            exact Nat.or_lt_two_pow (n := 6) hn this
          clear hv0
          go_wp2_with ((first | (go_at_call 35; refine (within_any _ _ _ _).mono ?_; rintro e w' ⟨rfl, rfl⟩) | (go_at_call 45; refine (valueOk_any _ _).mono ?_; rintro e w' ⟨rfl, rfl⟩)))
          go_roundw
          case rel => exact ⟨hb.alloc _, k + 1, n ||| 2 ^ x.who.toNat, by omega, by go_num, rfl, hlt2.out, hs, fun i hi => if e : i = k then e ▸ hr.out else HG.out i (by omega)⟩
          case measure => simp [intOf]; omega
        · have hf := Lib.hid (finSet_bad hlt (goodRedo_0 Hx.out (by omega) hv0))
          have hne : (x.value != 0) = true := by simp [hv0]
          clear hv0
          go_wp2_with ((first | (go_at_call 35; refine (within_any _ _ _ _).mono ?_; rintro e w' ⟨rfl, rfl⟩) | (go_at_call 45; refine (valueOk_any _ _).mono ?_; rintro e w' ⟨rfl, rfl⟩)))
          go_returns
          exact ⟨ret_two (by rw [hf.out.1]; rfl) hf.out.2.symm, hb.alloc _⟩
      · have hr := Lib.hid (goodRedo_yes Hx.out hB hK hV (fun h => by omega) hno.out)
        have hs : Hid (n = setTo xs (k + 1)) := by show _ = _; rw [setTo, Hx.out, HN.out]; simp only; rw [if_neg hneg]
        have hneg' : 0 ≤ x.key := by omega
        clear hneg
        go_wp2_with ((first | (go_at_call 35; refine (within_any _ _ _ _).mono ?_; rintro e w' ⟨rfl, rfl⟩) | (go_at_call 45; refine (valueOk_any _ _).mono ?_; rintro e w' ⟨rfl, rfl⟩)))
        go_roundw
        case rel => exact ⟨hb.alloc _, k + 1, n, by omega, by go_num, rfl, hn, hs, fun i hi => if e : i = k then e ▸ hr.out else HG.out i (by omega)⟩
        case measure => simp [intOf]; omega
    · obtain rfl : k = xs.length := by omega
      have hf := Lib.hid (finSet_end HG.out)
      go_wp2
      go_returns
      exact ⟨ret_two (by rw [hf.out.1, HN.out]) (by rw [hf.out.2]; simp; try omega), hb⟩
set_option maxHeartbeats 400000 in
theorem impl_RedoValid {v : Value} {xs : List Redo} (w : World) (h : SlOf 3 encRedo w v xs) (hlen : xs.length ≤ 2097152) :
    Calls Tryd.prog 20 #[v] w fun e w' => e = .returned (.bool (redoOk xs)) ∧ Ext w w' := by
  go_enter Tryd.func20, Tryd.ntmps20
  go_wp2_with fail
  refine (finished_any _ h hlen).mono ?_
  rintro e w1 ⟨rfl, b1⟩
  go_wp2
  go_returns
  exact ⟨rfl, b1⟩
set_option maxHeartbeats 2000000 in
theorem spec_RedoValid {v : Value} {xs : List Redo} (w : World) (h : SlOf 3 encRedo w v xs) (hlen : xs.length ≤ 2097152) :
    Calls Tryd.prog 48 #[v] w fun e w' => e = .returned (.bool (redoOk xs)) ∧ Ext w w' := by
  obtain ⟨A, c, rfl, h⟩ := h
  go_enter Tryd.func48, Tryd.ntmps48
  go_wp2
  go_loopw [3] (fun i wr => Ext w wr ∧ ∃ k : Nat, k ≤ xs.length ∧ i = .int .i64 k ∧ Hid (∀ i, i < k → goodRedo xs i = true)) (fun i _ => xs.length - (intOf i).toNat)
  case atStart => exact ⟨Ext.refl _, 0, Nat.zero_le _, rfl, fun _ h => absurd h (Nat.not_lt_zero _)⟩
  case round =>
    obtain ⟨hb, k, hk, rfl, HG⟩ := hrel
    by_cases hlt : k < xs.length
    · obtain ⟨b, off, rfl, hbl, hc⟩ := h (by omega)
      obtain ⟨x, hx⟩ := at_some hlt
      have c0 : wr.cell? ⟨b, off + k * 3, none⟩ = some (.int .i64 x.who) := hb.cell (hc k x hx 0 (by omega))
      have c1 : wr.cell? ⟨b, off + k * 3 + 1, none⟩ = some (.int .i64 x.key) := hb.cell (hc k x hx 1 (by omega))
      have c2 : wr.cell? ⟨b, off + k * 3 + 2, none⟩ = some (.int .i64 x.value) := hb.cell (hc k x hx 2 (by omega))
      have Hc := Lib.hid hc
      have Hx := Lib.hid hx
      clear h hc hx
      by_cases hB : inB x.who 0 5 = true
      case neg =>
        simp only [Bool.not_eq_true] at hB
        have hf := Lib.hid (finSet_bad hlt (goodRedo_b Hx.out hB)).2
        go_wp2_with ((go_at_call 38; refine (l1In_any _ _ _ _).mono ?_; rintro e w' ⟨rfl, rfl⟩))
        go_returns
        exact ⟨ret_bool hf.out.symm, hb⟩
      by_cases hK : inB x.key (-1) 2 = true
      case neg =>
        simp only [Bool.not_eq_true] at hK
        have hf := Lib.hid (finSet_bad hlt (goodRedo_k Hx.out hK)).2
        go_wp2_with ((go_at_call 38; refine (l1In_any _ _ _ _).mono ?_; rintro e w' ⟨rfl, rfl⟩))
        go_returns
        exact ⟨ret_bool hf.out.symm, hb⟩
      by_cases hV : inB x.value 0 99 = true
      case neg =>
        simp only [Bool.not_eq_true] at hV
        have hf := Lib.hid (finSet_bad hlt (goodRedo_v Hx.out hV)).2
        go_wp2_with ((go_at_call 38; refine (l1In_any _ _ _ _).mono ?_; rintro e w' ⟨rfl, rfl⟩))
        go_returns
        exact ⟨ret_bool hf.out.symm, hb⟩
      have hz : (x.key = -1 ∧ x.value ≠ 0) ∨ (x.key = -1 ∧ x.value = 0) ∨ x.key ≠ -1 := by omega
      rcases hz with ⟨h1, h2⟩ | hz
      · have hf := Lib.hid (finSet_bad hlt (goodRedo_0 Hx.out h1 h2)).2
        have h1' : (x.key == -1) = true := by simp [h1]
        have h2' : (x.value != 0) = true := by simp [h2]
        clear h1 h2
        go_wp2_with ((go_at_call 38; refine (l1In_any _ _ _ _).mono ?_; rintro e w' ⟨rfl, rfl⟩))
        go_returns
        exact ⟨ret_bool hf.out.symm, hb⟩
      have h3 : Hid (x.key = -1 → x.value = 0) := fun h => by omega
      rcases hz with ⟨h1, h2⟩ | h1
      case' inl =>
        have h1' : (x.key == -1) = true := by simp [h1]
        have h2' : (x.value != 0) = false := by simp [h2]
        clear h1 h2
      case' inr =>
        have h1' : (x.key == -1) = false := by simp [h1]
        clear h1
      all_goals
        obtain ⟨wo, rfl⟩ : ∃ wo : World, wo = wr := ⟨_, rfl⟩
        go_wp2_with ((go_at_call 38; refine (l1In_any _ _ _ _).mono ?_; rintro e w' ⟨rfl, rfl⟩))
        go_loopw [4] (fun i wq => Ext wo wq ∧ ∃ j : Nat, j ≤ k ∧ i = .int .i64 j ∧ Hid (∀ i y, i < j → xs[i]? = some y → y.who = x.who → y.key ≠ -1)) (fun i _ => k - (intOf i).toNat)
        case atStart => exact ⟨Ext.refl _, 0, Nat.zero_le _, rfl, fun _ _ h => absurd h (Nat.not_lt_zero _)⟩
        case round =>
          obtain ⟨hb2, j, hj, rfl, HJ⟩ := hrel
          clear c1 c2
          by_cases hjk : j < k
          · obtain ⟨y, hy⟩ := at_some (show j < xs.length by omega)
            have d0 : ∀ e, (over wr e).cell? ⟨b, off + j * 3, none⟩ = some (.int .i64 y.who) := over_cell (hb2.cell (hb.cell (Hc.out j y hy 0 (by omega))))
            have d1 : ∀ e, (over wr e).cell? ⟨b, off + j * 3 + 1, none⟩ = some (.int .i64 y.key) := over_cell (hb2.cell (hb.cell (Hc.out j y hy 1 (by omega))))
            have f0 := over_cell (hb2.cell c0)
            have hjl : j < xs.length := by omega
            have Hy := Lib.hid hy
            clear hy c0
            go_wp2
            refine wp_region_over (by kernel_rfl) (by kernel_rfl) ?_
            by_cases hyb : y.who = x.who
            · by_cases hyv : y.key = -1
              · have hf := Lib.hid (finSet_bad hlt (goodRedo_j Hx.out Hy.out hjk hyb hyv)).2
                have g0 : (y.who == x.who) = true := by simp [hyb]
                have g1 : (y.key == -1) = true := by simp [hyv]
                clear hyb hyv
                repeat (go_big_quiet_step ((fail)))
                refine wpQuiet_nil ?_
                intro w1 hb1
                go_wp2
                go_returns
                exact ⟨ret_bool hf.out.symm, (hb.trans hb2).trans hb1⟩
              · have g0 : (y.who == x.who) = true := by simp [hyb]
                have g1 : (y.key == -1) = false := by simp [hyv]
                have Hyv := Lib.hid hyv
                clear hyb hyv
                repeat (go_big_quiet_step ((fail)))
                refine wpQuiet_nil ?_
                intro w1 hb1
                go_wp2
                go_roundw
                case rel => exact ⟨hb2.trans hb1, j + 1, by omega, by go_num, fun i z hi hz => if e : i = j then (by subst e; rw [Hy.out] at hz; cases hz; exact fun _ => Hyv.out) else HJ.out i z (by omega) hz⟩
                case measure => simp [intOf]; omega
            · have g0 : (y.who == x.who) = false := by simp [hyb]
              have Hyb := Lib.hid hyb
              clear hyb
              repeat (go_big_quiet_step ((fail)))
              refine wpQuiet_nil ?_
              intro w1 hb1
              go_wp2
              go_roundw
              case rel => exact ⟨hb2.trans hb1, j + 1, by omega, by go_num, fun i z hi hz => if e : i = j then (by subst e; rw [Hy.out] at hz; cases hz; exact fun h => absurd h Hyb.out) else HJ.out i z (by omega) hz⟩
              case measure => simp [intOf]; omega
          · have hgk : Hid (goodRedo xs k = true) := goodRedo_yes Hx.out hB hK hV h3.out (fun i y hi hy => HJ.out i y (by omega) hy)
            clear c0
            go_wp2
            go_roundw
            case rel => exact ⟨hb.trans hb2, k + 1, by omega, by go_num, fun i hi => if e : i = k then e ▸ hgk.out else HG.out i (by omega)⟩
            case measure => simp [intOf]; omega
    · have hf := Lib.hid (finSet_end (fun i hi => HG.out i (by omega))).2
      go_wp2
      go_returns
      exact ⟨ret_bool (by rw [hf.out]; simp; try omega), hb⟩
end Go.Proofs.YtiggckhlbklngaaDoor
