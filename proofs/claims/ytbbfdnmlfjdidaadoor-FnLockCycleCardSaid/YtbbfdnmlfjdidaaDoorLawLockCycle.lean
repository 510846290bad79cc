/- The walk of laws.FnLockCycle: it answers true. -/
import Derived.Test.YtbbfdnmlfjdidaaDoorCycleI
import Derived.Test.YtbbfdnmlfjdidaaDoorLawLockWaits
namespace Go.Proofs.YtbbfdnmlfjdidaaDoor
open Go.RowKit
set_option maxRecDepth 8000

theorem count_two {α : Type} {p : α → Bool} {xs : List α} {i j : Nat} {a b : α} (hi : xs[i]? = some a) (hj : xs[j]? = some b) (hij : i < j) (ha : p a = true) (hb : p b = true) : 2 ≤ (xs.filter p).length := by
  have h1 : 0 < ((xs.take j).filter p).length := List.length_pos_of_mem (a := a) (List.mem_filter.2 ⟨List.mem_of_getElem? (i := i) (by rw [List.getElem?_take, if_pos hij]; exact hi), ha⟩)
  have h2 : 0 < ((xs.drop j).filter p).length := List.length_pos_of_mem (a := b) (List.mem_filter.2 ⟨List.mem_of_getElem? (i := 0) (by rw [List.getElem?_drop]; exact hj), hb⟩)
  have h3 : xs.filter p = (xs.take j).filter p ++ (xs.drop j).filter p := by rw [← List.filter_append, List.take_append_drop]
  rw [h3, List.length_append]
  omega
theorem filter_next {α : Type} {p : α → Bool} {xs : List α} {k : Nat} {a : α} (hk : xs[k]? = some a) : ((xs.take (k + 1)).filter p).length = ((xs.take k).filter p).length + (if p a = true then 1 else 0) := by
  rw [List.take_add_one, hk, List.filter_append, List.length_append]
  congr 1
  cases h : p a <;> simp [h]
theorem Wof_self {xs : List Hold} (h : holdsOk xs = true) (o : Nat) : (Wof xs o).testBit o = false := by
  unfold Wof
  split
  · exact waitsTo_self h _ _
  · simp
theorem path_out {W : Nat → Nat} {a b : Nat} (h : Path W a b) : ∃ c, (W a).testBit c = true := by
  induction h with
  | edge e => exact ⟨_, e⟩
  | step _ _ ih => exact ih
theorem Wof_five {xs : List Hold} {o c : Nat} (h : (Wof xs o).testBit c = true) : o < 5 := by
  unfold Wof at h
  split at h
  · assumption
  · simp at h
theorem members_some {n c : Nat} (hn : n < 2 ^ 5) (h : n.testBit c = true) : 0 < (membersL n).length := by
  have hc : c < 5 := by
    rcases Nat.lt_or_ge c 5 with h' | h'
    · exact h'
    · rw [Nat.testBit_lt_two_pow (Nat.lt_of_lt_of_le hn (Nat.pow_le_pow_right (by omega) h'))] at h; cases h
  exact List.length_pos_of_mem (mem_membersL.2 ⟨c, by omega, h, rfl⟩)
/-- Round a cycle two owners wait. -/
theorem cycle_two {xs : List Hold} (h : cycleB xs = true) : 2 ≤ ((waitsLL xs).filter fun L => decide (0 < L.length)).length := by
  unfold cycleB at h
  rw [Bool.and_eq_true] at h
  obtain ⟨hv, h⟩ := h
  obtain ⟨o, ho, hc⟩ := List.any_eq_true.1 h
  have hb : ∀ x y, (Wof xs x).testBit y = true → y < 5 := fun x y h => by
    rcases Nat.lt_or_ge y 5 with h' | h'
    · exact h'
    · rw [Nat.testBit_lt_two_pow (Nat.lt_of_lt_of_le (Wof_lt hv x) (Nat.pow_le_pow_right (by omega) h'))] at h; cases h
  have hp := (close_path (Wof_lt hv) hb).1 hc
  have key : ∃ z, z ≠ o ∧ ∃ c, (Wof xs z).testBit c = true := by
    cases hp with
    | edge e => rw [Wof_self hv] at e; cases e
    | step hz e =>
      refine ⟨_, fun e' => ?_, _, e⟩
      subst e'
      rw [Wof_self hv] at e
      cases e
  obtain ⟨z, hne, c, hzc⟩ := key
  obtain ⟨c', hoc⟩ := path_out hp
  have ho5 := Wof_five hoc
  have hz5 := Wof_five hzc
  have h1 := waitsLL_at hv ho5
  have h2 := waitsLL_at hv hz5
  have p1 := decide_eq_true (members_some (Wof_lt hv o) hoc)
  have p2 := decide_eq_true (members_some (Wof_lt hv z) hzc)
  rcases Nat.lt_or_gt_of_ne hne with hlt | hlt
  · exact count_two h2 h1 hlt p2 p1
  · exact count_two h1 h2 hlt p1 p2
set_option maxHeartbeats 4000000 in
theorem law_FnLockCycle (w : World) (hT : Tab64 1 w) {v0 : Value} {xs0 : List Int} (s0 : Sl1 encU w v0 xs0) (l0 : xs0.length ≤ 9223372036854775807) (f0 : ∀ x ∈ xs0, 0 ≤ x ∧ x ≤ 255) (k0 : ∀ A n c, v0 = .slice A n c → n ≤ c ∧ c ≤ 9223372036854775807) :
    Calls Tryd.prog 8 #[v0] w fun e w' => e = .returned (.bool true) ∧ Ext w w' := by
  have HT := Lib.hid hT
  clear hT
  obtain ⟨A0, c0, hv0, _⟩ := id s0
  by_cases hl : xs0.length ≤ 1048576
  case neg =>
    subst hv0
    have hl' : 1048576 < xs0.length := by omega
    clear hl s0 f0 k0
    go_enter Tryd.func8, Tryd.ntmps8
    go_wp2
    go_returns
    exact ⟨rfl, Ext.refl _⟩
  have HC := Lib.hid (⟨xs0, s0, f0, hl, k0⟩ : CodeIn w v0)
  subst hv0
  clear s0 f0 k0
  go_enter Tryd.func8, Tryd.ntmps8
  go_wp2_with fail
  refine (DrawLockCycle_any _ HC.out).mono ?_
  rintro e w1 ⟨u, xs, rfl, hval, hphi, b1⟩
  have hlen : xs.length ≤ 12 := hphi
  have HS := Lib.hid hval.1
  have HCAP := Lib.hid hval.2.2
  clear hphi hval
  obtain ⟨X, hX⟩ : ∃ X, waitsLL xs = X := ⟨_, rfl⟩
  have hx5 : X.length ≤ 5 := by rw [← hX]; exact waitsLL_len xs
  have HIN : Hid (∀ ys ∈ X, ys.length ≤ 7) := fun ys hy => waitsLL_in xs ys (by rw [hX]; exact hy)
  obtain ⟨cy, hcy⟩ : ∃ cy, cycleB xs = cy := ⟨_, rfl⟩
  have H2 : Hid (cy = true → 2 ≤ (X.filter fun L => decide (0 < L.length)).length) := fun h => by rw [← hX]; exact cycle_two (by rw [hcy, h])
  have HX := Lib.hid hX
  have HCY := Lib.hid hcy
  clear hX hcy
  go_wp2_with fail
  refine (impl_LockCycle _ HS.out (by omega) HCAP.out).mono ?_
  rw [HCY.out]
  rintro e w2 ⟨rfl, b2⟩
  have HS2 := Lib.hid (HS.out.ext b2)
  go_wp2_with fail
  refine (spec_LockCycle _ HS2.out (by omega)).mono ?_
  rw [HCY.out]
  rintro e w3 ⟨rfl, b3⟩
  have HB3 := Lib.hid (b2.trans b3)
  have HS3 := Lib.hid (HS2.out.ext b3)
  clear b2 b3 HS2
  have q0 : (cy != cy) = false := by cases cy <;> rfl
  go_wp2_with fail
  refine (impl_LockWaits _ HS3.out (by omega) HCAP.out (HT.out.ext (b1.trans HB3.out))).mono ?_
  rw [HX.out]
  rintro e w5 ⟨v2, us2, rfl, L2, _, b5⟩
  have HL5 := Lib.hid L2
  have HB5 := Lib.hid (HB3.out.trans b5)
  clear L2 b5 HB3
  obtain ⟨A, c, rfl, hrow⟩ := HL5.out.open
  have HROW := Lib.hid hrow
  clear hrow
  go_wp2
  go_loopw [6, 7] (fun s i wr => Ext w5 wr ∧ ∃ k : Nat, k ≤ X.length ∧ i = .int .i64 k ∧ Hid (∃ n : Nat, s = .int .i64 n ∧ n ≤ k ∧ n = ((X.take k).filter fun L => decide (0 < L.length)).length)) (fun _ i _ => X.length - (intOf i).toNat)
  case atStart => exact ⟨Ext.refl _, 0, Nat.zero_le _, rfl, 0, rfl, by simp, by simp⟩
  case round =>
    obtain ⟨hb, k, hk, rfl, HI⟩ := hrel
    obtain ⟨n, rfl, hnk, hn⟩ := HI.out
    have HN := Lib.hid hn
    clear hn HI
    by_cases hlt : k < X.length
    · obtain ⟨L, hL⟩ := at_some hlt
      obtain ⟨b, off, u, rfl, hu, hLs⟩ := HROW.out k L hL
      obtain ⟨A1, c1, rfl, _⟩ := id hLs
      have hl1 := HIN.out L (List.mem_of_getElem? hL)
      have m0 := hb.cell hu
      have hnx := filter_next (p := fun L : List Int => decide (0 < L.length)) hL
      rw [← HN.out] at hnx
      clear hu hLs hL
      by_cases hp : 0 < L.length
      · rw [if_pos (decide_eq_true hp)] at hnx
        have HNX := Lib.hid hnx
        clear hnx
        go_wp2
        go_roundw
        case rel => exact ⟨hb, k + 1, by omega, by go_num, n + 1, by go_num, by omega, HNX.out.symm⟩
        case measure => simp [intOf]; omega
      · rw [if_neg (by simpa using hp)] at hnx
        have HNX := Lib.hid hnx
        clear hnx
        go_wp2
        go_roundw
        case rel => exact ⟨hb, k + 1, by omega, by go_num, n, rfl, by omega, HNX.out.symm⟩
        case measure => simp [intOf]; omega
    · obtain rfl : k = X.length := by omega
      cases cy with
      | false =>
        go_wp2_with (go_at_call 13; refine (alive_any _).mono ?_; rintro e w7 ⟨rfl, b7⟩)
        go_returns
        exact ⟨rfl, ((b1.trans HB5.out).trans hb).trans b7⟩
      | true =>
        have h2 := H2.out rfl
        have hn := HN.out
        rw [List.take_length] at hn
        rw [← hn] at h2
        clear hn
        go_wp2_with (go_at_call 13; refine (alive_any _).mono ?_; rintro e w7 ⟨rfl, b7⟩)
        go_returns
        exact ⟨rfl, ((b1.trans HB5.out).trans hb).trans b7⟩
end Go.Proofs.YtbbfdnmlfjdidaaDoor
