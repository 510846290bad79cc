/- The walk of laws.FnLogCommit: it answers true. -/
import Derived.Test.YtiggckhlbklngaaDoorLogCommit
import Derived.Test.YtiggckhlbklngaaDoorDrawLC
import Derived.Test.YtiggckhlbklngaaDoorAlive
namespace Go.Proofs.YtiggckhlbklngaaDoor
open Go.RowKit
set_option maxRecDepth 8000

theorem bestN_some {xs : List Int} {n : Nat} {m : Int} (h : bestN xs n = m) (h0 : 0 ≤ m) : xs.length < 2 * manyOf xs m := by
  induction n with
  | zero => rw [bestN] at h; omega
  | succ n ih =>
    rw [bestN] at h
    split at h
    · rename_i hc; rw [← h]; exact hc
    · exact ih h
theorem bestN_next {xs : List Int} {n : Nat} {m : Int} (h : bestN xs n = m) (h0 : -1 ≤ m) : ∀ j : Nat, m < j → j < n → 2 * manyOf xs (j : Int) ≤ xs.length := by
  induction n with
  | zero => intro j _ hj; omega
  | succ n ih =>
    intro j hmj hj
    rw [bestN] at h
    split at h
    · omega
    · rename_i hc
      by_cases e : j = n
      · subst e; omega
      · exact ih h j hmj (by omega)
/-- More than half are at least n, not more than half above. -/
theorem commit_half {xs : List Int} {m : Int} (h : commitL xs = m) (h0 : 0 ≤ m) : xs.length < 2 * manyOf xs m ∧ 2 * manyOf xs (m + 1) ≤ xs.length := by
  unfold commitL at h
  split at h
  case isFalse => omega
  rename_i hc
  refine ⟨bestN_some h h0, ?_⟩
  have hr := bestN_range xs 13
  rw [h] at hr
  obtain ⟨q, rfl⟩ := Int.eq_ofNat_of_zero_le h0
  by_cases e : q + 1 < 13
  · have := bestN_next h (by omega) (q + 1) (by omega) e
    simpa using this
  · have hz : manyOf xs ((q : Int) + 1) = 0 := many_none fun x hx => by
      have := inB_true.1 (List.all_eq_true.1 hc.2 x hx)
      omega
    rw [hz]
    omega
theorem commit_neg {xs : List Int} (h : commitL xs < 0) : commitL xs = -1 := by
  unfold commitL at *
  split at h
  · rename_i hc
    have := bestN_range xs 13
    rw [if_pos hc]
    omega
  · rename_i hc; rw [if_neg hc]
set_option maxHeartbeats 8000000 in
theorem law_FnLogCommit (w : World) {v0 : Value} {xs0 : List Int} (s0 : Sl1 encU w v0 xs0) (l0 : xs0.length ≤ 9223372036854775807) (f0 : ∀ x ∈ xs0, 0 ≤ x ∧ x ≤ 255) (k0 : ∀ A n c, v0 = .slice A n c → n ≤ c ∧ c ≤ 9223372036854775807) :
    Calls Tryd.prog 6 #[v0] w fun e w' => e = .returned (.bool true) ∧ Ext w w' := by
  obtain ⟨A0, c0, hv0, _⟩ := id s0
  by_cases hl : xs0.length ≤ 1048576
  case neg =>
    subst hv0
    have hl' : 1048576 < xs0.length := by omega
    clear hl s0 f0 k0
    go_enter Tryd.func6, Tryd.ntmps6
    go_wp2
    go_returns
    exact ⟨rfl, Ext.refl _⟩
  have HC := Lib.hid (⟨xs0, s0, f0, hl, k0⟩ : CodeIn w v0)
  subst hv0
  clear s0 f0 k0
  go_enter Tryd.func6, Tryd.ntmps6
  go_wp2_with fail
  refine (DrawLogCommit_any _ HC.out).mono ?_
  rintro e w1 ⟨v, xs, rfl, hv, hx, b1⟩
  have HV := Lib.hid hv.1.to1
  have hxl : xs.length ≤ 9 := hx
  have HB := Lib.hid b1
  clear hv hx b1
  obtain ⟨m, hm⟩ : ∃ m, commitL xs = m := ⟨_, rfl⟩
  have HM := Lib.hid hm
  clear hm
  go_wp2_with fail
  refine (impl_LogCommit _ HV.out (by omega)).mono ?_
  rw [HM.out]
  rintro e w2 ⟨rfl, b2⟩
  replace HV := Lib.hid (HV.out.ext b2)
  replace HB := Lib.hid (HB.out.trans b2)
  clear b2
  go_wp2_with fail
  refine (spec_LogCommit _ HV.out (by omega)).mono ?_
  rw [HM.out]
  rintro e w3 ⟨rfl, b3⟩
  replace HV := Lib.hid (HV.out.ext b3)
  replace HB := Lib.hid (HB.out.trans b3)
  clear b3
  have hmm : (m != m) = false := by simp
  obtain ⟨A1, c1, rfl, hc1⟩ := HV.out
  have HCC := Lib.hid hc1
  clear hc1
  by_cases hneg : m < 0
  · obtain rfl : m = -1 := by
      have := commit_neg (xs := xs) (by rw [HM.out]; exact hneg)
      rw [HM.out] at this
      exact this
    go_wp2_with (go_at_call 11; refine (alive_any _).mono ?_; rintro e w8 ⟨rfl, b8⟩)
    go_returns
    exact ⟨rfl, HB.out.trans b8⟩
  have hpos : 0 ≤ m := by omega
  have HH := Lib.hid (commit_half HM.out hpos)
  clear hneg
  go_wp2
  go_loopw [5, 6, 7] (fun a b i wr => ∃ k p q : Nat, k ≤ xs.length ∧ i = .int .i64 (k : Int) ∧ a = .int .i64 (p : Int) ∧ b = .int .i64 (q : Int) ∧ p ≤ k ∧ q ≤ k ∧ Hid (manyOf (xs.take k) m = p ∧ manyOf (xs.take k) (m + 1) = q) ∧ wr = w3) (fun _ _ i _ => xs.length - (intOf i).toNat)
  case atStart => exact ⟨0, 0, 0, Nat.zero_le _, rfl, rfl, rfl, Nat.le_refl _, Nat.le_refl _, ⟨by simp [manyOf], by simp [manyOf]⟩, rfl⟩
  case round =>
    obtain ⟨k, p, q, hk, rfl, rfl, rfl, hp, hq, HG, rfl⟩ := hrel
    by_cases hlt : k < xs.length
    · obtain ⟨b, off, rfl, _, hcell⟩ := HCC.out (by omega)
      obtain ⟨x, hx⟩ := at_some hlt
      have c0 := hcell k x hx
      simp only [encI] at c0
      have HX := Lib.hid hx
      clear hx hcell
      by_cases h1 : m ≤ x
      · by_cases h2 : m < x
        · have HN : Hid (manyOf (xs.take (k + 1)) m = p + 1 ∧ manyOf (xs.take (k + 1)) (m + 1) = q + 1) := ⟨by rw [many_take HX.out, HG.out.1, if_pos h1], by rw [many_take HX.out, HG.out.2, if_pos (by omega)]⟩
          go_wp2
          go_roundw
          case rel => exact ⟨k + 1, p + 1, q + 1, by omega, by go_num, by go_num, by go_num, by omega, by omega, HN, by first | rfl | trivial⟩
          case measure => simp [intOf]; omega
        · have HN : Hid (manyOf (xs.take (k + 1)) m = p + 1 ∧ manyOf (xs.take (k + 1)) (m + 1) = q) := ⟨by rw [many_take HX.out, HG.out.1, if_pos h1], by rw [many_take HX.out, HG.out.2, if_neg (by omega)]; rfl⟩
          go_wp2
          go_roundw
          case rel => exact ⟨k + 1, p + 1, q, by omega, by go_num, by go_num, by go_num, by omega, by omega, HN, by first | rfl | trivial⟩
          case measure => simp [intOf]; omega
      · have h2 : ¬ m < x := by omega
        have HN : Hid (manyOf (xs.take (k + 1)) m = p ∧ manyOf (xs.take (k + 1)) (m + 1) = q) := ⟨by rw [many_take HX.out, HG.out.1, if_neg h1]; rfl, by rw [many_take HX.out, HG.out.2, if_neg (by omega)]; rfl⟩
        go_wp2
        go_roundw
        case rel => exact ⟨k + 1, p, q, by omega, by go_num, by go_num, by go_num, by omega, by omega, HN, by first | rfl | trivial⟩
        case measure => simp [intOf]; omega
    · obtain rfl : k = xs.length := by omega
      have hh := HH.out
      have hg := HG.out
      rw [List.take_length] at hg
      rw [hg.1, hg.2] at hh
      have h1 : xs.length < 2 * p := hh.1
      have h2 : 2 * q ≤ xs.length := hh.2
      clear hh hg
      go_wp2
      go_returns
      have hd : decide (2 * (q : Int) ≤ (xs.length : Int)) = true := by simp; omega
      exact ⟨ret_bool hd, HB.out⟩
end Go.Proofs.YtiggckhlbklngaaDoor
