/- The walk of laws.FnChosenValue: it answers true. -/
import Derived.Test.YtpkjgeidndbbbaaDoorChosen
import Derived.Test.YtpkjgeidndbbbaaDoorDrawVote
import Derived.Test.YtpkjgeidndbbbaaDoorAlive
namespace Go.Proofs.YtpkjgeidndbbbaaDoor
open Go.RowKit

theorem chosen_false {xs : List Vote} (h : (chosenB xs).2 = false) : chosenB xs = (0, false) := by
  unfold chosenB at *
  split
  · rename_i hv
    rw [if_pos hv] at h
    split
    · rename_i x hx
      rw [hx] at h
      cases h
    · rfl
  · rfl
/-- how many of the first k votes are for a value, in a ballot -/
def cntV (xs : List Vote) (n : Int) : Nat → Nat
  | 0 => 0
  | k + 1 => cntV xs n k + (match xs[k]? with | some y => if 0 < y.ballot ∧ y.value = n then 1 else 0 | none => 0)
theorem cntV_yes {xs : List Vote} {n : Int} {k : Nat} {y : Vote} (hy : xs[k]? = some y) (h : 0 < y.ballot ∧ y.value = n) : cntV xs n (k + 1) = cntV xs n k + 1 := by rw [cntV, hy]; simp [h]
theorem cntV_no {xs : List Vote} {n : Int} {k : Nat} {y : Vote} (hy : xs[k]? = some y) (h : ¬ (0 < y.ballot ∧ y.value = n)) : cntV xs n (k + 1) = cntV xs n k := by rw [cntV, hy]; simp [h]
theorem cntV_le (xs : List Vote) (n : Int) (k : Nat) : cntV xs n k ≤ k := by
  induction k with
  | zero => exact Nat.le_refl _
  | succ k ih =>
    rw [cntV]
    have : (match xs[k]? with | some y => if 0 < y.ballot ∧ y.value = n then 1 else 0 | none => 0) ≤ 1 := by
      cases xs[k]? with
      | none => simp
      | some y => simp only; split <;> omega
    omega
theorem cntTo_cntV {xs : List Vote} (h : votesOk xs = true) {j : Nat} {x : Vote} (hx : xs[j]? = some x) (h0 : 0 < x.ballot) (k : Nat) : cntTo xs x.ballot k ≤ cntV xs x.value k := by
  induction k with
  | zero => exact Nat.le_refl _
  | succ k ih =>
    rw [cntTo, cntV]
    cases hy : xs[k]? with
    | none => simpa using ih
    | some y =>
      simp only
      by_cases e : y.ballot = x.ballot
      · rw [if_pos e, if_pos ⟨by omega, goodVote_agree h hx hy e⟩]; omega
      · rw [if_neg e]; omega
theorem chosen_most {xs : List Vote} {n : Int} (h : chosenB xs = (n, true)) : xs.length < 2 * cntV xs n xs.length := by
  unfold chosenB at h
  split at h
  · rename_i hv
    split at h
    · rename_i x hx
      have hm := List.find?_some hx
      obtain ⟨j, hj⟩ := List.getElem?_of_mem (List.mem_of_find?_eq_some hx)
      simp only [majB, Bool.and_eq_true, decide_eq_true_eq] at hm
      injection h with h1 _
      subst h1
      have := cntTo_cntV hv hj hm.1 xs.length
      omega
    · cases h
  · cases h
set_option maxHeartbeats 2000000 in
theorem law_FnChosenValue (w : World) {v0 : Value} {xs0 : List Int} (s0 : Sl1 encU w v0 xs0) (l0 : xs0.length ≤ 9223372036854775807) (f0 : ∀ x ∈ xs0, 0 ≤ x ∧ x ≤ 255) (k0 : ∀ A n c, v0 = .slice A n c → n ≤ c ∧ c ≤ 9223372036854775807) :
    Calls Tryd.prog 4 #[v0] w fun e w' => e = .returned (.bool true) ∧ Ext w w' := by
  obtain ⟨A0, c0, hv0, _⟩ := id s0
  by_cases hl : xs0.length ≤ 1048576
  case neg =>
    subst hv0
    have hl' : 1048576 < xs0.length := by omega
    clear hl s0 f0 k0
    go_enter Tryd.func4, Tryd.ntmps4
    go_wp2
    go_returns
    exact ⟨rfl, Ext.refl _⟩
  have HC := Lib.hid (⟨xs0, s0, f0, hl, k0⟩ : CodeIn w v0)
  subst hv0
  clear s0 f0 k0
  go_enter Tryd.func4, Tryd.ntmps4
  go_wp2_with fail
  refine (DrawChosenValue_any _ HC.out).mono ?_
  rintro e w1 ⟨u, xs, rfl, hrow, hphi, b1⟩
  have hlen := hphi.1
  have HS := Lib.hid hrow.1
  obtain ⟨A, c, rfl, _⟩ := id HS.out
  clear hphi hrow
  obtain ⟨n, ok, hok⟩ : ∃ n ok, chosenB xs = (n, ok) := ⟨_, _, rfl⟩
  have HK := Lib.hid hok
  go_wp2_with fail
  refine (impl_ChosenValue _ HS.out (by omega)).mono ?_
  rw [hok]
  rintro e w2 ⟨rfl, b2⟩
  replace HS := Lib.hid (HS.out.ext b2)
  go_wp2_with fail
  refine (spec_ChosenValue _ HS.out (by omega)).mono ?_
  rw [hok]
  rintro e w3 ⟨rfl, b3⟩
  replace HS := Lib.hid (HS.out.ext b3)
  have HB := Lib.hid ((b1.trans b2).trans b3)
  clear hok b1 b2 b3
  cases ok with
  | false =>
    have hn := chosen_false (xs := xs) (by rw [HK.out])
    rw [HK.out] at hn
    injection hn with hn _
    subst hn
    go_wp2_with (go_at_call 14; refine (alive_any _).mono ?_; rintro e w7 ⟨rfl, b7⟩)
    go_returns
    exact ⟨rfl, HB.out.trans b7⟩
  | true =>
    have HM := Lib.hid (chosen_most HK.out)
    go_wp2
    go_loop [8, 9] (fun a i => ∃ k : Nat, k ≤ xs.length ∧ i = .int .i64 k ∧ a = .int .i64 (cntV xs n k)) (fun _ i => xs.length - (intOf i).toNat)
    case atStart => exact ⟨0, Nat.zero_le _, rfl, rfl⟩
    case round =>
      obtain ⟨k, hk, rfl, rfl⟩ := hrel
      have hck := cntV_le xs n k
      by_cases hlt : k < xs.length
      · obtain ⟨A', c', hA', hcell'⟩ := id HS.out
        injection hA' with e1 e2 e3
        subst e1 e3
        clear e2
        obtain ⟨b, off, rfl, hlt', hcl⟩ := hcell' (by omega)
        obtain ⟨x, hx⟩ := at_some hlt
        have c0 := hcl k x hx 0 (by omega)
        have c1 := hcl k x hx 1 (by omega)
        simp only [Nat.add_zero] at c0 c1
        obtain ⟨xb, xv⟩ := x
        simp only [encVote] at c0 c1
        have HX := Lib.hid hx
        clear hcl hcell' hx
        by_cases h0 : 0 < xb
        · by_cases hv : (xv == n) = true
          · have hy := Lib.hid (cntV_yes HX.out ⟨h0, beq_iff_eq.1 hv⟩)
            go_wp2
            go_round
            case rel => exact ⟨k + 1, by omega, by go_num, by rw [hy.out]; go_num⟩
            case measure => simp [intOf]; omega
          · have hy := Lib.hid (cntV_no (n := n) HX.out (fun h => hv (beq_iff_eq.2 h.2)))
            simp only [Bool.not_eq_true] at hv
            go_wp2
            go_round
            case rel => exact ⟨k + 1, by omega, by go_num, by rw [hy.out]⟩
            case measure => simp [intOf]; omega
        · have hy := Lib.hid (cntV_no (n := n) HX.out (fun h => h0 h.1))
          go_wp2
          go_round
          case rel => exact ⟨k + 1, by omega, by go_num, by rw [hy.out]⟩
          case measure => simp [intOf]; omega
      · obtain rfl : k = xs.length := by omega
        have hm := HM.out
        go_wp2
        go_returns
        exact ⟨ret_bool (by simp; omega), HB.out⟩
end Go.Proofs.YtpkjgeidndbbbaaDoor
