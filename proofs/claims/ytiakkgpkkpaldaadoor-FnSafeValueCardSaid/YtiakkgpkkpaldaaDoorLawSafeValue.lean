/- The walk of laws.FnSafeValue: it answers true. -/
import Derived.Test.YtiakkgpkkpaldaaDoorSafeValueI
import Derived.Test.YtiakkgpkkpaldaaDoorChosen
import Derived.Test.YtiakkgpkkpaldaaDoorDrawSafe
import Derived.Test.YtiakkgpkkpaldaaDoorAlive
namespace Go.Proofs.YtiakkgpkkpaldaaDoor
open Go.RowKit
set_option maxRecDepth 8000

/-- How many bits below k. -/
def bcnt (n : Nat) : Nat → Nat
  | 0 => 0
  | k + 1 => bcnt n k + (if n.testBit k = true then 1 else 0)
theorem bit_one (n k : Nat) : (if n.testBit k = true then 1 else 0) = n / 2 ^ k % 2 := by
  rw [Nat.testBit_eq_decide_div_mod_eq]
  split
  · rename_i h; simp at h; omega
  · rename_i h; simp at h; omega
theorem bcnt_pc (n : Nat) : bcnt n 7 = pc n := by
  have e : bcnt n 7 = 0 + (if n.testBit 0 = true then 1 else 0) + (if n.testBit 1 = true then 1 else 0) + (if n.testBit 2 = true then 1 else 0) + (if n.testBit 3 = true then 1 else 0) + (if n.testBit 4 = true then 1 else 0) + (if n.testBit 5 = true then 1 else 0) + (if n.testBit 6 = true then 1 else 0) := rfl
  rw [e]
  simp only [bit_one]
  unfold pc
  simp
theorem bcnt_more {n m : Nat} (hn : n < 2 ^ m) (d : Nat) : bcnt n (m + d) = bcnt n m := by
  induction d with
  | zero => rfl
  | succ d ih =>
    rw [← Nat.add_assoc, bcnt, ih, Nat.testBit_lt_two_pow (Nat.lt_of_lt_of_le hn (Nat.pow_le_pow_right (by omega) (by omega)))]
    simp
theorem bcnt_len {n m : Nat} (hn : n < 2 ^ m) (hm : m ≤ 7) : bcnt n m = pc n := by
  rw [← bcnt_pc, show 7 = m + (7 - m) from by omega, bcnt_more hn]
theorem cnt_apart {xs : List Vote} {b : Int} {n k : Nat} (h : ∀ j x, j < k → xs[j]? = some x → n.testBit j = true → x.ballot ≠ b) : cntTo xs b k + bcnt n k ≤ k := by
  induction k with
  | zero => exact Nat.le_refl _
  | succ k ih =>
    have ih := ih (fun j x hj => h j x (by omega))
    rw [bcnt]
    cases hx : xs[k]? with
    | none =>
      rw [cntTo, hx]
      simp only
      split <;> omega
    | some x =>
      by_cases e : x.ballot = b
      · rw [cntTo_yes hx e]
        cases hb : n.testBit k with
        | true => exact absurd e (h k x (by omega) hx hb)
        | false => simp; omega
      · rw [cntTo_no hx e]
        split <;> omega
theorem cnt_meet {xs : List Vote} {b : Int} {n : Nat} (h1 : xs.length < 2 * cntTo xs b xs.length) (h2 : xs.length < 2 * bcnt n xs.length) : ∃ j x, xs[j]? = some x ∧ n.testBit j = true ∧ x.ballot = b := by
  by_cases h : ∃ j x, xs[j]? = some x ∧ n.testBit j = true ∧ x.ballot = b
  · exact h
  · have := cnt_apart (xs := xs) (b := b) (n := n) (k := xs.length) (fun j x _ hx hb e => h ⟨j, x, hx, hb, e⟩)
    omega
theorem best_fact (n : Nat) (xs : List Vote) (wish : Int) (k : Nat) : (bestTo n xs wish k = ⟨0, wish⟩ ∨ ∃ j : Nat, xs[j]? = some (bestTo n xs wish k)) ∧ ∀ j x, j < k → xs[j]? = some x → n.testBit j = true → x.ballot ≤ (bestTo n xs wish k).ballot := by
  induction k with
  | zero => exact ⟨.inl rfl, fun j x h => by omega⟩
  | succ k ih =>
    obtain ⟨h1, h2⟩ := ih
    rw [bestTo_next]
    unfold bestIf bestOf
    split
    · rename_i hb
      cases hx : xs[k]? with
      | none =>
        refine ⟨h1, fun j x hj hxj hbj => ?_⟩
        by_cases e : j = k
        · subst e; rw [hx] at hxj; cases hxj
        · exact h2 j x (by omega) hxj hbj
      | some x =>
        simp only
        split
        · rename_i hlt
          refine ⟨.inr ⟨k, hx⟩, fun j y hj hy hbj => ?_⟩
          by_cases e : j = k
          · subst e; rw [hx] at hy; injection hy with hy; subst hy; exact Int.le_refl _
          · have := h2 j y (by omega) hy hbj; omega
        · rename_i hlt
          refine ⟨h1, fun j y hj hy hbj => ?_⟩
          by_cases e : j = k
          · subst e; rw [hx] at hy; injection hy with hy; subst hy; omega
          · exact h2 j y (by omega) hy hbj
    · rename_i hb
      refine ⟨h1, fun j x hj hxj hbj => ?_⟩
      by_cases e : j = k
      · subst e; exact absurd hbj hb
      · exact h2 j x (by omega) hxj hbj
/-- The greatest ballot of the first k votes. -/
def mostTo (xs : List Vote) : Nat → Int
  | 0 => 0
  | k + 1 => match xs[k]? with
    | some x => max (mostTo xs k) x.ballot
    | none => mostTo xs k
theorem mostTo_next {xs : List Vote} {k : Nat} {x : Vote} (hx : xs[k]? = some x) : mostTo xs (k + 1) = max (mostTo xs k) x.ballot := by rw [mostTo, hx]
theorem mostTo_ge {xs : List Vote} {k j : Nat} {x : Vote} (hj : j < k) (hx : xs[j]? = some x) : x.ballot ≤ mostTo xs k := by
  induction k with
  | zero => omega
  | succ k ih =>
    by_cases e : j = k
    · subst e; rw [mostTo_next hx]; omega
    · have := ih (by omega)
      rw [mostTo]
      split <;> omega
theorem safe_no {xs : List Vote} {set wish : Int} (h : (safeB xs set wish).2 = false) : safeB xs set wish = (0, false) := by
  unfold safeB at *
  split
  · rename_i hh; rw [if_pos hh] at h; cases h
  · rfl
/-- A value that is safe is the chosen one, where the greatest ballot has most votes. -/
theorem safe_chosen {xs : List Vote} {set wish v cv : Int} (h : safeB xs set wish = (v, true)) (hc : chosenB xs = (cv, true)) (hm : xs.length < 2 * cntTo xs (mostTo xs xs.length) xs.length) : v = cv := by
  unfold safeB at h
  split at h
  case isFalse => cases h
  case isTrue hh =>
    obtain ⟨hv, hs, hsz, _⟩ := hh
    injection h with h1 _
    unfold chosenB at hc
    rw [if_pos hv] at hc
    split at hc
    case h_2 => cases hc
    case h_1 x hx =>
      injection hc with hc1 _
      subst hc1
      have hmj := List.find?_some hx
      obtain ⟨i, hi⟩ := List.getElem?_of_mem (List.mem_of_find?_eq_some hx)
      simp only [majB, Bool.and_eq_true, decide_eq_true_eq] at hmj
      have hbm : x.ballot = mostTo xs xs.length := by
        rcases Int.decEq x.ballot (mostTo xs xs.length) with hne | he
        · have := cntTo_two (xs := xs) hne xs.length; omega
        · exact he
      have hl7 := votesOk_len hv
      unfold setsB at hs
      rw [Bool.and_eq_true, Bool.and_eq_true, List.all_eq_true] at hs
      have hin := inB_true.1 (hs.2.2 set (by simp))
      obtain ⟨n, rfl⟩ := Int.eq_ofNat_of_zero_le hin.1
      have hn : n < 2 ^ xs.length := by
        have h3 : 1 ≤ 2 ^ xs.length := Nat.one_le_two_pow
        simp only [Int.toNat_natCast] at hin
        omega
      have hpc : sizeB (n : Int) = (pc n : Int) := by
        unfold sizeB at hsz ⊢
        split at hsz
        · rename_i hb; rw [if_pos hb]; simp
        · omega
      rw [hpc, ← bcnt_len hn hl7.2] at hsz
      obtain ⟨j, y, hy, hb, hyb⟩ := cnt_meet (n := n) (b := mostTo xs xs.length) hm (by omega)
      rw [Int.toNat_natCast] at h1
      obtain ⟨hf1, hf2⟩ := best_fact n xs wish xs.length
      have hjl := (List.getElem?_eq_some_iff.1 hy).1
      have hge := hf2 j y hjl hy hb
      rcases hf1 with hf1 | ⟨q, hq⟩
      · rw [hf1] at hge
        simp only at hge
        omega
      · have hle := mostTo_ge (List.getElem?_eq_some_iff.1 hq).1 hq
        rw [← h1]
        exact goodVote_agree hv hi hq (by omega)
set_option maxHeartbeats 4000000 in
theorem law_FnSafeValue (w : World) (hT : Tab64 1 w) {v0 : Value} {xs0 : List Int} (s0 : Sl1 encU w v0 xs0) (l0 : xs0.length ≤ 9223372036854775807) (f0 : ∀ x ∈ xs0, 0 ≤ x ∧ x ≤ 255) (k0 : ∀ A n c, v0 = .slice A n c → n ≤ c ∧ c ≤ 9223372036854775807) :
    Calls Tryd.prog 6 #[v0] w fun e w' => e = .returned (.bool true) ∧ Ext w w' := by
  have HT := Lib.hid hT
  clear hT
  obtain ⟨A0, c0, hv0, _⟩ := id s0
  by_cases hl : xs0.length ≤ 1048576
  case neg =>
    subst hv0
    have hl' : 1048576 < xs0.length := by omega
    clear hl s0 f0 k0
    go_enter Tryd.func6, Tryd.ntmps6
    go_wp2
    go_returns
    exact ⟨rfl, Ext.refl _⟩
  have HC := Lib.hid (⟨xs0, s0, f0, hl, k0⟩ : CodeIn w v0)
  subst hv0
  clear s0 f0 k0
  go_enter Tryd.func6, Tryd.ntmps6
  go_wp2_with fail
  refine (DrawSafeValue_any _ HC.out).mono ?_
  rintro e w1 ⟨u, s, d, xs, rfl, hval, hphi, b1⟩
  have hlen : xs.length ≤ 8 := hphi.1
  have HS := Lib.hid hval.1
  obtain ⟨A, c, rfl, hcx⟩ := id HS.out
  have HCX := Lib.hid hcx
  clear hphi hval hcx
  obtain ⟨v, ok, hok⟩ : ∃ v ok, safeB xs s d = (v, ok) := ⟨_, _, rfl⟩
  have HK := Lib.hid hok
  clear hok
  go_wp2_with fail
  refine (impl_SafeValue s d _ HS.out (by omega) (HT.out.ext b1)).mono ?_
  rw [HK.out]
  rintro e w2 ⟨rfl, b2⟩
  go_wp2_with fail
  refine (spec_SafeValue s d _ (HS.out.ext b2) (by omega)).mono ?_
  rw [HK.out]
  rintro e w3 ⟨rfl, b3⟩
  have HB3 := Lib.hid (b2.trans b3)
  clear b2 b3
  have q0 : (v != v) = false := by simp
  cases ok with
  | false =>
    have hn := safe_no (xs := xs) (set := s) (wish := d) (by rw [HK.out])
    rw [HK.out] at hn
    injection hn with hn _
    subst hn
    go_wp2_with (go_at_call 12; refine (alive_any _).mono ?_; rintro e w7 ⟨rfl, b7⟩)
    go_returns
    exact ⟨rfl, (b1.trans HB3.out).trans b7⟩
  | true =>
    obtain ⟨cv, cok, hcc⟩ : ∃ cv cok, chosenB xs = (cv, cok) := ⟨_, _, rfl⟩
    have HCC := Lib.hid hcc
    clear hcc
    go_wp2_with fail
    refine (impl_ChosenValue _ (HS.out.ext HB3.out) (by omega)).mono ?_
    rw [HCC.out]
    rintro e w4 ⟨rfl, b4⟩
    have HB4 := Lib.hid (HB3.out.trans b4)
    clear b4 HB3
    go_wp2
    go_loopw [12, 14] (fun m i wr => Ext w4 wr ∧ ∃ k : Nat, k ≤ xs.length ∧ i = .int .i64 k ∧ m = .int .i64 (mostTo xs k)) (fun _ i _ => xs.length - (intOf i).toNat)
    case atStart => exact ⟨Ext.refl _, 0, Nat.zero_le _, rfl, rfl⟩
    case round =>
      obtain ⟨hb, k, hk, rfl, rfl⟩ := hrel
      by_cases hlt : k < xs.length
      · obtain ⟨x, hx⟩ := at_some hlt
        obtain ⟨b, off, rfl, _, hcell⟩ := HCX.out (by omega)
        have m0 := hb.cell (HB4.out.cell (hcell k x hx 0 (by omega)))
        simp only [encVote, Nat.add_zero] at m0
        have HN := Lib.hid (mostTo_next hx)
        obtain ⟨M, hM⟩ : ∃ M, mostTo xs k = M := ⟨_, rfl⟩
        have HM := Lib.hid hM
        rw [hM]
        clear hM hx hcell
        go_wp2
        go_roundw
        case rel => exact ⟨hb, k + 1, by omega, by go_num, by rw [HN.out, HM.out]; refine congrArg (Value.int IntKind.i64) ?_; split <;> omega⟩
        case measure => simp [intOf]; omega
      · obtain rfl : k = xs.length := by omega
        obtain ⟨M, hM⟩ : ∃ M, mostTo xs xs.length = M := ⟨_, rfl⟩
        have HM := Lib.hid hM
        rw [hM]
        clear hM
        go_wp2
        go_loopw [13, 15] (fun m i wr => Ext w4 wr ∧ ∃ k : Nat, k ≤ xs.length ∧ i = .int .i64 k ∧ ∃ q : Nat, q ≤ k ∧ m = .int .i64 q ∧ Hid (q = cntTo xs M k)) (fun _ i _ => xs.length - (intOf i).toNat)
        case atStart => exact ⟨hb, 0, Nat.zero_le _, rfl, 0, Nat.le_refl _, rfl, rfl⟩
        case round =>
          clear hb
          obtain ⟨hb, k, hk, rfl, q, hqk, rfl, HQ⟩ := hrel
          by_cases hlt : k < xs.length
          · obtain ⟨x, hx⟩ := at_some hlt
            obtain ⟨b, off, rfl, _, hcell⟩ := HCX.out (by omega)
            have m0 := hb.cell (HB4.out.cell (hcell k x hx 0 (by omega)))
            simp only [encVote, Nat.add_zero] at m0
            by_cases e : x.ballot = M
            · have HN := Lib.hid (cntTo_yes hx e)
              have q1 : (x.ballot == M) = true := by simp [e]
              clear hx hcell e
              go_wp2
              go_roundw
              case rel => exact ⟨hb, k + 1, by omega, by go_num, q + 1, by omega, by go_num, by show _ = _; rw [HN.out, ← HQ.out]⟩
              case measure => simp [intOf]; omega
            · have HN := Lib.hid (cntTo_no hx e)
              have q1 : (x.ballot == M) = false := by simp [e]
              clear hx hcell e
              go_wp2
              go_roundw
              case rel => exact ⟨hb, k + 1, by omega, by go_num, q, by omega, rfl, by show _ = _; rw [HN.out, ← HQ.out]⟩
              case measure => simp [intOf]; omega
          · obtain rfl : k = xs.length := by omega
            cases cok with
            | false =>
              go_wp2
              go_returns
              exact ⟨rfl, (b1.trans HB4.out).trans hb⟩
            | true =>
              by_cases hle : 2 * q ≤ xs.length
              · have q1 : decide (2 * (q : Int) ≤ (xs.length : Int)) = true := decide_eq_true (by omega)
                go_wp2
                go_returns
                exact ⟨rfl, (b1.trans HB4.out).trans hb⟩
              · have q1 : decide (2 * (q : Int) ≤ (xs.length : Int)) = false := decide_eq_false (by omega)
                obtain rfl : v = cv := safe_chosen HK.out HCC.out (by rw [HM.out, ← HQ.out]; omega)
                have q2 : (v == v) = true := by simp
                go_wp2
                go_returns
                exact ⟨rfl, (b1.trans HB4.out).trans hb⟩
end Go.Proofs.YtiakkgpkkpaldaaDoor
