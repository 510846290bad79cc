/- The value that most voted for: ChosenValue, of the reference and of the program (which counts in a map). -/
import Derived.Test.YtiakkgpkkpaldaaDoorVote
namespace Go.Proofs.YtiakkgpkkpaldaaDoor
open Go.RowKit

/-- how many of the first k votes are of a ballot -/
def cntTo (xs : List Vote) (b : Int) : Nat → Nat
  | 0 => 0
  | k + 1 => cntTo xs b k + (match xs[k]? with | some y => if y.ballot = b then 1 else 0 | none => 0)
theorem cntTo_yes {xs : List Vote} {b : Int} {k : Nat} {y : Vote} (hy : xs[k]? = some y) (h : y.ballot = b) : cntTo xs b (k + 1) = cntTo xs b k + 1 := by rw [cntTo, hy]; simp [h]
theorem cntTo_no {xs : List Vote} {b : Int} {k : Nat} {y : Vote} (hy : xs[k]? = some y) (h : y.ballot ≠ b) : cntTo xs b (k + 1) = cntTo xs b k := by rw [cntTo, hy]; simp [h]
theorem cntTo_mono {xs : List Vote} {b : Int} {j k : Nat} (h : j ≤ k) : cntTo xs b j ≤ cntTo xs b k := by
  induction k with
  | zero => obtain rfl : j = 0 := by omega
            exact Nat.le_refl _
  | succ k ih =>
    by_cases e : j = k + 1
    · rw [e]; exact Nat.le_refl _
    · have := ih (by omega)
      rw [cntTo]; omega
theorem cntTo_le {xs : List Vote} {b : Int} (k : Nat) : cntTo xs b k ≤ k := by
  induction k with
  | zero => exact Nat.le_refl _
  | succ k ih =>
    rw [cntTo]
    have : (match xs[k]? with | some y => if y.ballot = b then 1 else 0 | none => 0) ≤ 1 := by
      cases xs[k]? with
      | none => simp
      | some y => simp only; split <;> omega
    omega
theorem cntTo_two {xs : List Vote} {b c : Int} (h : b ≠ c) (k : Nat) : cntTo xs b k + cntTo xs c k ≤ k := by
  induction k with
  | zero => exact Nat.le_refl _
  | succ k ih =>
    rw [cntTo, cntTo]
    cases xs[k]? with
    | none => simp only; omega
    | some y =>
      simp only
      by_cases e : y.ballot = b
      · rw [if_pos e, if_neg (fun e' => h (e.symm.trans e'))]; omega
      · rw [if_neg e]; split <;> omega
def majB (xs : List Vote) (x : Vote) : Bool := decide (0 < x.ballot) && decide (xs.length < 2 * cntTo xs x.ballot xs.length)
/-- What ChosenValue answers. -/
def chosenB (xs : List Vote) : Int × Bool :=
  if votesOk xs = true then (match xs.find? (majB xs) with | some x => (x.value, true) | none => (0, false)) else (0, false)
theorem chosen_not {xs : List Vote} (h : ¬ votesOk xs = true) : chosenB xs = (0, false) := by rw [chosenB, if_neg h]
theorem votesOk_good {xs : List Vote} (h : votesOk xs = true) (k : Nat) (hk : k < xs.length) : goodVote xs k = true := by
  rw [votesOk, Bool.and_eq_true] at h
  exact (allGood_true.1 h.1).1 k hk
theorem goodVote_agree {xs : List Vote} (h : votesOk xs = true) {j k : Nat} {x y : Vote} (hx : xs[k]? = some x) (hy : xs[j]? = some y) (e : y.ballot = x.ballot) : y.value = x.value := by
  rcases Nat.lt_trichotomy j k with hlt | heq | hgt
  · rcases Int.decEq y.value x.value with hne | he
    · have := goodVote_j hx hy hlt e hne
      rw [votesOk_good h k (List.getElem?_eq_some_iff.1 hx).1] at this
      cases this
    · exact he
  · subst heq; rw [hx] at hy; cases hy; rfl
  · rcases Int.decEq x.value y.value with hne | he
    · have := goodVote_j hy hx hgt e.symm hne
      rw [votesOk_good h j (List.getElem?_eq_some_iff.1 hy).1] at this
      cases this
    · exact he.symm
theorem votesOk_at {xs : List Vote} {k : Nat} {x : Vote} (h : votesOk xs = true) (hx : xs[k]? = some x) : (0 ≤ x.ballot ∧ x.ballot ≤ 50) ∧ (0 ≤ x.value ∧ x.value ≤ 99) := by
  have h1 := votesOk_good h k (List.getElem?_eq_some_iff.1 hx).1
  simp only [goodVote, hx, Bool.and_eq_true, inB_true] at h1
  exact ⟨h1.1, h1.2.1⟩
theorem votesOk_len {xs : List Vote} (h : votesOk xs = true) : 1 ≤ xs.length ∧ xs.length ≤ 7 := by
  rw [votesOk, Bool.and_eq_true, inB_true] at h
  omega
theorem chosen_first {xs : List Vote} (h : votesOk xs = true) {k : Nat} {x : Vote} (hx : xs[k]? = some x) (hp : majB xs x = true) (hn : ∀ i y, i < k → xs[i]? = some y → majB xs y = false) : chosenB xs = (x.value, true) := by
  have : xs.find? (majB xs) = some x := by
    obtain ⟨hk, rfl⟩ := List.getElem?_eq_some_iff.1 hx
    rw [List.find?_eq_some_iff_getElem]
    exact ⟨hp, k, hk, rfl, fun j hj => by simp [hn j xs[j] hj (List.getElem?_eq_getElem (by omega))]⟩
  rw [chosenB, if_pos h, this]
theorem chosen_none {xs : List Vote} (hn : ∀ i y, i < xs.length → xs[i]? = some y → majB xs y = false) : chosenB xs = (0, false) := by
  have : xs.find? (majB xs) = none := by
    rw [List.find?_eq_none]
    intro x hx
    obtain ⟨i, hi⟩ := List.getElem?_of_mem hx
    rw [hn i x (List.getElem?_eq_some_iff.1 hi).1 hi]
    simp
  rw [chosenB, this]
  split <;> rfl
theorem chosen_any {xs : List Vote} (h : votesOk xs = true) {k : Nat} {x : Vote} (hx : xs[k]? = some x) (h0 : x.ballot ≠ 0) (hm : xs.length < 2 * cntTo xs x.ballot (k + 1)) : chosenB xs = (x.value, true) := by
  have hk := (List.getElem?_eq_some_iff.1 hx).1
  have hb := (votesOk_at h hx).1
  have hx' : majB xs x = true := by
    have := cntTo_mono (xs := xs) (b := x.ballot) (show k + 1 ≤ xs.length by omega)
    simp [majB]; omega
  cases hf : xs.find? (majB xs) with
  | none =>
    have := List.find?_eq_none.1 hf x (List.mem_of_getElem? hx)
    exact absurd hx' this
  | some y =>
    have hy := List.find?_some hf
    obtain ⟨j, hj⟩ := List.getElem?_of_mem (List.mem_of_find?_eq_some hf)
    have he : y.ballot = x.ballot := by
      rcases Int.decEq y.ballot x.ballot with hne | he
      · have := cntTo_two (xs := xs) hne xs.length
        simp [majB] at hy hx'
        omega
      · exact he
    rw [chosenB, if_pos h, hf]
    simp only
    rw [goodVote_agree h hx hj he]
theorem chosen_end {xs : List Vote} (hn : ∀ i x, i < xs.length → xs[i]? = some x → x.ballot ≠ 0 → 2 * cntTo xs x.ballot (i + 1) ≤ xs.length) : chosenB xs = (0, false) := by
  have key : ∀ b : Int, b ≠ 0 → ∀ k, k ≤ xs.length → 2 * cntTo xs b k ≤ xs.length := fun b hb k => by
    induction k with
    | zero => intro _; simp [cntTo]
    | succ k ih =>
      intro hk
      obtain ⟨x, hx⟩ := at_some (show k < xs.length by omega)
      by_cases e : x.ballot = b
      · rw [← e]; exact hn k x (by omega) hx (fun e' => hb (e.symm.trans e'))
      · rw [cntTo_no hx e]; exact ih (by omega)
  refine chosen_none (fun i y hi hy => ?_)
  by_cases e : y.ballot = 0
  · simp [majB, e]
  · have := key y.ballot e xs.length (Nat.le_refl _)
    simp [majB]; intros; omega
theorem ret_pair {a b : Int} {c d : Bool} (h : (a, c) = (b, d)) : Ending.returned (.tuple #[.int .i64 a, .bool c]) = .returned (.tuple #[.int .i64 b, .bool d]) := by cases h; rfl

set_option maxRecDepth 8000 in
set_option maxHeartbeats 2000000 in
theorem impl_ChosenValue {v : Value} {xs : List Vote} (w : World) (h : SlOf 2 encVote w v xs) (hlen : xs.length ≤ 2097152) :
    Calls Tryd.prog 23 #[v] w fun e w' => e = .returned (.tuple #[.int .i64 (chosenB xs).1, .bool (chosenB xs).2]) ∧ Ext w w' := by
  have H := Lib.hid h
  obtain ⟨A, c, rfl, h⟩ := h
  by_cases hv : votesOk xs = true
  case neg =>
    have hf := Lib.hid (chosen_not hv)
    simp only [Bool.not_eq_true] at hv
    go_enter Tryd.func23, Tryd.ntmps23
    go_wp2_with fail
    refine (impl_VotesValid _ H.out hlen).mono ?_
    rintro e w1 ⟨rfl, b1⟩
    go_wp2
    go_returns
    exact ⟨ret_pair hf.out.symm, b1⟩
  have hl7 := votesOk_len hv
  have hmm := @run_makeMap Tryd.prog
  have HK : Hid (Tryd.prog.underlying 3 = some (.int .i64)) := Tryd.underlying3
  have Hz : Hid (∀ w, (zeroValue 3).run Tryd.prog w = .ok (.int .i64 0) w) := fun w => by kernel_rfl
  go_enter Tryd.func23, Tryd.ntmps23
  go_wp2_with fail
  refine (impl_VotesValid _ H.out hlen).mono ?_
  rw [hv]
  rintro e w1 ⟨rfl, b1⟩
  go_wp2
  go_loopw [13] (fun i wr => Ext w1 wr ∧ w1.heap.size < wr.heap.size ∧ ∃ k : Nat, k ≤ xs.length ∧ i = .int .i64 k ∧ Hid (∀ i x, i < k → xs[i]? = some x → x.ballot ≠ 0 → 2 * cntTo xs x.ballot (i + 1) ≤ xs.length) ∧ Hid (∃ m, MapFn wr w1.heap.size m ∧ ∀ b, (m b).getD 0 = (cntTo xs b k : Int))) (fun i _ => xs.length - (intOf i).toNat)
  case atStart => exact ⟨(Ext.refl _).alloc _, by simp, 0, Nat.zero_le _, rfl, fun _ _ h => absurd h (Nat.not_lt_zero _), _, MapFn.made w1, fun b => rfl⟩
  case round =>
    clear hmm
    obtain ⟨hb, hgs, k, hk, rfl, HG, HM⟩ := hrel
    by_cases hlt : k < xs.length
    · obtain ⟨b, off, rfl, hbl, hc⟩ := h (by omega)
      obtain ⟨x, hx⟩ := at_some hlt
      have c0 : wr.cell? ⟨b, off + k * 2, none⟩ = some (.int .i64 x.ballot) := hb.cell (b1.cell (hc k x hx 0 (by omega)))
      have c1 : wr.cell? ⟨b, off + k * 2 + 1, none⟩ = some (.int .i64 x.value) := hb.cell (b1.cell (hc k x hx 1 (by omega)))
      have Hx := Lib.hid hx
      clear h hc hx
      obtain ⟨m, hm, hI⟩ := HM.out
      have hme := hm.ext ((Ext.refl wr).alloc (.cells #[.int .i64 x.ballot, .int .i64 x.value] 45))
      have hlk := run_lookup1_fn (P := Tryd.prog) (T := 75) Tryd.underlying75 HK.out Hz.out hme x.ballot
      rw [hI] at hlk
      have hcl := cntTo_le (xs := xs) (b := x.ballot) k
      obtain ⟨n, hn⟩ : ∃ n, n = cntTo xs x.ballot k := ⟨_, rfl⟩
      rw [← hn] at hlk hcl
      obtain ⟨o, hup, hm2⟩ := run_update_fn (P := Tryd.prog) (T := 75) Tryd.underlying75 HK.out hme x.ballot ((n : Int) + 1)
      have hlk2 := run_lookup1_fn (P := Tryd.prog) (T := 75) Tryd.underlying75 HK.out Hz.out hm2 x.ballot
      simp only [if_true, Option.getD_some] at hlk2
      have g0 : (setMap (wr.alloc (.cells #[.int .i64 x.ballot, .int .i64 x.value] 45)) w1.heap.size o).cell? ⟨wr.heap.size, 0, none⟩ = some (.int .i64 x.ballot) := by
        rw [setMap_cell (by simp; omega)]; go_cell
      have g1 : (setMap (wr.alloc (.cells #[.int .i64 x.ballot, .int .i64 x.value] 45)) w1.heap.size o).cell? ⟨wr.heap.size, 1, none⟩ = some (.int .i64 x.value) := by
        rw [setMap_cell (by simp; omega)]; go_cell
      have HI := Lib.hid hI
      have Hm2 := Lib.hid hm2
      have Hn := Lib.hid hn
      have hsn := Lib.hid (cntTo_yes Hx.out rfl)
      have hnext : Hid (∃ m', MapFn (setMap (wr.alloc (.cells #[.int .i64 x.ballot, .int .i64 x.value] 45)) w1.heap.size o) w1.heap.size m' ∧ ∀ b, (m' b).getD 0 = (cntTo xs b (k + 1) : Int)) :=
        ⟨_, Hm2.out, fun b => by
          show (if b = x.ballot then some ((n : Int) + 1) else m b).getD 0 = _
          by_cases e : b = x.ballot
          · rw [if_pos e, e, hsn.out, ← Hn.out]; simp
          · rw [if_neg e, cntTo_no Hx.out (fun e' => e e'.symm)]; exact HI.out b⟩
      clear hI hm hme hm2 hn
      by_cases h0 : x.ballot = 0
      · have h0' : (x.ballot != 0) = false := by simp [h0]
        have H0 := Lib.hid h0
        clear h0
        go_wp2
        go_roundw
        case rel => exact ⟨(hb.alloc _).setMap (Nat.le_refl _) _, by simp [setMap]; omega, k + 1, by omega, by go_num, fun i z hi hz hz0 => if e : i = k then by subst e; rw [Hx.out] at hz; cases hz; exact absurd H0.out hz0 else HG.out i z (by omega) hz hz0, hnext⟩
        case measure => simp [intOf]; omega
      · have h0' : (x.ballot != 0) = true := by simp [h0]
        have H0 := Lib.hid h0
        clear h0
        by_cases hmj : xs.length < 2 * (n + 1)
        · have hr := Lib.hid (chosen_any hv Hx.out H0.out (by rw [hsn.out, ← Hn.out]; exact hmj))
          go_wp2
          go_returns
          exact ⟨ret_pair hr.out.symm, b1.trans ((hb.alloc _).setMap (Nat.le_refl _) _)⟩
        · have hmj' : 2 * (n + 1) ≤ xs.length := by omega
          clear hmj
          go_wp2
          go_roundw
          case rel => exact ⟨(hb.alloc _).setMap (Nat.le_refl _) _, by simp [setMap]; omega, k + 1, by omega, by go_num, fun i z hi hz hz0 => if e : i = k then by subst e; rw [Hx.out] at hz; cases hz; rw [hsn.out, ← Hn.out]; exact hmj' else HG.out i z (by omega) hz hz0, hnext⟩
          case measure => simp [intOf]; omega
    · have hr := Lib.hid (chosen_end (fun i x hi hx => HG.out i x (by omega) hx))
      go_wp2
      go_returns
      exact ⟨ret_pair hr.out.symm, b1.trans hb⟩
end Go.Proofs.YtiakkgpkkpaldaaDoor
