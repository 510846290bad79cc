/- The library's copy of a list of numbers that is sorted: Values, Collect, Sort, Sorted. -/
import Derived.Test.YtiggckhlbklngaaDoorRFun
import Derived.Test.YtiggckhlbklngaaDoorSortI
namespace Go.Proofs.YtiggckhlbklngaaDoor
open Go.RowKit
set_option maxRecDepth 8000
attribute [local go_sem] Oper.semAt_some

theorem len64_any (n : Nat) (hn : n ≤ 7) (w : World) : Calls Tryd.prog 101 #[.int .u64 (n : Int)] w fun e w' => (∃ k : Int, e = .returned (.int .i64 k)) ∧ w = w' := by
  match n, hn with
  | 0, _ | 1, _ | 2, _ | 3, _ | 4, _ | 5, _ | 6, _ | 7, _ =>
    go_enter Tryd.func101, Tryd.ntmps101
    go_wp2
    go_returns
    exact ⟨⟨_, rfl⟩, rfl⟩
theorem lenBits_any (n : Nat) (hn : n ≤ 7) (w : World) : Calls Tryd.prog 84 #[.int .u64 (n : Int)] w fun e w' => (∃ k : Int, e = .returned (.int .i64 k)) ∧ w = w' := by
  go_enter Tryd.func84, Tryd.ntmps84
  go_wp2_with (go_at_call 101; refine (len64_any n hn _).mono ?_; rintro e w' ⟨⟨k, rfl⟩, rfl⟩)
  go_returns
  exact ⟨⟨_, rfl⟩, rfl⟩
theorem pdqI_any {A : Option Addr} {c n : Nat} {xs : List Int} {lo : Nat} (k : Int) (w : World) (h : Sl1 encI w (.slice A n c) xs) (ho : Own lo w (.slice A n c)) (hlen : n ≤ 7) :
    Calls Tryd.prog 83 #[.slice A n c, .int .i64 0, .int .i64 (n : Int), .int .i64 k] w fun e w' => e = .returned (.tuple #[]) ∧ ∃ ys, ys.Perm xs ∧ ys.Pairwise (· ≤ ·) ∧ Sl1 encI w' (.slice A n c) ys ∧ Only (.slice A n c) w w' := by
  have H := Lib.hid h
  have HO := Lib.hid ho
  clear h ho
  go_enter Tryd.func83, Tryd.ntmps83
  go_wp2
  go_loopw [1, 2] (fun a b wr => a = .int .i64 0 ∧ b = .int .i64 (n : Int) ∧ wr = w) (fun _ _ _ => 0)
  case atStart => exact ⟨rfl, rfl, rfl⟩
  case round =>
    obtain ⟨rfl, rfl, rfl⟩ := hrel
    go_wp2_with fail
    refine (insertI_any _ H.out HO.out (by omega)).mono ?_
    rintro e w1 ⟨rfl, HY⟩
    have HYY := Lib.hid HY
    clear HY
    go_wp2
    go_returns
    exact ⟨rfl, HYY.out⟩
theorem sortI_any {A : Option Addr} {c n : Nat} {xs : List Int} {lo : Nat} (w : World) (h : Sl1 encI w (.slice A n c) xs) (ho : Own lo w (.slice A n c)) (hlen : n ≤ 7) :
    Calls Tryd.prog 72 #[.slice A n c] w fun e w' => e = .returned (.tuple #[]) ∧ ∃ ys, ys.Perm xs ∧ ys.Pairwise (· ≤ ·) ∧ Sl1 encI w' (.slice A n c) ys ∧ Only (.slice A n c) w w' := by
  have H := Lib.hid h
  have HO := Lib.hid ho
  clear h ho
  go_enter Tryd.func72, Tryd.ntmps72
  go_wp2_with fail
  refine (lenBits_any n hlen _).mono ?_
  rintro e w1 ⟨⟨k, rfl⟩, rfl⟩
  go_wp2_with fail
  refine (pdqI_any k _ H.out HO.out hlen).mono ?_
  rintro e w1 ⟨rfl, HY⟩
  have HYY := Lib.hid HY
  clear HY
  go_wp2
  go_returns
  exact ⟨rfl, HYY.out⟩
set_option maxHeartbeats 2000000 in
theorem values1_in (n : Nat) (hn : 1 ≤ n) (l B n₀ cap : Nat) (A : Option Addr) (xs : List Int) (b off : Nat) (hA : 0 < xs.length → A = some ⟨b, off, none⟩) (hb : 0 < xs.length → b < n₀) (hlen : xs.length ≤ 2097152) (J Jx : List Int → World → Prop)
    (hY : ∀ pre x W, J pre W → pre.length < xs.length → YieldAt Fence.wide (n - 1) Tryd.prog l #[.int .i64 x] W fun e W' =>
      (e = .returned (.bool true) ∧ J (pre ++ [x]) W' ∧ Below n₀ W W') ∨ (e = .returned (.bool false) ∧ Jx (pre ++ [x]) W'))
    (W : World) (hBs : W.cell? ⟨B, 0, none⟩ = some (.slice A xs.length cap)) (hc : ∀ i x, xs[i]? = some x → W.cell? ⟨b, off + i, none⟩ = some (encI x)) (h0 : J [] W) :
    CallsIn Fence.wide n Tryd.prog 73 #[.func (.yield l) #[] #[], .pointer (some ⟨B, 0, none⟩)] W fun e W' => (∃ v, e = .returned v) ∧
      ((∃ ys, ys = xs ∧ J ys W') ∨ (∃ pre : List Int, True ∧ Jx pre W')) := by
  refine callsIn_of_wp Tryd.func73 rfl trivial ?_ rfl
  simp only [Tryd.ntmps73, List.size_toArray, List.length_cons, List.length_nil, Nat.reduceAdd, Nat.reduceSub, Array.replicate_succ, Array.replicate_zero, List.push_toArray, List.append_toArray, List.nil_append, List.cons_append]
  have HC := Lib.hid hc
  clear hc
  gi_wp2
  gi_loopw [7] (fun i wr => ∃ k : Nat, k ≤ xs.length ∧ i = .int .i64 (k : Int) ∧ Hid (J (xs.take k) wr) ∧ Hid (Below n₀ W wr)) (fun i _ => xs.length - (intOf i).toNat)
  case atStart => exact ⟨0, Nat.zero_le _, rfl, h0, Below.refl _ _⟩
  case round =>
    obtain ⟨k, hk, rfl, hJ, HB⟩ := hrel
    by_cases hlt : k < xs.length
    · obtain rfl := hA (by omega)
      replace hb := hb (by omega)
      obtain ⟨x, hx⟩ := at_some hlt
      have hn1 : (xs.take k).length < xs.length := by rw [List.length_take]; omega
      obtain ⟨fn, tmps, assign, body, hy, hR⟩ := hY _ x wr hJ.out hn1
      have c0 : wr.cell? ⟨b, off + k, none⟩ = some (.int .i64 x) := (HB.out.cell (p := ⟨b, off + k, none⟩) hb).trans (HC.out k x hx)
      have HX := Lib.hid hx
      clear hx hn1
      gi_wp2
      refine hR.mono ?_
      rintro e W3 (⟨rfl, hJ3, hk3⟩ | ⟨rfl, hJx3⟩)
      · have HJ3 : Hid (J (xs.take (k + 1)) W3) := by
          show J _ _
          rw [List.take_add_one, HX.out]
          exact hJ3
        have HB3 := Lib.hid (HB.out.trans hk3)
        clear hJ3 hk3 hR hy c0
        gi_wp2
        go_roundw
        case rel => exact ⟨k + 1, by omega, by go_num, HJ3, HB3⟩
        case measure => simp [intOf]; omega
      · gi_wp2
        refine bodyPost_ret (results_none rfl _ _ _) rfl ?_
        exact ⟨⟨_, rfl⟩, .inr ⟨_, trivial, hJx3⟩⟩
    · obtain rfl : k = xs.length := by omega
      have HE : Hid (J xs wr) := by
        have := hJ.out
        rwa [List.take_length] at this
      gi_wp2
      go_end0
      exact ⟨⟨_, rfl⟩, .inl ⟨_, rfl, HE.out⟩⟩
theorem values_any (A : Option Addr) (n c : Nat) (w : World) :
    Calls Tryd.prog 56 #[.slice A n c] w fun e w' => e = .returned (.func (.func 73) #[] #[.pointer (some ⟨w.heap.size, 0, none⟩)]) ∧ w' = w.alloc (.cells #[.slice A n c] 23) := by
  go_enter Tryd.func56, Tryd.ntmps56
  go_wp2
  go_returns
  exact ⟨rfl, rfl⟩
/-- The iterator over the numbers of a list, from a world on. -/
def ValSeq (n₀ B : Nat) (xs : List Int) (w : World) : Prop :=
  SeqStopsK Fence.wide 8 Tryd.prog 73 #[.pointer (some ⟨B, 0, none⟩)] (fun x : Int => #[Value.int .i64 x]) (Below n₀) (fun ys => ys = xs) (fun _ => True) xs.length w
theorem values_stops (B n₀ cap : Nat) (A : Option Addr) (xs : List Int) (w : World) (hB : B < w.heap.size) (hlen : xs.length ≤ 2097152)
    (hBs : w.cell? ⟨B, 0, none⟩ = some (.slice A xs.length cap)) (b off : Nat) (hA : 0 < xs.length → A = some ⟨b, off, none⟩) (hb : 0 < xs.length → b < n₀) (hn₀ : n₀ ≤ w.heap.size) (hc : ∀ i x, xs[i]? = some x → w.cell? ⟨b, off + i, none⟩ = some (encI x)) : ValSeq n₀ B xs w := fun l J Jx W hW _ _ hY h0 =>
  values1_in 8 (by omega) l B n₀ cap A xs b off hA hb hlen J Jx hY W ((hW.cell (p := ⟨B, 0, none⟩) hB).trans hBs)
    (fun i x hx => (hW.cell (p := ⟨b, off + i, none⟩) (by have := hb (by have := (List.getElem?_eq_some_iff.1 hx).1; omega); simp; omega)).trans (hc i x hx)) h0
end Go.Proofs.YtiggckhlbklngaaDoor
