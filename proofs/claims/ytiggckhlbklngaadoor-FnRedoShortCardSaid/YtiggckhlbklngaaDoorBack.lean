/- The library's iterator over a list of records from its end on. -/
import Derived.Test.YtiggckhlbklngaaDoorRFun
import Derived.Test.YtiggckhlbklngaaDoorLeaf
import Derived.Test.YtiggckhlbklngaaDoorTypes
namespace Go.Proofs.YtiggckhlbklngaaDoor
open Go.RowKit
attribute [local go_sem] Oper.semAt_some

/-- A place of the list and what stands there. -/
abbrev At (xs : List Redo) := {p : Nat × Redo // xs[p.1]? = some p.2}
theorem at_next {xs : List Redo} {p : Nat} {x : Redo} (hx : xs[p]? = some x) {pre : List (At xs)} (h : pre.map (·.1.2) = (xs.drop (p + 1)).reverse) : (pre ++ [(⟨(p, x), hx⟩ : At xs)]).map (·.1.2) = (xs.drop p).reverse := by
  obtain ⟨hp, rfl⟩ := List.getElem?_eq_some_iff.1 hx
  rw [List.map_append, h, List.drop_eq_getElem_cons hp, List.reverse_cons]; rfl
theorem at_len {xs : List Redo} {m : Nat} {pre : List (At xs)} (h : pre.map (·.1.2) = (xs.drop m).reverse) : pre.length = xs.length - m := by
  have := congrArg List.length h
  simpa using this

set_option maxRecDepth 100000 in
set_option maxHeartbeats 2000000 in
theorem back1_in (n : Nat) (hn : 1 ≤ n) (l B n₀ cap : Nat) (A : Option Addr) (xs : List Redo) (b off : Nat) (hA : 0 < xs.length → A = some ⟨b, off, none⟩) (hb : 0 < xs.length → b < n₀) (hlen : xs.length ≤ 2097152) (J Jx : List (At xs) → World → Prop)
    (hY : ∀ pre x W, J pre W → pre.length < xs.length → YieldAt Fence.wide (n - 1) Tryd.prog l #[.int .i64 (x.1.1 : Int), .agg #[.int .i64 x.1.2.who, .int .i64 x.1.2.key, .int .i64 x.1.2.value]] W fun e W' =>
      (e = .returned (.bool true) ∧ J (pre ++ [x]) W' ∧ KeepAt n₀ B (B + 1) W W') ∨ (e = .returned (.bool false) ∧ Jx (pre ++ [x]) W'))
    (W : World) (hBs : W.cell? ⟨B, 0, none⟩ = some (.slice A xs.length cap)) (hc : ∀ i x, xs[i]? = some x → ∀ j, j < 3 → W.cell? ⟨b, off + i * 3 + j, none⟩ = some (encRedo x j)) (h0 : J [] W) :
    CallsIn Fence.wide n Tryd.prog 70 #[.func (.yield l) #[] #[], .pointer (some ⟨B, 0, none⟩)] W fun e W' => (∃ v, e = .returned v) ∧
      ((∃ ys : List (At xs), ys.map (·.1.2) = xs.reverse ∧ J ys W') ∨ (∃ pre : List (At xs), True ∧ Jx pre W')) := by
  refine callsIn_of_wp Tryd.func70 rfl trivial ?_ rfl
  simp only [Tryd.ntmps70, List.size_toArray, List.length_cons, List.length_nil, Nat.reduceAdd, Nat.reduceSub, Array.replicate_succ, Array.replicate_zero, List.push_toArray, List.append_toArray, List.nil_append, List.cons_append]
  have HC := Lib.hid hc
  clear hc
  gi_wp2
  gi_loopw [3] (fun i wr => ∃ (m : Nat) (pre : List (At xs)), m ≤ xs.length ∧ i = .int .i64 ((m : Int) - 1) ∧ Hid (pre.map (·.1.2) = (xs.drop m).reverse) ∧ Hid (J pre wr) ∧ wr.cell? ⟨B, 0, none⟩ = some (.slice A xs.length cap) ∧ Hid (Below n₀ W wr))
    (fun i _ => (intOf i + 1).toNat)
  case atStart => exact ⟨xs.length, [], Nat.le_refl _, rfl, by show _ = _; simp, h0, hBs, Below.refl _ _⟩
  case round =>
    obtain ⟨m, pre, hm, rfl, hpre, hJ, cs, HB⟩ := hrel
    cases m with
    | zero =>
      have HP := Lib.hid (show pre.map (·.1.2) = xs.reverse by rw [hpre.out]; simp)
      gi_wp2
      go_end0
      exact ⟨⟨_, rfl⟩, .inl ⟨_, HP.out, hJ.out⟩⟩
    | succ p =>
      obtain rfl := hA (by omega)
      replace hb := hb (by omega)
      obtain ⟨x, hx⟩ := at_some (show p < xs.length by omega)
      obtain ⟨fn, tmps, assign, body, hy, hR⟩ := hY pre ⟨(p, x), hx⟩ wr hJ.out (by rw [at_len hpre.out]; omega)
      dsimp only at hy
      have c0 : wr.cell? ⟨b, off + p * 3, none⟩ = some (.int .i64 x.who) := (HB.out.cell (p := ⟨b, off + p * 3, none⟩) hb).trans (HC.out p x hx 0 (by omega))
      have c1 : wr.cell? ⟨b, off + p * 3 + 1, none⟩ = some (.int .i64 x.key) := (HB.out.cell (p := ⟨b, off + p * 3 + 1, none⟩) hb).trans (HC.out p x hx 1 (by omega))
      have c2 : wr.cell? ⟨b, off + p * 3 + 2, none⟩ = some (.int .i64 x.value) := (HB.out.cell (p := ⟨b, off + p * 3 + 2, none⟩) hb).trans (HC.out p x hx 2 (by omega))
      have HX := Lib.hid hx
      have hpi : (((p + 1 : Nat) : Int) - 1) = (p : Int) := by omega
      rw [hpi]
      clear hpi
      have hpl : p < xs.length := by omega
      gi_wp2
      refine hR.mono ?_
      rintro e W3 (⟨rfl, hJ3, hk3⟩ | ⟨rfl, hJx3⟩)
      · have cs3 := (hk3.cell (p := ⟨B, 0, none⟩) (by simp) (by simp)).trans cs
        have HJ3 := Lib.hid hJ3
        have HB3 := Lib.hid (HB.out.trans hk3.1)
        clear hJ3 hk3 hR hy cs c0 c1 c2
        gi_wp2
        go_roundw
        case rel => exact ⟨p, _, by omega, rfl, at_next HX.out hpre.out, HJ3, cs3, HB3⟩
        case measure => simp [intOf]
      · gi_wp2
        refine bodyPost_ret (results_none rfl _ _ _) rfl ?_
        exact ⟨⟨_, rfl⟩, .inr ⟨_, trivial, hJx3⟩⟩
/-- slices.Backward(s): the list is boxed, the function value captures the box. -/
theorem back_any (A : Option Addr) (n c : Nat) (w : World) :
    Calls Tryd.prog 51 #[.slice A n c] w fun e w' => e = .returned (.func (.func 70) #[] #[.pointer (some ⟨w.heap.size, 0, none⟩)]) ∧
      w' = w.alloc (.cells #[.slice A n c] 29) := by
  go_enter Tryd.func51, Tryd.ntmps51
  go_wp2
  go_returns
  exact ⟨rfl, rfl⟩
theorem back_stops (n : Nat) (hn : 1 ≤ n) (B n₀ cap : Nat) (A : Option Addr) (xs : List Redo) (b off : Nat) (hA : 0 < xs.length → A = some ⟨b, off, none⟩) (hb : 0 < xs.length → b < n₀) (hlen : xs.length ≤ 2097152) (w : World) (hn₀ : n₀ ≤ w.heap.size) (hB : B < w.heap.size)
    (hBs : w.cell? ⟨B, 0, none⟩ = some (.slice A xs.length cap)) (hc : ∀ i x, xs[i]? = some x → ∀ j, j < 3 → w.cell? ⟨b, off + i * 3 + j, none⟩ = some (encRedo x j)) :
    SeqStopsK Fence.wide n Tryd.prog 70 #[.pointer (some ⟨B, 0, none⟩)] (fun x : At xs => #[Value.int .i64 (x.1.1 : Int), .agg #[.int .i64 x.1.2.who, .int .i64 x.1.2.key, .int .i64 x.1.2.value]]) (KeepAt n₀ B (B + 1))
      (fun ys => ys.map (·.1.2) = xs.reverse) (fun _ => True) xs.length w := fun l J Jx W hW hJ _ hY h0 => by
  exact back1_in n hn l B n₀ cap A xs b off hA hb hlen J Jx hY W
    ((hW.cell (p := ⟨B, 0, none⟩) hB).trans hBs) (fun i x hx j hj => (hW.cell (p := ⟨b, off + i * 3 + j, none⟩) (by have := hb (by have := (List.getElem?_eq_some_iff.1 hx).1; omega); simp; omega)).trans (hc i x hx j hj)) h0
end Go.Proofs.YtiggckhlbklngaaDoor
