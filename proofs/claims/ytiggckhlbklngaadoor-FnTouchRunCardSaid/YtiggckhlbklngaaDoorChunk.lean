/- The library's iterator over parts of a list, at parts of three. -/
import Derived.Test.YtiggckhlbklngaaDoorRFun
import Derived.Test.YtiggckhlbklngaaDoorLeaf
namespace Go.Proofs.YtiggckhlbklngaaDoor
open Go.RowKit
attribute [local go_sem] Oper.semAt_some

/-- A place that has two more behind it. -/
abbrev Plc (L : Nat) := {s : Nat // s % 3 = 0 ∧ s + 2 < L}
theorem plcs_next {L k : Nat} {pre : List (Plc L)} (h : pre.map (·.1) = (List.range k).map (3 * ·)) (hp : 3 * k % 3 = 0 ∧ 3 * k + 2 < L) : (pre ++ [(⟨3 * k, hp⟩ : Plc L)]).map (·.1) = (List.range (k + 1)).map (3 * ·) := by
  rw [List.map_append, h, List.range_succ, List.map_append]; rfl
theorem plcs_len {L k : Nat} {pre : List (Plc L)} (h : pre.map (·.1) = (List.range k).map (3 * ·)) : pre.length = k := by
  have := congrArg List.length h
  simpa using this

set_option maxRecDepth 100000 in
set_option maxHeartbeats 2000000 in
theorem chunk1_in (n : Nat) (hn : 1 ≤ n) (l B n₀ L cap m : Nat) (A : Option Addr) (b off : Nat) (hA : 0 < L → A = some ⟨b, off, none⟩) (hL : L = 3 * m) (hcap : L ≤ cap) (hreach : L ≤ 60) (J Jx : List (Plc L) → World → Prop) (hJd : ∀ pre W k, J pre W → J pre (W.drewN k))
    (hY : ∀ pre x W, J pre W → pre.length < m → YieldAt Fence.wide (n - 1) Tryd.prog l #[.slice (some ⟨b, off + x.1, none⟩) 3 3] W fun e W' =>
      (e = .returned (.bool true) ∧ J (pre ++ [x]) W' ∧ KeepAt n₀ B (B + 2) W W') ∨ (e = .returned (.bool false) ∧ Jx (pre ++ [x]) W'))
    (W : World) (hBs : W.cell? ⟨B, 0, none⟩ = some (.slice A L cap)) (hBn : W.cell? ⟨B + 1, 0, none⟩ = some (.int .i64 3)) (h0 : J [] W) :
    CallsIn Fence.wide n Tryd.prog 64 #[.func (.yield l) #[] #[], .pointer (some ⟨B, 0, none⟩), .pointer (some ⟨B + 1, 0, none⟩)] W fun e W' => (∃ v, e = .returned v) ∧
      ((∃ ys : List (Plc L), ys.map (·.1) = (List.range m).map (3 * ·) ∧ J ys W') ∨ (∃ pre : List (Plc L), True ∧ Jx pre W')) := by
  refine callsIn_of_wp Tryd.func64 rfl trivial ?_ rfl
  simp only [Tryd.ntmps64, List.size_toArray, List.length_cons, List.length_nil, Nat.reduceAdd, Nat.reduceSub, Array.replicate_succ, Array.replicate_zero, List.push_toArray, List.append_toArray, List.nil_append, List.cons_append]
  have HL := Lib.hid hL
  clear hL
  gi_wp2
  gi_loopw [4, 5] (fun i _ wr => ∃ (k : Nat) (pre : List (Plc L)), k ≤ m ∧ i = .int .i64 ((3 * k : Nat) : Int) ∧ Hid (pre.map (·.1) = (List.range k).map (3 * ·)) ∧ Hid (J pre wr) ∧ wr.cell? ⟨B, 0, none⟩ = some (.slice A L cap) ∧ wr.cell? ⟨B + 1, 0, none⟩ = some (.int .i64 3))
    (fun i _ _ => L - (intOf i).toNat)
  case atStart => exact ⟨0, [], Nat.zero_le _, rfl, rfl, h0, hBs, hBn⟩
  case round =>
    obtain ⟨k, pre, hk, rfl, hpre, hJ, cs, cn⟩ := hrel
    have hL := HL.out
    by_cases hlt : k < m
    · obtain rfl := hA (by omega)
      obtain ⟨⟨s, hp⟩, hx⟩ : ∃ x : Plc L, 3 * k = x.1 := ⟨⟨3 * k, by omega, by omega⟩, rfl⟩
      dsimp only at hx
      have Hs := Lib.hid hx
      have hs1 : s < L := by omega
      have hs3 : s + 3 ≤ L := by omega
      rw [hx]
      clear hx hL
      have hmx : Tryd.prog.follows .mixedOrders = true := by kernel_rfl
      have hcs : s < cap := by omega
      have hne : ¬ cap = s := by omega
      have h3 : (3 : Int) ≤ (L : Int) - s := by omega
      gi_wp2
      gi_big_quiet_th (fail)
      obtain ⟨fn, tmps, assign, body, hy, hR⟩ := hY pre ⟨s, hp⟩ (wr.drewN nq) (hJd _ _ _ hJ.out) (by rw [plcs_len hpre.out]; exact hlt)
      dsimp only at hy
      have cs' : (wr.drewN nq).cell? ⟨B, 0, none⟩ = some (.slice (some ⟨b, off, none⟩) L cap) := cs
      have cn' : (wr.drewN nq).cell? ⟨B + 1, 0, none⟩ = some (.int .i64 3) := cn
      obtain ⟨W2, hW2⟩ : ∃ W2, wr.drewN nq = W2 := ⟨_, rfl⟩
      rw [hW2] at hy hR cs' cn' ⊢
      clear hW2 cs cn hmx hBs hBn
      gi_wp2
      refine hR.mono ?_
      rintro e W3 (⟨rfl, hJ3, hk3⟩ | ⟨rfl, hJx3⟩)
      · have cs3 := (hk3.cell (p := ⟨B, 0, none⟩) (by simp) (by simp)).trans cs'
        have cn3 := (hk3.cell (p := ⟨B + 1, 0, none⟩) (by simp) (by simp)).trans cn'
        have HJ3 := Lib.hid hJ3
        clear hJ3 hk3 hR hy cs' cn'
        gi_wp2
        go_roundw
        case rel => exact ⟨k + 1, pre ++ [⟨s, hp⟩], by omega, by have := Hs.out; go_num, by
          obtain rfl := Hs.out
          exact plcs_next hpre.out hp, HJ3, cs3, cn3⟩
        case measure => simp [intOf]; omega
      · gi_wp2
        refine bodyPost_ret (results_none rfl _ _ _) rfl ?_
        exact ⟨⟨_, rfl⟩, .inr ⟨_, trivial, hJx3⟩⟩
    · obtain rfl : k = m := by omega
      have hLk : L = 3 * k := hL
      have hLi : ¬ ((3 * k : Nat) : Int) < (L : Int) := by omega
      have HH := Lib.hid hL
      clear hL
      gi_wp2
      go_end0
      exact ⟨⟨_, rfl⟩, .inl ⟨_, hpre.out, hJ.out⟩⟩

/-- slices.Chunk(s, 3): list and length are boxed, the function value captures the boxes. -/
theorem chunk_any (A : Option Addr) (n c : Nat) (w : World) :
    Calls Tryd.prog 34 #[.slice A n c, .int .i64 3] w fun e w' => e = .returned (.func (.func 64) #[] #[.pointer (some ⟨w.heap.size, 0, none⟩), .pointer (some ⟨w.heap.size + 1, 0, none⟩)]) ∧
      w' = (w.alloc (.cells #[.slice A n c] 23)).alloc (.cells #[.int .i64 3] 3) := by
  go_enter Tryd.func34, Tryd.ntmps34
  go_wp2
  go_returns
  exact ⟨rfl, rfl⟩
theorem chunk_stops (n : Nat) (hn : 1 ≤ n) (B n₀ L cap m : Nat) (A : Option Addr) (b off : Nat) (hA : 0 < L → A = some ⟨b, off, none⟩) (hL : L = 3 * m) (hcap : L ≤ cap) (hreach : L ≤ 60) (w : World) (hB : B + 1 < w.heap.size)
    (hBs : w.cell? ⟨B, 0, none⟩ = some (.slice A L cap)) (hBn : w.cell? ⟨B + 1, 0, none⟩ = some (.int .i64 3)) :
    SeqStopsK Fence.wide n Tryd.prog 64 #[.pointer (some ⟨B, 0, none⟩), .pointer (some ⟨B + 1, 0, none⟩)] (fun x : Plc L => #[Value.slice (some ⟨b, off + x.1, none⟩) 3 3]) (KeepAt n₀ B (B + 2))
      (fun ys => ys.map (·.1) = (List.range m).map (3 * ·)) (fun _ => True) m w := fun l J Jx W hW hJ _ hY h0 => by
  have := chunk1_in n hn l B n₀ L cap m A b off hA hL hcap hreach J Jx (fun pre W k h => hJ pre W (W.drewN k) none h ⟨rfl, rfl, rfl, Nat.le_refl _, fun _ _ _ => rfl⟩ (fun r e => by cases e)) hY W
    ((hW.cell (p := ⟨B, 0, none⟩) (by simp; omega)).trans hBs) ((hW.cell (p := ⟨B + 1, 0, none⟩) (by simp; omega)).trans hBn) h0
  exact this
end Go.Proofs.YtiggckhlbklngaaDoor
