/- Operations of a typed region, one law each. -/
import Derived.Test.YtiggckhlbklngaaDoorTyped
import Derived.BigCall
namespace Go.Proofs.YtiggckhlbklngaaDoor
open Go.RowKit

section
variable {P : Program} {o : Oper} {a : Act} {w : World} {φ : Value → World → Prop} {x y : Operand} {p q : Int} {T U : TypeId}
theorem y_val {v : Value} (h : (execOp a.eval o).run P w = .ok (.value v) w) (hp : φ v w) : Yields P o a w φ := by
  unfold Yields
  rw [h]
  exact hp
theorem y_skip {w' : World} (h : (execOp a.eval o).run P w = .ok .skip w') (hp : φ undef w') : Yields P o a w φ := by
  unfold Yields
  rw [h]
  exact hp
theorem y_move (h : o.op = .move x) (hp : φ (a.eval x) w) : Yields P o a w φ := by
  unfold Yields
  simp only [execOp, h, Sem.run_pure]
  exact hp
theorem y_assign (h : o.op = .assign x) (hp : φ (a.eval x) w) : Yields P o a w φ := by
  unfold Yields
  simp only [execOp, h, Sem.run_pure]
  exact hp
theorem y_add (h : o.op = .binOp .add T x y U) (hx : a.eval x = .int .i64 p) (hy : a.eval y = .int .i64 q) (h1 : -9223372036854775808 ≤ p + q) (h2 : p + q ≤ 9223372036854775807) (hp : φ (.int .i64 (p + q)) w) : Yields P o a w φ := by
  unfold Yields
  have : (execOp a.eval o).run P w = .ok (.value (.int .i64 (p + q))) w := by
    simp only [execOp, h, hx, hy]
    go_simp
    exact IntWalk.i64_in _ ⟨h1, h2⟩
  rw [this]
  exact hp
theorem y_sub (h : o.op = .binOp .sub T x y U) (hx : a.eval x = .int .i64 p) (hy : a.eval y = .int .i64 q) (h1 : -9223372036854775808 ≤ p - q) (h2 : p - q ≤ 9223372036854775807) (hp : φ (.int .i64 (p - q)) w) : Yields P o a w φ := by
  unfold Yields
  have : (execOp a.eval o).run P w = .ok (.value (.int .i64 (p - q))) w := by
    simp only [execOp, h, hx, hy]
    go_simp
    exact IntWalk.i64_in _ ⟨h1, h2⟩
  rw [this]
  exact hp
theorem y_mul (h : o.op = .binOp .mul T x y U) (hx : a.eval x = .int .i64 p) (hy : a.eval y = .int .i64 q) (h1 : -9223372036854775808 ≤ p * q) (h2 : p * q ≤ 9223372036854775807) (hp : φ (.int .i64 (p * q)) w) : Yields P o a w φ := by
  unfold Yields
  have : (execOp a.eval o).run P w = .ok (.value (.int .i64 (p * q))) w := by
    simp only [execOp, h, hx, hy]
    go_simp
    exact IntWalk.i64_in _ ⟨h1, h2⟩
  rw [this]
  exact hp
theorem y_quo (h : o.op = .binOp .quo T x y U) (hx : a.eval x = .int .i64 p) (hy : a.eval y = .int .i64 q) (h1 : 0 ≤ p) (h2 : 0 < q) (h3 : p ≤ 9223372036854775807) (hp : φ (.int .i64 (p / q)) w) : Yields P o a w φ := by
  unfold Yields
  have : (execOp a.eval o).run P w = .ok (.value (.int .i64 (p / q))) w := by
    have hq : q ≠ 0 := by omega
    simp only [execOp, h, hx, hy]
    go_simp
    rw [Int.tdiv_eq_ediv_of_nonneg h1]
    have hd : p / q ≤ p := Int.ediv_le_self _ h1
    exact IntWalk.i64_in _ ⟨by have := Int.ediv_nonneg h1 (Int.le_of_lt h2); omega, by omega⟩
  rw [this]
  exact hp
theorem y_eql (h : o.op = .binOp .eql T x y U) (hx : a.eval x = .int .i64 p) (hy : a.eval y = .int .i64 q) (hp : φ (.bool (p == q)) w) : Yields P o a w φ := by
  unfold Yields
  have : (execOp a.eval o).run P w = .ok (.value (.bool (p == q))) w := by
    simp only [execOp, h, hx, hy]
    go_simp
  rw [this]
  exact hp
theorem y_call {F : FuncId} {xs : Array Operand} {ts : Array TypeId} {args : Array Value} (h : o.op = .call { callee := .value (.func F), args := xs, argTypes := ts }) (hF : ∀ args W, (callFunc F args).run P W = .ok (.enter F args) W) (hargs : xs.map a.eval = args)
    (hc : Calls P F args w fun e w'' => ∃ v, e = .returned v ∧ φ v w'') : Yields P o a w φ := by
  unfold Yields
  have : (execOp a.eval o).run P w = .ok (.enter F args) w := by
    subst hargs
    obtain ⟨dst, op, ty, pos, after, guard⟩ := o
    simp only at h
    subst h
    rw [execOp_call_go]
    simpa using hF _ w
  rw [this]
  exact hc
theorem y_index {e : TypeId} {b n c k : Nat} (h : o.op = .indexAddr T x y) (hx : a.eval x = .slice (some ⟨b, 0, none⟩) n c) (hy : a.eval y = .int .i64 (k : Int)) (hk : k < n) (hT : P.underlying T = some (.slice e)) (hs : ∀ w, (sizeOf e).run P w = .ok 1 w) (hp : φ (.pointer (some ⟨b, k, none⟩)) w) : Yields P o a w φ := by
  unfold Yields
  have : (execOp a.eval o).run P w = .ok (.value (.pointer (some ⟨b, k, none⟩))) w := by
    have hk' : (k : Int) < (n : Int) := by omega
    simp only [execOp, h, hx, hy]
    simp [Instr.indexAt, run_underlying hT, asIntOf, hk, hs]
    unfold Addr.add
    split
    · rename_i h0; rw [h0]
    · rw [Nat.zero_add]
  rw [this]
  exact hp
theorem y_load {ad : Addr} {v : Value} (h : o.op = .load T x) (hx : a.eval x = .pointer (some ad)) (hc : w.cell? ad = some v) (hT : ∀ w, (isAgg T).run P w = .ok false w) (hp : φ v w) : Yields P o a w φ := by
  unfold Yields
  have : (execOp a.eval o).run P w = .ok (.value v) w := by
    simp only [execOp, h, hx]
    go_simp
  rw [this]
  exact hp
theorem y_lit {cs : Array Value} {E : TypeId} (h : ∀ W, (execOp a.eval o).run P W = .ok (.value (.slice (some ⟨W.heap.size, 0, none⟩) cs.size cs.size)) (W.alloc (.cells cs E))) (hp : φ (.slice (some ⟨w.heap.size, 0, none⟩) cs.size cs.size) (w.alloc (.cells cs E))) : Yields P o a w φ := by
  unfold Yields
  rw [h w]
  exact hp
end
end Go.Proofs.YtiggckhlbklngaaDoor
