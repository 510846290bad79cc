/- What the temporaries of a drawn region of a draw hold. -/
import Derived.Test.YtpkjgeidndbbbaaDoorTyped
import Derived.Test.YtpkjgeidndbbbaaDoorPick
import Derived.BigCall
namespace Go.Proofs.YtpkjgeidndbbbaaDoor
open Go.RowKit

/-- Everything but some blocks is as it was. -/
structure ExS (S : Nat → Prop) (w w' : World) : Prop where
  os : w'.os = w.os
  tape : w'.tape = w.tape
  output : w'.output = w.output
  size : w.heap.size ≤ w'.heap.size
  block : ∀ k, k < w.heap.size → ¬ S k → w'.heap[k]? = w.heap[k]?
section
variable {S : Nat → Prop} {rb : Nat} {a b c w w' : World}
theorem ExS.refl (S : Nat → Prop) (w : World) : ExS S w w := ⟨rfl, rfl, rfl, Nat.le_refl _, fun _ _ _ => rfl⟩
theorem ExS.trans (h : ExS S a b) (k : ExS S b c) : ExS S a c :=
  ⟨k.os.trans h.os, k.tape.trans h.tape, k.output.trans h.output, Nat.le_trans h.size k.size, fun i hi hn => (k.block i (Nat.lt_of_lt_of_le hi h.size) hn).trans (h.block i hi hn)⟩
theorem ExS.of_ex (h : Ex rb w w') (hS : S rb) : ExS S w w' := ⟨World.grownBy.os h, World.grownBy.tape h, World.grownBy.output h, h.size, fun k hk hn => World.grownBy.block h k hk (fun e => hn (by injection e with e; rw [e]; exact hS))⟩
theorem ExS.ex (h : ExS (· = rb) w w') : Ex rb w w' := ⟨h.os, h.tape, h.output, h.size, fun k hk hn => h.block k hk (fun e => hn (by rw [e]))⟩
theorem ExS.cell (h : ExS S w w') {p : Addr} {v : Value} (hc : w.cell? p = some v) (hn : ¬ S p.block) : w'.cell? p = some v := by
  rw [← hc]
  exact World.cell?_of_block (h.block p.block (World.block_lt_of_cell? w p hc) hn)
end
/-- What a step of such a region leaves: all but some blocks, and what is to stand once it was laid. -/
def St (S : Nat → Prop) (G K : World → Prop) (w w' : World) : Prop := ExS S w w' ∧ (G w → G w') ∧ (K w → K w')
/-- What holds of the worlds inside. -/
def Rel (S : Nat → Prop) (K : World → Prop) (W w : World) : Prop := ExS S W w ∧ K w
theorem Rel.step {S : Nat → Prop} {G K : World → Prop} {W w w' : World} (h : Rel S K W w) (k : St S G K w w') : Rel S K W w' := ⟨h.1.trans k.1, k.2.2 h.2⟩

inductive Ty where
  | eq (v : Value)
  | int (lo hi : Int)
  | bool
  | ints (n : Nat) (lo hi : Int)
  | adr (lo hi : Int)
  | top
  | made
def Ty.den (S : Nat → Prop) (G : World → Prop) : Ty → Value → World → Prop
  | .eq u, v, _ => v = u
  | .int lo hi, v, _ => ∃ k : Int, v = .int .i64 k ∧ lo ≤ k ∧ k ≤ hi
  | .bool, v, _ => ∃ b : Bool, v = .bool b
  | .ints n lo hi, v, w => ∃ b : Nat, v = .slice (some ⟨b, 0, none⟩) n n ∧ ¬ S b ∧ ∀ j, j < n → ∃ y : Int, w.cell? ⟨b, j, none⟩ = some (.int .i64 y) ∧ lo ≤ y ∧ y ≤ hi
  | .adr lo hi, v, w => ∃ (a : Addr) (y : Int), v = .pointer (some a) ∧ ¬ S a.block ∧ w.cell? a = some (.int .i64 y) ∧ lo ≤ y ∧ y ≤ hi
  | .top, _, _ => True
  | .made, _, w => G w
theorem Ty.den_ex {S : Nat → Prop} {G : World → Prop} {K : World → Prop} (t : Ty) {v : Value} {w w' : World} (hx : St S G K w w') (h : t.den S G v w) : t.den S G v w' := by
  cases t with
  | eq u => exact h
  | int lo hi => exact h
  | bool => exact h
  | ints n lo hi =>
    obtain ⟨b, hv, hne, hc⟩ := h
    exact ⟨b, hv, hne, fun j hj => let ⟨y, hy, hs⟩ := hc j hj; ⟨y, hx.1.cell hy hne, hs⟩⟩
  | adr lo hi =>
    obtain ⟨a, y, hv, hne, hc, hs⟩ := h
    exact ⟨a, y, hv, hne, hx.1.cell hc hne, hs⟩
  | top => trivial
  | made => exact hx.2.1 h
/-! ### What the operations of such regions yield -/
section
variable {P : Program} {o : Oper} {a : Act} {w : World} {φ : Value → World → Prop} {x y : Operand} {p q : Int} {T U : TypeId}
theorem y_val {v : Value} (h : (execOp a.eval o).run P w = .ok (.value v) w) (hp : φ v w) : Yields P o a w φ := by
  unfold Yields
  rw [h]
  exact hp
theorem y_skip {w' : World} (h : (execOp a.eval o).run P w = .ok .skip w') (hp : φ undef w') : Yields P o a w φ := by
  unfold Yields
  rw [h]
  exact hp
theorem y_move (h : o.op = .move x) (hp : φ (a.eval x) w) : Yields P o a w φ := by
  unfold Yields
  simp only [execOp, h, Sem.run_pure]
  exact hp
theorem y_assign (h : o.op = .assign x) (hp : φ (a.eval x) w) : Yields P o a w φ := by
  unfold Yields
  simp only [execOp, h, Sem.run_pure]
  exact hp
theorem y_add (h : o.op = .binOp .add T x y U) (hx : a.eval x = .int .i64 p) (hy : a.eval y = .int .i64 q) (h1 : -9223372036854775808 ≤ p + q) (h2 : p + q ≤ 9223372036854775807) (hp : φ (.int .i64 (p + q)) w) : Yields P o a w φ := by
  unfold Yields
  have : (execOp a.eval o).run P w = .ok (.value (.int .i64 (p + q))) w := by
    simp only [execOp, h, hx, hy]
    go_simp
    exact IntWalk.i64_in _ ⟨h1, h2⟩
  rw [this]
  exact hp
theorem y_sub (h : o.op = .binOp .sub T x y U) (hx : a.eval x = .int .i64 p) (hy : a.eval y = .int .i64 q) (h1 : -9223372036854775808 ≤ p - q) (h2 : p - q ≤ 9223372036854775807) (hp : φ (.int .i64 (p - q)) w) : Yields P o a w φ := by
  unfold Yields
  have : (execOp a.eval o).run P w = .ok (.value (.int .i64 (p - q))) w := by
    simp only [execOp, h, hx, hy]
    go_simp
    exact IntWalk.i64_in _ ⟨h1, h2⟩
  rw [this]
  exact hp
theorem y_mul (h : o.op = .binOp .mul T x y U) (hx : a.eval x = .int .i64 p) (hy : a.eval y = .int .i64 q) (h1 : -9223372036854775808 ≤ p * q) (h2 : p * q ≤ 9223372036854775807) (hp : φ (.int .i64 (p * q)) w) : Yields P o a w φ := by
  unfold Yields
  have : (execOp a.eval o).run P w = .ok (.value (.int .i64 (p * q))) w := by
    simp only [execOp, h, hx, hy]
    go_simp
    exact IntWalk.i64_in _ ⟨h1, h2⟩
  rw [this]
  exact hp
theorem y_quo (h : o.op = .binOp .quo T x y U) (hx : a.eval x = .int .i64 p) (hy : a.eval y = .int .i64 q) (h1 : 0 ≤ p) (h2 : 0 < q) (h3 : p ≤ 9223372036854775807) (hp : φ (.int .i64 (p / q)) w) : Yields P o a w φ := by
  unfold Yields
  have : (execOp a.eval o).run P w = .ok (.value (.int .i64 (p / q))) w := by
    have hq : q ≠ 0 := by omega
    simp only [execOp, h, hx, hy]
    go_simp
    rw [Int.tdiv_eq_ediv_of_nonneg h1]
    have hd : p / q ≤ p := Int.ediv_le_self _ h1
    exact IntWalk.i64_in _ ⟨by have := Int.ediv_nonneg h1 (Int.le_of_lt h2); omega, by omega⟩
  rw [this]
  exact hp
theorem y_eql (h : o.op = .binOp .eql T x y U) (hx : a.eval x = .int .i64 p) (hy : a.eval y = .int .i64 q) (hp : φ (.bool (p == q)) w) : Yields P o a w φ := by
  unfold Yields
  have : (execOp a.eval o).run P w = .ok (.value (.bool (p == q))) w := by
    simp only [execOp, h, hx, hy]
    go_simp
  rw [this]
  exact hp
theorem y_call {F : FuncId} {xs : Array Operand} {ts : Array TypeId} {args : Array Value} (h : o.op = .call { callee := .value (.func F), args := xs, argTypes := ts }) (hF : ∀ args W, (callFunc F args).run P W = .ok (.enter F args) W) (hargs : xs.map a.eval = args)
    (hc : Calls P F args w fun e w'' => ∃ v, e = .returned v ∧ φ v w'') : Yields P o a w φ := by
  unfold Yields
  have : (execOp a.eval o).run P w = .ok (.enter F args) w := by
    subst hargs
    obtain ⟨dst, op, ty, pos, after, guard⟩ := o
    simp only at h
    subst h
    rw [execOp_call_go]
    simpa using hF _ w
  rw [this]
  exact hc
theorem y_index {e : TypeId} {b n c k : Nat} (h : o.op = .indexAddr T x y) (hx : a.eval x = .slice (some ⟨b, 0, none⟩) n c) (hy : a.eval y = .int .i64 (k : Int)) (hk : k < n) (hT : P.underlying T = some (.slice e)) (hs : ∀ w, (sizeOf e).run P w = .ok 1 w) (hp : φ (.pointer (some ⟨b, k, none⟩)) w) : Yields P o a w φ := by
  unfold Yields
  have : (execOp a.eval o).run P w = .ok (.value (.pointer (some ⟨b, k, none⟩))) w := by
    have hk' : (k : Int) < (n : Int) := by omega
    simp only [execOp, h, hx, hy]
    simp [Instr.indexAt, run_underlying hT, asIntOf, hk, hs]
    unfold Addr.add
    split
    · rename_i h0; rw [h0]
    · rw [Nat.zero_add]
  rw [this]
  exact hp
theorem y_load {ad : Addr} {v : Value} (h : o.op = .load T x) (hx : a.eval x = .pointer (some ad)) (hc : w.cell? ad = some v) (hT : ∀ w, (isAgg T).run P w = .ok false w) (hp : φ v w) : Yields P o a w φ := by
  unfold Yields
  have : (execOp a.eval o).run P w = .ok (.value v) w := by
    simp only [execOp, h, hx]
    go_simp
  rw [this]
  exact hp
theorem y_lit {cs : Array Value} {E : TypeId} (h : ∀ W, (execOp a.eval o).run P W = .ok (.value (.slice (some ⟨W.heap.size, 0, none⟩) cs.size cs.size)) (W.alloc (.cells cs E))) (hp : φ (.slice (some ⟨w.heap.size, 0, none⟩) cs.size cs.size) (w.alloc (.cells cs E))) : Yields P o a w φ := by
  unfold Yields
  rw [h w]
  exact hp
end
/-- A literal of small numbers. -/
theorem ints_made {S : Nat → Prop} {G : World → Prop} {n : Nat} {W w : World} {cs : Array Value} {T : TypeId} {lo hi : Int} (hS : ∀ k, S k → k < W.heap.size) {K : World → Prop} (hx : Rel S K W w) (hn : cs.size = n) (h : ∀ v ∈ cs.toList, ∃ y : Int, v = .int .i64 y ∧ lo ≤ y ∧ y ≤ hi) : (Ty.ints n lo hi).den S G (.slice (some ⟨w.heap.size, 0, none⟩) n n) (w.alloc (.cells cs T)) := by
  refine ⟨w.heap.size, rfl, fun e => by have := hS _ e; have := hx.1.size; omega, fun j hj => ?_⟩
  obtain ⟨y, hy, hs⟩ := h (cs[j]'(by omega)) (by simp)
  refine ⟨y, ?_, hs⟩
  simp only [World.cell?, heap_alloc_new]
  simp [show j < cs.size by omega, hy]
end Go.Proofs.YtpkjgeidndbbbaaDoor
