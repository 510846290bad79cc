/- What the temporaries of a drawn region of a draw hold. -/
import Derived.Test.YtiggckhlbklngaaDoorYOps
import Derived.Test.YtiggckhlbklngaaDoorPick
import Derived.BigCall
namespace Go.Proofs.YtiggckhlbklngaaDoor
open Go.RowKit

/-- Everything but some blocks is as it was. -/
structure ExS (S : Nat → Prop) (w w' : World) : Prop where
  os : w'.os = w.os
  tape : w'.tape = w.tape
  output : w'.output = w.output
  size : w.heap.size ≤ w'.heap.size
  block : ∀ k, k < w.heap.size → ¬ S k → w'.heap[k]? = w.heap[k]?
section
variable {S : Nat → Prop} {rb : Nat} {a b c w w' : World}
theorem ExS.refl (S : Nat → Prop) (w : World) : ExS S w w := ⟨rfl, rfl, rfl, Nat.le_refl _, fun _ _ _ => rfl⟩
theorem ExS.trans (h : ExS S a b) (k : ExS S b c) : ExS S a c :=
  ⟨k.os.trans h.os, k.tape.trans h.tape, k.output.trans h.output, Nat.le_trans h.size k.size, fun i hi hn => (k.block i (Nat.lt_of_lt_of_le hi h.size) hn).trans (h.block i hi hn)⟩
theorem ExS.of_ex (h : Ex rb w w') (hS : S rb) : ExS S w w' := ⟨World.grownBy.os h, World.grownBy.tape h, World.grownBy.output h, h.size, fun k hk hn => World.grownBy.block h k hk (fun e => hn (by injection e with e; rw [e]; exact hS))⟩
theorem ExS.ex (h : ExS (· = rb) w w') : Ex rb w w' := ⟨h.os, h.tape, h.output, h.size, fun k hk hn => h.block k hk (fun e => hn (by rw [e]))⟩
theorem ExS.cell (h : ExS S w w') {p : Addr} {v : Value} (hc : w.cell? p = some v) (hn : ¬ S p.block) : w'.cell? p = some v := by
  rw [← hc]
  exact World.cell?_of_block (h.block p.block (World.block_lt_of_cell? w p hc) hn)
end
/-- What a step of such a region leaves: all but some blocks, and what is to stand once it was laid. -/
def St (S : Nat → Prop) (G K : World → Prop) (w w' : World) : Prop := ExS S w w' ∧ (G w → G w') ∧ (K w → K w')
/-- What holds of the worlds inside. -/
def Rel (S : Nat → Prop) (K : World → Prop) (W w : World) : Prop := ExS S W w ∧ K w
theorem Rel.step {S : Nat → Prop} {G K : World → Prop} {W w w' : World} (h : Rel S K W w) (k : St S G K w w') : Rel S K W w' := ⟨h.1.trans k.1, k.2.2 h.2⟩

inductive Ty where
  | eq (v : Value)
  | int (lo hi : Int)
  | bool
  | ints (n : Nat) (lo hi : Int)
  | adr (lo hi : Int)
  | top
  | made
def Ty.den (S : Nat → Prop) (G : World → Prop) : Ty → Value → World → Prop
  | .eq u, v, _ => v = u
  | .int lo hi, v, _ => ∃ k : Int, v = .int .i64 k ∧ lo ≤ k ∧ k ≤ hi
  | .bool, v, _ => ∃ b : Bool, v = .bool b
  | .ints n lo hi, v, w => ∃ b : Nat, v = .slice (some ⟨b, 0, none⟩) n n ∧ ¬ S b ∧ ∀ j, j < n → ∃ y : Int, w.cell? ⟨b, j, none⟩ = some (.int .i64 y) ∧ lo ≤ y ∧ y ≤ hi
  | .adr lo hi, v, w => ∃ (a : Addr) (y : Int), v = .pointer (some a) ∧ ¬ S a.block ∧ w.cell? a = some (.int .i64 y) ∧ lo ≤ y ∧ y ≤ hi
  | .top, _, _ => True
  | .made, _, w => G w
theorem Ty.den_ex {S : Nat → Prop} {G : World → Prop} {K : World → Prop} (t : Ty) {v : Value} {w w' : World} (hx : St S G K w w') (h : t.den S G v w) : t.den S G v w' := by
  cases t with
  | eq u => exact h
  | int lo hi => exact h
  | bool => exact h
  | ints n lo hi =>
    obtain ⟨b, hv, hne, hc⟩ := h
    exact ⟨b, hv, hne, fun j hj => let ⟨y, hy, hs⟩ := hc j hj; ⟨y, hx.1.cell hy hne, hs⟩⟩
  | adr lo hi =>
    obtain ⟨a, y, hv, hne, hc, hs⟩ := h
    exact ⟨a, y, hv, hne, hx.1.cell hc hne, hs⟩
  | top => trivial
  | made => exact hx.2.1 h
/-! ### What the operations of such regions yield -/
/-- A literal of small numbers. -/
theorem ints_made {S : Nat → Prop} {G : World → Prop} {n : Nat} {W w : World} {cs : Array Value} {T : TypeId} {lo hi : Int} (hS : ∀ k, S k → k < W.heap.size) {K : World → Prop} (hx : Rel S K W w) (hn : cs.size = n) (h : ∀ v ∈ cs.toList, ∃ y : Int, v = .int .i64 y ∧ lo ≤ y ∧ y ≤ hi) : (Ty.ints n lo hi).den S G (.slice (some ⟨w.heap.size, 0, none⟩) n n) (w.alloc (.cells cs T)) := by
  refine ⟨w.heap.size, rfl, fun e => by have := hS _ e; have := hx.1.size; omega, fun j hj => ?_⟩
  obtain ⟨y, hy, hs⟩ := h (cs[j]'(by omega)) (by simp)
  refine ⟨y, ?_, hs⟩
  simp only [World.cell?, heap_alloc_new]
  simp [show j < cs.size by omega, hy]
end Go.Proofs.YtiggckhlbklngaaDoor
