/- More operations of a typed region: a run that is known, append; what an append onto nothing leaves. -/
import Derived.Test.YtiggckhlbklngaaDoorYOps
import Derived.Test.YtiggckhlbklngaaDoorAppend
namespace Go.Proofs.YtiggckhlbklngaaDoor
open Go.RowKit

section
variable {P : Program} {o : Oper} {a : Act} {w : World} {φ : Value → World → Prop}
theorem y_run {v : Value} {w' : World} (h : (execOp a.eval o).run P w = .ok (.value v) w') (hp : φ v w') : Yields P o a w φ := by
  unfold Yields
  rw [h]
  exact hp
theorem y_append {s x : Operand} {t : TypeId} {v u : Value} (ho : o.op = .call { callee := .builtin .append, args := #[s, x], argTypes := #[t, t] }) (hs : a.eval s = v) (hx : a.eval x = u)
    (hrun : ∃ v' w', (Builtin.append_ #[t, t] o.type #[v, u]).run P w = .ok v' w' ∧ φ v' w') : Yields P o a w φ := by
  obtain ⟨v', w', h1, h2⟩ := hrun
  refine y_run (v := v') (w' := w') ?_ h2
  unfold execOp
  simp only [ho, resolve, invoke, builtin, Sem.run_bind, Sem.run_pure, Result.andThen_ok, List.map_toArray, List.map_cons, List.map_nil, hs, hx, h1]
end
theorem y_slice {P : Program} {o : Oper} {a : Act} {w : World} {φ : Value → World → Prop} {T : TypeId} {s : Operand} {lo hi : Option Operand} {V : Value} {A : Option Addr} {n c : Nat} {e : TypeId} (hT : P.underlying T = some (.slice e)) (ho : o.op = .slice T s lo hi none) (hs : a.eval s = .slice A n c) (hr : (Instr.slice T (.slice A n c) (lo.map a.eval) (hi.map a.eval) none).run P w = .ok V w) (hp : φ V w) : Yields P o a w φ := by
  refine y_run (v := V) (w' := w) ?_ hp
  simp only [execOp, ho, hs, Option.map_none, Instr.sliceAt, Sem.run_bind, run_underlying hT, hr, Result.andThen_ok, Sem.run_pure]
theorem sl_grown {W W' : World} {g : Nat} {E : TypeId} {u : Value} {α : Type} {m : Nat} {enc : α → Nat → Value} {xs : List α} (hg : W.heap[g]? = some (.cells #[] E (0, 0))) (hgr : W.grownBy W' (some g)) (hsz : W.heap.size ≤ W'.heap.size) (hu : SlOf m enc W u xs) : SlOf m enc W' u xs := by
  obtain ⟨A, c, rfl, hc⟩ := hu
  refine ⟨A, c, rfl, fun hn => ?_⟩
  obtain ⟨b, off, hA, hlt, hcell⟩ := hc hn
  refine ⟨b, off, hA, Nat.lt_of_lt_of_le hlt hsz, fun i y hy j hj => ?_⟩
  have h1 := hcell i y hy j hj
  have hne : b ≠ g := fun e => by
    subst e
    rw [cell_of_row _ _ _ _ E (0, 0) hg] at h1
    simp at h1
  rw [← h1]
  exact World.cell?_of_block (hgr.block b hlt (fun e => hne (by injection e)))
end Go.Proofs.YtiggckhlbklngaaDoor
