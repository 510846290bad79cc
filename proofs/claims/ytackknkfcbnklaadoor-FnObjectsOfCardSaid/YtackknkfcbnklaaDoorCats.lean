/- append, per type of the elements. -/
import Derived.Test.YtackknkfcbnklaaDoorTypes
import Derived.Test.YtackknkfcbnklaaDoorDraw
namespace Go.Proofs.YtackknkfcbnklaaDoor
open Go.RowKit

theorem kinfo_I : (Tryd.prog.info? 3).map (fun i => (i.zero, i.size, i.bytes)) = some (some (.int .i64 0), 1, 8) := by kernel_rfl
theorem kone_I (x : Int) (j : Nat) : (one encI x j).oneCell' = true := by
  first | rfl | (unfold one encI; split <;> rfl)
theorem catI {base : Nat} {w : World} {v : Value} {xs ys : List Int} {ops : Array Oper} {rest : List Oper} {o : Oper} {a : Act} {Q : Exit → Act → World → Prop} {s x : Operand} {A : Option Addr} {n c : Nat} (hwant : Region.wanted o (yielded ops a.tmps) = true)
    (ho : o.op = .call { callee := .builtin .append, args := #[s, x], argTypes := #[23, 23] }) (hs : a.eval s = v) (hx : a.eval x = .slice A n c)
    (hrow : Row 3 1 (one encI) base w v xs) (hsrc : SlOf 1 (one encI) w (.slice A n c) ys) (hn : xs.length + ys.length ≤ 4194304) (hbase : base ≤ w.heap.size)
    (h : ∀ v' w', Row 3 1 (one encI) base w' v' (xs ++ ys) → w.grownBy w' v.ownBlock → wpList Tryd.prog ops Q rest (a.put o.dst v') w') : wpList Tryd.prog ops Q (o :: rest) a w :=
  wpList_cat Tryd.underlying23 kinfo_I rfl (by omega) (fun x j => kone_I x j) (by omega) hwant ho hs hx hrow hsrc hn hbase h
end Go.Proofs.YtackknkfcbnklaaDoor
