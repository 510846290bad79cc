/- append, per type of the elements. -/
import Derived.Test.YtiggckhlbklngaaDoorTypes
import Derived.Test.YtiggckhlbklngaaDoorDraw
namespace Go.Proofs.YtiggckhlbklngaaDoor
open Go.RowKit

theorem kinfo_Touch : (Tryd.prog.info? 52).map (fun i => (i.zero, i.size, i.bytes)) = some (some (.agg #[.int .i64 0, .int .i64 0]), 2, 16) := by kernel_rfl
theorem kone_Touch (x : Touch) (j : Nat) : (encTouch x j).oneCell' = true := by
  first | rfl | (unfold encTouch; split <;> rfl)
theorem catTouch {base : Nat} {w : World} {v : Value} {xs ys : List Touch} {ops : Array Oper} {rest : List Oper} {o : Oper} {a : Act} {Q : Exit → Act → World → Prop} {s x : Operand} {A : Option Addr} {n c : Nat} (hwant : Region.wanted o (yielded ops a.tmps) = true)
    (ho : o.op = .call { callee := .builtin .append, args := #[s, x], argTypes := #[60, 60] }) (hs : a.eval s = v) (hx : a.eval x = .slice A n c)
    (hrow : Row 52 2 (encTouch) base w v xs) (hsrc : SlOf 2 (encTouch) w (.slice A n c) ys) (hn : xs.length + ys.length ≤ 4194304) (hbase : base ≤ w.heap.size)
    (h : ∀ v' w', Row 52 2 (encTouch) base w' v' (xs ++ ys) → w.grownBy w' v.ownBlock → wpList Tryd.prog ops Q rest (a.put o.dst v') w') : wpList Tryd.prog ops Q (o :: rest) a w :=
  wpList_cat Tryd.underlying60 kinfo_Touch rfl (by omega) (fun x j => kone_Touch x j) (by omega) hwant ho hs hx hrow hsrc hn hbase h
theorem kinfo_Redo : (Tryd.prog.info? 73).map (fun i => (i.zero, i.size, i.bytes)) = some (some (.agg #[.int .i64 0, .int .i64 0, .int .i64 0]), 3, 24) := by kernel_rfl
theorem kone_Redo (x : Redo) (j : Nat) : (encRedo x j).oneCell' = true := by
  first | rfl | (unfold encRedo; split <;> rfl)
theorem catRedo {base : Nat} {w : World} {v : Value} {xs ys : List Redo} {ops : Array Oper} {rest : List Oper} {o : Oper} {a : Act} {Q : Exit → Act → World → Prop} {s x : Operand} {A : Option Addr} {n c : Nat} (hwant : Region.wanted o (yielded ops a.tmps) = true)
    (ho : o.op = .call { callee := .builtin .append, args := #[s, x], argTypes := #[29, 29] }) (hs : a.eval s = v) (hx : a.eval x = .slice A n c)
    (hrow : Row 73 3 (encRedo) base w v xs) (hsrc : SlOf 3 (encRedo) w (.slice A n c) ys) (hn : xs.length + ys.length ≤ 4194304) (hbase : base ≤ w.heap.size)
    (h : ∀ v' w', Row 73 3 (encRedo) base w' v' (xs ++ ys) → w.grownBy w' v.ownBlock → wpList Tryd.prog ops Q rest (a.put o.dst v') w') : wpList Tryd.prog ops Q (o :: rest) a w :=
  wpList_cat Tryd.underlying29 kinfo_Redo rfl (by omega) (fun x j => kone_Redo x j) (by omega) hwant ho hs hx hrow hsrc hn hbase h
theorem kinfo_I : (Tryd.prog.info? 3).map (fun i => (i.zero, i.size, i.bytes)) = some (some (.int .i64 0), 1, 8) := by kernel_rfl
theorem kone_I (x : Int) (j : Nat) : (one encI x j).oneCell' = true := by
  first | rfl | (unfold one encI; split <;> rfl)
theorem catI {base : Nat} {w : World} {v : Value} {xs ys : List Int} {ops : Array Oper} {rest : List Oper} {o : Oper} {a : Act} {Q : Exit → Act → World → Prop} {s x : Operand} {A : Option Addr} {n c : Nat} (hwant : Region.wanted o (yielded ops a.tmps) = true)
    (ho : o.op = .call { callee := .builtin .append, args := #[s, x], argTypes := #[23, 23] }) (hs : a.eval s = v) (hx : a.eval x = .slice A n c)
    (hrow : Row 3 1 (one encI) base w v xs) (hsrc : SlOf 1 (one encI) w (.slice A n c) ys) (hn : xs.length + ys.length ≤ 4194304) (hbase : base ≤ w.heap.size)
    (h : ∀ v' w', Row 3 1 (one encI) base w' v' (xs ++ ys) → w.grownBy w' v.ownBlock → wpList Tryd.prog ops Q rest (a.put o.dst v') w') : wpList Tryd.prog ops Q (o :: rest) a w :=
  wpList_cat Tryd.underlying23 kinfo_I rfl (by omega) (fun x j => kone_I x j) (by omega) hwant ho hs hx hrow hsrc hn hbase h
theorem kinfo_B : (Tryd.prog.info? 4).map (fun i => (i.zero, i.size, i.bytes)) = some (some (.bool false), 1, 1) := by kernel_rfl
theorem kone_B (x : Bool) (j : Nat) : (one encB x j).oneCell' = true := by
  first | rfl | (unfold one encB; split <;> rfl)
theorem catB {base : Nat} {w : World} {v : Value} {xs ys : List Bool} {ops : Array Oper} {rest : List Oper} {o : Oper} {a : Act} {Q : Exit → Act → World → Prop} {s x : Operand} {A : Option Addr} {n c : Nat} (hwant : Region.wanted o (yielded ops a.tmps) = true)
    (ho : o.op = .call { callee := .builtin .append, args := #[s, x], argTypes := #[25, 25] }) (hs : a.eval s = v) (hx : a.eval x = .slice A n c)
    (hrow : Row 4 1 (one encB) base w v xs) (hsrc : SlOf 1 (one encB) w (.slice A n c) ys) (hn : xs.length + ys.length ≤ 4194304) (hbase : base ≤ w.heap.size)
    (h : ∀ v' w', Row 4 1 (one encB) base w' v' (xs ++ ys) → w.grownBy w' v.ownBlock → wpList Tryd.prog ops Q rest (a.put o.dst v') w') : wpList Tryd.prog ops Q (o :: rest) a w :=
  wpList_cat Tryd.underlying25 kinfo_B rfl (by omega) (fun x j => kone_B x j) (by omega) hwant ho hs hx hrow hsrc hn hbase h
end Go.Proofs.YtiggckhlbklngaaDoor
