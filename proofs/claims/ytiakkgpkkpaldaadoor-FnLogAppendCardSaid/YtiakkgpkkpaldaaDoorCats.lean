/- append, per type of the elements. -/
import Derived.Test.YtiakkgpkkpaldaaDoorTypes
import Derived.Test.YtiakkgpkkpaldaaDoorDraw
namespace Go.Proofs.YtiakkgpkkpaldaaDoor
open Go.RowKit

theorem kinfo_Rec : (Tryd.prog.info? 57).map (fun i => (i.zero, i.size, i.bytes)) = some (some (.agg #[.int .i64 0, .int .i64 0]), 2, 16) := by kernel_rfl
theorem kone_Rec (x : Rec) (j : Nat) : (encRec x j).oneCell' = true := by
  first | rfl | (unfold encRec; split <;> rfl)
theorem catRec {base : Nat} {w : World} {v : Value} {xs ys : List Rec} {ops : Array Oper} {rest : List Oper} {o : Oper} {a : Act} {Q : Exit → Act → World → Prop} {s x : Operand} {A : Option Addr} {n c : Nat} (hwant : Region.wanted o (yielded ops a.tmps) = true)
    (ho : o.op = .call { callee := .builtin .append, args := #[s, x], argTypes := #[50, 50] }) (hs : a.eval s = v) (hx : a.eval x = .slice A n c)
    (hrow : Row 57 2 (encRec) base w v xs) (hsrc : SlOf 2 (encRec) w (.slice A n c) ys) (hn : xs.length + ys.length ≤ 4194304) (hbase : base ≤ w.heap.size)
    (h : ∀ v' w', Row 57 2 (encRec) base w' v' (xs ++ ys) → w.grownBy w' v.ownBlock → wpList Tryd.prog ops Q rest (a.put o.dst v') w') : wpList Tryd.prog ops Q (o :: rest) a w :=
  wpList_cat Tryd.underlying50 kinfo_Rec rfl (by omega) (fun x j => kone_Rec x j) (by omega) hwant ho hs hx hrow hsrc hn hbase h
theorem kinfo_Vote : (Tryd.prog.info? 45).map (fun i => (i.zero, i.size, i.bytes)) = some (some (.agg #[.int .i64 0, .int .i64 0]), 2, 16) := by kernel_rfl
theorem kone_Vote (x : Vote) (j : Nat) : (encVote x j).oneCell' = true := by
  first | rfl | (unfold encVote; split <;> rfl)
theorem catVote {base : Nat} {w : World} {v : Value} {xs ys : List Vote} {ops : Array Oper} {rest : List Oper} {o : Oper} {a : Act} {Q : Exit → Act → World → Prop} {s x : Operand} {A : Option Addr} {n c : Nat} (hwant : Region.wanted o (yielded ops a.tmps) = true)
    (ho : o.op = .call { callee := .builtin .append, args := #[s, x], argTypes := #[38, 38] }) (hs : a.eval s = v) (hx : a.eval x = .slice A n c)
    (hrow : Row 45 2 (encVote) base w v xs) (hsrc : SlOf 2 (encVote) w (.slice A n c) ys) (hn : xs.length + ys.length ≤ 4194304) (hbase : base ≤ w.heap.size)
    (h : ∀ v' w', Row 45 2 (encVote) base w' v' (xs ++ ys) → w.grownBy w' v.ownBlock → wpList Tryd.prog ops Q rest (a.put o.dst v') w') : wpList Tryd.prog ops Q (o :: rest) a w :=
  wpList_cat Tryd.underlying38 kinfo_Vote rfl (by omega) (fun x j => kone_Vote x j) (by omega) hwant ho hs hx hrow hsrc hn hbase h
theorem kinfo_Touch : (Tryd.prog.info? 77).map (fun i => (i.zero, i.size, i.bytes)) = some (some (.agg #[.int .i64 0, .int .i64 0]), 2, 16) := by kernel_rfl
theorem kone_Touch (x : Touch) (j : Nat) : (encTouch x j).oneCell' = true := by
  first | rfl | (unfold encTouch; split <;> rfl)
theorem catTouch {base : Nat} {w : World} {v : Value} {xs ys : List Touch} {ops : Array Oper} {rest : List Oper} {o : Oper} {a : Act} {Q : Exit → Act → World → Prop} {s x : Operand} {A : Option Addr} {n c : Nat} (hwant : Region.wanted o (yielded ops a.tmps) = true)
    (ho : o.op = .call { callee := .builtin .append, args := #[s, x], argTypes := #[84, 84] }) (hs : a.eval s = v) (hx : a.eval x = .slice A n c)
    (hrow : Row 77 2 (encTouch) base w v xs) (hsrc : SlOf 2 (encTouch) w (.slice A n c) ys) (hn : xs.length + ys.length ≤ 4194304) (hbase : base ≤ w.heap.size)
    (h : ∀ v' w', Row 77 2 (encTouch) base w' v' (xs ++ ys) → w.grownBy w' v.ownBlock → wpList Tryd.prog ops Q rest (a.put o.dst v') w') : wpList Tryd.prog ops Q (o :: rest) a w :=
  wpList_cat Tryd.underlying84 kinfo_Touch rfl (by omega) (fun x j => kone_Touch x j) (by omega) hwant ho hs hx hrow hsrc hn hbase h
theorem kinfo_Hold : (Tryd.prog.info? 27).map (fun i => (i.zero, i.size, i.bytes)) = some (some (.agg #[.int .i64 0, .int .i64 0, .bool false, .bool false]), 4, 24) := by kernel_rfl
theorem kone_Hold (x : Hold) (j : Nat) : (encHold x j).oneCell' = true := by
  first | rfl | (unfold encHold; split <;> rfl)
theorem catHold {base : Nat} {w : World} {v : Value} {xs ys : List Hold} {ops : Array Oper} {rest : List Oper} {o : Oper} {a : Act} {Q : Exit → Act → World → Prop} {s x : Operand} {A : Option Addr} {n c : Nat} (hwant : Region.wanted o (yielded ops a.tmps) = true)
    (ho : o.op = .call { callee := .builtin .append, args := #[s, x], argTypes := #[23, 23] }) (hs : a.eval s = v) (hx : a.eval x = .slice A n c)
    (hrow : Row 27 4 (encHold) base w v xs) (hsrc : SlOf 4 (encHold) w (.slice A n c) ys) (hn : xs.length + ys.length ≤ 4194304) (hbase : base ≤ w.heap.size)
    (h : ∀ v' w', Row 27 4 (encHold) base w' v' (xs ++ ys) → w.grownBy w' v.ownBlock → wpList Tryd.prog ops Q rest (a.put o.dst v') w') : wpList Tryd.prog ops Q (o :: rest) a w :=
  wpList_cat Tryd.underlying23 kinfo_Hold rfl (by omega) (fun x j => kone_Hold x j) (by omega) hwant ho hs hx hrow hsrc hn hbase h
theorem kinfo_I : (Tryd.prog.info? 3).map (fun i => (i.zero, i.size, i.bytes)) = some (some (.int .i64 0), 1, 8) := by kernel_rfl
theorem kone_I (x : Int) (j : Nat) : (one encI x j).oneCell' = true := by
  first | rfl | (unfold one encI; split <;> rfl)
theorem catI {base : Nat} {w : World} {v : Value} {xs ys : List Int} {ops : Array Oper} {rest : List Oper} {o : Oper} {a : Act} {Q : Exit → Act → World → Prop} {s x : Operand} {A : Option Addr} {n c : Nat} (hwant : Region.wanted o (yielded ops a.tmps) = true)
    (ho : o.op = .call { callee := .builtin .append, args := #[s, x], argTypes := #[46, 46] }) (hs : a.eval s = v) (hx : a.eval x = .slice A n c)
    (hrow : Row 3 1 (one encI) base w v xs) (hsrc : SlOf 1 (one encI) w (.slice A n c) ys) (hn : xs.length + ys.length ≤ 4194304) (hbase : base ≤ w.heap.size)
    (h : ∀ v' w', Row 3 1 (one encI) base w' v' (xs ++ ys) → w.grownBy w' v.ownBlock → wpList Tryd.prog ops Q rest (a.put o.dst v') w') : wpList Tryd.prog ops Q (o :: rest) a w :=
  wpList_cat Tryd.underlying46 kinfo_I rfl (by omega) (fun x j => kone_I x j) (by omega) hwant ho hs hx hrow hsrc hn hbase h
theorem kinfo_B : (Tryd.prog.info? 4).map (fun i => (i.zero, i.size, i.bytes)) = some (some (.bool false), 1, 1) := by kernel_rfl
theorem kone_B (x : Bool) (j : Nat) : (one encB x j).oneCell' = true := by
  first | rfl | (unfold one encB; split <;> rfl)
theorem catB {base : Nat} {w : World} {v : Value} {xs ys : List Bool} {ops : Array Oper} {rest : List Oper} {o : Oper} {a : Act} {Q : Exit → Act → World → Prop} {s x : Operand} {A : Option Addr} {n c : Nat} (hwant : Region.wanted o (yielded ops a.tmps) = true)
    (ho : o.op = .call { callee := .builtin .append, args := #[s, x], argTypes := #[48, 48] }) (hs : a.eval s = v) (hx : a.eval x = .slice A n c)
    (hrow : Row 4 1 (one encB) base w v xs) (hsrc : SlOf 1 (one encB) w (.slice A n c) ys) (hn : xs.length + ys.length ≤ 4194304) (hbase : base ≤ w.heap.size)
    (h : ∀ v' w', Row 4 1 (one encB) base w' v' (xs ++ ys) → w.grownBy w' v.ownBlock → wpList Tryd.prog ops Q rest (a.put o.dst v') w') : wpList Tryd.prog ops Q (o :: rest) a w :=
  wpList_cat Tryd.underlying48 kinfo_B rfl (by omega) (fun x j => kone_B x j) (by omega) hwant ho hs hx hrow hsrc hn hbase h
end Go.Proofs.YtiakkgpkkpaldaaDoor
