/- append, per type of the elements. -/
import Derived.Test.YtpkjgeidndbbbaaDoorTypes
import Derived.Test.YtpkjgeidndbbbaaDoorDraw
namespace Go.Proofs.YtpkjgeidndbbbaaDoor
open Go.RowKit

theorem kinfo_Rec : (Tryd.prog.info? 69).map (fun i => (i.zero, i.size, i.bytes)) = some (some (.agg #[.int .i64 0, .int .i64 0]), 2, 16) := by kernel_rfl
theorem kone_Rec (x : Rec) (j : Nat) : (encRec x j).oneCell' = true := by
  first | rfl | (unfold encRec; split <;> rfl)
theorem catRec {base : Nat} {w : World} {v : Value} {xs ys : List Rec} {ops : Array Oper} {rest : List Oper} {o : Oper} {a : Act} {Q : Exit → Act → World → Prop} {s x : Operand} {A : Option Addr} {n c : Nat} (hwant : Region.wanted o (yielded ops a.tmps) = true)
    (ho : o.op = .call { callee := .builtin .append, args := #[s, x], argTypes := #[23, 23] }) (hs : a.eval s = v) (hx : a.eval x = .slice A n c)
    (hrow : Row 69 2 (encRec) base w v xs) (hsrc : SlOf 2 (encRec) w (.slice A n c) ys) (hn : xs.length + ys.length ≤ 4194304) (hbase : base ≤ w.heap.size)
    (h : ∀ v' w', Row 69 2 (encRec) base w' v' (xs ++ ys) → w.grownBy w' v.ownBlock → wpList Tryd.prog ops Q rest (a.put o.dst v') w') : wpList Tryd.prog ops Q (o :: rest) a w :=
  wpList_cat Tryd.underlying23 kinfo_Rec rfl (by omega) (fun x j => kone_Rec x j) (by omega) hwant ho hs hx hrow hsrc hn hbase h
theorem kinfo_Vote : (Tryd.prog.info? 35).map (fun i => (i.zero, i.size, i.bytes)) = some (some (.agg #[.int .i64 0, .int .i64 0]), 2, 16) := by kernel_rfl
theorem kone_Vote (x : Vote) (j : Nat) : (encVote x j).oneCell' = true := by
  first | rfl | (unfold encVote; split <;> rfl)
theorem catVote {base : Nat} {w : World} {v : Value} {xs ys : List Vote} {ops : Array Oper} {rest : List Oper} {o : Oper} {a : Act} {Q : Exit → Act → World → Prop} {s x : Operand} {A : Option Addr} {n c : Nat} (hwant : Region.wanted o (yielded ops a.tmps) = true)
    (ho : o.op = .call { callee := .builtin .append, args := #[s, x], argTypes := #[30, 30] }) (hs : a.eval s = v) (hx : a.eval x = .slice A n c)
    (hrow : Row 35 2 (encVote) base w v xs) (hsrc : SlOf 2 (encVote) w (.slice A n c) ys) (hn : xs.length + ys.length ≤ 4194304) (hbase : base ≤ w.heap.size)
    (h : ∀ v' w', Row 35 2 (encVote) base w' v' (xs ++ ys) → w.grownBy w' v.ownBlock → wpList Tryd.prog ops Q rest (a.put o.dst v') w') : wpList Tryd.prog ops Q (o :: rest) a w :=
  wpList_cat Tryd.underlying30 kinfo_Vote rfl (by omega) (fun x j => kone_Vote x j) (by omega) hwant ho hs hx hrow hsrc hn hbase h
theorem kinfo_Touch : (Tryd.prog.info? 58).map (fun i => (i.zero, i.size, i.bytes)) = some (some (.agg #[.int .i64 0, .int .i64 0]), 2, 16) := by kernel_rfl
theorem kone_Touch (x : Touch) (j : Nat) : (encTouch x j).oneCell' = true := by
  first | rfl | (unfold encTouch; split <;> rfl)
theorem catTouch {base : Nat} {w : World} {v : Value} {xs ys : List Touch} {ops : Array Oper} {rest : List Oper} {o : Oper} {a : Act} {Q : Exit → Act → World → Prop} {s x : Operand} {A : Option Addr} {n c : Nat} (hwant : Region.wanted o (yielded ops a.tmps) = true)
    (ho : o.op = .call { callee := .builtin .append, args := #[s, x], argTypes := #[51, 51] }) (hs : a.eval s = v) (hx : a.eval x = .slice A n c)
    (hrow : Row 58 2 (encTouch) base w v xs) (hsrc : SlOf 2 (encTouch) w (.slice A n c) ys) (hn : xs.length + ys.length ≤ 4194304) (hbase : base ≤ w.heap.size)
    (h : ∀ v' w', Row 58 2 (encTouch) base w' v' (xs ++ ys) → w.grownBy w' v.ownBlock → wpList Tryd.prog ops Q rest (a.put o.dst v') w') : wpList Tryd.prog ops Q (o :: rest) a w :=
  wpList_cat Tryd.underlying51 kinfo_Touch rfl (by omega) (fun x j => kone_Touch x j) (by omega) hwant ho hs hx hrow hsrc hn hbase h
theorem kinfo_Lease : (Tryd.prog.info? 49).map (fun i => (i.zero, i.size, i.bytes)) = some (some (.agg #[.int .i64 0, .int .i64 0, .int .i64 0]), 3, 24) := by kernel_rfl
theorem kone_Lease (x : Lease) (j : Nat) : (encLease x j).oneCell' = true := by
  first | rfl | (unfold encLease; split <;> rfl)
theorem catLease {base : Nat} {w : World} {v : Value} {xs ys : List Lease} {ops : Array Oper} {rest : List Oper} {o : Oper} {a : Act} {Q : Exit → Act → World → Prop} {s x : Operand} {A : Option Addr} {n c : Nat} (hwant : Region.wanted o (yielded ops a.tmps) = true)
    (ho : o.op = .call { callee := .builtin .append, args := #[s, x], argTypes := #[44, 44] }) (hs : a.eval s = v) (hx : a.eval x = .slice A n c)
    (hrow : Row 49 3 (encLease) base w v xs) (hsrc : SlOf 3 (encLease) w (.slice A n c) ys) (hn : xs.length + ys.length ≤ 4194304) (hbase : base ≤ w.heap.size)
    (h : ∀ v' w', Row 49 3 (encLease) base w' v' (xs ++ ys) → w.grownBy w' v.ownBlock → wpList Tryd.prog ops Q rest (a.put o.dst v') w') : wpList Tryd.prog ops Q (o :: rest) a w :=
  wpList_cat Tryd.underlying44 kinfo_Lease rfl (by omega) (fun x j => kone_Lease x j) (by omega) hwant ho hs hx hrow hsrc hn hbase h
theorem kinfo_I : (Tryd.prog.info? 3).map (fun i => (i.zero, i.size, i.bytes)) = some (some (.int .i64 0), 1, 8) := by kernel_rfl
theorem kone_I (x : Int) (j : Nat) : (one encI x j).oneCell' = true := by
  first | rfl | (unfold one encI; split <;> rfl)
theorem catI {base : Nat} {w : World} {v : Value} {xs ys : List Int} {ops : Array Oper} {rest : List Oper} {o : Oper} {a : Act} {Q : Exit → Act → World → Prop} {s x : Operand} {A : Option Addr} {n c : Nat} (hwant : Region.wanted o (yielded ops a.tmps) = true)
    (ho : o.op = .call { callee := .builtin .append, args := #[s, x], argTypes := #[36, 36] }) (hs : a.eval s = v) (hx : a.eval x = .slice A n c)
    (hrow : Row 3 1 (one encI) base w v xs) (hsrc : SlOf 1 (one encI) w (.slice A n c) ys) (hn : xs.length + ys.length ≤ 4194304) (hbase : base ≤ w.heap.size)
    (h : ∀ v' w', Row 3 1 (one encI) base w' v' (xs ++ ys) → w.grownBy w' v.ownBlock → wpList Tryd.prog ops Q rest (a.put o.dst v') w') : wpList Tryd.prog ops Q (o :: rest) a w :=
  wpList_cat Tryd.underlying36 kinfo_I rfl (by omega) (fun x j => kone_I x j) (by omega) hwant ho hs hx hrow hsrc hn hbase h
end Go.Proofs.YtpkjgeidndbbbaaDoor
