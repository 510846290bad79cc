/- The structs of the laws: their cells, and what the laws' own helpers on them do. -/
import Derived.Test.YtackknkfcbnklaaDoorRows
import Derived.Test.YtackknkfcbnklaaDoorBase
namespace Go.Proofs.YtackknkfcbnklaaDoor
open Go.RowKit

structure Rec where
  term : Int
  value : Int
def encRec (x : Rec) : Nat → Value
  | 0 => .int .i64 x.term
  | _ => .int .i64 x.value
def aggRec (x : Rec) : Value := .agg #[.int .i64 x.term, .int .i64 x.value]
def wfRec (x : Rec) : Prop := (Lit.int .i64 x.term).wf = true ∧ (Lit.int .i64 x.value).wf = true
structure Vote where
  ballot : Int
  value : Int
def encVote (x : Vote) : Nat → Value
  | 0 => .int .i64 x.ballot
  | _ => .int .i64 x.value
def aggVote (x : Vote) : Value := .agg #[.int .i64 x.ballot, .int .i64 x.value]
def wfVote (x : Vote) : Prop := (Lit.int .i64 x.ballot).wf = true ∧ (Lit.int .i64 x.value).wf = true
structure Touch where
  read : Int
  write : Int
def encTouch (x : Touch) : Nat → Value
  | 0 => .int .i64 x.read
  | _ => .int .i64 x.write
def aggTouch (x : Touch) : Value := .agg #[.int .i64 x.read, .int .i64 x.write]
def wfTouch (x : Touch) : Prop := (Lit.int .i64 x.read).wf = true ∧ (Lit.int .i64 x.write).wf = true
structure Lease where
  who : Int
  frm : Int
  til : Int
def encLease (x : Lease) : Nat → Value
  | 0 => .int .i64 x.who
  | 1 => .int .i64 x.frm
  | _ => .int .i64 x.til
def aggLease (x : Lease) : Value := .agg #[.int .i64 x.who, .int .i64 x.frm, .int .i64 x.til]
def wfLease (x : Lease) : Prop := (Lit.int .i64 x.who).wf = true ∧ (Lit.int .i64 x.frm).wf = true ∧ (Lit.int .i64 x.til).wf = true
structure Redo where
  who : Int
  key : Int
  value : Int
def encRedo (x : Redo) : Nat → Value
  | 0 => .int .i64 x.who
  | 1 => .int .i64 x.key
  | _ => .int .i64 x.value
def aggRedo (x : Redo) : Value := .agg #[.int .i64 x.who, .int .i64 x.key, .int .i64 x.value]
def wfRedo (x : Redo) : Prop := (Lit.int .i64 x.who).wf = true ∧ (Lit.int .i64 x.key).wf = true ∧ (Lit.int .i64 x.value).wf = true
structure Hold where
  owner : Int
  key : Int
  write : Bool
  got : Bool
def encHold (x : Hold) : Nat → Value
  | 0 => .int .i64 x.owner
  | 1 => .int .i64 x.key
  | 2 => .bool x.write
  | _ => .bool x.got
def aggHold (x : Hold) : Value := .agg #[.int .i64 x.owner, .int .i64 x.key, .bool x.write, .bool x.got]
def wfHold (x : Hold) : Prop := (Lit.int .i64 x.owner).wf = true ∧ (Lit.int .i64 x.key).wf = true
end Go.Proofs.YtackknkfcbnklaaDoor
