/- The structs of the laws: their cells, and what the laws' own helpers on them do. -/
import Derived.Test.YtiakkgpkkpaldaaDoorRows
import Derived.Test.YtiakkgpkkpaldaaDoorBase
namespace Go.Proofs.YtiakkgpkkpaldaaDoor
open Go.RowKit

structure Rec where
  term : Int
  value : Int
def encRec (x : Rec) : Nat → Value
  | 0 => .int .i64 x.term
  | _ => .int .i64 x.value
def aggRec (x : Rec) : Value := .agg #[.int .i64 x.term, .int .i64 x.value]
def wfRec (x : Rec) : Prop := (Lit.int .i64 x.term).wf = true ∧ (Lit.int .i64 x.value).wf = true
structure Vote where
  ballot : Int
  value : Int
def encVote (x : Vote) : Nat → Value
  | 0 => .int .i64 x.ballot
  | _ => .int .i64 x.value
def aggVote (x : Vote) : Value := .agg #[.int .i64 x.ballot, .int .i64 x.value]
def wfVote (x : Vote) : Prop := (Lit.int .i64 x.ballot).wf = true ∧ (Lit.int .i64 x.value).wf = true
structure Touch where
  read : Int
  write : Int
def encTouch (x : Touch) : Nat → Value
  | 0 => .int .i64 x.read
  | _ => .int .i64 x.write
def aggTouch (x : Touch) : Value := .agg #[.int .i64 x.read, .int .i64 x.write]
def wfTouch (x : Touch) : Prop := (Lit.int .i64 x.read).wf = true ∧ (Lit.int .i64 x.write).wf = true
structure Lease where
  who : Int
  frm : Int
  til : Int
def encLease (x : Lease) : Nat → Value
  | 0 => .int .i64 x.who
  | 1 => .int .i64 x.frm
  | _ => .int .i64 x.til
def aggLease (x : Lease) : Value := .agg #[.int .i64 x.who, .int .i64 x.frm, .int .i64 x.til]
def wfLease (x : Lease) : Prop := (Lit.int .i64 x.who).wf = true ∧ (Lit.int .i64 x.frm).wf = true ∧ (Lit.int .i64 x.til).wf = true
structure Redo where
  who : Int
  key : Int
  value : Int
def encRedo (x : Redo) : Nat → Value
  | 0 => .int .i64 x.who
  | 1 => .int .i64 x.key
  | _ => .int .i64 x.value
def aggRedo (x : Redo) : Value := .agg #[.int .i64 x.who, .int .i64 x.key, .int .i64 x.value]
def wfRedo (x : Redo) : Prop := (Lit.int .i64 x.who).wf = true ∧ (Lit.int .i64 x.key).wf = true ∧ (Lit.int .i64 x.value).wf = true
structure Hold where
  owner : Int
  key : Int
  write : Bool
  got : Bool
def encHold (x : Hold) : Nat → Value
  | 0 => .int .i64 x.owner
  | 1 => .int .i64 x.key
  | 2 => .bool x.write
  | _ => .bool x.got
def aggHold (x : Hold) : Value := .agg #[.int .i64 x.owner, .int .i64 x.key, .bool x.write, .bool x.got]
def wfHold (x : Hold) : Prop := (Lit.int .i64 x.owner).wf = true ∧ (Lit.int .i64 x.key).wf = true
set_option maxHeartbeats 400000 in
theorem indexFuncHold_any {v : Value} {xs : List Hold} (w : World) (F : FuncId) (cap : Array Value) (p : Hold → Bool) (h : SlOf 4 encHold w v xs) (hlen : xs.length ≤ 2097152)
    (hcf : ∀ args W, (callFunc F args).run Tryd.prog W = .ok (.enter F args) W) (hF : ∀ x ∈ xs, ∀ W, Ext w W → Calls Tryd.prog F (#[.agg #[.int .i64 x.owner, .int .i64 x.key, .bool x.write, .bool x.got]] ++ cap) W fun e w' => e = .returned (.bool (p x)) ∧ Ext W w') :
    Calls Tryd.prog 68 #[v, .func (.func F) #[] cap] w fun e w' => e = .returned (.int .i64 (findAt p xs 0)) ∧ Ext w w' := by
  obtain ⟨A, c, rfl, h⟩ := h
  have HF := Lib.hid hF
  clear hF
  go_enter Tryd.func68, Tryd.ntmps68
  go_wp2
  go_loopw [8] (fun i wr => Ext w wr ∧ ∃ k : Nat, k ≤ xs.length ∧ i = .int .i64 k ∧ Hid (findAt p xs 0 = findAt p (xs.drop k) k)) (fun i _ => xs.length - (intOf i).toNat)
  case atStart => exact ⟨Ext.refl _, 0, Nat.zero_le _, rfl, rfl⟩
  case round =>
    obtain ⟨hb, k, hk, rfl, HI⟩ := hrel
    by_cases hlt : k < xs.length
    · obtain ⟨b, off, rfl, hbl, hc⟩ := h (by omega)
      obtain ⟨x, hx⟩ := at_some hlt
      have c0 : wr.cell? ⟨b, off + k * 4, none⟩ = some (.int .i64 x.owner) := hb.cell (hc k x hx 0 (by omega))
      have c1 : wr.cell? ⟨b, off + k * 4 + 1, none⟩ = some (.int .i64 x.key) := hb.cell (hc k x hx 1 (by omega))
      have c2 : wr.cell? ⟨b, off + k * 4 + 2, none⟩ = some (.bool x.write) := hb.cell (hc k x hx 2 (by omega))
      have c3 : wr.cell? ⟨b, off + k * 4 + 3, none⟩ = some (.bool x.got) := hb.cell (hc k x hx 3 (by omega))
      have Hx := Lib.hid hx
      have Hm := List.mem_of_getElem? hx
      clear hx h hc
      go_wp2_with fail
      refine (HF.out x Hm _ hb).mono ?_
      rintro e w1 ⟨rfl, b1⟩
      by_cases hp : p x = true
      · have hr := Lib.hid (HI.out.trans (findAt_hit Hx.out hp))
        go_wp2
        go_returns
        exact ⟨ret_int hr.out.symm, hb.trans b1⟩
      · simp only [Bool.not_eq_true] at hp
        have hr := Lib.hid (HI.out.trans (findAt_step Hx.out hp))
        go_wp2
        go_roundw
        case rel => exact ⟨hb.trans b1, k + 1, by omega, by go_num, hr⟩
        case measure => simp [intOf]; omega
    · obtain rfl : k = xs.length := by omega
      go_wp2
      go_returns
      exact ⟨ret_int (by rw [HI.out]; simp [findAt]), hb⟩

set_option maxHeartbeats 400000 in
theorem containsFuncHold_any {v : Value} {xs : List Hold} (w : World) (F : FuncId) (cap : Array Value) (p : Hold → Bool) (h : SlOf 4 encHold w v xs) (hlen : xs.length ≤ 2097152)
    (hcf : ∀ args W, (callFunc F args).run Tryd.prog W = .ok (.enter F args) W) (hF : ∀ x ∈ xs, ∀ W, Ext w W → Calls Tryd.prog F (#[.agg #[.int .i64 x.owner, .int .i64 x.key, .bool x.write, .bool x.got]] ++ cap) W fun e w' => e = .returned (.bool (p x)) ∧ Ext W w') :
    Calls Tryd.prog 59 #[v, .func (.func F) #[] cap] w fun e w' => e = .returned (.bool (xs.any p)) ∧ Ext w w' := by
  have HF := Lib.hid hF
  clear hF
  go_enter Tryd.func59, Tryd.ntmps59
  go_wp2_with fail
  refine (indexFuncHold_any w F cap p h hlen hcf HF.out).mono ?_
  rintro e w1 ⟨rfl, b1⟩
  go_wp2
  go_returns
  exact ⟨ret_bool (findAt_any), b1⟩

end Go.Proofs.YtiakkgpkkpaldaaDoor
