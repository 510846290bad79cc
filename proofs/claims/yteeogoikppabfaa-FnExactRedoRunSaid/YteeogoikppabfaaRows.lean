/-
  No cell of these rows narrows 'for every input' (looked for: loops, veiled, ifaces, maps, wideKeys, modest, calm, conditions, laid).
  DERIVED. THE GIVEN ROWS OF THIS SEAT. 4 by the template 'for every input the law returns true; each argument reads behind the call as it read before'; 0 by the template 'total and deterministic' (their statements: YteeogoikppabfaaTotals.lean).
  GIVEN WITH THE SEED: the statements are not yours to turn. If you find one false, say at which input.
  Laid BY PROGRAM, IN A SANDBOX (cutbox-rows.mjs): the forced cells as the released guide's own fill.sh prints them over the translation a2c8be4f3d9a340f… (all of the seat's roots in one cut). By AI agents, Wed Nov 11 2026. No macro, syntax, notation, axiom, sorry.
-/
import Derived.Test.YteeogoikppabfaaChecked
import GoSem.Claim
import GoSem.ClaimJoined
import GoSem.ClaimMapViews
import Derived.JoinedTies
import Derived.KernelRfl
namespace Go.Proofs.Yteeogoikppabfaa
/- THE CELL 'sum', in the pinned program and in every row, IS THE sha256 OF THE DUMP (.gsa) THAT YteeogoikppabfaaProg.lean LOADS. Nothing in Lean hashes anything: it is a label: what it is worth is what the hold of that sum in a sandbox is worth. -/
noncomputable def Try.pinned : Pinned := { name := "yteeogoikppabfaa", sum := "a2c8be4f3d9a340f52f477e6dcb42c52bb55e8a0b1e2a787df8519ac6f657825", checked := Try.checked }
namespace Rows
def none {H : Type} : Left H := { results := [], args := [] }

/-- 'laws.FnExactTouchKey': WHATEVER THE INPUT: true; the input reads as it did. -/
def fnExactTouchKeySpec : ChangeSpec := { name := "fnExactTouchKey", fn := fun _ => fun
  | [d1, d2, d3, d4] => { results := [.lit (.bool true)], args := [d1, d2, d3, d4] }
  | _ => none }
def fnExactTouchKeyRow : OpenClaim := { program := "yteeogoikppabfaa", sum := "a2c8be4f3d9a340f52f477e6dcb42c52bb55e8a0b1e2a787df8519ac6f657825", func := "loop.example/historychecker/laws.FnExactTouchKey", spec := "fnExactTouchKey", unfollowed := true, recurses := true, apart := false }
def FnExactTouchKeySaid : Prop := fnExactTouchKeyRow.holds Try.pinned (OpenSpec.ofChange fnExactTouchKeySpec)

/-- ITS FALSE NEIGHBOUR: 'it returns false'. Refute it at one input. -/
def fnExactTouchKeyWrong : ChangeSpec := { name := "fnExactTouchKey", fn := fun _ => fun
  | [d1, d2, d3, d4] => { results := [.lit (.bool false)], args := [d1, d2, d3, d4] }
  | _ => none }
def FnExactTouchKeyWrongFalsely : Prop := fnExactTouchKeyRow.holds Try.pinned (OpenSpec.ofChange fnExactTouchKeyWrong)

/-- 'laws.FnExactTouchRun': WHATEVER THE INPUT: true; the input reads as it did. -/
def fnExactTouchRunSpec : ChangeSpec := { name := "fnExactTouchRun", fn := fun _ => fun
  | [d] => { results := [.lit (.bool true)], args := [d] }
  | _ => none }
def fnExactTouchRunRow : OpenClaim := { program := "yteeogoikppabfaa", sum := "a2c8be4f3d9a340f52f477e6dcb42c52bb55e8a0b1e2a787df8519ac6f657825", func := "loop.example/historychecker/laws.FnExactTouchRun", spec := "fnExactTouchRun", unfollowed := true, recurses := true, apart := false }
def FnExactTouchRunSaid : Prop := fnExactTouchRunRow.holds Try.pinned (OpenSpec.ofChange fnExactTouchRunSpec)

/-- ITS FALSE NEIGHBOUR: 'it returns false'. Refute it at one input. -/
def fnExactTouchRunWrong : ChangeSpec := { name := "fnExactTouchRun", fn := fun _ => fun
  | [d] => { results := [.lit (.bool false)], args := [d] }
  | _ => none }
def FnExactTouchRunWrongFalsely : Prop := fnExactTouchRunRow.holds Try.pinned (OpenSpec.ofChange fnExactTouchRunWrong)

/-- 'laws.FnExactRedoRun': WHATEVER THE INPUT: true; the input reads as it did. -/
def fnExactRedoRunSpec : ChangeSpec := { name := "fnExactRedoRun", fn := fun _ => fun
  | [d1, d2] => { results := [.lit (.bool true)], args := [d1, d2] }
  | _ => none }
def fnExactRedoRunRow : OpenClaim := { program := "yteeogoikppabfaa", sum := "a2c8be4f3d9a340f52f477e6dcb42c52bb55e8a0b1e2a787df8519ac6f657825", func := "loop.example/historychecker/laws.FnExactRedoRun", spec := "fnExactRedoRun", unfollowed := true, recurses := true, apart := false }
def FnExactRedoRunSaid : Prop := fnExactRedoRunRow.holds Try.pinned (OpenSpec.ofChange fnExactRedoRunSpec)

/-- ITS FALSE NEIGHBOUR: 'it returns false'. Refute it at one input. -/
def fnExactRedoRunWrong : ChangeSpec := { name := "fnExactRedoRun", fn := fun _ => fun
  | [d1, d2] => { results := [.lit (.bool false)], args := [d1, d2] }
  | _ => none }
def FnExactRedoRunWrongFalsely : Prop := fnExactRedoRunRow.holds Try.pinned (OpenSpec.ofChange fnExactRedoRunWrong)

/-- 'laws.FnExactRedoShort': WHATEVER THE INPUT: true; the input reads as it did. -/
def fnExactRedoShortSpec : ChangeSpec := { name := "fnExactRedoShort", fn := fun _ => fun
  | [d] => { results := [.lit (.bool true)], args := [d] }
  | _ => none }
def fnExactRedoShortRow : OpenClaim := { program := "yteeogoikppabfaa", sum := "a2c8be4f3d9a340f52f477e6dcb42c52bb55e8a0b1e2a787df8519ac6f657825", func := "loop.example/historychecker/laws.FnExactRedoShort", spec := "fnExactRedoShort", unfollowed := true, recurses := true, apart := false }
def FnExactRedoShortSaid : Prop := fnExactRedoShortRow.holds Try.pinned (OpenSpec.ofChange fnExactRedoShortSpec)

/-- ITS FALSE NEIGHBOUR: 'it returns false'. Refute it at one input. -/
def fnExactRedoShortWrong : ChangeSpec := { name := "fnExactRedoShort", fn := fun _ => fun
  | [d] => { results := [.lit (.bool false)], args := [d] }
  | _ => none }
def FnExactRedoShortWrongFalsely : Prop := fnExactRedoShortRow.holds Try.pinned (OpenSpec.ofChange fnExactRedoShortWrong)

/- THE SECOND FORM. 'bulk': how many values and letters a reading holds, each counted each time it is reached (what is shared counts as often as it is met; a slice's spare places count too). A statement '..UptoSaid' is the law's where the arguments, and the package variables that the reading takes, are together of bulk at most 1048576: NARROWER than '..Said'. Prove '..Said' where nothing that the law and all that it calls make is longer than what came in: it says more and counts as full. Else prove '..UptoSaid'. A law counts once. -/
mutual
def uptoBulk {H : Type} : DataW H → Nat
  | .lit (.string bytes) => bytes.length + 1
  | .lit _ => 1
  | .nil => 1
  | .ptr d => uptoBulk d + 1
  | .slice elems spare => uptoBulkAll elems + uptoBulkAll spare + 1
  | .agg parts => uptoBulkAll parts + 1
  | .iface _ d => uptoBulk d + 1
  | .map entries => uptoBulkEntries entries + 1
  | .held _ => 1
def uptoBulkAll {H : Type} : List (DataW H) → Nat
  | [] => 0
  | d :: r => uptoBulk d + uptoBulkAll r
def uptoBulkEntries {H : Type} : List (Lit × DataW H) → Nat
  | [] => 0
  | x :: r => uptoBulkEntry x + uptoBulkEntries r
def uptoBulkEntry {H : Type} : Lit × DataW H → Nat
  | (.string bytes, d) => bytes.length + uptoBulk d + 1
  | (_, d) => uptoBulk d + 1
 end
def uptoSmall : (H : Type) → List (DataW H) → Bool := fun _ ds => decide (uptoBulkAll ds ≤ 1048576)
def OpenSpec.upto (s : _root_.Go.ChangeSpec) : _root_.Go.OpenSpec := { _root_.Go.OpenSpec.ofChange s with cond := some uptoSmall }

/-- 'laws.FnExactTouchKey', WHERE WHAT IT READS IS OF BULK AT MOST 1048576: true; the input reads as it did. -/
def fnExactTouchKeyUptoRow : OpenClaim := { program := "yteeogoikppabfaa", sum := "a2c8be4f3d9a340f52f477e6dcb42c52bb55e8a0b1e2a787df8519ac6f657825", func := "loop.example/historychecker/laws.FnExactTouchKey", spec := "fnExactTouchKey", unfollowed := true, recurses := true, apart := false, narrowed := true }
def FnExactTouchKeyUptoSaid : Prop := fnExactTouchKeyUptoRow.holds Try.pinned (OpenSpec.upto fnExactTouchKeySpec)

/-- 'laws.FnExactTouchRun', WHERE WHAT IT READS IS OF BULK AT MOST 1048576: true; the input reads as it did. -/
def fnExactTouchRunUptoRow : OpenClaim := { program := "yteeogoikppabfaa", sum := "a2c8be4f3d9a340f52f477e6dcb42c52bb55e8a0b1e2a787df8519ac6f657825", func := "loop.example/historychecker/laws.FnExactTouchRun", spec := "fnExactTouchRun", unfollowed := true, recurses := true, apart := false, narrowed := true }
def FnExactTouchRunUptoSaid : Prop := fnExactTouchRunUptoRow.holds Try.pinned (OpenSpec.upto fnExactTouchRunSpec)

/-- 'laws.FnExactRedoRun', WHERE WHAT IT READS IS OF BULK AT MOST 1048576: true; the input reads as it did. -/
def fnExactRedoRunUptoRow : OpenClaim := { program := "yteeogoikppabfaa", sum := "a2c8be4f3d9a340f52f477e6dcb42c52bb55e8a0b1e2a787df8519ac6f657825", func := "loop.example/historychecker/laws.FnExactRedoRun", spec := "fnExactRedoRun", unfollowed := true, recurses := true, apart := false, narrowed := true }
def FnExactRedoRunUptoSaid : Prop := fnExactRedoRunUptoRow.holds Try.pinned (OpenSpec.upto fnExactRedoRunSpec)

/-- 'laws.FnExactRedoShort', WHERE WHAT IT READS IS OF BULK AT MOST 1048576: true; the input reads as it did. -/
def fnExactRedoShortUptoRow : OpenClaim := { program := "yteeogoikppabfaa", sum := "a2c8be4f3d9a340f52f477e6dcb42c52bb55e8a0b1e2a787df8519ac6f657825", func := "loop.example/historychecker/laws.FnExactRedoShort", spec := "fnExactRedoShort", unfollowed := true, recurses := true, apart := false, narrowed := true }
def FnExactRedoShortUptoSaid : Prop := fnExactRedoShortUptoRow.holds Try.pinned (OpenSpec.upto fnExactRedoShortSpec)

end Rows
end Go.Proofs.Yteeogoikppabfaa
