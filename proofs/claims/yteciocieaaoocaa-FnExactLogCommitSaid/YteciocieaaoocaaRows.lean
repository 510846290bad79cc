/-
  No cell of these rows narrows 'for every input' (looked for: loops, veiled, ifaces, maps, wideKeys, modest, calm, conditions, laid).
  DERIVED. THE GIVEN ROWS OF THIS SEAT. 3 by the template 'for every input the law returns true; each argument reads behind the call as it read before'; 0 by the template 'total and deterministic' (their statements: YteciocieaaoocaaTotals.lean).
  GIVEN WITH THE SEED: the statements are not yours to turn. If you find one false, say at which input.
  Laid BY PROGRAM, IN A SANDBOX (cutbox-rows.mjs): the forced cells as the released guide's own fill.sh prints them over the translation 12f3c24a455037c1… (all of the seat's roots in one cut). By AI agents, Wed Nov 11 2026. No macro, syntax, notation, axiom, sorry.
-/
import Derived.Test.YteciocieaaoocaaChecked
import GoSem.Claim
import GoSem.ClaimJoined
import GoSem.ClaimMapViews
import Derived.JoinedTies
import Derived.KernelRfl
namespace Go.Proofs.Yteciocieaaoocaa
/- THE CELL 'sum', in the pinned program and in every row, IS THE sha256 OF THE DUMP (.gsa) THAT YteciocieaaoocaaProg.lean LOADS. Nothing in Lean hashes anything: it is a label: what it is worth is what the hold of that sum in a sandbox is worth. -/
noncomputable def Try.pinned : Pinned := { name := "yteciocieaaoocaa", sum := "12f3c24a455037c1d705e540a6995805cbf909421cbf16885afc6ac414904c55", checked := Try.checked }
namespace Rows
def none {H : Type} : Left H := { results := [], args := [] }

/-- 'laws.FnExactTouchRun': WHATEVER THE INPUT: true; the input reads as it did. -/
def fnExactTouchRunSpec : ChangeSpec := { name := "fnExactTouchRun", fn := fun _ => fun
  | [d] => { results := [.lit (.bool true)], args := [d] }
  | _ => none }
def fnExactTouchRunRow : OpenClaim := { program := "yteciocieaaoocaa", sum := "12f3c24a455037c1d705e540a6995805cbf909421cbf16885afc6ac414904c55", func := "loop.example/historychecker/laws.FnExactTouchRun", spec := "fnExactTouchRun", unfollowed := true, recurses := true, apart := false }
def FnExactTouchRunSaid : Prop := fnExactTouchRunRow.holds Try.pinned (OpenSpec.ofChange fnExactTouchRunSpec)

/-- ITS FALSE NEIGHBOUR: 'it returns false'. Refute it at one input. -/
def fnExactTouchRunWrong : ChangeSpec := { name := "fnExactTouchRun", fn := fun _ => fun
  | [d] => { results := [.lit (.bool false)], args := [d] }
  | _ => none }
def FnExactTouchRunWrongFalsely : Prop := fnExactTouchRunRow.holds Try.pinned (OpenSpec.ofChange fnExactTouchRunWrong)

/-- 'laws.FnExactRedoShort': WHATEVER THE INPUT: true; the input reads as it did. -/
def fnExactRedoShortSpec : ChangeSpec := { name := "fnExactRedoShort", fn := fun _ => fun
  | [d] => { results := [.lit (.bool true)], args := [d] }
  | _ => none }
def fnExactRedoShortRow : OpenClaim := { program := "yteciocieaaoocaa", sum := "12f3c24a455037c1d705e540a6995805cbf909421cbf16885afc6ac414904c55", func := "loop.example/historychecker/laws.FnExactRedoShort", spec := "fnExactRedoShort", unfollowed := true, recurses := true, apart := false }
def FnExactRedoShortSaid : Prop := fnExactRedoShortRow.holds Try.pinned (OpenSpec.ofChange fnExactRedoShortSpec)

/-- ITS FALSE NEIGHBOUR: 'it returns false'. Refute it at one input. -/
def fnExactRedoShortWrong : ChangeSpec := { name := "fnExactRedoShort", fn := fun _ => fun
  | [d] => { results := [.lit (.bool false)], args := [d] }
  | _ => none }
def FnExactRedoShortWrongFalsely : Prop := fnExactRedoShortRow.holds Try.pinned (OpenSpec.ofChange fnExactRedoShortWrong)

/-- 'laws.FnExactLogCommit': WHATEVER THE INPUT: true; the input reads as it did. -/
def fnExactLogCommitSpec : ChangeSpec := { name := "fnExactLogCommit", fn := fun _ => fun
  | [d] => { results := [.lit (.bool true)], args := [d] }
  | _ => none }
def fnExactLogCommitRow : OpenClaim := { program := "yteciocieaaoocaa", sum := "12f3c24a455037c1d705e540a6995805cbf909421cbf16885afc6ac414904c55", func := "loop.example/historychecker/laws.FnExactLogCommit", spec := "fnExactLogCommit", unfollowed := true, recurses := true, apart := false }
def FnExactLogCommitSaid : Prop := fnExactLogCommitRow.holds Try.pinned (OpenSpec.ofChange fnExactLogCommitSpec)

/-- ITS FALSE NEIGHBOUR: 'it returns false'. Refute it at one input. -/
def fnExactLogCommitWrong : ChangeSpec := { name := "fnExactLogCommit", fn := fun _ => fun
  | [d] => { results := [.lit (.bool false)], args := [d] }
  | _ => none }
def FnExactLogCommitWrongFalsely : Prop := fnExactLogCommitRow.holds Try.pinned (OpenSpec.ofChange fnExactLogCommitWrong)

/- THE SECOND FORM. 'bulk': how many values and letters a reading holds, each counted each time it is reached (what is shared counts as often as it is met; a slice's spare places count too). A statement '..UptoSaid' is the law's where the arguments, and the package variables that the reading takes, are together of bulk at most 1048576: NARROWER than '..Said'. Prove '..Said' where nothing that the law and all that it calls make is longer than what came in: it says more and counts as full. Else prove '..UptoSaid'. A law counts once. -/
mutual
def uptoBulk {H : Type} : DataW H → Nat
  | .lit (.string bytes) => bytes.length + 1
  | .lit _ => 1
  | .nil => 1
  | .ptr d => uptoBulk d + 1
  | .slice elems spare => uptoBulkAll elems + uptoBulkAll spare + 1
  | .agg parts => uptoBulkAll parts + 1
  | .iface _ d => uptoBulk d + 1
  | .map entries => uptoBulkEntries entries + 1
  | .held _ => 1
def uptoBulkAll {H : Type} : List (DataW H) → Nat
  | [] => 0
  | d :: r => uptoBulk d + uptoBulkAll r
def uptoBulkEntries {H : Type} : List (Lit × DataW H) → Nat
  | [] => 0
  | x :: r => uptoBulkEntry x + uptoBulkEntries r
def uptoBulkEntry {H : Type} : Lit × DataW H → Nat
  | (.string bytes, d) => bytes.length + uptoBulk d + 1
  | (_, d) => uptoBulk d + 1
 end
def uptoSmall : (H : Type) → List (DataW H) → Bool := fun _ ds => decide (uptoBulkAll ds ≤ 1048576)
def OpenSpec.upto (s : _root_.Go.ChangeSpec) : _root_.Go.OpenSpec := { _root_.Go.OpenSpec.ofChange s with cond := some uptoSmall }

/-- 'laws.FnExactTouchRun', WHERE WHAT IT READS IS OF BULK AT MOST 1048576: true; the input reads as it did. -/
def fnExactTouchRunUptoRow : OpenClaim := { program := "yteciocieaaoocaa", sum := "12f3c24a455037c1d705e540a6995805cbf909421cbf16885afc6ac414904c55", func := "loop.example/historychecker/laws.FnExactTouchRun", spec := "fnExactTouchRun", unfollowed := true, recurses := true, apart := false, narrowed := true }
def FnExactTouchRunUptoSaid : Prop := fnExactTouchRunUptoRow.holds Try.pinned (OpenSpec.upto fnExactTouchRunSpec)

/-- 'laws.FnExactRedoShort', WHERE WHAT IT READS IS OF BULK AT MOST 1048576: true; the input reads as it did. -/
def fnExactRedoShortUptoRow : OpenClaim := { program := "yteciocieaaoocaa", sum := "12f3c24a455037c1d705e540a6995805cbf909421cbf16885afc6ac414904c55", func := "loop.example/historychecker/laws.FnExactRedoShort", spec := "fnExactRedoShort", unfollowed := true, recurses := true, apart := false, narrowed := true }
def FnExactRedoShortUptoSaid : Prop := fnExactRedoShortUptoRow.holds Try.pinned (OpenSpec.upto fnExactRedoShortSpec)

/-- 'laws.FnExactLogCommit', WHERE WHAT IT READS IS OF BULK AT MOST 1048576: true; the input reads as it did. -/
def fnExactLogCommitUptoRow : OpenClaim := { program := "yteciocieaaoocaa", sum := "12f3c24a455037c1d705e540a6995805cbf909421cbf16885afc6ac414904c55", func := "loop.example/historychecker/laws.FnExactLogCommit", spec := "fnExactLogCommit", unfollowed := true, recurses := true, apart := false, narrowed := true }
def FnExactLogCommitUptoSaid : Prop := fnExactLogCommitUptoRow.holds Try.pinned (OpenSpec.upto fnExactLogCommitSpec)

end Rows
end Go.Proofs.Yteciocieaaoocaa
