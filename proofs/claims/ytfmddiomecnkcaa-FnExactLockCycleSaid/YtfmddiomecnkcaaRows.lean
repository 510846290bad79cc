/-
  No cell of these rows narrows 'for every input' (looked for: loops, veiled, ifaces, maps, wideKeys, modest, calm, conditions, laid).
  DERIVED. THE GIVEN ROWS OF THIS SEAT. 5 by the template 'for every input the law returns true; each argument reads behind the call as it read before'; 0 by the template 'total and deterministic' (their statements: YtfmddiomecnkcaaTotals.lean).
  GIVEN WITH THE SEED: the statements are not yours to turn. If you find one false, say at which input.
  Laid BY PROGRAM, IN A SANDBOX (cutbox-rows.mjs): the forced cells as the released guide's own fill.sh prints them over the translation 7e70ea83bcd8a0f8… (all of the seat's roots in one cut). By AI agents, Wed Nov 11 2026. No macro, syntax, notation, axiom, sorry.
-/
import Derived.Test.YtfmddiomecnkcaaChecked
import GoSem.Claim
import GoSem.ClaimJoined
import GoSem.ClaimMapViews
import Derived.JoinedTies
import Derived.KernelRfl
namespace Go.Proofs.Ytfmddiomecnkcaa
/- THE CELL 'sum', in the pinned program and in every row, IS THE sha256 OF THE DUMP (.gsa) THAT YtfmddiomecnkcaaProg.lean LOADS. Nothing in Lean hashes anything: it is a label: what it is worth is what the hold of that sum in a sandbox is worth. -/
noncomputable def Try.pinned : Pinned := { name := "ytfmddiomecnkcaa", sum := "7e70ea83bcd8a0f82391f802b67a331cbee9276c81191256f81ba1c048199da1", checked := Try.checked }
namespace Rows
def none {H : Type} : Left H := { results := [], args := [] }

/-- 'laws.FnExactHoldsValid': WHATEVER THE INPUT: true; the input reads as it did. -/
def fnExactHoldsValidSpec : ChangeSpec := { name := "fnExactHoldsValid", fn := fun _ => fun
  | [d] => { results := [.lit (.bool true)], args := [d] }
  | _ => none }
def fnExactHoldsValidRow : OpenClaim := { program := "ytfmddiomecnkcaa", sum := "7e70ea83bcd8a0f82391f802b67a331cbee9276c81191256f81ba1c048199da1", func := "loop.example/historychecker/laws.FnExactHoldsValid", spec := "fnExactHoldsValid", unfollowed := true, recurses := true, apart := false }
def FnExactHoldsValidSaid : Prop := fnExactHoldsValidRow.holds Try.pinned (OpenSpec.ofChange fnExactHoldsValidSpec)

/-- ITS FALSE NEIGHBOUR: 'it returns false'. Refute it at one input. -/
def fnExactHoldsValidWrong : ChangeSpec := { name := "fnExactHoldsValid", fn := fun _ => fun
  | [d] => { results := [.lit (.bool false)], args := [d] }
  | _ => none }
def FnExactHoldsValidWrongFalsely : Prop := fnExactHoldsValidRow.holds Try.pinned (OpenSpec.ofChange fnExactHoldsValidWrong)

/-- 'laws.FnExactAskLock': WHATEVER THE INPUT: true; the input reads as it did. -/
def fnExactAskLockSpec : ChangeSpec := { name := "fnExactAskLock", fn := fun _ => fun
  | [d1, d2, d3, d4] => { results := [.lit (.bool true)], args := [d1, d2, d3, d4] }
  | _ => none }
def fnExactAskLockRow : OpenClaim := { program := "ytfmddiomecnkcaa", sum := "7e70ea83bcd8a0f82391f802b67a331cbee9276c81191256f81ba1c048199da1", func := "loop.example/historychecker/laws.FnExactAskLock", spec := "fnExactAskLock", unfollowed := true, recurses := true, apart := false }
def FnExactAskLockSaid : Prop := fnExactAskLockRow.holds Try.pinned (OpenSpec.ofChange fnExactAskLockSpec)

/-- ITS FALSE NEIGHBOUR: 'it returns false'. Refute it at one input. -/
def fnExactAskLockWrong : ChangeSpec := { name := "fnExactAskLock", fn := fun _ => fun
  | [d1, d2, d3, d4] => { results := [.lit (.bool false)], args := [d1, d2, d3, d4] }
  | _ => none }
def FnExactAskLockWrongFalsely : Prop := fnExactAskLockRow.holds Try.pinned (OpenSpec.ofChange fnExactAskLockWrong)

/-- 'laws.FnExactFreeLocks': WHATEVER THE INPUT: true; the input reads as it did. -/
def fnExactFreeLocksSpec : ChangeSpec := { name := "fnExactFreeLocks", fn := fun _ => fun
  | [d1, d2] => { results := [.lit (.bool true)], args := [d1, d2] }
  | _ => none }
def fnExactFreeLocksRow : OpenClaim := { program := "ytfmddiomecnkcaa", sum := "7e70ea83bcd8a0f82391f802b67a331cbee9276c81191256f81ba1c048199da1", func := "loop.example/historychecker/laws.FnExactFreeLocks", spec := "fnExactFreeLocks", unfollowed := true, recurses := true, apart := false }
def FnExactFreeLocksSaid : Prop := fnExactFreeLocksRow.holds Try.pinned (OpenSpec.ofChange fnExactFreeLocksSpec)

/-- ITS FALSE NEIGHBOUR: 'it returns false'. Refute it at one input. -/
def fnExactFreeLocksWrong : ChangeSpec := { name := "fnExactFreeLocks", fn := fun _ => fun
  | [d1, d2] => { results := [.lit (.bool false)], args := [d1, d2] }
  | _ => none }
def FnExactFreeLocksWrongFalsely : Prop := fnExactFreeLocksRow.holds Try.pinned (OpenSpec.ofChange fnExactFreeLocksWrong)

/-- 'laws.FnExactLockCycle': WHATEVER THE INPUT: true; the input reads as it did. -/
def fnExactLockCycleSpec : ChangeSpec := { name := "fnExactLockCycle", fn := fun _ => fun
  | [d] => { results := [.lit (.bool true)], args := [d] }
  | _ => none }
def fnExactLockCycleRow : OpenClaim := { program := "ytfmddiomecnkcaa", sum := "7e70ea83bcd8a0f82391f802b67a331cbee9276c81191256f81ba1c048199da1", func := "loop.example/historychecker/laws.FnExactLockCycle", spec := "fnExactLockCycle", unfollowed := true, recurses := true, apart := false }
def FnExactLockCycleSaid : Prop := fnExactLockCycleRow.holds Try.pinned (OpenSpec.ofChange fnExactLockCycleSpec)

/-- ITS FALSE NEIGHBOUR: 'it returns false'. Refute it at one input. -/
def fnExactLockCycleWrong : ChangeSpec := { name := "fnExactLockCycle", fn := fun _ => fun
  | [d] => { results := [.lit (.bool false)], args := [d] }
  | _ => none }
def FnExactLockCycleWrongFalsely : Prop := fnExactLockCycleRow.holds Try.pinned (OpenSpec.ofChange fnExactLockCycleWrong)

/-- 'laws.FnExactChosenValue': WHATEVER THE INPUT: true; the input reads as it did. -/
def fnExactChosenValueSpec : ChangeSpec := { name := "fnExactChosenValue", fn := fun _ => fun
  | [d] => { results := [.lit (.bool true)], args := [d] }
  | _ => none }
def fnExactChosenValueRow : OpenClaim := { program := "ytfmddiomecnkcaa", sum := "7e70ea83bcd8a0f82391f802b67a331cbee9276c81191256f81ba1c048199da1", func := "loop.example/historychecker/laws.FnExactChosenValue", spec := "fnExactChosenValue", apart := false }
def FnExactChosenValueSaid : Prop := fnExactChosenValueRow.holds Try.pinned (OpenSpec.ofChange fnExactChosenValueSpec)

/-- ITS FALSE NEIGHBOUR: 'it returns false'. Refute it at one input. -/
def fnExactChosenValueWrong : ChangeSpec := { name := "fnExactChosenValue", fn := fun _ => fun
  | [d] => { results := [.lit (.bool false)], args := [d] }
  | _ => none }
def FnExactChosenValueWrongFalsely : Prop := fnExactChosenValueRow.holds Try.pinned (OpenSpec.ofChange fnExactChosenValueWrong)

/- THE SECOND FORM. 'bulk': how many values and letters a reading holds, each counted each time it is reached (what is shared counts as often as it is met; a slice's spare places count too). A statement '..UptoSaid' is the law's where the arguments, and the package variables that the reading takes, are together of bulk at most 1048576: NARROWER than '..Said'. Prove '..Said' where nothing that the law and all that it calls make is longer than what came in: it says more and counts as full. Else prove '..UptoSaid'. A law counts once. -/
mutual
def uptoBulk {H : Type} : DataW H → Nat
  | .lit (.string bytes) => bytes.length + 1
  | .lit _ => 1
  | .nil => 1
  | .ptr d => uptoBulk d + 1
  | .slice elems spare => uptoBulkAll elems + uptoBulkAll spare + 1
  | .agg parts => uptoBulkAll parts + 1
  | .iface _ d => uptoBulk d + 1
  | .map entries => uptoBulkEntries entries + 1
  | .held _ => 1
def uptoBulkAll {H : Type} : List (DataW H) → Nat
  | [] => 0
  | d :: r => uptoBulk d + uptoBulkAll r
def uptoBulkEntries {H : Type} : List (Lit × DataW H) → Nat
  | [] => 0
  | x :: r => uptoBulkEntry x + uptoBulkEntries r
def uptoBulkEntry {H : Type} : Lit × DataW H → Nat
  | (.string bytes, d) => bytes.length + uptoBulk d + 1
  | (_, d) => uptoBulk d + 1
 end
def uptoSmall : (H : Type) → List (DataW H) → Bool := fun _ ds => decide (uptoBulkAll ds ≤ 1048576)
def OpenSpec.upto (s : _root_.Go.ChangeSpec) : _root_.Go.OpenSpec := { _root_.Go.OpenSpec.ofChange s with cond := some uptoSmall }

/-- 'laws.FnExactHoldsValid', WHERE WHAT IT READS IS OF BULK AT MOST 1048576: true; the input reads as it did. -/
def fnExactHoldsValidUptoRow : OpenClaim := { program := "ytfmddiomecnkcaa", sum := "7e70ea83bcd8a0f82391f802b67a331cbee9276c81191256f81ba1c048199da1", func := "loop.example/historychecker/laws.FnExactHoldsValid", spec := "fnExactHoldsValid", unfollowed := true, recurses := true, apart := false, narrowed := true }
def FnExactHoldsValidUptoSaid : Prop := fnExactHoldsValidUptoRow.holds Try.pinned (OpenSpec.upto fnExactHoldsValidSpec)

/-- 'laws.FnExactAskLock', WHERE WHAT IT READS IS OF BULK AT MOST 1048576: true; the input reads as it did. -/
def fnExactAskLockUptoRow : OpenClaim := { program := "ytfmddiomecnkcaa", sum := "7e70ea83bcd8a0f82391f802b67a331cbee9276c81191256f81ba1c048199da1", func := "loop.example/historychecker/laws.FnExactAskLock", spec := "fnExactAskLock", unfollowed := true, recurses := true, apart := false, narrowed := true }
def FnExactAskLockUptoSaid : Prop := fnExactAskLockUptoRow.holds Try.pinned (OpenSpec.upto fnExactAskLockSpec)

/-- 'laws.FnExactFreeLocks', WHERE WHAT IT READS IS OF BULK AT MOST 1048576: true; the input reads as it did. -/
def fnExactFreeLocksUptoRow : OpenClaim := { program := "ytfmddiomecnkcaa", sum := "7e70ea83bcd8a0f82391f802b67a331cbee9276c81191256f81ba1c048199da1", func := "loop.example/historychecker/laws.FnExactFreeLocks", spec := "fnExactFreeLocks", unfollowed := true, recurses := true, apart := false, narrowed := true }
def FnExactFreeLocksUptoSaid : Prop := fnExactFreeLocksUptoRow.holds Try.pinned (OpenSpec.upto fnExactFreeLocksSpec)

/-- 'laws.FnExactLockCycle', WHERE WHAT IT READS IS OF BULK AT MOST 1048576: true; the input reads as it did. -/
def fnExactLockCycleUptoRow : OpenClaim := { program := "ytfmddiomecnkcaa", sum := "7e70ea83bcd8a0f82391f802b67a331cbee9276c81191256f81ba1c048199da1", func := "loop.example/historychecker/laws.FnExactLockCycle", spec := "fnExactLockCycle", unfollowed := true, recurses := true, apart := false, narrowed := true }
def FnExactLockCycleUptoSaid : Prop := fnExactLockCycleUptoRow.holds Try.pinned (OpenSpec.upto fnExactLockCycleSpec)

/-- 'laws.FnExactChosenValue', WHERE WHAT IT READS IS OF BULK AT MOST 1048576: true; the input reads as it did. -/
def fnExactChosenValueUptoRow : OpenClaim := { program := "ytfmddiomecnkcaa", sum := "7e70ea83bcd8a0f82391f802b67a331cbee9276c81191256f81ba1c048199da1", func := "loop.example/historychecker/laws.FnExactChosenValue", spec := "fnExactChosenValue", apart := false, narrowed := true }
def FnExactChosenValueUptoSaid : Prop := fnExactChosenValueUptoRow.holds Try.pinned (OpenSpec.upto fnExactChosenValueSpec)

end Rows
end Go.Proofs.Ytfmddiomecnkcaa
