/-
  No cell of these rows narrows 'for every input' (looked for: loops, veiled, ifaces, maps, wideKeys, modest, calm, conditions, laid).
  DERIVED. THE GIVEN ROWS OF THIS SEAT. 7 by the template 'for every input the law returns true; each argument reads behind the call as it read before'; 0 by the template 'total and deterministic' (their statements: YtcddagcfhibdiaaTotals.lean).
  GIVEN WITH THE SEED: the statements are not yours to turn. If you find one false, say at which input.
  Laid BY PROGRAM, IN A SANDBOX (cutbox-rows.mjs): the forced cells as the released guide's own fill.sh prints them over the translation cb5d72743504a5cc… (all of the seat's roots in one cut). By AI agents, Wed Nov 11 2026. No macro, syntax, notation, axiom, sorry.
-/
import Derived.Test.YtcddagcfhibdiaaChecked
import GoSem.Claim
import GoSem.ClaimJoined
import GoSem.ClaimMapViews
import Derived.JoinedTies
import Derived.KernelRfl
namespace Go.Proofs.Ytcddagcfhibdiaa
/- THE CELL 'sum', in the pinned program and in every row, IS THE sha256 OF THE DUMP (.gsa) THAT YtcddagcfhibdiaaProg.lean LOADS. Nothing in Lean hashes anything: it is a label: what it is worth is what the hold of that sum in a sandbox is worth. -/
noncomputable def Try.pinned : Pinned := { name := "ytcddagcfhibdiaa", sum := "cb5d72743504a5cccc70e04a9e8f50a8b4f09c4622069ecb5a6714285dac5e57", checked := Try.checked }
namespace Rows
def none {H : Type} : Left H := { results := [], args := [] }

/-- 'laws.FnExactLeaseHeld': WHATEVER THE INPUT: true; the input reads as it did. -/
def fnExactLeaseHeldSpec : ChangeSpec := { name := "fnExactLeaseHeld", fn := fun _ => fun
  | [d1, d2, d3] => { results := [.lit (.bool true)], args := [d1, d2, d3] }
  | _ => none }
def fnExactLeaseHeldRow : OpenClaim := { program := "ytcddagcfhibdiaa", sum := "cb5d72743504a5cccc70e04a9e8f50a8b4f09c4622069ecb5a6714285dac5e57", func := "loop.example/historychecker/laws.FnExactLeaseHeld", spec := "fnExactLeaseHeld", apart := false }
def FnExactLeaseHeldSaid : Prop := fnExactLeaseHeldRow.holds Try.pinned (OpenSpec.ofChange fnExactLeaseHeldSpec)

/-- ITS FALSE NEIGHBOUR: 'it returns false'. Refute it at one input. -/
def fnExactLeaseHeldWrong : ChangeSpec := { name := "fnExactLeaseHeld", fn := fun _ => fun
  | [d1, d2, d3] => { results := [.lit (.bool false)], args := [d1, d2, d3] }
  | _ => none }
def FnExactLeaseHeldWrongFalsely : Prop := fnExactLeaseHeldRow.holds Try.pinned (OpenSpec.ofChange fnExactLeaseHeldWrong)

/-- 'laws.FnExactSetSize': WHATEVER THE INPUT: true; the input reads as it did. -/
def fnExactSetSizeSpec : ChangeSpec := { name := "fnExactSetSize", fn := fun _ => fun
  | [d] => { results := [.lit (.bool true)], args := [d] }
  | _ => none }
def fnExactSetSizeRow : OpenClaim := { program := "ytcddagcfhibdiaa", sum := "cb5d72743504a5cccc70e04a9e8f50a8b4f09c4622069ecb5a6714285dac5e57", func := "loop.example/historychecker/laws.FnExactSetSize", spec := "fnExactSetSize", apart := false }
def FnExactSetSizeSaid : Prop := fnExactSetSizeRow.holds Try.pinned (OpenSpec.ofChange fnExactSetSizeSpec)

/-- ITS FALSE NEIGHBOUR: 'it returns false'. Refute it at one input. -/
def fnExactSetSizeWrong : ChangeSpec := { name := "fnExactSetSize", fn := fun _ => fun
  | [d] => { results := [.lit (.bool false)], args := [d] }
  | _ => none }
def FnExactSetSizeWrongFalsely : Prop := fnExactSetSizeRow.holds Try.pinned (OpenSpec.ofChange fnExactSetSizeWrong)

/-- 'laws.FnExactLogValid': WHATEVER THE INPUT: true; the input reads as it did. -/
def fnExactLogValidSpec : ChangeSpec := { name := "fnExactLogValid", fn := fun _ => fun
  | [d] => { results := [.lit (.bool true)], args := [d] }
  | _ => none }
def fnExactLogValidRow : OpenClaim := { program := "ytcddagcfhibdiaa", sum := "cb5d72743504a5cccc70e04a9e8f50a8b4f09c4622069ecb5a6714285dac5e57", func := "loop.example/historychecker/laws.FnExactLogValid", spec := "fnExactLogValid", apart := false }
def FnExactLogValidSaid : Prop := fnExactLogValidRow.holds Try.pinned (OpenSpec.ofChange fnExactLogValidSpec)

/-- ITS FALSE NEIGHBOUR: 'it returns false'. Refute it at one input. -/
def fnExactLogValidWrong : ChangeSpec := { name := "fnExactLogValid", fn := fun _ => fun
  | [d] => { results := [.lit (.bool false)], args := [d] }
  | _ => none }
def FnExactLogValidWrongFalsely : Prop := fnExactLogValidRow.holds Try.pinned (OpenSpec.ofChange fnExactLogValidWrong)

/-- 'laws.FnExactLeasesValid': WHATEVER THE INPUT: true; the input reads as it did. -/
def fnExactLeasesValidSpec : ChangeSpec := { name := "fnExactLeasesValid", fn := fun _ => fun
  | [d] => { results := [.lit (.bool true)], args := [d] }
  | _ => none }
def fnExactLeasesValidRow : OpenClaim := { program := "ytcddagcfhibdiaa", sum := "cb5d72743504a5cccc70e04a9e8f50a8b4f09c4622069ecb5a6714285dac5e57", func := "loop.example/historychecker/laws.FnExactLeasesValid", spec := "fnExactLeasesValid", apart := false }
def FnExactLeasesValidSaid : Prop := fnExactLeasesValidRow.holds Try.pinned (OpenSpec.ofChange fnExactLeasesValidSpec)

/-- ITS FALSE NEIGHBOUR: 'it returns false'. Refute it at one input. -/
def fnExactLeasesValidWrong : ChangeSpec := { name := "fnExactLeasesValid", fn := fun _ => fun
  | [d] => { results := [.lit (.bool false)], args := [d] }
  | _ => none }
def FnExactLeasesValidWrongFalsely : Prop := fnExactLeasesValidRow.holds Try.pinned (OpenSpec.ofChange fnExactLeasesValidWrong)

/-- 'laws.FnExactTouchesValid': WHATEVER THE INPUT: true; the input reads as it did. -/
def fnExactTouchesValidSpec : ChangeSpec := { name := "fnExactTouchesValid", fn := fun _ => fun
  | [d] => { results := [.lit (.bool true)], args := [d] }
  | _ => none }
def fnExactTouchesValidRow : OpenClaim := { program := "ytcddagcfhibdiaa", sum := "cb5d72743504a5cccc70e04a9e8f50a8b4f09c4622069ecb5a6714285dac5e57", func := "loop.example/historychecker/laws.FnExactTouchesValid", spec := "fnExactTouchesValid", unfollowed := true, recurses := true, apart := false }
def FnExactTouchesValidSaid : Prop := fnExactTouchesValidRow.holds Try.pinned (OpenSpec.ofChange fnExactTouchesValidSpec)

/-- ITS FALSE NEIGHBOUR: 'it returns false'. Refute it at one input. -/
def fnExactTouchesValidWrong : ChangeSpec := { name := "fnExactTouchesValid", fn := fun _ => fun
  | [d] => { results := [.lit (.bool false)], args := [d] }
  | _ => none }
def FnExactTouchesValidWrongFalsely : Prop := fnExactTouchesValidRow.holds Try.pinned (OpenSpec.ofChange fnExactTouchesValidWrong)

/-- 'laws.FnExactVotesValid': WHATEVER THE INPUT: true; the input reads as it did. -/
def fnExactVotesValidSpec : ChangeSpec := { name := "fnExactVotesValid", fn := fun _ => fun
  | [d] => { results := [.lit (.bool true)], args := [d] }
  | _ => none }
def fnExactVotesValidRow : OpenClaim := { program := "ytcddagcfhibdiaa", sum := "cb5d72743504a5cccc70e04a9e8f50a8b4f09c4622069ecb5a6714285dac5e57", func := "loop.example/historychecker/laws.FnExactVotesValid", spec := "fnExactVotesValid", apart := false }
def FnExactVotesValidSaid : Prop := fnExactVotesValidRow.holds Try.pinned (OpenSpec.ofChange fnExactVotesValidSpec)

/-- ITS FALSE NEIGHBOUR: 'it returns false'. Refute it at one input. -/
def fnExactVotesValidWrong : ChangeSpec := { name := "fnExactVotesValid", fn := fun _ => fun
  | [d] => { results := [.lit (.bool false)], args := [d] }
  | _ => none }
def FnExactVotesValidWrongFalsely : Prop := fnExactVotesValidRow.holds Try.pinned (OpenSpec.ofChange fnExactVotesValidWrong)

/-- 'laws.FnExactRedoValid': WHATEVER THE INPUT: true; the input reads as it did. -/
def fnExactRedoValidSpec : ChangeSpec := { name := "fnExactRedoValid", fn := fun _ => fun
  | [d] => { results := [.lit (.bool true)], args := [d] }
  | _ => none }
def fnExactRedoValidRow : OpenClaim := { program := "ytcddagcfhibdiaa", sum := "cb5d72743504a5cccc70e04a9e8f50a8b4f09c4622069ecb5a6714285dac5e57", func := "loop.example/historychecker/laws.FnExactRedoValid", spec := "fnExactRedoValid", apart := false }
def FnExactRedoValidSaid : Prop := fnExactRedoValidRow.holds Try.pinned (OpenSpec.ofChange fnExactRedoValidSpec)

/-- ITS FALSE NEIGHBOUR: 'it returns false'. Refute it at one input. -/
def fnExactRedoValidWrong : ChangeSpec := { name := "fnExactRedoValid", fn := fun _ => fun
  | [d] => { results := [.lit (.bool false)], args := [d] }
  | _ => none }
def FnExactRedoValidWrongFalsely : Prop := fnExactRedoValidRow.holds Try.pinned (OpenSpec.ofChange fnExactRedoValidWrong)

/- THE SECOND FORM. 'bulk': how many values and letters a reading holds, each counted each time it is reached (what is shared counts as often as it is met; a slice's spare places count too). A statement '..UptoSaid' is the law's where the arguments, and the package variables that the reading takes, are together of bulk at most 1048576: NARROWER than '..Said'. Prove '..Said' where nothing that the law and all that it calls make is longer than what came in: it says more and counts as full. Else prove '..UptoSaid'. A law counts once. -/
mutual
def uptoBulk {H : Type} : DataW H → Nat
  | .lit (.string bytes) => bytes.length + 1
  | .lit _ => 1
  | .nil => 1
  | .ptr d => uptoBulk d + 1
  | .slice elems spare => uptoBulkAll elems + uptoBulkAll spare + 1
  | .agg parts => uptoBulkAll parts + 1
  | .iface _ d => uptoBulk d + 1
  | .map entries => uptoBulkEntries entries + 1
  | .held _ => 1
def uptoBulkAll {H : Type} : List (DataW H) → Nat
  | [] => 0
  | d :: r => uptoBulk d + uptoBulkAll r
def uptoBulkEntries {H : Type} : List (Lit × DataW H) → Nat
  | [] => 0
  | x :: r => uptoBulkEntry x + uptoBulkEntries r
def uptoBulkEntry {H : Type} : Lit × DataW H → Nat
  | (.string bytes, d) => bytes.length + uptoBulk d + 1
  | (_, d) => uptoBulk d + 1
 end
def uptoSmall : (H : Type) → List (DataW H) → Bool := fun _ ds => decide (uptoBulkAll ds ≤ 1048576)
def OpenSpec.upto (s : _root_.Go.ChangeSpec) : _root_.Go.OpenSpec := { _root_.Go.OpenSpec.ofChange s with cond := some uptoSmall }

/-- 'laws.FnExactLeaseHeld', WHERE WHAT IT READS IS OF BULK AT MOST 1048576: true; the input reads as it did. -/
def fnExactLeaseHeldUptoRow : OpenClaim := { program := "ytcddagcfhibdiaa", sum := "cb5d72743504a5cccc70e04a9e8f50a8b4f09c4622069ecb5a6714285dac5e57", func := "loop.example/historychecker/laws.FnExactLeaseHeld", spec := "fnExactLeaseHeld", apart := false, narrowed := true }
def FnExactLeaseHeldUptoSaid : Prop := fnExactLeaseHeldUptoRow.holds Try.pinned (OpenSpec.upto fnExactLeaseHeldSpec)

/-- 'laws.FnExactSetSize', WHERE WHAT IT READS IS OF BULK AT MOST 1048576: true; the input reads as it did. -/
def fnExactSetSizeUptoRow : OpenClaim := { program := "ytcddagcfhibdiaa", sum := "cb5d72743504a5cccc70e04a9e8f50a8b4f09c4622069ecb5a6714285dac5e57", func := "loop.example/historychecker/laws.FnExactSetSize", spec := "fnExactSetSize", apart := false, narrowed := true }
def FnExactSetSizeUptoSaid : Prop := fnExactSetSizeUptoRow.holds Try.pinned (OpenSpec.upto fnExactSetSizeSpec)

/-- 'laws.FnExactLogValid', WHERE WHAT IT READS IS OF BULK AT MOST 1048576: true; the input reads as it did. -/
def fnExactLogValidUptoRow : OpenClaim := { program := "ytcddagcfhibdiaa", sum := "cb5d72743504a5cccc70e04a9e8f50a8b4f09c4622069ecb5a6714285dac5e57", func := "loop.example/historychecker/laws.FnExactLogValid", spec := "fnExactLogValid", apart := false, narrowed := true }
def FnExactLogValidUptoSaid : Prop := fnExactLogValidUptoRow.holds Try.pinned (OpenSpec.upto fnExactLogValidSpec)

/-- 'laws.FnExactLeasesValid', WHERE WHAT IT READS IS OF BULK AT MOST 1048576: true; the input reads as it did. -/
def fnExactLeasesValidUptoRow : OpenClaim := { program := "ytcddagcfhibdiaa", sum := "cb5d72743504a5cccc70e04a9e8f50a8b4f09c4622069ecb5a6714285dac5e57", func := "loop.example/historychecker/laws.FnExactLeasesValid", spec := "fnExactLeasesValid", apart := false, narrowed := true }
def FnExactLeasesValidUptoSaid : Prop := fnExactLeasesValidUptoRow.holds Try.pinned (OpenSpec.upto fnExactLeasesValidSpec)

/-- 'laws.FnExactTouchesValid', WHERE WHAT IT READS IS OF BULK AT MOST 1048576: true; the input reads as it did. -/
def fnExactTouchesValidUptoRow : OpenClaim := { program := "ytcddagcfhibdiaa", sum := "cb5d72743504a5cccc70e04a9e8f50a8b4f09c4622069ecb5a6714285dac5e57", func := "loop.example/historychecker/laws.FnExactTouchesValid", spec := "fnExactTouchesValid", unfollowed := true, recurses := true, apart := false, narrowed := true }
def FnExactTouchesValidUptoSaid : Prop := fnExactTouchesValidUptoRow.holds Try.pinned (OpenSpec.upto fnExactTouchesValidSpec)

/-- 'laws.FnExactVotesValid', WHERE WHAT IT READS IS OF BULK AT MOST 1048576: true; the input reads as it did. -/
def fnExactVotesValidUptoRow : OpenClaim := { program := "ytcddagcfhibdiaa", sum := "cb5d72743504a5cccc70e04a9e8f50a8b4f09c4622069ecb5a6714285dac5e57", func := "loop.example/historychecker/laws.FnExactVotesValid", spec := "fnExactVotesValid", apart := false, narrowed := true }
def FnExactVotesValidUptoSaid : Prop := fnExactVotesValidUptoRow.holds Try.pinned (OpenSpec.upto fnExactVotesValidSpec)

/-- 'laws.FnExactRedoValid', WHERE WHAT IT READS IS OF BULK AT MOST 1048576: true; the input reads as it did. -/
def fnExactRedoValidUptoRow : OpenClaim := { program := "ytcddagcfhibdiaa", sum := "cb5d72743504a5cccc70e04a9e8f50a8b4f09c4622069ecb5a6714285dac5e57", func := "loop.example/historychecker/laws.FnExactRedoValid", spec := "fnExactRedoValid", apart := false, narrowed := true }
def FnExactRedoValidUptoSaid : Prop := fnExactRedoValidUptoRow.holds Try.pinned (OpenSpec.upto fnExactRedoValidSpec)

end Rows
end Go.Proofs.Ytcddagcfhibdiaa
