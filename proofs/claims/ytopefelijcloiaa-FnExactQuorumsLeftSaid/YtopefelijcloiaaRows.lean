/-
  No cell of these rows narrows 'for every input' (looked for: loops, veiled, ifaces, maps, wideKeys, modest, calm, conditions, laid).
  DERIVED. THE GIVEN ROWS OF THIS SEAT. 7 by the template 'for every input the law returns true; each argument reads behind the call as it read before'; 0 by the template 'total and deterministic' (their statements: YtopefelijcloiaaTotals.lean).
  GIVEN WITH THE SEED: the statements are not yours to turn. If you find one false, say at which input.
  Laid BY PROGRAM, IN A SANDBOX (cutbox-rows.mjs): the forced cells as the released guide's own fill.sh prints them over the translation e6fc112e61428620… (all of the seat's roots in one cut). By AI agents, Wed Nov 11 2026. No macro, syntax, notation, axiom, sorry.
-/
import Derived.Test.YtopefelijcloiaaChecked
import GoSem.Claim
import GoSem.ClaimJoined
import GoSem.ClaimMapViews
import Derived.JoinedTies
import Derived.KernelRfl
namespace Go.Proofs.Ytopefelijcloiaa
/- THE CELL 'sum', in the pinned program and in every row, IS THE sha256 OF THE DUMP (.gsa) THAT YtopefelijcloiaaProg.lean LOADS. Nothing in Lean hashes anything: it is a label: what it is worth is what the hold of that sum in a sandbox is worth. -/
noncomputable def Try.pinned : Pinned := { name := "ytopefelijcloiaa", sum := "e6fc112e614286203759687d22aec00ea3468236ce6e928df965aa204164804a", checked := Try.checked }
namespace Rows
def none {H : Type} : Left H := { results := [], args := [] }

/-- 'laws.FnExactQuorumsBetween': WHATEVER THE INPUT: true; the input reads as it did. -/
def fnExactQuorumsBetweenSpec : ChangeSpec := { name := "fnExactQuorumsBetween", fn := fun _ => fun
  | [d1, d2, d3] => { results := [.lit (.bool true)], args := [d1, d2, d3] }
  | _ => none }
def fnExactQuorumsBetweenRow : OpenClaim := { program := "ytopefelijcloiaa", sum := "e6fc112e614286203759687d22aec00ea3468236ce6e928df965aa204164804a", func := "loop.example/historychecker/laws.FnExactQuorumsBetween", spec := "fnExactQuorumsBetween", unfollowed := true, recurses := true, apart := false }
def FnExactQuorumsBetweenSaid : Prop := fnExactQuorumsBetweenRow.holds Try.pinned (OpenSpec.ofChange fnExactQuorumsBetweenSpec)

/-- ITS FALSE NEIGHBOUR: 'it returns false'. Refute it at one input. -/
def fnExactQuorumsBetweenWrong : ChangeSpec := { name := "fnExactQuorumsBetween", fn := fun _ => fun
  | [d1, d2, d3] => { results := [.lit (.bool false)], args := [d1, d2, d3] }
  | _ => none }
def FnExactQuorumsBetweenWrongFalsely : Prop := fnExactQuorumsBetweenRow.holds Try.pinned (OpenSpec.ofChange fnExactQuorumsBetweenWrong)

/-- 'laws.FnExactQuorumsMeet': WHATEVER THE INPUT: true; the input reads as it did. -/
def fnExactQuorumsMeetSpec : ChangeSpec := { name := "fnExactQuorumsMeet", fn := fun _ => fun
  | [d1, d2] => { results := [.lit (.bool true)], args := [d1, d2] }
  | _ => none }
def fnExactQuorumsMeetRow : OpenClaim := { program := "ytopefelijcloiaa", sum := "e6fc112e614286203759687d22aec00ea3468236ce6e928df965aa204164804a", func := "loop.example/historychecker/laws.FnExactQuorumsMeet", spec := "fnExactQuorumsMeet", unfollowed := true, recurses := true, apart := false }
def FnExactQuorumsMeetSaid : Prop := fnExactQuorumsMeetRow.holds Try.pinned (OpenSpec.ofChange fnExactQuorumsMeetSpec)

/-- ITS FALSE NEIGHBOUR: 'it returns false'. Refute it at one input. -/
def fnExactQuorumsMeetWrong : ChangeSpec := { name := "fnExactQuorumsMeet", fn := fun _ => fun
  | [d1, d2] => { results := [.lit (.bool false)], args := [d1, d2] }
  | _ => none }
def FnExactQuorumsMeetWrongFalsely : Prop := fnExactQuorumsMeetRow.holds Try.pinned (OpenSpec.ofChange fnExactQuorumsMeetWrong)

/-- 'laws.FnExactQuorumsLeft': WHATEVER THE INPUT: true; the input reads as it did. -/
def fnExactQuorumsLeftSpec : ChangeSpec := { name := "fnExactQuorumsLeft", fn := fun _ => fun
  | [d1, d2, d3] => { results := [.lit (.bool true)], args := [d1, d2, d3] }
  | _ => none }
def fnExactQuorumsLeftRow : OpenClaim := { program := "ytopefelijcloiaa", sum := "e6fc112e614286203759687d22aec00ea3468236ce6e928df965aa204164804a", func := "loop.example/historychecker/laws.FnExactQuorumsLeft", spec := "fnExactQuorumsLeft", unfollowed := true, recurses := true, apart := false }
def FnExactQuorumsLeftSaid : Prop := fnExactQuorumsLeftRow.holds Try.pinned (OpenSpec.ofChange fnExactQuorumsLeftSpec)

/-- ITS FALSE NEIGHBOUR: 'it returns false'. Refute it at one input. -/
def fnExactQuorumsLeftWrong : ChangeSpec := { name := "fnExactQuorumsLeft", fn := fun _ => fun
  | [d1, d2, d3] => { results := [.lit (.bool false)], args := [d1, d2, d3] }
  | _ => none }
def FnExactQuorumsLeftWrongFalsely : Prop := fnExactQuorumsLeftRow.holds Try.pinned (OpenSpec.ofChange fnExactQuorumsLeftWrong)

/-- 'laws.FnExactLogNewer': WHATEVER THE INPUT: true; the input reads as it did. -/
def fnExactLogNewerSpec : ChangeSpec := { name := "fnExactLogNewer", fn := fun _ => fun
  | [d1, d2] => { results := [.lit (.bool true)], args := [d1, d2] }
  | _ => none }
def fnExactLogNewerRow : OpenClaim := { program := "ytopefelijcloiaa", sum := "e6fc112e614286203759687d22aec00ea3468236ce6e928df965aa204164804a", func := "loop.example/historychecker/laws.FnExactLogNewer", spec := "fnExactLogNewer", apart := false }
def FnExactLogNewerSaid : Prop := fnExactLogNewerRow.holds Try.pinned (OpenSpec.ofChange fnExactLogNewerSpec)

/-- ITS FALSE NEIGHBOUR: 'it returns false'. Refute it at one input. -/
def fnExactLogNewerWrong : ChangeSpec := { name := "fnExactLogNewer", fn := fun _ => fun
  | [d1, d2] => { results := [.lit (.bool false)], args := [d1, d2] }
  | _ => none }
def FnExactLogNewerWrongFalsely : Prop := fnExactLogNewerRow.holds Try.pinned (OpenSpec.ofChange fnExactLogNewerWrong)

/-- 'laws.FnExactLogAppend': WHATEVER THE INPUT: true; the input reads as it did. -/
def fnExactLogAppendSpec : ChangeSpec := { name := "fnExactLogAppend", fn := fun _ => fun
  | [d1, d2, d3, d4] => { results := [.lit (.bool true)], args := [d1, d2, d3, d4] }
  | _ => none }
def fnExactLogAppendRow : OpenClaim := { program := "ytopefelijcloiaa", sum := "e6fc112e614286203759687d22aec00ea3468236ce6e928df965aa204164804a", func := "loop.example/historychecker/laws.FnExactLogAppend", spec := "fnExactLogAppend", apart := false }
def FnExactLogAppendSaid : Prop := fnExactLogAppendRow.holds Try.pinned (OpenSpec.ofChange fnExactLogAppendSpec)

/-- ITS FALSE NEIGHBOUR: 'it returns false'. Refute it at one input. -/
def fnExactLogAppendWrong : ChangeSpec := { name := "fnExactLogAppend", fn := fun _ => fun
  | [d1, d2, d3, d4] => { results := [.lit (.bool false)], args := [d1, d2, d3, d4] }
  | _ => none }
def FnExactLogAppendWrongFalsely : Prop := fnExactLogAppendRow.holds Try.pinned (OpenSpec.ofChange fnExactLogAppendWrong)

/-- 'laws.FnExactLogCommit': WHATEVER THE INPUT: true; the input reads as it did. -/
def fnExactLogCommitSpec : ChangeSpec := { name := "fnExactLogCommit", fn := fun _ => fun
  | [d] => { results := [.lit (.bool true)], args := [d] }
  | _ => none }
def fnExactLogCommitRow : OpenClaim := { program := "ytopefelijcloiaa", sum := "e6fc112e614286203759687d22aec00ea3468236ce6e928df965aa204164804a", func := "loop.example/historychecker/laws.FnExactLogCommit", spec := "fnExactLogCommit", unfollowed := true, recurses := true, apart := false }
def FnExactLogCommitSaid : Prop := fnExactLogCommitRow.holds Try.pinned (OpenSpec.ofChange fnExactLogCommitSpec)

/-- ITS FALSE NEIGHBOUR: 'it returns false'. Refute it at one input. -/
def fnExactLogCommitWrong : ChangeSpec := { name := "fnExactLogCommit", fn := fun _ => fun
  | [d] => { results := [.lit (.bool false)], args := [d] }
  | _ => none }
def FnExactLogCommitWrongFalsely : Prop := fnExactLogCommitRow.holds Try.pinned (OpenSpec.ofChange fnExactLogCommitWrong)

/-- 'laws.FnExactLeaseHolder': WHATEVER THE INPUT: true; the input reads as it did. -/
def fnExactLeaseHolderSpec : ChangeSpec := { name := "fnExactLeaseHolder", fn := fun _ => fun
  | [d1, d2, d3, d4] => { results := [.lit (.bool true)], args := [d1, d2, d3, d4] }
  | _ => none }
def fnExactLeaseHolderRow : OpenClaim := { program := "ytopefelijcloiaa", sum := "e6fc112e614286203759687d22aec00ea3468236ce6e928df965aa204164804a", func := "loop.example/historychecker/laws.FnExactLeaseHolder", spec := "fnExactLeaseHolder", unfollowed := true, recurses := true, apart := false }
def FnExactLeaseHolderSaid : Prop := fnExactLeaseHolderRow.holds Try.pinned (OpenSpec.ofChange fnExactLeaseHolderSpec)

/-- ITS FALSE NEIGHBOUR: 'it returns false'. Refute it at one input. -/
def fnExactLeaseHolderWrong : ChangeSpec := { name := "fnExactLeaseHolder", fn := fun _ => fun
  | [d1, d2, d3, d4] => { results := [.lit (.bool false)], args := [d1, d2, d3, d4] }
  | _ => none }
def FnExactLeaseHolderWrongFalsely : Prop := fnExactLeaseHolderRow.holds Try.pinned (OpenSpec.ofChange fnExactLeaseHolderWrong)

/- THE SECOND FORM. 'bulk': how many values and letters a reading holds, each counted each time it is reached (what is shared counts as often as it is met; a slice's spare places count too). A statement '..UptoSaid' is the law's where the arguments, and the package variables that the reading takes, are together of bulk at most 1048576: NARROWER than '..Said'. Prove '..Said' where nothing that the law and all that it calls make is longer than what came in: it says more and counts as full. Else prove '..UptoSaid'. A law counts once. -/
mutual
def uptoBulk {H : Type} : DataW H → Nat
  | .lit (.string bytes) => bytes.length + 1
  | .lit _ => 1
  | .nil => 1
  | .ptr d => uptoBulk d + 1
  | .slice elems spare => uptoBulkAll elems + uptoBulkAll spare + 1
  | .agg parts => uptoBulkAll parts + 1
  | .iface _ d => uptoBulk d + 1
  | .map entries => uptoBulkEntries entries + 1
  | .held _ => 1
def uptoBulkAll {H : Type} : List (DataW H) → Nat
  | [] => 0
  | d :: r => uptoBulk d + uptoBulkAll r
def uptoBulkEntries {H : Type} : List (Lit × DataW H) → Nat
  | [] => 0
  | x :: r => uptoBulkEntry x + uptoBulkEntries r
def uptoBulkEntry {H : Type} : Lit × DataW H → Nat
  | (.string bytes, d) => bytes.length + uptoBulk d + 1
  | (_, d) => uptoBulk d + 1
 end
def uptoSmall : (H : Type) → List (DataW H) → Bool := fun _ ds => decide (uptoBulkAll ds ≤ 1048576)
def OpenSpec.upto (s : _root_.Go.ChangeSpec) : _root_.Go.OpenSpec := { _root_.Go.OpenSpec.ofChange s with cond := some uptoSmall }

/-- 'laws.FnExactQuorumsBetween', WHERE WHAT IT READS IS OF BULK AT MOST 1048576: true; the input reads as it did. -/
def fnExactQuorumsBetweenUptoRow : OpenClaim := { program := "ytopefelijcloiaa", sum := "e6fc112e614286203759687d22aec00ea3468236ce6e928df965aa204164804a", func := "loop.example/historychecker/laws.FnExactQuorumsBetween", spec := "fnExactQuorumsBetween", unfollowed := true, recurses := true, apart := false, narrowed := true }
def FnExactQuorumsBetweenUptoSaid : Prop := fnExactQuorumsBetweenUptoRow.holds Try.pinned (OpenSpec.upto fnExactQuorumsBetweenSpec)

/-- 'laws.FnExactQuorumsMeet', WHERE WHAT IT READS IS OF BULK AT MOST 1048576: true; the input reads as it did. -/
def fnExactQuorumsMeetUptoRow : OpenClaim := { program := "ytopefelijcloiaa", sum := "e6fc112e614286203759687d22aec00ea3468236ce6e928df965aa204164804a", func := "loop.example/historychecker/laws.FnExactQuorumsMeet", spec := "fnExactQuorumsMeet", unfollowed := true, recurses := true, apart := false, narrowed := true }
def FnExactQuorumsMeetUptoSaid : Prop := fnExactQuorumsMeetUptoRow.holds Try.pinned (OpenSpec.upto fnExactQuorumsMeetSpec)

/-- 'laws.FnExactQuorumsLeft', WHERE WHAT IT READS IS OF BULK AT MOST 1048576: true; the input reads as it did. -/
def fnExactQuorumsLeftUptoRow : OpenClaim := { program := "ytopefelijcloiaa", sum := "e6fc112e614286203759687d22aec00ea3468236ce6e928df965aa204164804a", func := "loop.example/historychecker/laws.FnExactQuorumsLeft", spec := "fnExactQuorumsLeft", unfollowed := true, recurses := true, apart := false, narrowed := true }
def FnExactQuorumsLeftUptoSaid : Prop := fnExactQuorumsLeftUptoRow.holds Try.pinned (OpenSpec.upto fnExactQuorumsLeftSpec)

/-- 'laws.FnExactLogNewer', WHERE WHAT IT READS IS OF BULK AT MOST 1048576: true; the input reads as it did. -/
def fnExactLogNewerUptoRow : OpenClaim := { program := "ytopefelijcloiaa", sum := "e6fc112e614286203759687d22aec00ea3468236ce6e928df965aa204164804a", func := "loop.example/historychecker/laws.FnExactLogNewer", spec := "fnExactLogNewer", apart := false, narrowed := true }
def FnExactLogNewerUptoSaid : Prop := fnExactLogNewerUptoRow.holds Try.pinned (OpenSpec.upto fnExactLogNewerSpec)

/-- 'laws.FnExactLogAppend', WHERE WHAT IT READS IS OF BULK AT MOST 1048576: true; the input reads as it did. -/
def fnExactLogAppendUptoRow : OpenClaim := { program := "ytopefelijcloiaa", sum := "e6fc112e614286203759687d22aec00ea3468236ce6e928df965aa204164804a", func := "loop.example/historychecker/laws.FnExactLogAppend", spec := "fnExactLogAppend", apart := false, narrowed := true }
def FnExactLogAppendUptoSaid : Prop := fnExactLogAppendUptoRow.holds Try.pinned (OpenSpec.upto fnExactLogAppendSpec)

/-- 'laws.FnExactLogCommit', WHERE WHAT IT READS IS OF BULK AT MOST 1048576: true; the input reads as it did. -/
def fnExactLogCommitUptoRow : OpenClaim := { program := "ytopefelijcloiaa", sum := "e6fc112e614286203759687d22aec00ea3468236ce6e928df965aa204164804a", func := "loop.example/historychecker/laws.FnExactLogCommit", spec := "fnExactLogCommit", unfollowed := true, recurses := true, apart := false, narrowed := true }
def FnExactLogCommitUptoSaid : Prop := fnExactLogCommitUptoRow.holds Try.pinned (OpenSpec.upto fnExactLogCommitSpec)

/-- 'laws.FnExactLeaseHolder', WHERE WHAT IT READS IS OF BULK AT MOST 1048576: true; the input reads as it did. -/
def fnExactLeaseHolderUptoRow : OpenClaim := { program := "ytopefelijcloiaa", sum := "e6fc112e614286203759687d22aec00ea3468236ce6e928df965aa204164804a", func := "loop.example/historychecker/laws.FnExactLeaseHolder", spec := "fnExactLeaseHolder", unfollowed := true, recurses := true, apart := false, narrowed := true }
def FnExactLeaseHolderUptoSaid : Prop := fnExactLeaseHolderUptoRow.holds Try.pinned (OpenSpec.upto fnExactLeaseHolderSpec)

end Rows
end Go.Proofs.Ytopefelijcloiaa
