/-
  DERIVED. GIVEN WITH THE SEED: THE CARDS: each row of YtiggckhlbklngaaDoorRows.lean that lists a variable, with what it lists TIED to the program's text (the seventh form; the later family's looks); each row that meets fmt, with fmt's text TOLD by the authors' own Lean function (tested against real Go, not proved from fmt's source: count such statements apart). THE CARD IS WHAT COUNTS. Prove the row's statement (the work); the ties are given (YtiggckhlbklngaaDoorTie.lean); close each card by the builder's one call (the guide's Derived/Test/ToyasCard.lean, 'card_holds'). Laid BY PROGRAM, IN A SANDBOX (cutbox-door.mjs). By AI agents, Wed Nov 11 2026. No macro, syntax, notation, axiom, sorry.
-/
import Derived.Test.YtiggckhlbklngaaDoorRows
import GoSem.ClaimSeven
namespace Go.Proofs.YtiggckhlbklngaaDoor
namespace Rows

/-- THE TIED CARD OF 'laws.FnTouchRun'. -/
def fnTouchRunCard : Claim7 := { stood := { row := fnTouchRunRow, standIns := [], harness := (true, "8e05768a38eb0cb3c4328b43c2bad2d6bd0e99a48a3167ef10dbe0266053a9c8"), looks := false }, kinds := [], alts := [], laidByText := true, laidKinds := [.data, .data, .data], laidTests := true, laidLooks := .later }
def FnTouchRunCardSaid : Prop := Claim7.holds Tryd.pinned (.plain (OpenSpec.ofChange fnTouchRunSpec)) fnTouchRunCard

/-- THE TIED CARD OF 'laws.FnRedoRun'. -/
def fnRedoRunCard : Claim7 := { stood := { row := fnRedoRunRow, standIns := [], harness := (true, "8e05768a38eb0cb3c4328b43c2bad2d6bd0e99a48a3167ef10dbe0266053a9c8"), looks := false }, kinds := [], alts := [], laidByText := true, laidKinds := [.data, .data, .data], laidTests := true, laidLooks := .later }
def FnRedoRunCardSaid : Prop := Claim7.holds Tryd.pinned (.plain (OpenSpec.ofChange fnRedoRunSpec)) fnRedoRunCard

/-- THE TIED CARD OF 'laws.FnRedoShort'. -/
def fnRedoShortCard : Claim7 := { stood := { row := fnRedoShortRow, standIns := [], harness := (true, "8e05768a38eb0cb3c4328b43c2bad2d6bd0e99a48a3167ef10dbe0266053a9c8"), looks := false }, kinds := [], alts := [], laidByText := true, laidKinds := [.data, .data, .data], laidTests := true, laidLooks := .later }
def FnRedoShortCardSaid : Prop := Claim7.holds Tryd.pinned (.plain (OpenSpec.ofChange fnRedoShortSpec)) fnRedoShortCard

/-- THE TIED CARD OF 'laws.FnLogCommit'. -/
def fnLogCommitCard : Claim7 := { stood := { row := fnLogCommitRow, standIns := [], harness := (true, "8e05768a38eb0cb3c4328b43c2bad2d6bd0e99a48a3167ef10dbe0266053a9c8"), looks := false }, kinds := [], alts := [], laidByText := true, laidKinds := [.data, .data, .data], laidTests := true, laidLooks := .later }
def FnLogCommitCardSaid : Prop := Claim7.holds Tryd.pinned (.plain (OpenSpec.ofChange fnLogCommitSpec)) fnLogCommitCard

/-- THE TIED CARD OF 'laws.FnTakeShared'. -/
def fnTakeSharedCard : Claim7 := { stood := { row := fnTakeSharedRow, standIns := [], harness := (true, "8e05768a38eb0cb3c4328b43c2bad2d6bd0e99a48a3167ef10dbe0266053a9c8"), looks := false }, kinds := [], alts := [], laidByText := true, laidKinds := [.data, .data, .data], laidTests := true, laidLooks := .later }
def FnTakeSharedCardSaid : Prop := Claim7.holds Tryd.pinned (.plain (OpenSpec.ofChange fnTakeSharedSpec)) fnTakeSharedCard

/-- THE SECOND FORM's CARD OF 'laws.FnTouchRun'. -/
def fnTouchRunUptoCard : Claim7 := { stood := { row := fnTouchRunUptoRow, standIns := [], harness := (true, "8e05768a38eb0cb3c4328b43c2bad2d6bd0e99a48a3167ef10dbe0266053a9c8"), looks := false }, kinds := [], alts := [], laidByText := true, laidKinds := [.data, .data, .data], laidTests := true, laidLooks := .later }
def FnTouchRunUptoCardSaid : Prop := Claim7.holds Tryd.pinned (.plain (OpenSpec.upto fnTouchRunSpec)) fnTouchRunUptoCard

/-- THE SECOND FORM's CARD OF 'laws.FnRedoRun'. -/
def fnRedoRunUptoCard : Claim7 := { stood := { row := fnRedoRunUptoRow, standIns := [], harness := (true, "8e05768a38eb0cb3c4328b43c2bad2d6bd0e99a48a3167ef10dbe0266053a9c8"), looks := false }, kinds := [], alts := [], laidByText := true, laidKinds := [.data, .data, .data], laidTests := true, laidLooks := .later }
def FnRedoRunUptoCardSaid : Prop := Claim7.holds Tryd.pinned (.plain (OpenSpec.upto fnRedoRunSpec)) fnRedoRunUptoCard

/-- THE SECOND FORM's CARD OF 'laws.FnRedoShort'. -/
def fnRedoShortUptoCard : Claim7 := { stood := { row := fnRedoShortUptoRow, standIns := [], harness := (true, "8e05768a38eb0cb3c4328b43c2bad2d6bd0e99a48a3167ef10dbe0266053a9c8"), looks := false }, kinds := [], alts := [], laidByText := true, laidKinds := [.data, .data, .data], laidTests := true, laidLooks := .later }
def FnRedoShortUptoCardSaid : Prop := Claim7.holds Tryd.pinned (.plain (OpenSpec.upto fnRedoShortSpec)) fnRedoShortUptoCard

/-- THE SECOND FORM's CARD OF 'laws.FnLogCommit'. -/
def fnLogCommitUptoCard : Claim7 := { stood := { row := fnLogCommitUptoRow, standIns := [], harness := (true, "8e05768a38eb0cb3c4328b43c2bad2d6bd0e99a48a3167ef10dbe0266053a9c8"), looks := false }, kinds := [], alts := [], laidByText := true, laidKinds := [.data, .data, .data], laidTests := true, laidLooks := .later }
def FnLogCommitUptoCardSaid : Prop := Claim7.holds Tryd.pinned (.plain (OpenSpec.upto fnLogCommitSpec)) fnLogCommitUptoCard

/-- THE SECOND FORM's CARD OF 'laws.FnTakeShared'. -/
def fnTakeSharedUptoCard : Claim7 := { stood := { row := fnTakeSharedUptoRow, standIns := [], harness := (true, "8e05768a38eb0cb3c4328b43c2bad2d6bd0e99a48a3167ef10dbe0266053a9c8"), looks := false }, kinds := [], alts := [], laidByText := true, laidKinds := [.data, .data, .data], laidTests := true, laidLooks := .later }
def FnTakeSharedUptoCardSaid : Prop := Claim7.holds Tryd.pinned (.plain (OpenSpec.upto fnTakeSharedSpec)) fnTakeSharedUptoCard
end Rows
end Go.Proofs.YtiggckhlbklngaaDoor
