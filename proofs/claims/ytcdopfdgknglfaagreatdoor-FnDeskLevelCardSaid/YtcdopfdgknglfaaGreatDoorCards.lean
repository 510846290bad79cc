/-
  DERIVED. GIVEN WITH THE SEED: THE CARDS: each row of YtcdopfdgknglfaaGreatDoorRows.lean that lists a variable, with what it lists TIED to the program's text (the seventh form; the later family's looks); each row that meets fmt, with fmt's text TOLD by the authors' own Lean function (tested against real Go, not proved from fmt's source: count such statements apart). THE CARD IS WHAT COUNTS. Prove the row's statement (the work); the ties are given (YtcdopfdgknglfaaGreatDoorTie.lean); close each card by the builder's one call (the guide's Derived/Test/ToyasCard.lean, 'card_holds'). Laid BY PROGRAM, IN A SANDBOX (cutbox-door.mjs). By AI agents, Wed Nov 11 2026. No macro, syntax, notation, axiom, sorry.
-/
import Derived.Test.YtcdopfdgknglfaaGreatDoorRows
import GoSem.ClaimSeven
namespace Go.Proofs.YtcdopfdgknglfaaGreatDoor
namespace Rows

/-- THE TIED CARD OF 'laws.FnDeskLine'. -/
def fnDeskLineCard : Claim7 := { stood := { row := fnDeskLineRow, standIns := [], harness := (true, "f1ab527dec57a6b593ddbf87914bf9d8b8b886f2d7364816ec2df722d9ec5284"), looks := true }, kinds := [], alts := [], laidByText := true, laidKinds := [.data, .data, .data, .data, .sentinel, .sentinel, .pinned], laidTests := true, laidLooks := .later }
def FnDeskLineCardSaid : Prop := Claim7.holds Tryz.pinned (.plain (OpenSpec.ofChange fnDeskLineSpec)) fnDeskLineCard

/-- THE TIED CARD OF 'laws.FnDeskRun'. -/
def fnDeskRunCard : Claim7 := { stood := { row := fnDeskRunRow, standIns := [], harness := (true, "f1ab527dec57a6b593ddbf87914bf9d8b8b886f2d7364816ec2df722d9ec5284"), looks := true }, kinds := [], alts := [], laidByText := true, laidKinds := [.data, .data, .data, .data, .sentinel, .sentinel, .pinned], laidTests := true, laidLooks := .later }
def FnDeskRunCardSaid : Prop := Claim7.holds Tryz.pinned (.plain (OpenSpec.ofChange fnDeskRunSpec)) fnDeskRunCard

/-- THE TIED CARD OF 'laws.FnDeskLevel'. -/
def fnDeskLevelCard : Claim7 := { stood := { row := fnDeskLevelRow, standIns := [], harness := (true, "f1ab527dec57a6b593ddbf87914bf9d8b8b886f2d7364816ec2df722d9ec5284"), looks := true }, kinds := [], alts := [], laidByText := true, laidKinds := [.data, .data, .data, .data, .sentinel, .sentinel, .pinned], laidTests := true, laidLooks := .later }
def FnDeskLevelCardSaid : Prop := Claim7.holds Tryz.pinned (.plain (OpenSpec.ofChange fnDeskLevelSpec)) fnDeskLevelCard

/-- THE SECOND FORM's CARD OF 'laws.FnDeskLine'. -/
def fnDeskLineUptoCard : Claim7 := { stood := { row := fnDeskLineUptoRow, standIns := [], harness := (true, "f1ab527dec57a6b593ddbf87914bf9d8b8b886f2d7364816ec2df722d9ec5284"), looks := true }, kinds := [], alts := [], laidByText := true, laidKinds := [.data, .data, .data, .data, .sentinel, .sentinel, .pinned], laidTests := true, laidLooks := .later }
def FnDeskLineUptoCardSaid : Prop := Claim7.holds Tryz.pinned (.plain (OpenSpec.upto fnDeskLineSpec)) fnDeskLineUptoCard

/-- THE SECOND FORM's CARD OF 'laws.FnDeskRun'. -/
def fnDeskRunUptoCard : Claim7 := { stood := { row := fnDeskRunUptoRow, standIns := [], harness := (true, "f1ab527dec57a6b593ddbf87914bf9d8b8b886f2d7364816ec2df722d9ec5284"), looks := true }, kinds := [], alts := [], laidByText := true, laidKinds := [.data, .data, .data, .data, .sentinel, .sentinel, .pinned], laidTests := true, laidLooks := .later }
def FnDeskRunUptoCardSaid : Prop := Claim7.holds Tryz.pinned (.plain (OpenSpec.upto fnDeskRunSpec)) fnDeskRunUptoCard

/-- THE SECOND FORM's CARD OF 'laws.FnDeskLevel'. -/
def fnDeskLevelUptoCard : Claim7 := { stood := { row := fnDeskLevelUptoRow, standIns := [], harness := (true, "f1ab527dec57a6b593ddbf87914bf9d8b8b886f2d7364816ec2df722d9ec5284"), looks := true }, kinds := [], alts := [], laidByText := true, laidKinds := [.data, .data, .data, .data, .sentinel, .sentinel, .pinned], laidTests := true, laidLooks := .later }
def FnDeskLevelUptoCardSaid : Prop := Claim7.holds Tryz.pinned (.plain (OpenSpec.upto fnDeskLevelSpec)) fnDeskLevelUptoCard
end Rows
end Go.Proofs.YtcdopfdgknglfaaGreatDoor
