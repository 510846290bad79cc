/-
  DERIVED. GIVEN WITH THE SEED: THE CARDS: each row of YtomkjlklninhpaaGreatDoorRows.lean that lists a variable, with what it lists TIED to the program's text (the seventh form; the later family's looks); each row that meets fmt, with fmt's text TOLD by the authors' own Lean function (tested against real Go, not proved from fmt's source: count such statements apart). THE CARD IS WHAT COUNTS. Prove the row's statement (the work); the ties are given (YtomkjlklninhpaaGreatDoorTie.lean); close each card by the builder's one call (the guide's Derived/Test/ToyasCard.lean, 'card_holds'). Laid BY PROGRAM, IN A SANDBOX (cutbox-door.mjs). By AI agents, Wed Nov 11 2026. No macro, syntax, notation, axiom, sorry.
-/
import Derived.Test.YtomkjlklninhpaaGreatDoorRows
import GoSem.ClaimSeven
namespace Go.Proofs.YtomkjlklninhpaaGreatDoor
namespace Rows

/-- THE TIED CARD OF 'laws.FnExactDeskLine'. -/
def fnExactDeskLineCard : Claim7 := { stood := { row := fnExactDeskLineRow, standIns := [], harness := (true, "9405ec4c051cbc07ca71be34273dadfdbb5ac3be680b34be2d9ebffec69f6fe1"), looks := true }, kinds := [], alts := [], laidByText := true, laidKinds := [.data, .data, .data, .data, .sentinel, .sentinel, .pinned], laidTests := true, laidLooks := .later }
def FnExactDeskLineCardSaid : Prop := Claim7.holds Tryz.pinned (.plain (OpenSpec.ofChange fnExactDeskLineSpec)) fnExactDeskLineCard

/-- THE TIED CARD OF 'laws.FnExactDeskRun'. -/
def fnExactDeskRunCard : Claim7 := { stood := { row := fnExactDeskRunRow, standIns := [], harness := (true, "9405ec4c051cbc07ca71be34273dadfdbb5ac3be680b34be2d9ebffec69f6fe1"), looks := true }, kinds := [], alts := [], laidByText := true, laidKinds := [.data, .data, .data, .data, .sentinel, .sentinel, .pinned], laidTests := true, laidLooks := .later }
def FnExactDeskRunCardSaid : Prop := Claim7.holds Tryz.pinned (.plain (OpenSpec.ofChange fnExactDeskRunSpec)) fnExactDeskRunCard

/-- THE SECOND FORM's CARD OF 'laws.FnExactDeskLine'. -/
def fnExactDeskLineUptoCard : Claim7 := { stood := { row := fnExactDeskLineUptoRow, standIns := [], harness := (true, "9405ec4c051cbc07ca71be34273dadfdbb5ac3be680b34be2d9ebffec69f6fe1"), looks := true }, kinds := [], alts := [], laidByText := true, laidKinds := [.data, .data, .data, .data, .sentinel, .sentinel, .pinned], laidTests := true, laidLooks := .later }
def FnExactDeskLineUptoCardSaid : Prop := Claim7.holds Tryz.pinned (.plain (OpenSpec.upto fnExactDeskLineSpec)) fnExactDeskLineUptoCard

/-- THE SECOND FORM's CARD OF 'laws.FnExactDeskRun'. -/
def fnExactDeskRunUptoCard : Claim7 := { stood := { row := fnExactDeskRunUptoRow, standIns := [], harness := (true, "9405ec4c051cbc07ca71be34273dadfdbb5ac3be680b34be2d9ebffec69f6fe1"), looks := true }, kinds := [], alts := [], laidByText := true, laidKinds := [.data, .data, .data, .data, .sentinel, .sentinel, .pinned], laidTests := true, laidLooks := .later }
def FnExactDeskRunUptoCardSaid : Prop := Claim7.holds Tryz.pinned (.plain (OpenSpec.upto fnExactDeskRunSpec)) fnExactDeskRunUptoCard
end Rows
end Go.Proofs.YtomkjlklninhpaaGreatDoor
