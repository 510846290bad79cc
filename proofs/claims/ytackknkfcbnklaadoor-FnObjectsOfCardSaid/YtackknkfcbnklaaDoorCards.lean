/-
  DERIVED. GIVEN WITH THE SEED: THE CARDS: each row of YtackknkfcbnklaaDoorRows.lean that lists a variable, with what it lists TIED to the program's text (the seventh form; the later family's looks); each row that meets fmt, with fmt's text TOLD by the authors' own Lean function (tested against real Go, not proved from fmt's source: count such statements apart). THE CARD IS WHAT COUNTS. Prove the row's statement (the work); the ties are given (YtackknkfcbnklaaDoorTie.lean); close each card by the builder's one call (the guide's Derived/Test/ToyasCard.lean, 'card_holds'). Laid BY PROGRAM, IN A SANDBOX (cutbox-door.mjs). By AI agents, Wed Nov 11 2026. No macro, syntax, notation, axiom, sorry.
-/
import Derived.Test.YtackknkfcbnklaaDoorRows
import GoSem.ClaimSeven
namespace Go.Proofs.YtackknkfcbnklaaDoor
namespace Rows

/-- THE TIED CARD OF 'laws.FnObjectRun'. -/
def fnObjectRunCard : Claim7 := { stood := { row := fnObjectRunRow, standIns := [], harness := (true, "7866ca82ecce05036ac5d23eb862b6ef2511a24dda2b899f52e50c416c92e0d6"), looks := true }, kinds := [], alts := [], laidByText := true, laidKinds := [.data, .data, .data], laidTests := true, laidLooks := .later }
def FnObjectRunCardSaid : Prop := Claim7.holds Tryd.pinned (.plain (OpenSpec.ofChange fnObjectRunSpec)) fnObjectRunCard

/-- THE TIED CARD OF 'laws.FnObjectRight'. -/
def fnObjectRightCard : Claim7 := { stood := { row := fnObjectRightRow, standIns := [], harness := (true, "7866ca82ecce05036ac5d23eb862b6ef2511a24dda2b899f52e50c416c92e0d6"), looks := true }, kinds := [], alts := [], laidByText := true, laidKinds := [.data, .data, .data], laidTests := true, laidLooks := .later }
def FnObjectRightCardSaid : Prop := Claim7.holds Tryd.pinned (.plain (OpenSpec.ofChange fnObjectRightSpec)) fnObjectRightCard

/-- THE TIED CARD OF 'laws.FnObjectsOf'. -/
def fnObjectsOfCard : Claim7 := { stood := { row := fnObjectsOfRow, standIns := [], harness := (true, "7866ca82ecce05036ac5d23eb862b6ef2511a24dda2b899f52e50c416c92e0d6"), looks := true }, kinds := [], alts := [], laidByText := true, laidKinds := [.data, .data, .data], laidTests := true, laidLooks := .later }
def FnObjectsOfCardSaid : Prop := Claim7.holds Tryd.pinned (.plain (OpenSpec.ofChange fnObjectsOfSpec)) fnObjectsOfCard

/-- THE SECOND FORM's CARD OF 'laws.FnObjectRun'. -/
def fnObjectRunUptoCard : Claim7 := { stood := { row := fnObjectRunUptoRow, standIns := [], harness := (true, "7866ca82ecce05036ac5d23eb862b6ef2511a24dda2b899f52e50c416c92e0d6"), looks := true }, kinds := [], alts := [], laidByText := true, laidKinds := [.data, .data, .data], laidTests := true, laidLooks := .later }
def FnObjectRunUptoCardSaid : Prop := Claim7.holds Tryd.pinned (.plain (OpenSpec.upto fnObjectRunSpec)) fnObjectRunUptoCard

/-- THE SECOND FORM's CARD OF 'laws.FnObjectRight'. -/
def fnObjectRightUptoCard : Claim7 := { stood := { row := fnObjectRightUptoRow, standIns := [], harness := (true, "7866ca82ecce05036ac5d23eb862b6ef2511a24dda2b899f52e50c416c92e0d6"), looks := true }, kinds := [], alts := [], laidByText := true, laidKinds := [.data, .data, .data], laidTests := true, laidLooks := .later }
def FnObjectRightUptoCardSaid : Prop := Claim7.holds Tryd.pinned (.plain (OpenSpec.upto fnObjectRightSpec)) fnObjectRightUptoCard

/-- THE SECOND FORM's CARD OF 'laws.FnObjectsOf'. -/
def fnObjectsOfUptoCard : Claim7 := { stood := { row := fnObjectsOfUptoRow, standIns := [], harness := (true, "7866ca82ecce05036ac5d23eb862b6ef2511a24dda2b899f52e50c416c92e0d6"), looks := true }, kinds := [], alts := [], laidByText := true, laidKinds := [.data, .data, .data], laidTests := true, laidLooks := .later }
def FnObjectsOfUptoCardSaid : Prop := Claim7.holds Tryd.pinned (.plain (OpenSpec.upto fnObjectsOfSpec)) fnObjectsOfUptoCard
end Rows
end Go.Proofs.YtackknkfcbnklaaDoor
