/-
  DERIVED. GIVEN WITH THE SEED: THE CARDS: each row of YtbbfdnmlfjdidaaDoorRows.lean that lists a variable, with what it lists TIED to the program's text (the seventh form; the later family's looks); each row that meets fmt, with fmt's text TOLD by the authors' own Lean function (tested against real Go, not proved from fmt's source: count such statements apart). THE CARD IS WHAT COUNTS. Prove the row's statement (the work); the ties are given (YtbbfdnmlfjdidaaDoorTie.lean); close each card by the builder's one call (the guide's Derived/Test/ToyasCard.lean, 'card_holds'). Laid BY PROGRAM, IN A SANDBOX (cutbox-door.mjs). By AI agents, Wed Nov 11 2026. No macro, syntax, notation, axiom, sorry.
-/
import Derived.Test.YtbbfdnmlfjdidaaDoorRows
import GoSem.ClaimSeven
namespace Go.Proofs.YtbbfdnmlfjdidaaDoor
namespace Rows

/-- THE TIED CARD OF 'laws.FnRedoDone'. -/
def fnRedoDoneCard : Claim7 := { stood := { row := fnRedoDoneRow, standIns := [], harness := (true, "1fe299c5aa6def2f34a9604271d6bb435e9ebac9e274d8b2070c0a0ed4f30d0a"), looks := false }, kinds := [], alts := [], laidByText := true, laidKinds := [.data, .data, .data], laidTests := true, laidLooks := .later }
def FnRedoDoneCardSaid : Prop := Claim7.holds Tryd.pinned (.plain (OpenSpec.ofChange fnRedoDoneSpec)) fnRedoDoneCard

/-- THE TIED CARD OF 'laws.FnRedoRun'. -/
def fnRedoRunCard : Claim7 := { stood := { row := fnRedoRunRow, standIns := [], harness := (true, "1fe299c5aa6def2f34a9604271d6bb435e9ebac9e274d8b2070c0a0ed4f30d0a"), looks := false }, kinds := [], alts := [], laidByText := true, laidKinds := [.data, .data, .data], laidTests := true, laidLooks := .later }
def FnRedoRunCardSaid : Prop := Claim7.holds Tryd.pinned (.plain (OpenSpec.ofChange fnRedoRunSpec)) fnRedoRunCard

/-- THE TIED CARD OF 'laws.FnRedoShort'. -/
def fnRedoShortCard : Claim7 := { stood := { row := fnRedoShortRow, standIns := [], harness := (true, "1fe299c5aa6def2f34a9604271d6bb435e9ebac9e274d8b2070c0a0ed4f30d0a"), looks := false }, kinds := [], alts := [], laidByText := true, laidKinds := [.data, .data, .data], laidTests := true, laidLooks := .later }
def FnRedoShortCardSaid : Prop := Claim7.holds Tryd.pinned (.plain (OpenSpec.ofChange fnRedoShortSpec)) fnRedoShortCard

/-- THE TIED CARD OF 'laws.FnTakeShared'. -/
def fnTakeSharedCard : Claim7 := { stood := { row := fnTakeSharedRow, standIns := [], harness := (true, "1fe299c5aa6def2f34a9604271d6bb435e9ebac9e274d8b2070c0a0ed4f30d0a"), looks := false }, kinds := [], alts := [], laidByText := true, laidKinds := [.data, .data, .data], laidTests := true, laidLooks := .later }
def FnTakeSharedCardSaid : Prop := Claim7.holds Tryd.pinned (.plain (OpenSpec.ofChange fnTakeSharedSpec)) fnTakeSharedCard

/-- THE TIED CARD OF 'laws.FnLockWaits'. -/
def fnLockWaitsCard : Claim7 := { stood := { row := fnLockWaitsRow, standIns := [], harness := (true, "1fe299c5aa6def2f34a9604271d6bb435e9ebac9e274d8b2070c0a0ed4f30d0a"), looks := false }, kinds := [], alts := [], laidByText := true, laidKinds := [.data, .data, .data], laidTests := true, laidLooks := .later }
def FnLockWaitsCardSaid : Prop := Claim7.holds Tryd.pinned (.plain (OpenSpec.ofChange fnLockWaitsSpec)) fnLockWaitsCard

/-- THE TIED CARD OF 'laws.FnLockCycle'. -/
def fnLockCycleCard : Claim7 := { stood := { row := fnLockCycleRow, standIns := [], harness := (true, "1fe299c5aa6def2f34a9604271d6bb435e9ebac9e274d8b2070c0a0ed4f30d0a"), looks := false }, kinds := [], alts := [], laidByText := true, laidKinds := [.data, .data, .data], laidTests := true, laidLooks := .later }
def FnLockCycleCardSaid : Prop := Claim7.holds Tryd.pinned (.plain (OpenSpec.ofChange fnLockCycleSpec)) fnLockCycleCard

/-- THE SECOND FORM's CARD OF 'laws.FnRedoDone'. -/
def fnRedoDoneUptoCard : Claim7 := { stood := { row := fnRedoDoneUptoRow, standIns := [], harness := (true, "1fe299c5aa6def2f34a9604271d6bb435e9ebac9e274d8b2070c0a0ed4f30d0a"), looks := false }, kinds := [], alts := [], laidByText := true, laidKinds := [.data, .data, .data], laidTests := true, laidLooks := .later }
def FnRedoDoneUptoCardSaid : Prop := Claim7.holds Tryd.pinned (.plain (OpenSpec.upto fnRedoDoneSpec)) fnRedoDoneUptoCard

/-- THE SECOND FORM's CARD OF 'laws.FnRedoRun'. -/
def fnRedoRunUptoCard : Claim7 := { stood := { row := fnRedoRunUptoRow, standIns := [], harness := (true, "1fe299c5aa6def2f34a9604271d6bb435e9ebac9e274d8b2070c0a0ed4f30d0a"), looks := false }, kinds := [], alts := [], laidByText := true, laidKinds := [.data, .data, .data], laidTests := true, laidLooks := .later }
def FnRedoRunUptoCardSaid : Prop := Claim7.holds Tryd.pinned (.plain (OpenSpec.upto fnRedoRunSpec)) fnRedoRunUptoCard

/-- THE SECOND FORM's CARD OF 'laws.FnRedoShort'. -/
def fnRedoShortUptoCard : Claim7 := { stood := { row := fnRedoShortUptoRow, standIns := [], harness := (true, "1fe299c5aa6def2f34a9604271d6bb435e9ebac9e274d8b2070c0a0ed4f30d0a"), looks := false }, kinds := [], alts := [], laidByText := true, laidKinds := [.data, .data, .data], laidTests := true, laidLooks := .later }
def FnRedoShortUptoCardSaid : Prop := Claim7.holds Tryd.pinned (.plain (OpenSpec.upto fnRedoShortSpec)) fnRedoShortUptoCard

/-- THE SECOND FORM's CARD OF 'laws.FnTakeShared'. -/
def fnTakeSharedUptoCard : Claim7 := { stood := { row := fnTakeSharedUptoRow, standIns := [], harness := (true, "1fe299c5aa6def2f34a9604271d6bb435e9ebac9e274d8b2070c0a0ed4f30d0a"), looks := false }, kinds := [], alts := [], laidByText := true, laidKinds := [.data, .data, .data], laidTests := true, laidLooks := .later }
def FnTakeSharedUptoCardSaid : Prop := Claim7.holds Tryd.pinned (.plain (OpenSpec.upto fnTakeSharedSpec)) fnTakeSharedUptoCard

/-- THE SECOND FORM's CARD OF 'laws.FnLockWaits'. -/
def fnLockWaitsUptoCard : Claim7 := { stood := { row := fnLockWaitsUptoRow, standIns := [], harness := (true, "1fe299c5aa6def2f34a9604271d6bb435e9ebac9e274d8b2070c0a0ed4f30d0a"), looks := false }, kinds := [], alts := [], laidByText := true, laidKinds := [.data, .data, .data], laidTests := true, laidLooks := .later }
def FnLockWaitsUptoCardSaid : Prop := Claim7.holds Tryd.pinned (.plain (OpenSpec.upto fnLockWaitsSpec)) fnLockWaitsUptoCard

/-- THE SECOND FORM's CARD OF 'laws.FnLockCycle'. -/
def fnLockCycleUptoCard : Claim7 := { stood := { row := fnLockCycleUptoRow, standIns := [], harness := (true, "1fe299c5aa6def2f34a9604271d6bb435e9ebac9e274d8b2070c0a0ed4f30d0a"), looks := false }, kinds := [], alts := [], laidByText := true, laidKinds := [.data, .data, .data], laidTests := true, laidLooks := .later }
def FnLockCycleUptoCardSaid : Prop := Claim7.holds Tryd.pinned (.plain (OpenSpec.upto fnLockCycleSpec)) fnLockCycleUptoCard
end Rows
end Go.Proofs.YtbbfdnmlfjdidaaDoor
