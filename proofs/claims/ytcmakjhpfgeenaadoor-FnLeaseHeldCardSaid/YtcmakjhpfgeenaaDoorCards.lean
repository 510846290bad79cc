/-
  DERIVED. GIVEN WITH THE SEED: THE CARDS: each row of YtcmakjhpfgeenaaDoorRows.lean that lists a variable, with what it lists TIED to the program's text (the seventh form; the later family's looks); each row that meets fmt, with fmt's text TOLD by the authors' own Lean function (tested against real Go, not proved from fmt's source: count such statements apart). THE CARD IS WHAT COUNTS. Prove the row's statement (the work); the ties are given (YtcmakjhpfgeenaaDoorTie.lean); close each card by the builder's one call (the guide's Derived/Test/ToyasCard.lean, 'card_holds'). Laid BY PROGRAM, IN A SANDBOX (cutbox-door.mjs). By AI agents, Wed Nov 11 2026. No macro, syntax, notation, axiom, sorry.
-/
import Derived.Test.YtcmakjhpfgeenaaDoorRows
import GoSem.ClaimSeven
namespace Go.Proofs.YtcmakjhpfgeenaaDoor
namespace Rows

/-- THE TIED CARD OF 'laws.FnLeaseHeld'. -/
def fnLeaseHeldCard : Claim7 := { stood := { row := fnLeaseHeldRow, standIns := [], harness := (true, "be87c54c9aab10e1f0669310cc2514eea3407c6ba402b26eee3b6a5ced0b76bb"), looks := false }, kinds := [], alts := [], laidByText := true, laidKinds := [.data, .data, .data], laidTests := true, laidLooks := .later }
def FnLeaseHeldCardSaid : Prop := Claim7.holds Tryd.pinned (.plain (OpenSpec.ofChange fnLeaseHeldSpec)) fnLeaseHeldCard

/-- THE TIED CARD OF 'laws.FnSetSize'. -/
def fnSetSizeCard : Claim7 := { stood := { row := fnSetSizeRow, standIns := [], harness := (true, "be87c54c9aab10e1f0669310cc2514eea3407c6ba402b26eee3b6a5ced0b76bb"), looks := false }, kinds := [], alts := [], laidByText := true, laidKinds := [.data, .data, .data], laidTests := true, laidLooks := .later }
def FnSetSizeCardSaid : Prop := Claim7.holds Tryd.pinned (.plain (OpenSpec.ofChange fnSetSizeSpec)) fnSetSizeCard

/-- THE TIED CARD OF 'laws.FnLogValid'. -/
def fnLogValidCard : Claim7 := { stood := { row := fnLogValidRow, standIns := [], harness := (true, "be87c54c9aab10e1f0669310cc2514eea3407c6ba402b26eee3b6a5ced0b76bb"), looks := false }, kinds := [], alts := [], laidByText := true, laidKinds := [.data, .data, .data], laidTests := true, laidLooks := .later }
def FnLogValidCardSaid : Prop := Claim7.holds Tryd.pinned (.plain (OpenSpec.ofChange fnLogValidSpec)) fnLogValidCard

/-- THE TIED CARD OF 'laws.FnLeasesValid'. -/
def fnLeasesValidCard : Claim7 := { stood := { row := fnLeasesValidRow, standIns := [], harness := (true, "be87c54c9aab10e1f0669310cc2514eea3407c6ba402b26eee3b6a5ced0b76bb"), looks := false }, kinds := [], alts := [], laidByText := true, laidKinds := [.data, .data, .data], laidTests := true, laidLooks := .later }
def FnLeasesValidCardSaid : Prop := Claim7.holds Tryd.pinned (.plain (OpenSpec.ofChange fnLeasesValidSpec)) fnLeasesValidCard

/-- THE TIED CARD OF 'laws.FnTouchesValid'. -/
def fnTouchesValidCard : Claim7 := { stood := { row := fnTouchesValidRow, standIns := [], harness := (true, "be87c54c9aab10e1f0669310cc2514eea3407c6ba402b26eee3b6a5ced0b76bb"), looks := false }, kinds := [], alts := [], laidByText := true, laidKinds := [.data, .data, .data], laidTests := true, laidLooks := .later }
def FnTouchesValidCardSaid : Prop := Claim7.holds Tryd.pinned (.plain (OpenSpec.ofChange fnTouchesValidSpec)) fnTouchesValidCard

/-- THE TIED CARD OF 'laws.FnVotesValid'. -/
def fnVotesValidCard : Claim7 := { stood := { row := fnVotesValidRow, standIns := [], harness := (true, "be87c54c9aab10e1f0669310cc2514eea3407c6ba402b26eee3b6a5ced0b76bb"), looks := false }, kinds := [], alts := [], laidByText := true, laidKinds := [.data, .data, .data], laidTests := true, laidLooks := .later }
def FnVotesValidCardSaid : Prop := Claim7.holds Tryd.pinned (.plain (OpenSpec.ofChange fnVotesValidSpec)) fnVotesValidCard

/-- THE TIED CARD OF 'laws.FnRedoValid'. -/
def fnRedoValidCard : Claim7 := { stood := { row := fnRedoValidRow, standIns := [], harness := (true, "be87c54c9aab10e1f0669310cc2514eea3407c6ba402b26eee3b6a5ced0b76bb"), looks := false }, kinds := [], alts := [], laidByText := true, laidKinds := [.data, .data, .data], laidTests := true, laidLooks := .later }
def FnRedoValidCardSaid : Prop := Claim7.holds Tryd.pinned (.plain (OpenSpec.ofChange fnRedoValidSpec)) fnRedoValidCard

/-- THE SECOND FORM's CARD OF 'laws.FnLeaseHeld'. -/
def fnLeaseHeldUptoCard : Claim7 := { stood := { row := fnLeaseHeldUptoRow, standIns := [], harness := (true, "be87c54c9aab10e1f0669310cc2514eea3407c6ba402b26eee3b6a5ced0b76bb"), looks := false }, kinds := [], alts := [], laidByText := true, laidKinds := [.data, .data, .data], laidTests := true, laidLooks := .later }
def FnLeaseHeldUptoCardSaid : Prop := Claim7.holds Tryd.pinned (.plain (OpenSpec.upto fnLeaseHeldSpec)) fnLeaseHeldUptoCard

/-- THE SECOND FORM's CARD OF 'laws.FnSetSize'. -/
def fnSetSizeUptoCard : Claim7 := { stood := { row := fnSetSizeUptoRow, standIns := [], harness := (true, "be87c54c9aab10e1f0669310cc2514eea3407c6ba402b26eee3b6a5ced0b76bb"), looks := false }, kinds := [], alts := [], laidByText := true, laidKinds := [.data, .data, .data], laidTests := true, laidLooks := .later }
def FnSetSizeUptoCardSaid : Prop := Claim7.holds Tryd.pinned (.plain (OpenSpec.upto fnSetSizeSpec)) fnSetSizeUptoCard

/-- THE SECOND FORM's CARD OF 'laws.FnLogValid'. -/
def fnLogValidUptoCard : Claim7 := { stood := { row := fnLogValidUptoRow, standIns := [], harness := (true, "be87c54c9aab10e1f0669310cc2514eea3407c6ba402b26eee3b6a5ced0b76bb"), looks := false }, kinds := [], alts := [], laidByText := true, laidKinds := [.data, .data, .data], laidTests := true, laidLooks := .later }
def FnLogValidUptoCardSaid : Prop := Claim7.holds Tryd.pinned (.plain (OpenSpec.upto fnLogValidSpec)) fnLogValidUptoCard

/-- THE SECOND FORM's CARD OF 'laws.FnLeasesValid'. -/
def fnLeasesValidUptoCard : Claim7 := { stood := { row := fnLeasesValidUptoRow, standIns := [], harness := (true, "be87c54c9aab10e1f0669310cc2514eea3407c6ba402b26eee3b6a5ced0b76bb"), looks := false }, kinds := [], alts := [], laidByText := true, laidKinds := [.data, .data, .data], laidTests := true, laidLooks := .later }
def FnLeasesValidUptoCardSaid : Prop := Claim7.holds Tryd.pinned (.plain (OpenSpec.upto fnLeasesValidSpec)) fnLeasesValidUptoCard

/-- THE SECOND FORM's CARD OF 'laws.FnTouchesValid'. -/
def fnTouchesValidUptoCard : Claim7 := { stood := { row := fnTouchesValidUptoRow, standIns := [], harness := (true, "be87c54c9aab10e1f0669310cc2514eea3407c6ba402b26eee3b6a5ced0b76bb"), looks := false }, kinds := [], alts := [], laidByText := true, laidKinds := [.data, .data, .data], laidTests := true, laidLooks := .later }
def FnTouchesValidUptoCardSaid : Prop := Claim7.holds Tryd.pinned (.plain (OpenSpec.upto fnTouchesValidSpec)) fnTouchesValidUptoCard

/-- THE SECOND FORM's CARD OF 'laws.FnVotesValid'. -/
def fnVotesValidUptoCard : Claim7 := { stood := { row := fnVotesValidUptoRow, standIns := [], harness := (true, "be87c54c9aab10e1f0669310cc2514eea3407c6ba402b26eee3b6a5ced0b76bb"), looks := false }, kinds := [], alts := [], laidByText := true, laidKinds := [.data, .data, .data], laidTests := true, laidLooks := .later }
def FnVotesValidUptoCardSaid : Prop := Claim7.holds Tryd.pinned (.plain (OpenSpec.upto fnVotesValidSpec)) fnVotesValidUptoCard

/-- THE SECOND FORM's CARD OF 'laws.FnRedoValid'. -/
def fnRedoValidUptoCard : Claim7 := { stood := { row := fnRedoValidUptoRow, standIns := [], harness := (true, "be87c54c9aab10e1f0669310cc2514eea3407c6ba402b26eee3b6a5ced0b76bb"), looks := false }, kinds := [], alts := [], laidByText := true, laidKinds := [.data, .data, .data], laidTests := true, laidLooks := .later }
def FnRedoValidUptoCardSaid : Prop := Claim7.holds Tryd.pinned (.plain (OpenSpec.upto fnRedoValidSpec)) fnRedoValidUptoCard
end Rows
end Go.Proofs.YtcmakjhpfgeenaaDoor
