/-
  DERIVED. GIVEN WITH THE SEED: THE CARDS: each row of YtiakkgpkkpaldaaDoorRows.lean that lists a variable, with what it lists TIED to the program's text (the seventh form; the later family's looks); each row that meets fmt, with fmt's text TOLD by the authors' own Lean function (tested against real Go, not proved from fmt's source: count such statements apart). THE CARD IS WHAT COUNTS. Prove the row's statement (the work); the ties are given (YtiakkgpkkpaldaaDoorTie.lean); close each card by the builder's one call (the guide's Derived/Test/ToyasCard.lean, 'card_holds'). Laid BY PROGRAM, IN A SANDBOX (cutbox-door.mjs). By AI agents, Wed Nov 11 2026. No macro, syntax, notation, axiom, sorry.
-/
import Derived.Test.YtiakkgpkkpaldaaDoorRows
import GoSem.ClaimSeven
namespace Go.Proofs.YtiakkgpkkpaldaaDoor
namespace Rows

/-- THE TIED CARD OF 'laws.FnHoldsValid'. -/
def fnHoldsValidCard : Claim7 := { stood := { row := fnHoldsValidRow, standIns := [], harness := (true, "32ecae4b11e67487855600e61482b4489881c077b1448c74c6e9cf501117220d"), looks := false }, kinds := [], alts := [], laidByText := true, laidKinds := [.data, .data, .data], laidTests := true, laidLooks := .later }
def FnHoldsValidCardSaid : Prop := Claim7.holds Tryd.pinned (.plain (OpenSpec.ofChange fnHoldsValidSpec)) fnHoldsValidCard

/-- THE TIED CARD OF 'laws.FnFreeLocks'. -/
def fnFreeLocksCard : Claim7 := { stood := { row := fnFreeLocksRow, standIns := [], harness := (true, "32ecae4b11e67487855600e61482b4489881c077b1448c74c6e9cf501117220d"), looks := false }, kinds := [], alts := [], laidByText := true, laidKinds := [.data, .data, .data], laidTests := true, laidLooks := .later }
def FnFreeLocksCardSaid : Prop := Claim7.holds Tryd.pinned (.plain (OpenSpec.ofChange fnFreeLocksSpec)) fnFreeLocksCard

/-- THE TIED CARD OF 'laws.FnAskLock'. -/
def fnAskLockCard : Claim7 := { stood := { row := fnAskLockRow, standIns := [], harness := (true, "32ecae4b11e67487855600e61482b4489881c077b1448c74c6e9cf501117220d"), looks := false }, kinds := [], alts := [], laidByText := true, laidKinds := [.data, .data, .data], laidTests := true, laidLooks := .later }
def FnAskLockCardSaid : Prop := Claim7.holds Tryd.pinned (.plain (OpenSpec.ofChange fnAskLockSpec)) fnAskLockCard

/-- THE TIED CARD OF 'laws.FnSafeValue'. -/
def fnSafeValueCard : Claim7 := { stood := { row := fnSafeValueRow, standIns := [], harness := (true, "32ecae4b11e67487855600e61482b4489881c077b1448c74c6e9cf501117220d"), looks := false }, kinds := [], alts := [], laidByText := true, laidKinds := [.data, .data, .data], laidTests := true, laidLooks := .later }
def FnSafeValueCardSaid : Prop := Claim7.holds Tryd.pinned (.plain (OpenSpec.ofChange fnSafeValueSpec)) fnSafeValueCard

/-- THE TIED CARD OF 'laws.FnTouchRun'. -/
def fnTouchRunCard : Claim7 := { stood := { row := fnTouchRunRow, standIns := [], harness := (true, "32ecae4b11e67487855600e61482b4489881c077b1448c74c6e9cf501117220d"), looks := false }, kinds := [], alts := [], laidByText := true, laidKinds := [.data, .data, .data], laidTests := true, laidLooks := .later }
def FnTouchRunCardSaid : Prop := Claim7.holds Tryd.pinned (.plain (OpenSpec.ofChange fnTouchRunSpec)) fnTouchRunCard

/-- THE TIED CARD OF 'laws.FnLogAppend'. -/
def fnLogAppendCard : Claim7 := { stood := { row := fnLogAppendRow, standIns := [], harness := (true, "32ecae4b11e67487855600e61482b4489881c077b1448c74c6e9cf501117220d"), looks := false }, kinds := [], alts := [], laidByText := true, laidKinds := [.data, .data, .data], laidTests := true, laidLooks := .later }
def FnLogAppendCardSaid : Prop := Claim7.holds Tryd.pinned (.plain (OpenSpec.ofChange fnLogAppendSpec)) fnLogAppendCard

/-- THE SECOND FORM's CARD OF 'laws.FnHoldsValid'. -/
def fnHoldsValidUptoCard : Claim7 := { stood := { row := fnHoldsValidUptoRow, standIns := [], harness := (true, "32ecae4b11e67487855600e61482b4489881c077b1448c74c6e9cf501117220d"), looks := false }, kinds := [], alts := [], laidByText := true, laidKinds := [.data, .data, .data], laidTests := true, laidLooks := .later }
def FnHoldsValidUptoCardSaid : Prop := Claim7.holds Tryd.pinned (.plain (OpenSpec.upto fnHoldsValidSpec)) fnHoldsValidUptoCard

/-- THE SECOND FORM's CARD OF 'laws.FnFreeLocks'. -/
def fnFreeLocksUptoCard : Claim7 := { stood := { row := fnFreeLocksUptoRow, standIns := [], harness := (true, "32ecae4b11e67487855600e61482b4489881c077b1448c74c6e9cf501117220d"), looks := false }, kinds := [], alts := [], laidByText := true, laidKinds := [.data, .data, .data], laidTests := true, laidLooks := .later }
def FnFreeLocksUptoCardSaid : Prop := Claim7.holds Tryd.pinned (.plain (OpenSpec.upto fnFreeLocksSpec)) fnFreeLocksUptoCard

/-- THE SECOND FORM's CARD OF 'laws.FnAskLock'. -/
def fnAskLockUptoCard : Claim7 := { stood := { row := fnAskLockUptoRow, standIns := [], harness := (true, "32ecae4b11e67487855600e61482b4489881c077b1448c74c6e9cf501117220d"), looks := false }, kinds := [], alts := [], laidByText := true, laidKinds := [.data, .data, .data], laidTests := true, laidLooks := .later }
def FnAskLockUptoCardSaid : Prop := Claim7.holds Tryd.pinned (.plain (OpenSpec.upto fnAskLockSpec)) fnAskLockUptoCard

/-- THE SECOND FORM's CARD OF 'laws.FnSafeValue'. -/
def fnSafeValueUptoCard : Claim7 := { stood := { row := fnSafeValueUptoRow, standIns := [], harness := (true, "32ecae4b11e67487855600e61482b4489881c077b1448c74c6e9cf501117220d"), looks := false }, kinds := [], alts := [], laidByText := true, laidKinds := [.data, .data, .data], laidTests := true, laidLooks := .later }
def FnSafeValueUptoCardSaid : Prop := Claim7.holds Tryd.pinned (.plain (OpenSpec.upto fnSafeValueSpec)) fnSafeValueUptoCard

/-- THE SECOND FORM's CARD OF 'laws.FnTouchRun'. -/
def fnTouchRunUptoCard : Claim7 := { stood := { row := fnTouchRunUptoRow, standIns := [], harness := (true, "32ecae4b11e67487855600e61482b4489881c077b1448c74c6e9cf501117220d"), looks := false }, kinds := [], alts := [], laidByText := true, laidKinds := [.data, .data, .data], laidTests := true, laidLooks := .later }
def FnTouchRunUptoCardSaid : Prop := Claim7.holds Tryd.pinned (.plain (OpenSpec.upto fnTouchRunSpec)) fnTouchRunUptoCard

/-- THE SECOND FORM's CARD OF 'laws.FnLogAppend'. -/
def fnLogAppendUptoCard : Claim7 := { stood := { row := fnLogAppendUptoRow, standIns := [], harness := (true, "32ecae4b11e67487855600e61482b4489881c077b1448c74c6e9cf501117220d"), looks := false }, kinds := [], alts := [], laidByText := true, laidKinds := [.data, .data, .data], laidTests := true, laidLooks := .later }
def FnLogAppendUptoCardSaid : Prop := Claim7.holds Tryd.pinned (.plain (OpenSpec.upto fnLogAppendSpec)) fnLogAppendUptoCard
end Rows
end Go.Proofs.YtiakkgpkkpaldaaDoor
