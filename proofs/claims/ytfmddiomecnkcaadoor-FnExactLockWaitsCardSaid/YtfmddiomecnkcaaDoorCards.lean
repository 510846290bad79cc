/-
  DERIVED. GIVEN WITH THE SEED: THE CARDS: each row of YtfmddiomecnkcaaDoorRows.lean that lists a variable, with what it lists TIED to the program's text (the seventh form; the later family's looks); each row that meets fmt, with fmt's text TOLD by the authors' own Lean function (tested against real Go, not proved from fmt's source: count such statements apart). THE CARD IS WHAT COUNTS. Prove the row's statement (the work); the ties are given (YtfmddiomecnkcaaDoorTie.lean); close each card by the builder's one call (the guide's Derived/Test/ToyasCard.lean, 'card_holds'). Laid BY PROGRAM, IN A SANDBOX (cutbox-door.mjs). By AI agents, Wed Nov 11 2026. No macro, syntax, notation, axiom, sorry.
-/
import Derived.Test.YtfmddiomecnkcaaDoorRows
import GoSem.ClaimSeven
namespace Go.Proofs.YtfmddiomecnkcaaDoor
namespace Rows

/-- THE TIED CARD OF 'laws.FnExactLockWaits'. -/
def fnExactLockWaitsCard : Claim7 := { stood := { row := fnExactLockWaitsRow, standIns := [], harness := (true, "851d0a35a6d95f1162020e3cbd24700cdf082b3b91e9efc136ef76c3d58f1e6b"), looks := false }, kinds := [], alts := [], laidByText := true, laidKinds := [.data, .data], laidTests := true, laidLooks := .later }
def FnExactLockWaitsCardSaid : Prop := Claim7.holds Tryd.pinned (.plain (OpenSpec.ofChange fnExactLockWaitsSpec)) fnExactLockWaitsCard

/-- THE TIED CARD OF 'laws.FnExactSafeValue'. -/
def fnExactSafeValueCard : Claim7 := { stood := { row := fnExactSafeValueRow, standIns := [], harness := (true, "851d0a35a6d95f1162020e3cbd24700cdf082b3b91e9efc136ef76c3d58f1e6b"), looks := false }, kinds := [], alts := [], laidByText := true, laidKinds := [.data, .data], laidTests := true, laidLooks := .later }
def FnExactSafeValueCardSaid : Prop := Claim7.holds Tryd.pinned (.plain (OpenSpec.ofChange fnExactSafeValueSpec)) fnExactSafeValueCard

/-- THE SECOND FORM's CARD OF 'laws.FnExactLockWaits'. -/
def fnExactLockWaitsUptoCard : Claim7 := { stood := { row := fnExactLockWaitsUptoRow, standIns := [], harness := (true, "851d0a35a6d95f1162020e3cbd24700cdf082b3b91e9efc136ef76c3d58f1e6b"), looks := false }, kinds := [], alts := [], laidByText := true, laidKinds := [.data, .data], laidTests := true, laidLooks := .later }
def FnExactLockWaitsUptoCardSaid : Prop := Claim7.holds Tryd.pinned (.plain (OpenSpec.upto fnExactLockWaitsSpec)) fnExactLockWaitsUptoCard

/-- THE SECOND FORM's CARD OF 'laws.FnExactSafeValue'. -/
def fnExactSafeValueUptoCard : Claim7 := { stood := { row := fnExactSafeValueUptoRow, standIns := [], harness := (true, "851d0a35a6d95f1162020e3cbd24700cdf082b3b91e9efc136ef76c3d58f1e6b"), looks := false }, kinds := [], alts := [], laidByText := true, laidKinds := [.data, .data], laidTests := true, laidLooks := .later }
def FnExactSafeValueUptoCardSaid : Prop := Claim7.holds Tryd.pinned (.plain (OpenSpec.upto fnExactSafeValueSpec)) fnExactSafeValueUptoCard
end Rows
end Go.Proofs.YtfmddiomecnkcaaDoor
