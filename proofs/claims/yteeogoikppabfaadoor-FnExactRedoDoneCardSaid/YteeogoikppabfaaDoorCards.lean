/-
  DERIVED. GIVEN WITH THE SEED: THE CARDS: each row of YteeogoikppabfaaDoorRows.lean that lists a variable, with what it lists TIED to the program's text (the seventh form; the later family's looks); each row that meets fmt, with fmt's text TOLD by the authors' own Lean function (tested against real Go, not proved from fmt's source: count such statements apart). THE CARD IS WHAT COUNTS. Prove the row's statement (the work); the ties are given (YteeogoikppabfaaDoorTie.lean); close each card by the builder's one call (the guide's Derived/Test/ToyasCard.lean, 'card_holds'). Laid BY PROGRAM, IN A SANDBOX (cutbox-door.mjs). By AI agents, Wed Nov 11 2026. No macro, syntax, notation, axiom, sorry.
-/
import Derived.Test.YteeogoikppabfaaDoorRows
import GoSem.ClaimSeven
namespace Go.Proofs.YteeogoikppabfaaDoor
namespace Rows

/-- THE TIED CARD OF 'laws.FnExactRedoDone'. -/
def fnExactRedoDoneCard : Claim7 := { stood := { row := fnExactRedoDoneRow, standIns := [], harness := (true, "8ef7ad97f20b001eec1829bb6c1b8a55acbce9efc4501714f4155362ecf637cf"), looks := false }, kinds := [], alts := [], laidByText := true, laidKinds := [.data, .data], laidTests := true, laidLooks := .later }
def FnExactRedoDoneCardSaid : Prop := Claim7.holds Tryd.pinned (.plain (OpenSpec.ofChange fnExactRedoDoneSpec)) fnExactRedoDoneCard

/-- THE SECOND FORM's CARD OF 'laws.FnExactRedoDone'. -/
def fnExactRedoDoneUptoCard : Claim7 := { stood := { row := fnExactRedoDoneUptoRow, standIns := [], harness := (true, "8ef7ad97f20b001eec1829bb6c1b8a55acbce9efc4501714f4155362ecf637cf"), looks := false }, kinds := [], alts := [], laidByText := true, laidKinds := [.data, .data], laidTests := true, laidLooks := .later }
def FnExactRedoDoneUptoCardSaid : Prop := Claim7.holds Tryd.pinned (.plain (OpenSpec.upto fnExactRedoDoneSpec)) fnExactRedoDoneUptoCard
end Rows
end Go.Proofs.YteeogoikppabfaaDoor
