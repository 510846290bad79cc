/-
  DERIVED. GIVEN WITH THE SEED: THE CARDS: each row of YtpkjgeidndbbbaaDoorRows.lean that lists a variable, with what it lists TIED to the program's text (the seventh form; the later family's looks); each row that meets fmt, with fmt's text TOLD by the authors' own Lean function (tested against real Go, not proved from fmt's source: count such statements apart). THE CARD IS WHAT COUNTS. Prove the row's statement (the work); the ties are given (YtpkjgeidndbbbaaDoorTie.lean); close each card by the builder's one call (the guide's Derived/Test/ToyasCard.lean, 'card_holds'). Laid BY PROGRAM, IN A SANDBOX (cutbox-door.mjs). By AI agents, Wed Nov 11 2026. No macro, syntax, notation, axiom, sorry.
-/
import Derived.Test.YtpkjgeidndbbbaaDoorRows
import GoSem.ClaimSeven
namespace Go.Proofs.YtpkjgeidndbbbaaDoor
namespace Rows

/-- THE TIED CARD OF 'laws.FnLogNewer'. -/
def fnLogNewerCard : Claim7 := { stood := { row := fnLogNewerRow, standIns := [], harness := (true, "cbd7fd7c19c89c03ba517518a9dc8a6225bc1c87a8403be8ea8ebad08f981e86"), looks := false }, kinds := [], alts := [], laidByText := true, laidKinds := [.data, .data, .data], laidTests := true, laidLooks := .later }
def FnLogNewerCardSaid : Prop := Claim7.holds Tryd.pinned (.plain (OpenSpec.ofChange fnLogNewerSpec)) fnLogNewerCard

/-- THE TIED CARD OF 'laws.FnChosenValue'. -/
def fnChosenValueCard : Claim7 := { stood := { row := fnChosenValueRow, standIns := [], harness := (true, "cbd7fd7c19c89c03ba517518a9dc8a6225bc1c87a8403be8ea8ebad08f981e86"), looks := false }, kinds := [], alts := [], laidByText := true, laidKinds := [.data, .data, .data], laidTests := true, laidLooks := .later }
def FnChosenValueCardSaid : Prop := Claim7.holds Tryd.pinned (.plain (OpenSpec.ofChange fnChosenValueSpec)) fnChosenValueCard

/-- THE TIED CARD OF 'laws.FnQuorumsBetween'. -/
def fnQuorumsBetweenCard : Claim7 := { stood := { row := fnQuorumsBetweenRow, standIns := [], harness := (true, "cbd7fd7c19c89c03ba517518a9dc8a6225bc1c87a8403be8ea8ebad08f981e86"), looks := false }, kinds := [], alts := [], laidByText := true, laidKinds := [.data, .data, .data], laidTests := true, laidLooks := .later }
def FnQuorumsBetweenCardSaid : Prop := Claim7.holds Tryd.pinned (.plain (OpenSpec.ofChange fnQuorumsBetweenSpec)) fnQuorumsBetweenCard

/-- THE TIED CARD OF 'laws.FnQuorumsMeet'. -/
def fnQuorumsMeetCard : Claim7 := { stood := { row := fnQuorumsMeetRow, standIns := [], harness := (true, "cbd7fd7c19c89c03ba517518a9dc8a6225bc1c87a8403be8ea8ebad08f981e86"), looks := false }, kinds := [], alts := [], laidByText := true, laidKinds := [.data, .data, .data], laidTests := true, laidLooks := .later }
def FnQuorumsMeetCardSaid : Prop := Claim7.holds Tryd.pinned (.plain (OpenSpec.ofChange fnQuorumsMeetSpec)) fnQuorumsMeetCard

/-- THE TIED CARD OF 'laws.FnLeaseHolder'. -/
def fnLeaseHolderCard : Claim7 := { stood := { row := fnLeaseHolderRow, standIns := [], harness := (true, "cbd7fd7c19c89c03ba517518a9dc8a6225bc1c87a8403be8ea8ebad08f981e86"), looks := false }, kinds := [], alts := [], laidByText := true, laidKinds := [.data, .data, .data], laidTests := true, laidLooks := .later }
def FnLeaseHolderCardSaid : Prop := Claim7.holds Tryd.pinned (.plain (OpenSpec.ofChange fnLeaseHolderSpec)) fnLeaseHolderCard

/-- THE TIED CARD OF 'laws.FnTouchKey'. -/
def fnTouchKeyCard : Claim7 := { stood := { row := fnTouchKeyRow, standIns := [], harness := (true, "cbd7fd7c19c89c03ba517518a9dc8a6225bc1c87a8403be8ea8ebad08f981e86"), looks := false }, kinds := [], alts := [], laidByText := true, laidKinds := [.data, .data, .data], laidTests := true, laidLooks := .later }
def FnTouchKeyCardSaid : Prop := Claim7.holds Tryd.pinned (.plain (OpenSpec.ofChange fnTouchKeySpec)) fnTouchKeyCard

/-- THE TIED CARD OF 'laws.FnQuorumsLeft'. -/
def fnQuorumsLeftCard : Claim7 := { stood := { row := fnQuorumsLeftRow, standIns := [], harness := (true, "cbd7fd7c19c89c03ba517518a9dc8a6225bc1c87a8403be8ea8ebad08f981e86"), looks := false }, kinds := [], alts := [], laidByText := true, laidKinds := [.data, .data, .data], laidTests := true, laidLooks := .later }
def FnQuorumsLeftCardSaid : Prop := Claim7.holds Tryd.pinned (.plain (OpenSpec.ofChange fnQuorumsLeftSpec)) fnQuorumsLeftCard

/-- THE SECOND FORM's CARD OF 'laws.FnLogNewer'. -/
def fnLogNewerUptoCard : Claim7 := { stood := { row := fnLogNewerUptoRow, standIns := [], harness := (true, "cbd7fd7c19c89c03ba517518a9dc8a6225bc1c87a8403be8ea8ebad08f981e86"), looks := false }, kinds := [], alts := [], laidByText := true, laidKinds := [.data, .data, .data], laidTests := true, laidLooks := .later }
def FnLogNewerUptoCardSaid : Prop := Claim7.holds Tryd.pinned (.plain (OpenSpec.upto fnLogNewerSpec)) fnLogNewerUptoCard

/-- THE SECOND FORM's CARD OF 'laws.FnChosenValue'. -/
def fnChosenValueUptoCard : Claim7 := { stood := { row := fnChosenValueUptoRow, standIns := [], harness := (true, "cbd7fd7c19c89c03ba517518a9dc8a6225bc1c87a8403be8ea8ebad08f981e86"), looks := false }, kinds := [], alts := [], laidByText := true, laidKinds := [.data, .data, .data], laidTests := true, laidLooks := .later }
def FnChosenValueUptoCardSaid : Prop := Claim7.holds Tryd.pinned (.plain (OpenSpec.upto fnChosenValueSpec)) fnChosenValueUptoCard

/-- THE SECOND FORM's CARD OF 'laws.FnQuorumsBetween'. -/
def fnQuorumsBetweenUptoCard : Claim7 := { stood := { row := fnQuorumsBetweenUptoRow, standIns := [], harness := (true, "cbd7fd7c19c89c03ba517518a9dc8a6225bc1c87a8403be8ea8ebad08f981e86"), looks := false }, kinds := [], alts := [], laidByText := true, laidKinds := [.data, .data, .data], laidTests := true, laidLooks := .later }
def FnQuorumsBetweenUptoCardSaid : Prop := Claim7.holds Tryd.pinned (.plain (OpenSpec.upto fnQuorumsBetweenSpec)) fnQuorumsBetweenUptoCard

/-- THE SECOND FORM's CARD OF 'laws.FnQuorumsMeet'. -/
def fnQuorumsMeetUptoCard : Claim7 := { stood := { row := fnQuorumsMeetUptoRow, standIns := [], harness := (true, "cbd7fd7c19c89c03ba517518a9dc8a6225bc1c87a8403be8ea8ebad08f981e86"), looks := false }, kinds := [], alts := [], laidByText := true, laidKinds := [.data, .data, .data], laidTests := true, laidLooks := .later }
def FnQuorumsMeetUptoCardSaid : Prop := Claim7.holds Tryd.pinned (.plain (OpenSpec.upto fnQuorumsMeetSpec)) fnQuorumsMeetUptoCard

/-- THE SECOND FORM's CARD OF 'laws.FnLeaseHolder'. -/
def fnLeaseHolderUptoCard : Claim7 := { stood := { row := fnLeaseHolderUptoRow, standIns := [], harness := (true, "cbd7fd7c19c89c03ba517518a9dc8a6225bc1c87a8403be8ea8ebad08f981e86"), looks := false }, kinds := [], alts := [], laidByText := true, laidKinds := [.data, .data, .data], laidTests := true, laidLooks := .later }
def FnLeaseHolderUptoCardSaid : Prop := Claim7.holds Tryd.pinned (.plain (OpenSpec.upto fnLeaseHolderSpec)) fnLeaseHolderUptoCard

/-- THE SECOND FORM's CARD OF 'laws.FnTouchKey'. -/
def fnTouchKeyUptoCard : Claim7 := { stood := { row := fnTouchKeyUptoRow, standIns := [], harness := (true, "cbd7fd7c19c89c03ba517518a9dc8a6225bc1c87a8403be8ea8ebad08f981e86"), looks := false }, kinds := [], alts := [], laidByText := true, laidKinds := [.data, .data, .data], laidTests := true, laidLooks := .later }
def FnTouchKeyUptoCardSaid : Prop := Claim7.holds Tryd.pinned (.plain (OpenSpec.upto fnTouchKeySpec)) fnTouchKeyUptoCard

/-- THE SECOND FORM's CARD OF 'laws.FnQuorumsLeft'. -/
def fnQuorumsLeftUptoCard : Claim7 := { stood := { row := fnQuorumsLeftUptoRow, standIns := [], harness := (true, "cbd7fd7c19c89c03ba517518a9dc8a6225bc1c87a8403be8ea8ebad08f981e86"), looks := false }, kinds := [], alts := [], laidByText := true, laidKinds := [.data, .data, .data], laidTests := true, laidLooks := .later }
def FnQuorumsLeftUptoCardSaid : Prop := Claim7.holds Tryd.pinned (.plain (OpenSpec.upto fnQuorumsLeftSpec)) fnQuorumsLeftUptoCard
end Rows
end Go.Proofs.YtpkjgeidndbbbaaDoor
