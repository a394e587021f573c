/-
  DERIVED. GIVEN WITH THE SEED: THE CARDS: each row of YtpillmoddoccfabDoorRows.lean that lists a variable, with what it lists TIED to the program's text (the seventh form; the later family's looks); each row that meets fmt, with fmt's text TOLD by the authors' own Lean function (tested against real Go, not proved from fmt's source: count such statements apart). THE CARD IS WHAT COUNTS. Prove the row's statement (the work); the ties are given (YtpillmoddoccfabDoorTie.lean); close each card by the builder's one call (the guide's Derived/Test/ToyasCard.lean, 'card_holds'). Laid BY PROGRAM, IN A SANDBOX (cutbox-door.mjs). By AI agents, Wed Nov 11 2026. No macro, syntax, notation, axiom, sorry.
-/
import Derived.Test.YtpillmoddoccfabDoorRows
import GoSem.ClaimSeven
namespace Go.Proofs.YtpillmoddoccfabDoor
namespace Rows

/-- THE TIED CARD OF 'neweltop.TopMeasured'. -/
def topMeasuredCard : Claim7 := { stood := { row := topMeasuredRow, standIns := [], harness := (true, "b974ce5b8ddbfaddcb13e7bc22cdb63db6bec4b69502accf4794989277c4d491"), looks := false }, kinds := [], alts := [], laidByText := true, laidKinds := [.data, .data], laidTests := true, laidLooks := .later }
def TopMeasuredCardSaid : Prop := Claim7.holds Tryd.pinned (.plain (OpenSpec.ofChange topMeasuredSpec)) topMeasuredCard

/-- THE TIED CARD OF 'neweltop.TopHalted'. -/
def topHaltedCard : Claim7 := { stood := { row := topHaltedRow, standIns := [], harness := (true, "b974ce5b8ddbfaddcb13e7bc22cdb63db6bec4b69502accf4794989277c4d491"), looks := false }, kinds := [], alts := [], laidByText := true, laidKinds := [.data], laidTests := true, laidLooks := .later }
def TopHaltedCardSaid : Prop := Claim7.holds Tryd.pinned (.plain (OpenSpec.ofChange topHaltedSpec)) topHaltedCard

/-- THE SECOND FORM's CARD OF 'neweltop.TopMeasured'. -/
def topMeasuredUptoCard : Claim7 := { stood := { row := topMeasuredUptoRow, standIns := [], harness := (true, "b974ce5b8ddbfaddcb13e7bc22cdb63db6bec4b69502accf4794989277c4d491"), looks := false }, kinds := [], alts := [], laidByText := true, laidKinds := [.data, .data], laidTests := true, laidLooks := .later }
def TopMeasuredUptoCardSaid : Prop := Claim7.holds Tryd.pinned (.plain (OpenSpec.upto topMeasuredSpec)) topMeasuredUptoCard

/-- THE SECOND FORM's CARD OF 'neweltop.TopHalted'. -/
def topHaltedUptoCard : Claim7 := { stood := { row := topHaltedUptoRow, standIns := [], harness := (true, "b974ce5b8ddbfaddcb13e7bc22cdb63db6bec4b69502accf4794989277c4d491"), looks := false }, kinds := [], alts := [], laidByText := true, laidKinds := [.data], laidTests := true, laidLooks := .later }
def TopHaltedUptoCardSaid : Prop := Claim7.holds Tryd.pinned (.plain (OpenSpec.upto topHaltedSpec)) topHaltedUptoCard
end Rows
end Go.Proofs.YtpillmoddoccfabDoor
