/-
  DERIVED. GIVEN WITH THE SEED: THE CARDS: each row of YtckkodiefpdmhaaDoorRows.lean that lists a variable, with what it lists TIED to the program's text (the seventh form; the later family's looks); each row that meets fmt, with fmt's text TOLD by the authors' own Lean function (tested against real Go, not proved from fmt's source: count such statements apart). THE CARD IS WHAT COUNTS. Prove the row's statement (the work); the ties are given (YtckkodiefpdmhaaDoorTie.lean); close each card by the builder's one call (the guide's Derived/Test/ToyasCard.lean, 'card_holds'). Laid BY PROGRAM, IN A SANDBOX (cutbox-door.mjs). By AI agents, Wed Nov 11 2026. No macro, syntax, notation, axiom, sorry.
-/
import Derived.Test.YtckkodiefpdmhaaDoorRows
import GoSem.ClaimSeven
namespace Go.Proofs.YtckkodiefpdmhaaDoor
namespace Rows

/-- THE TIED CARD OF 'newellaw09.ShaftCarries'. -/
def shaftCarriesCard : Claim7 := { stood := { row := shaftCarriesRow, standIns := [], harness := (true, "4809771208100514c0bfea1b17d8d5b3a7fabfda0a0fe0ca29c0a580a8d0936c"), looks := false }, kinds := [], alts := [], laidByText := true, laidKinds := [.widerDeep, .data], laidTests := true, laidLooks := .later }
def ShaftCarriesCardSaid : Prop := Claim7.holds Tryd.pinned (.plain (OpenSpec.ofChange shaftCarriesSpec)) shaftCarriesCard

/-- THE TIED CARD OF 'newellaw09.ShaftSmaller'. -/
def shaftSmallerCard : Claim7 := { stood := { row := shaftSmallerRow, standIns := [], harness := (true, "4809771208100514c0bfea1b17d8d5b3a7fabfda0a0fe0ca29c0a580a8d0936c"), looks := false }, kinds := [], alts := [], laidByText := true, laidKinds := [.widerDeep, .data], laidTests := true, laidLooks := .later }
def ShaftSmallerCardSaid : Prop := Claim7.holds Tryd.pinned (.plain (OpenSpec.ofChange shaftSmallerSpec)) shaftSmallerCard

/-- THE TIED CARD OF 'newellaw09.ShaftTighter'. -/
def shaftTighterCard : Claim7 := { stood := { row := shaftTighterRow, standIns := [], harness := (true, "4809771208100514c0bfea1b17d8d5b3a7fabfda0a0fe0ca29c0a580a8d0936c"), looks := false }, kinds := [], alts := [], laidByText := true, laidKinds := [.widerDeep, .data], laidTests := true, laidLooks := .later }
def ShaftTighterCardSaid : Prop := Claim7.holds Tryd.pinned (.plain (OpenSpec.ofChange shaftTighterSpec)) shaftTighterCard

/-- THE TIED CARD OF 'newellaw09.ShaftShort'. -/
def shaftShortCard : Claim7 := { stood := { row := shaftShortRow, standIns := [], harness := (true, "4809771208100514c0bfea1b17d8d5b3a7fabfda0a0fe0ca29c0a580a8d0936c"), looks := false }, kinds := [], alts := [], laidByText := true, laidKinds := [.widerDeep, .data], laidTests := true, laidLooks := .later }
def ShaftShortCardSaid : Prop := Claim7.holds Tryd.pinned (.plain (OpenSpec.ofChange shaftShortSpec)) shaftShortCard

/-- THE TIED CARD OF 'newellaw09.ShaftBest'. -/
def shaftBestCard : Claim7 := { stood := { row := shaftBestRow, standIns := [], harness := (true, "4809771208100514c0bfea1b17d8d5b3a7fabfda0a0fe0ca29c0a580a8d0936c"), looks := false }, kinds := [], alts := [], laidByText := true, laidKinds := [.widerDeep, .data], laidTests := true, laidLooks := .later }
def ShaftBestCardSaid : Prop := Claim7.holds Tryd.pinned (.plain (OpenSpec.ofChange shaftBestSpec)) shaftBestCard

/-- THE TIED CARD OF 'newellaw09.ShaftNever'. -/
def shaftNeverCard : Claim7 := { stood := { row := shaftNeverRow, standIns := [], harness := (true, "4809771208100514c0bfea1b17d8d5b3a7fabfda0a0fe0ca29c0a580a8d0936c"), looks := false }, kinds := [], alts := [], laidByText := true, laidKinds := [.widerDeep, .data], laidTests := true, laidLooks := .later }
def ShaftNeverCardSaid : Prop := Claim7.holds Tryd.pinned (.plain (OpenSpec.ofChange shaftNeverSpec)) shaftNeverCard

/-- THE TIED CARD OF 'newellaw09.ShaftMoves'. -/
def shaftMovesCard : Claim7 := { stood := { row := shaftMovesRow, standIns := [], harness := (true, "4809771208100514c0bfea1b17d8d5b3a7fabfda0a0fe0ca29c0a580a8d0936c"), looks := false }, kinds := [], alts := [], laidByText := true, laidKinds := [.widerDeep, .data], laidTests := true, laidLooks := .later }
def ShaftMovesCardSaid : Prop := Claim7.holds Tryd.pinned (.plain (OpenSpec.ofChange shaftMovesSpec)) shaftMovesCard

/-- THE TIED CARD OF 'newellaw09.ShaftEdges'. -/
def shaftEdgesCard : Claim7 := { stood := { row := shaftEdgesRow, standIns := [], harness := (true, "4809771208100514c0bfea1b17d8d5b3a7fabfda0a0fe0ca29c0a580a8d0936c"), looks := false }, kinds := [], alts := [], laidByText := true, laidKinds := [.widerDeep, .data], laidTests := true, laidLooks := .later }
def ShaftEdgesCardSaid : Prop := Claim7.holds Tryd.pinned (.plain (OpenSpec.ofChange shaftEdgesSpec)) shaftEdgesCard

/-- THE TIED CARD OF 'newellaw09.ShaftFree'. -/
def shaftFreeCard : Claim7 := { stood := { row := shaftFreeRow, standIns := [], harness := (true, "4809771208100514c0bfea1b17d8d5b3a7fabfda0a0fe0ca29c0a580a8d0936c"), looks := false }, kinds := [], alts := [], laidByText := true, laidKinds := [.widerDeep, .data], laidTests := true, laidLooks := .later }
def ShaftFreeCardSaid : Prop := Claim7.holds Tryd.pinned (.plain (OpenSpec.ofChange shaftFreeSpec)) shaftFreeCard

/-- THE TIED CARD OF 'newellaw09.ShaftLargest'. -/
def shaftLargestCard : Claim7 := { stood := { row := shaftLargestRow, standIns := [], harness := (true, "4809771208100514c0bfea1b17d8d5b3a7fabfda0a0fe0ca29c0a580a8d0936c"), looks := false }, kinds := [], alts := [], laidByText := true, laidKinds := [.widerDeep, .data], laidTests := true, laidLooks := .later }
def ShaftLargestCardSaid : Prop := Claim7.holds Tryd.pinned (.plain (OpenSpec.ofChange shaftLargestSpec)) shaftLargestCard

/-- THE TIED CARD OF 'newellaw09.ShaftPlans'. -/
def shaftPlansCard : Claim7 := { stood := { row := shaftPlansRow, standIns := [], harness := (true, "4809771208100514c0bfea1b17d8d5b3a7fabfda0a0fe0ca29c0a580a8d0936c"), looks := false }, kinds := [], alts := [], laidByText := true, laidKinds := [.widerDeep, .data], laidTests := true, laidLooks := .later }
def ShaftPlansCardSaid : Prop := Claim7.holds Tryd.pinned (.plain (OpenSpec.ofChange shaftPlansSpec)) shaftPlansCard

/-- THE TIED CARD OF 'newellaw09.ShaftLeast'. -/
def shaftLeastCard : Claim7 := { stood := { row := shaftLeastRow, standIns := [], harness := (true, "4809771208100514c0bfea1b17d8d5b3a7fabfda0a0fe0ca29c0a580a8d0936c"), looks := false }, kinds := [], alts := [], laidByText := true, laidKinds := [.widerDeep, .data], laidTests := true, laidLooks := .later }
def ShaftLeastCardSaid : Prop := Claim7.holds Tryd.pinned (.plain (OpenSpec.ofChange shaftLeastSpec)) shaftLeastCard

/-- THE SECOND FORM's CARD OF 'newellaw09.ShaftCarries'. -/
def shaftCarriesUptoCard : Claim7 := { stood := { row := shaftCarriesUptoRow, standIns := [], harness := (true, "4809771208100514c0bfea1b17d8d5b3a7fabfda0a0fe0ca29c0a580a8d0936c"), looks := false }, kinds := [], alts := [], laidByText := true, laidKinds := [.widerDeep, .data], laidTests := true, laidLooks := .later }
def ShaftCarriesUptoCardSaid : Prop := Claim7.holds Tryd.pinned (.plain (OpenSpec.upto shaftCarriesSpec)) shaftCarriesUptoCard

/-- THE SECOND FORM's CARD OF 'newellaw09.ShaftSmaller'. -/
def shaftSmallerUptoCard : Claim7 := { stood := { row := shaftSmallerUptoRow, standIns := [], harness := (true, "4809771208100514c0bfea1b17d8d5b3a7fabfda0a0fe0ca29c0a580a8d0936c"), looks := false }, kinds := [], alts := [], laidByText := true, laidKinds := [.widerDeep, .data], laidTests := true, laidLooks := .later }
def ShaftSmallerUptoCardSaid : Prop := Claim7.holds Tryd.pinned (.plain (OpenSpec.upto shaftSmallerSpec)) shaftSmallerUptoCard

/-- THE SECOND FORM's CARD OF 'newellaw09.ShaftTighter'. -/
def shaftTighterUptoCard : Claim7 := { stood := { row := shaftTighterUptoRow, standIns := [], harness := (true, "4809771208100514c0bfea1b17d8d5b3a7fabfda0a0fe0ca29c0a580a8d0936c"), looks := false }, kinds := [], alts := [], laidByText := true, laidKinds := [.widerDeep, .data], laidTests := true, laidLooks := .later }
def ShaftTighterUptoCardSaid : Prop := Claim7.holds Tryd.pinned (.plain (OpenSpec.upto shaftTighterSpec)) shaftTighterUptoCard

/-- THE SECOND FORM's CARD OF 'newellaw09.ShaftShort'. -/
def shaftShortUptoCard : Claim7 := { stood := { row := shaftShortUptoRow, standIns := [], harness := (true, "4809771208100514c0bfea1b17d8d5b3a7fabfda0a0fe0ca29c0a580a8d0936c"), looks := false }, kinds := [], alts := [], laidByText := true, laidKinds := [.widerDeep, .data], laidTests := true, laidLooks := .later }
def ShaftShortUptoCardSaid : Prop := Claim7.holds Tryd.pinned (.plain (OpenSpec.upto shaftShortSpec)) shaftShortUptoCard

/-- THE SECOND FORM's CARD OF 'newellaw09.ShaftBest'. -/
def shaftBestUptoCard : Claim7 := { stood := { row := shaftBestUptoRow, standIns := [], harness := (true, "4809771208100514c0bfea1b17d8d5b3a7fabfda0a0fe0ca29c0a580a8d0936c"), looks := false }, kinds := [], alts := [], laidByText := true, laidKinds := [.widerDeep, .data], laidTests := true, laidLooks := .later }
def ShaftBestUptoCardSaid : Prop := Claim7.holds Tryd.pinned (.plain (OpenSpec.upto shaftBestSpec)) shaftBestUptoCard

/-- THE SECOND FORM's CARD OF 'newellaw09.ShaftNever'. -/
def shaftNeverUptoCard : Claim7 := { stood := { row := shaftNeverUptoRow, standIns := [], harness := (true, "4809771208100514c0bfea1b17d8d5b3a7fabfda0a0fe0ca29c0a580a8d0936c"), looks := false }, kinds := [], alts := [], laidByText := true, laidKinds := [.widerDeep, .data], laidTests := true, laidLooks := .later }
def ShaftNeverUptoCardSaid : Prop := Claim7.holds Tryd.pinned (.plain (OpenSpec.upto shaftNeverSpec)) shaftNeverUptoCard

/-- THE SECOND FORM's CARD OF 'newellaw09.ShaftMoves'. -/
def shaftMovesUptoCard : Claim7 := { stood := { row := shaftMovesUptoRow, standIns := [], harness := (true, "4809771208100514c0bfea1b17d8d5b3a7fabfda0a0fe0ca29c0a580a8d0936c"), looks := false }, kinds := [], alts := [], laidByText := true, laidKinds := [.widerDeep, .data], laidTests := true, laidLooks := .later }
def ShaftMovesUptoCardSaid : Prop := Claim7.holds Tryd.pinned (.plain (OpenSpec.upto shaftMovesSpec)) shaftMovesUptoCard

/-- THE SECOND FORM's CARD OF 'newellaw09.ShaftEdges'. -/
def shaftEdgesUptoCard : Claim7 := { stood := { row := shaftEdgesUptoRow, standIns := [], harness := (true, "4809771208100514c0bfea1b17d8d5b3a7fabfda0a0fe0ca29c0a580a8d0936c"), looks := false }, kinds := [], alts := [], laidByText := true, laidKinds := [.widerDeep, .data], laidTests := true, laidLooks := .later }
def ShaftEdgesUptoCardSaid : Prop := Claim7.holds Tryd.pinned (.plain (OpenSpec.upto shaftEdgesSpec)) shaftEdgesUptoCard

/-- THE SECOND FORM's CARD OF 'newellaw09.ShaftFree'. -/
def shaftFreeUptoCard : Claim7 := { stood := { row := shaftFreeUptoRow, standIns := [], harness := (true, "4809771208100514c0bfea1b17d8d5b3a7fabfda0a0fe0ca29c0a580a8d0936c"), looks := false }, kinds := [], alts := [], laidByText := true, laidKinds := [.widerDeep, .data], laidTests := true, laidLooks := .later }
def ShaftFreeUptoCardSaid : Prop := Claim7.holds Tryd.pinned (.plain (OpenSpec.upto shaftFreeSpec)) shaftFreeUptoCard

/-- THE SECOND FORM's CARD OF 'newellaw09.ShaftLargest'. -/
def shaftLargestUptoCard : Claim7 := { stood := { row := shaftLargestUptoRow, standIns := [], harness := (true, "4809771208100514c0bfea1b17d8d5b3a7fabfda0a0fe0ca29c0a580a8d0936c"), looks := false }, kinds := [], alts := [], laidByText := true, laidKinds := [.widerDeep, .data], laidTests := true, laidLooks := .later }
def ShaftLargestUptoCardSaid : Prop := Claim7.holds Tryd.pinned (.plain (OpenSpec.upto shaftLargestSpec)) shaftLargestUptoCard

/-- THE SECOND FORM's CARD OF 'newellaw09.ShaftPlans'. -/
def shaftPlansUptoCard : Claim7 := { stood := { row := shaftPlansUptoRow, standIns := [], harness := (true, "4809771208100514c0bfea1b17d8d5b3a7fabfda0a0fe0ca29c0a580a8d0936c"), looks := false }, kinds := [], alts := [], laidByText := true, laidKinds := [.widerDeep, .data], laidTests := true, laidLooks := .later }
def ShaftPlansUptoCardSaid : Prop := Claim7.holds Tryd.pinned (.plain (OpenSpec.upto shaftPlansSpec)) shaftPlansUptoCard

/-- THE SECOND FORM's CARD OF 'newellaw09.ShaftLeast'. -/
def shaftLeastUptoCard : Claim7 := { stood := { row := shaftLeastUptoRow, standIns := [], harness := (true, "4809771208100514c0bfea1b17d8d5b3a7fabfda0a0fe0ca29c0a580a8d0936c"), looks := false }, kinds := [], alts := [], laidByText := true, laidKinds := [.widerDeep, .data], laidTests := true, laidLooks := .later }
def ShaftLeastUptoCardSaid : Prop := Claim7.holds Tryd.pinned (.plain (OpenSpec.upto shaftLeastSpec)) shaftLeastUptoCard
end Rows
end Go.Proofs.YtckkodiefpdmhaaDoor
