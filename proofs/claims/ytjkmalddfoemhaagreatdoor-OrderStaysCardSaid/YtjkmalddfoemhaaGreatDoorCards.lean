/-
  DERIVED. GIVEN WITH THE SEED: THE CARDS: each row of YtjkmalddfoemhaaGreatDoorRows.lean that lists a variable, with what it lists TIED to the program's text (the seventh form; the later family's looks); each row that meets fmt, with fmt's text TOLD by the authors' own Lean function (tested against real Go, not proved from fmt's source: count such statements apart). THE CARD IS WHAT COUNTS. Prove the row's statement (the work); the ties are given (YtjkmalddfoemhaaGreatDoorTie.lean); close each card by the builder's one call (the guide's Derived/Test/ToyasCard.lean, 'card_holds'). Laid BY PROGRAM, IN A SANDBOX (cutbox-door.mjs). By AI agents, Wed Nov 11 2026. No macro, syntax, notation, axiom, sorry.
-/
import Derived.Test.YtjkmalddfoemhaaGreatDoorRows
import GoSem.ClaimSeven
namespace Go.Proofs.YtjkmalddfoemhaaGreatDoor
namespace Rows

/-- THE TIED CARD OF 'stokvellaw12.ReconReads'. -/
def reconReadsCard : Claim7 := { stood := { row := reconReadsRow, standIns := [], harness := (true, "643fb8a54819822953d9924fd9c42e7e63a897c166d98a737e095ddd2ad14031"), looks := true }, kinds := [], alts := [], laidByText := true, laidKinds := [.data, .data, .data, .sentinel, .sentinel, .data], laidTests := true, laidLooks := .later }
def ReconReadsCardSaid : Prop := Claim7.holds Tryz.pinned (.plain (OpenSpec.ofChange reconReadsSpec)) reconReadsCard

/-- THE TIED CARD OF 'stokvellaw12.ReconTakes'. -/
def reconTakesCard : Claim7 := { stood := { row := reconTakesRow, standIns := [], harness := (true, "643fb8a54819822953d9924fd9c42e7e63a897c166d98a737e095ddd2ad14031"), looks := true }, kinds := [], alts := [], laidByText := true, laidKinds := [.data, .data, .data, .sentinel, .sentinel, .data], laidTests := true, laidLooks := .later }
def ReconTakesCardSaid : Prop := Claim7.holds Tryz.pinned (.plain (OpenSpec.ofChange reconTakesSpec)) reconTakesCard

/-- THE TIED CARD OF 'stokvellaw12.ReconGives'. -/
def reconGivesCard : Claim7 := { stood := { row := reconGivesRow, standIns := [], harness := (true, "643fb8a54819822953d9924fd9c42e7e63a897c166d98a737e095ddd2ad14031"), looks := true }, kinds := [], alts := [], laidByText := true, laidKinds := [.data, .data, .data, .sentinel, .sentinel, .data], laidTests := true, laidLooks := .later }
def ReconGivesCardSaid : Prop := Claim7.holds Tryz.pinned (.plain (OpenSpec.ofChange reconGivesSpec)) reconGivesCard

/-- THE TIED CARD OF 'stokvellaw33.OrderTells'. -/
def orderTellsCard : Claim7 := { stood := { row := orderTellsRow, standIns := [], harness := (true, "643fb8a54819822953d9924fd9c42e7e63a897c166d98a737e095ddd2ad14031"), looks := true }, kinds := [], alts := [], laidByText := true, laidKinds := [.data, .data, .data, .sentinel, .sentinel, .data], laidTests := true, laidLooks := .later }
def OrderTellsCardSaid : Prop := Claim7.holds Tryz.pinned (.plain (OpenSpec.ofChange orderTellsSpec)) orderTellsCard

/-- THE TIED CARD OF 'stokvellaw33.OrderKnows'. -/
def orderKnowsCard : Claim7 := { stood := { row := orderKnowsRow, standIns := [], harness := (true, "643fb8a54819822953d9924fd9c42e7e63a897c166d98a737e095ddd2ad14031"), looks := true }, kinds := [], alts := [], laidByText := true, laidKinds := [.data, .data, .data, .sentinel, .sentinel, .data], laidTests := true, laidLooks := .later }
def OrderKnowsCardSaid : Prop := Claim7.holds Tryz.pinned (.plain (OpenSpec.ofChange orderKnowsSpec)) orderKnowsCard

/-- THE TIED CARD OF 'stokvellaw33.OrderCame'. -/
def orderCameCard : Claim7 := { stood := { row := orderCameRow, standIns := [], harness := (true, "643fb8a54819822953d9924fd9c42e7e63a897c166d98a737e095ddd2ad14031"), looks := true }, kinds := [], alts := [], laidByText := true, laidKinds := [.data, .data, .data, .sentinel, .sentinel, .data], laidTests := true, laidLooks := .later }
def OrderCameCardSaid : Prop := Claim7.holds Tryz.pinned (.plain (OpenSpec.ofChange orderCameSpec)) orderCameCard

/-- THE TIED CARD OF 'stokvellaw33.OrderStays'. -/
def orderStaysCard : Claim7 := { stood := { row := orderStaysRow, standIns := [], harness := (true, "643fb8a54819822953d9924fd9c42e7e63a897c166d98a737e095ddd2ad14031"), looks := true }, kinds := [], alts := [], laidByText := true, laidKinds := [.data, .data, .data, .sentinel, .sentinel, .data], laidTests := true, laidLooks := .later }
def OrderStaysCardSaid : Prop := Claim7.holds Tryz.pinned (.plain (OpenSpec.ofChange orderStaysSpec)) orderStaysCard

/-- THE TIED CARD OF 'stokvellaw32.CloseSafe'. -/
def closeSafeCard : Claim7 := { stood := { row := closeSafeRow, standIns := [], harness := (true, "643fb8a54819822953d9924fd9c42e7e63a897c166d98a737e095ddd2ad14031"), looks := true }, kinds := [], alts := [], laidByText := true, laidKinds := [.data, .data, .data, .sentinel, .sentinel, .data], laidTests := true, laidLooks := .later }
def CloseSafeCardSaid : Prop := Claim7.holds Tryz.pinned (.plain (OpenSpec.ofChange closeSafeSpec)) closeSafeCard

/-- THE TIED CARD OF 'stokvellaw32.CloseStays'. -/
def closeStaysCard : Claim7 := { stood := { row := closeStaysRow, standIns := [], harness := (true, "643fb8a54819822953d9924fd9c42e7e63a897c166d98a737e095ddd2ad14031"), looks := true }, kinds := [], alts := [], laidByText := true, laidKinds := [.data, .data, .data, .sentinel, .sentinel, .data], laidTests := true, laidLooks := .later }
def CloseStaysCardSaid : Prop := Claim7.holds Tryz.pinned (.plain (OpenSpec.ofChange closeStaysSpec)) closeStaysCard

/-- THE TIED CARD OF 'stokvellaw32.CloseLocal'. -/
def closeLocalCard : Claim7 := { stood := { row := closeLocalRow, standIns := [], harness := (true, "643fb8a54819822953d9924fd9c42e7e63a897c166d98a737e095ddd2ad14031"), looks := true }, kinds := [], alts := [], laidByText := true, laidKinds := [.data, .data, .data, .sentinel, .sentinel, .data], laidTests := true, laidLooks := .later }
def CloseLocalCardSaid : Prop := Claim7.holds Tryz.pinned (.plain (OpenSpec.ofChange closeLocalSpec)) closeLocalCard

/-- THE TIED CARD OF 'stokvellaw32.CloseDecides'. -/
def closeDecidesCard : Claim7 := { stood := { row := closeDecidesRow, standIns := [], harness := (true, "643fb8a54819822953d9924fd9c42e7e63a897c166d98a737e095ddd2ad14031"), looks := true }, kinds := [], alts := [], laidByText := true, laidKinds := [.data, .data, .data, .sentinel, .sentinel, .data], laidTests := true, laidLooks := .later }
def CloseDecidesCardSaid : Prop := Claim7.holds Tryz.pinned (.plain (OpenSpec.ofChange closeDecidesSpec)) closeDecidesCard

/-- THE TIED CARD OF 'stokvellaw32.CloseTells'. -/
def closeTellsCard : Claim7 := { stood := { row := closeTellsRow, standIns := [], harness := (true, "643fb8a54819822953d9924fd9c42e7e63a897c166d98a737e095ddd2ad14031"), looks := true }, kinds := [], alts := [], laidByText := true, laidKinds := [.data, .data, .data, .sentinel, .sentinel, .data], laidTests := true, laidLooks := .later }
def CloseTellsCardSaid : Prop := Claim7.holds Tryz.pinned (.plain (OpenSpec.ofChange closeTellsSpec)) closeTellsCard

/-- THE TIED CARD OF 'stokvellaw32.CloseNext'. -/
def closeNextCard : Claim7 := { stood := { row := closeNextRow, standIns := [], harness := (true, "643fb8a54819822953d9924fd9c42e7e63a897c166d98a737e095ddd2ad14031"), looks := true }, kinds := [], alts := [], laidByText := true, laidKinds := [.data, .data, .data, .sentinel, .sentinel, .data], laidTests := true, laidLooks := .later }
def CloseNextCardSaid : Prop := Claim7.holds Tryz.pinned (.plain (OpenSpec.ofChange closeNextSpec)) closeNextCard

/-- THE SECOND FORM's CARD OF 'stokvellaw12.ReconReads'. -/
def reconReadsUptoCard : Claim7 := { stood := { row := reconReadsUptoRow, standIns := [], harness := (true, "643fb8a54819822953d9924fd9c42e7e63a897c166d98a737e095ddd2ad14031"), looks := true }, kinds := [], alts := [], laidByText := true, laidKinds := [.data, .data, .data, .sentinel, .sentinel, .data], laidTests := true, laidLooks := .later }
def ReconReadsUptoCardSaid : Prop := Claim7.holds Tryz.pinned (.plain (OpenSpec.upto reconReadsSpec)) reconReadsUptoCard

/-- THE SECOND FORM's CARD OF 'stokvellaw12.ReconTakes'. -/
def reconTakesUptoCard : Claim7 := { stood := { row := reconTakesUptoRow, standIns := [], harness := (true, "643fb8a54819822953d9924fd9c42e7e63a897c166d98a737e095ddd2ad14031"), looks := true }, kinds := [], alts := [], laidByText := true, laidKinds := [.data, .data, .data, .sentinel, .sentinel, .data], laidTests := true, laidLooks := .later }
def ReconTakesUptoCardSaid : Prop := Claim7.holds Tryz.pinned (.plain (OpenSpec.upto reconTakesSpec)) reconTakesUptoCard

/-- THE SECOND FORM's CARD OF 'stokvellaw12.ReconGives'. -/
def reconGivesUptoCard : Claim7 := { stood := { row := reconGivesUptoRow, standIns := [], harness := (true, "643fb8a54819822953d9924fd9c42e7e63a897c166d98a737e095ddd2ad14031"), looks := true }, kinds := [], alts := [], laidByText := true, laidKinds := [.data, .data, .data, .sentinel, .sentinel, .data], laidTests := true, laidLooks := .later }
def ReconGivesUptoCardSaid : Prop := Claim7.holds Tryz.pinned (.plain (OpenSpec.upto reconGivesSpec)) reconGivesUptoCard

/-- THE SECOND FORM's CARD OF 'stokvellaw33.OrderTells'. -/
def orderTellsUptoCard : Claim7 := { stood := { row := orderTellsUptoRow, standIns := [], harness := (true, "643fb8a54819822953d9924fd9c42e7e63a897c166d98a737e095ddd2ad14031"), looks := true }, kinds := [], alts := [], laidByText := true, laidKinds := [.data, .data, .data, .sentinel, .sentinel, .data], laidTests := true, laidLooks := .later }
def OrderTellsUptoCardSaid : Prop := Claim7.holds Tryz.pinned (.plain (OpenSpec.upto orderTellsSpec)) orderTellsUptoCard

/-- THE SECOND FORM's CARD OF 'stokvellaw33.OrderKnows'. -/
def orderKnowsUptoCard : Claim7 := { stood := { row := orderKnowsUptoRow, standIns := [], harness := (true, "643fb8a54819822953d9924fd9c42e7e63a897c166d98a737e095ddd2ad14031"), looks := true }, kinds := [], alts := [], laidByText := true, laidKinds := [.data, .data, .data, .sentinel, .sentinel, .data], laidTests := true, laidLooks := .later }
def OrderKnowsUptoCardSaid : Prop := Claim7.holds Tryz.pinned (.plain (OpenSpec.upto orderKnowsSpec)) orderKnowsUptoCard

/-- THE SECOND FORM's CARD OF 'stokvellaw33.OrderCame'. -/
def orderCameUptoCard : Claim7 := { stood := { row := orderCameUptoRow, standIns := [], harness := (true, "643fb8a54819822953d9924fd9c42e7e63a897c166d98a737e095ddd2ad14031"), looks := true }, kinds := [], alts := [], laidByText := true, laidKinds := [.data, .data, .data, .sentinel, .sentinel, .data], laidTests := true, laidLooks := .later }
def OrderCameUptoCardSaid : Prop := Claim7.holds Tryz.pinned (.plain (OpenSpec.upto orderCameSpec)) orderCameUptoCard

/-- THE SECOND FORM's CARD OF 'stokvellaw33.OrderStays'. -/
def orderStaysUptoCard : Claim7 := { stood := { row := orderStaysUptoRow, standIns := [], harness := (true, "643fb8a54819822953d9924fd9c42e7e63a897c166d98a737e095ddd2ad14031"), looks := true }, kinds := [], alts := [], laidByText := true, laidKinds := [.data, .data, .data, .sentinel, .sentinel, .data], laidTests := true, laidLooks := .later }
def OrderStaysUptoCardSaid : Prop := Claim7.holds Tryz.pinned (.plain (OpenSpec.upto orderStaysSpec)) orderStaysUptoCard

/-- THE SECOND FORM's CARD OF 'stokvellaw32.CloseSafe'. -/
def closeSafeUptoCard : Claim7 := { stood := { row := closeSafeUptoRow, standIns := [], harness := (true, "643fb8a54819822953d9924fd9c42e7e63a897c166d98a737e095ddd2ad14031"), looks := true }, kinds := [], alts := [], laidByText := true, laidKinds := [.data, .data, .data, .sentinel, .sentinel, .data], laidTests := true, laidLooks := .later }
def CloseSafeUptoCardSaid : Prop := Claim7.holds Tryz.pinned (.plain (OpenSpec.upto closeSafeSpec)) closeSafeUptoCard

/-- THE SECOND FORM's CARD OF 'stokvellaw32.CloseStays'. -/
def closeStaysUptoCard : Claim7 := { stood := { row := closeStaysUptoRow, standIns := [], harness := (true, "643fb8a54819822953d9924fd9c42e7e63a897c166d98a737e095ddd2ad14031"), looks := true }, kinds := [], alts := [], laidByText := true, laidKinds := [.data, .data, .data, .sentinel, .sentinel, .data], laidTests := true, laidLooks := .later }
def CloseStaysUptoCardSaid : Prop := Claim7.holds Tryz.pinned (.plain (OpenSpec.upto closeStaysSpec)) closeStaysUptoCard

/-- THE SECOND FORM's CARD OF 'stokvellaw32.CloseLocal'. -/
def closeLocalUptoCard : Claim7 := { stood := { row := closeLocalUptoRow, standIns := [], harness := (true, "643fb8a54819822953d9924fd9c42e7e63a897c166d98a737e095ddd2ad14031"), looks := true }, kinds := [], alts := [], laidByText := true, laidKinds := [.data, .data, .data, .sentinel, .sentinel, .data], laidTests := true, laidLooks := .later }
def CloseLocalUptoCardSaid : Prop := Claim7.holds Tryz.pinned (.plain (OpenSpec.upto closeLocalSpec)) closeLocalUptoCard

/-- THE SECOND FORM's CARD OF 'stokvellaw32.CloseDecides'. -/
def closeDecidesUptoCard : Claim7 := { stood := { row := closeDecidesUptoRow, standIns := [], harness := (true, "643fb8a54819822953d9924fd9c42e7e63a897c166d98a737e095ddd2ad14031"), looks := true }, kinds := [], alts := [], laidByText := true, laidKinds := [.data, .data, .data, .sentinel, .sentinel, .data], laidTests := true, laidLooks := .later }
def CloseDecidesUptoCardSaid : Prop := Claim7.holds Tryz.pinned (.plain (OpenSpec.upto closeDecidesSpec)) closeDecidesUptoCard

/-- THE SECOND FORM's CARD OF 'stokvellaw32.CloseTells'. -/
def closeTellsUptoCard : Claim7 := { stood := { row := closeTellsUptoRow, standIns := [], harness := (true, "643fb8a54819822953d9924fd9c42e7e63a897c166d98a737e095ddd2ad14031"), looks := true }, kinds := [], alts := [], laidByText := true, laidKinds := [.data, .data, .data, .sentinel, .sentinel, .data], laidTests := true, laidLooks := .later }
def CloseTellsUptoCardSaid : Prop := Claim7.holds Tryz.pinned (.plain (OpenSpec.upto closeTellsSpec)) closeTellsUptoCard

/-- THE SECOND FORM's CARD OF 'stokvellaw32.CloseNext'. -/
def closeNextUptoCard : Claim7 := { stood := { row := closeNextUptoRow, standIns := [], harness := (true, "643fb8a54819822953d9924fd9c42e7e63a897c166d98a737e095ddd2ad14031"), looks := true }, kinds := [], alts := [], laidByText := true, laidKinds := [.data, .data, .data, .sentinel, .sentinel, .data], laidTests := true, laidLooks := .later }
def CloseNextUptoCardSaid : Prop := Claim7.holds Tryz.pinned (.plain (OpenSpec.upto closeNextSpec)) closeNextUptoCard
end Rows
end Go.Proofs.YtjkmalddfoemhaaGreatDoor
