/-
  DERIVED. GIVEN WITH THE SEED: THE CARDS: each row of YtalhmpggpjbeaaaGreatDoorRows.lean that lists a variable, with what it lists TIED to the program's text (the seventh form; the later family's looks); each row that meets fmt, with fmt's text TOLD by the authors' own Lean function (tested against real Go, not proved from fmt's source: count such statements apart). THE CARD IS WHAT COUNTS. Prove the row's statement (the work); the ties are given (YtalhmpggpjbeaaaGreatDoorTie.lean); close each card by the builder's one call (the guide's Derived/Test/ToyasCard.lean, 'card_holds'). Laid BY PROGRAM, IN A SANDBOX (cutbox-door.mjs). By AI agents, Wed Nov 11 2026. No macro, syntax, notation, axiom, sorry.
-/
import Derived.Test.YtalhmpggpjbeaaaGreatDoorRows
import GoSem.ClaimSeven
namespace Go.Proofs.YtalhmpggpjbeaaaGreatDoor
namespace Rows

/-- THE TIED CARD OF 'stokvellaw08.DagRefuses'. -/
def dagRefusesCard : Claim7 := { stood := { row := dagRefusesRow, standIns := [], harness := (true, "62fbb6be2f0b078a9d2060ca505aacb1e4106b11d97abcb01a2def86728ff7f2"), looks := true }, kinds := [], alts := [], laidByText := true, laidKinds := [.data, .data, .data, .sentinel, .sentinel, .data], laidTests := true, laidLooks := .later }
def DagRefusesCardSaid : Prop := Claim7.holds Tryz.pinned (.plain (OpenSpec.ofChange dagRefusesSpec)) dagRefusesCard

/-- THE TIED CARD OF 'stokvellaw08.DagOrders'. -/
def dagOrdersCard : Claim7 := { stood := { row := dagOrdersRow, standIns := [], harness := (true, "62fbb6be2f0b078a9d2060ca505aacb1e4106b11d97abcb01a2def86728ff7f2"), looks := true }, kinds := [], alts := [], laidByText := true, laidKinds := [.data, .data, .data, .sentinel, .sentinel, .data], laidTests := true, laidLooks := .later }
def DagOrdersCardSaid : Prop := Claim7.holds Tryz.pinned (.plain (OpenSpec.ofChange dagOrdersSpec)) dagOrdersCard

/-- THE TIED CARD OF 'stokvellaw08.DagParts'. -/
def dagPartsCard : Claim7 := { stood := { row := dagPartsRow, standIns := [], harness := (true, "62fbb6be2f0b078a9d2060ca505aacb1e4106b11d97abcb01a2def86728ff7f2"), looks := true }, kinds := [], alts := [], laidByText := true, laidKinds := [.data, .data, .data, .sentinel, .sentinel, .data], laidTests := true, laidLooks := .later }
def DagPartsCardSaid : Prop := Claim7.holds Tryz.pinned (.plain (OpenSpec.ofChange dagPartsSpec)) dagPartsCard

/-- THE TIED CARD OF 'stokvellaw08.DagPast'. -/
def dagPastCard : Claim7 := { stood := { row := dagPastRow, standIns := [], harness := (true, "62fbb6be2f0b078a9d2060ca505aacb1e4106b11d97abcb01a2def86728ff7f2"), looks := true }, kinds := [], alts := [], laidByText := true, laidKinds := [.data, .data, .data, .sentinel, .sentinel, .data], laidTests := true, laidLooks := .later }
def DagPastCardSaid : Prop := Claim7.holds Tryz.pinned (.plain (OpenSpec.ofChange dagPastSpec)) dagPastCard

/-- THE TIED CARD OF 'stokvellaw08.DagSorted'. -/
def dagSortedCard : Claim7 := { stood := { row := dagSortedRow, standIns := [], harness := (true, "62fbb6be2f0b078a9d2060ca505aacb1e4106b11d97abcb01a2def86728ff7f2"), looks := true }, kinds := [], alts := [], laidByText := true, laidKinds := [.data, .data, .data, .sentinel, .sentinel, .data], laidTests := true, laidLooks := .later }
def DagSortedCardSaid : Prop := Claim7.holds Tryz.pinned (.plain (OpenSpec.ofChange dagSortedSpec)) dagSortedCard

/-- THE TIED CARD OF 'stokvellaw08.DagTells'. -/
def dagTellsCard : Claim7 := { stood := { row := dagTellsRow, standIns := [], harness := (true, "62fbb6be2f0b078a9d2060ca505aacb1e4106b11d97abcb01a2def86728ff7f2"), looks := true }, kinds := [], alts := [], laidByText := true, laidKinds := [.data, .data, .data, .sentinel, .sentinel, .data], laidTests := true, laidLooks := .later }
def DagTellsCardSaid : Prop := Claim7.holds Tryz.pinned (.plain (OpenSpec.ofChange dagTellsSpec)) dagTellsCard

/-- THE TIED CARD OF 'stokvellaw09.ForkTells'. -/
def forkTellsCard : Claim7 := { stood := { row := forkTellsRow, standIns := [], harness := (true, "62fbb6be2f0b078a9d2060ca505aacb1e4106b11d97abcb01a2def86728ff7f2"), looks := true }, kinds := [], alts := [], laidByText := true, laidKinds := [.data, .data, .data, .sentinel, .sentinel, .data], laidTests := true, laidLooks := .later }
def ForkTellsCardSaid : Prop := Claim7.holds Tryz.pinned (.plain (OpenSpec.ofChange forkTellsSpec)) forkTellsCard

/-- THE TIED CARD OF 'stokvellaw09.ForkConvicts'. -/
def forkConvictsCard : Claim7 := { stood := { row := forkConvictsRow, standIns := [], harness := (true, "62fbb6be2f0b078a9d2060ca505aacb1e4106b11d97abcb01a2def86728ff7f2"), looks := true }, kinds := [], alts := [], laidByText := true, laidKinds := [.data, .data, .data, .sentinel, .sentinel, .data], laidTests := true, laidLooks := .later }
def ForkConvictsCardSaid : Prop := Claim7.holds Tryz.pinned (.plain (OpenSpec.ofChange forkConvictsSpec)) forkConvictsCard

/-- THE TIED CARD OF 'stokvellaw09.ForkStays'. -/
def forkStaysCard : Claim7 := { stood := { row := forkStaysRow, standIns := [], harness := (true, "62fbb6be2f0b078a9d2060ca505aacb1e4106b11d97abcb01a2def86728ff7f2"), looks := true }, kinds := [], alts := [], laidByText := true, laidKinds := [.data, .data, .data, .sentinel, .sentinel, .data], laidTests := true, laidLooks := .later }
def ForkStaysCardSaid : Prop := Claim7.holds Tryz.pinned (.plain (OpenSpec.ofChange forkStaysSpec)) forkStaysCard

/-- THE TIED CARD OF 'stokvellaw09.ForkHonest'. -/
def forkHonestCard : Claim7 := { stood := { row := forkHonestRow, standIns := [], harness := (true, "62fbb6be2f0b078a9d2060ca505aacb1e4106b11d97abcb01a2def86728ff7f2"), looks := true }, kinds := [], alts := [], laidByText := true, laidKinds := [.data, .data, .data, .sentinel, .sentinel, .data], laidTests := true, laidLooks := .later }
def ForkHonestCardSaid : Prop := Claim7.holds Tryz.pinned (.plain (OpenSpec.ofChange forkHonestSpec)) forkHonestCard

/-- THE SECOND FORM's CARD OF 'stokvellaw08.DagRefuses'. -/
def dagRefusesUptoCard : Claim7 := { stood := { row := dagRefusesUptoRow, standIns := [], harness := (true, "62fbb6be2f0b078a9d2060ca505aacb1e4106b11d97abcb01a2def86728ff7f2"), looks := true }, kinds := [], alts := [], laidByText := true, laidKinds := [.data, .data, .data, .sentinel, .sentinel, .data], laidTests := true, laidLooks := .later }
def DagRefusesUptoCardSaid : Prop := Claim7.holds Tryz.pinned (.plain (OpenSpec.upto dagRefusesSpec)) dagRefusesUptoCard

/-- THE SECOND FORM's CARD OF 'stokvellaw08.DagOrders'. -/
def dagOrdersUptoCard : Claim7 := { stood := { row := dagOrdersUptoRow, standIns := [], harness := (true, "62fbb6be2f0b078a9d2060ca505aacb1e4106b11d97abcb01a2def86728ff7f2"), looks := true }, kinds := [], alts := [], laidByText := true, laidKinds := [.data, .data, .data, .sentinel, .sentinel, .data], laidTests := true, laidLooks := .later }
def DagOrdersUptoCardSaid : Prop := Claim7.holds Tryz.pinned (.plain (OpenSpec.upto dagOrdersSpec)) dagOrdersUptoCard

/-- THE SECOND FORM's CARD OF 'stokvellaw08.DagParts'. -/
def dagPartsUptoCard : Claim7 := { stood := { row := dagPartsUptoRow, standIns := [], harness := (true, "62fbb6be2f0b078a9d2060ca505aacb1e4106b11d97abcb01a2def86728ff7f2"), looks := true }, kinds := [], alts := [], laidByText := true, laidKinds := [.data, .data, .data, .sentinel, .sentinel, .data], laidTests := true, laidLooks := .later }
def DagPartsUptoCardSaid : Prop := Claim7.holds Tryz.pinned (.plain (OpenSpec.upto dagPartsSpec)) dagPartsUptoCard

/-- THE SECOND FORM's CARD OF 'stokvellaw08.DagPast'. -/
def dagPastUptoCard : Claim7 := { stood := { row := dagPastUptoRow, standIns := [], harness := (true, "62fbb6be2f0b078a9d2060ca505aacb1e4106b11d97abcb01a2def86728ff7f2"), looks := true }, kinds := [], alts := [], laidByText := true, laidKinds := [.data, .data, .data, .sentinel, .sentinel, .data], laidTests := true, laidLooks := .later }
def DagPastUptoCardSaid : Prop := Claim7.holds Tryz.pinned (.plain (OpenSpec.upto dagPastSpec)) dagPastUptoCard

/-- THE SECOND FORM's CARD OF 'stokvellaw08.DagSorted'. -/
def dagSortedUptoCard : Claim7 := { stood := { row := dagSortedUptoRow, standIns := [], harness := (true, "62fbb6be2f0b078a9d2060ca505aacb1e4106b11d97abcb01a2def86728ff7f2"), looks := true }, kinds := [], alts := [], laidByText := true, laidKinds := [.data, .data, .data, .sentinel, .sentinel, .data], laidTests := true, laidLooks := .later }
def DagSortedUptoCardSaid : Prop := Claim7.holds Tryz.pinned (.plain (OpenSpec.upto dagSortedSpec)) dagSortedUptoCard

/-- THE SECOND FORM's CARD OF 'stokvellaw08.DagTells'. -/
def dagTellsUptoCard : Claim7 := { stood := { row := dagTellsUptoRow, standIns := [], harness := (true, "62fbb6be2f0b078a9d2060ca505aacb1e4106b11d97abcb01a2def86728ff7f2"), looks := true }, kinds := [], alts := [], laidByText := true, laidKinds := [.data, .data, .data, .sentinel, .sentinel, .data], laidTests := true, laidLooks := .later }
def DagTellsUptoCardSaid : Prop := Claim7.holds Tryz.pinned (.plain (OpenSpec.upto dagTellsSpec)) dagTellsUptoCard

/-- THE SECOND FORM's CARD OF 'stokvellaw09.ForkTells'. -/
def forkTellsUptoCard : Claim7 := { stood := { row := forkTellsUptoRow, standIns := [], harness := (true, "62fbb6be2f0b078a9d2060ca505aacb1e4106b11d97abcb01a2def86728ff7f2"), looks := true }, kinds := [], alts := [], laidByText := true, laidKinds := [.data, .data, .data, .sentinel, .sentinel, .data], laidTests := true, laidLooks := .later }
def ForkTellsUptoCardSaid : Prop := Claim7.holds Tryz.pinned (.plain (OpenSpec.upto forkTellsSpec)) forkTellsUptoCard

/-- THE SECOND FORM's CARD OF 'stokvellaw09.ForkConvicts'. -/
def forkConvictsUptoCard : Claim7 := { stood := { row := forkConvictsUptoRow, standIns := [], harness := (true, "62fbb6be2f0b078a9d2060ca505aacb1e4106b11d97abcb01a2def86728ff7f2"), looks := true }, kinds := [], alts := [], laidByText := true, laidKinds := [.data, .data, .data, .sentinel, .sentinel, .data], laidTests := true, laidLooks := .later }
def ForkConvictsUptoCardSaid : Prop := Claim7.holds Tryz.pinned (.plain (OpenSpec.upto forkConvictsSpec)) forkConvictsUptoCard

/-- THE SECOND FORM's CARD OF 'stokvellaw09.ForkStays'. -/
def forkStaysUptoCard : Claim7 := { stood := { row := forkStaysUptoRow, standIns := [], harness := (true, "62fbb6be2f0b078a9d2060ca505aacb1e4106b11d97abcb01a2def86728ff7f2"), looks := true }, kinds := [], alts := [], laidByText := true, laidKinds := [.data, .data, .data, .sentinel, .sentinel, .data], laidTests := true, laidLooks := .later }
def ForkStaysUptoCardSaid : Prop := Claim7.holds Tryz.pinned (.plain (OpenSpec.upto forkStaysSpec)) forkStaysUptoCard

/-- THE SECOND FORM's CARD OF 'stokvellaw09.ForkHonest'. -/
def forkHonestUptoCard : Claim7 := { stood := { row := forkHonestUptoRow, standIns := [], harness := (true, "62fbb6be2f0b078a9d2060ca505aacb1e4106b11d97abcb01a2def86728ff7f2"), looks := true }, kinds := [], alts := [], laidByText := true, laidKinds := [.data, .data, .data, .sentinel, .sentinel, .data], laidTests := true, laidLooks := .later }
def ForkHonestUptoCardSaid : Prop := Claim7.holds Tryz.pinned (.plain (OpenSpec.upto forkHonestSpec)) forkHonestUptoCard
end Rows
end Go.Proofs.YtalhmpggpjbeaaaGreatDoor
