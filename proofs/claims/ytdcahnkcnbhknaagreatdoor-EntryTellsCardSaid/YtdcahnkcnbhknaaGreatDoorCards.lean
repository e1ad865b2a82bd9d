/-
  DERIVED. GIVEN WITH THE SEED: THE CARDS: each row of YtdcahnkcnbhknaaGreatDoorRows.lean that lists a variable, with what it lists TIED to the program's text (the seventh form; the later family's looks); each row that meets fmt, with fmt's text TOLD by the authors' own Lean function (tested against real Go, not proved from fmt's source: count such statements apart). THE CARD IS WHAT COUNTS. Prove the row's statement (the work); the ties are given (YtdcahnkcnbhknaaGreatDoorTie.lean); close each card by the builder's one call (the guide's Derived/Test/ToyasCard.lean, 'card_holds'). Laid BY PROGRAM, IN A SANDBOX (cutbox-door.mjs). By AI agents, Wed Nov 11 2026. No macro, syntax, notation, axiom, sorry.
-/
import Derived.Test.YtdcahnkcnbhknaaGreatDoorRows
import GoSem.ClaimSeven
namespace Go.Proofs.YtdcahnkcnbhknaaGreatDoor
namespace Rows

/-- THE TIED CARD OF 'stokvellaw07.EntryTells'. -/
def entryTellsCard : Claim7 := { stood := { row := entryTellsRow, standIns := [], harness := (true, "27c4d9a5e28532f698bad2eb482703da8d88756c565849477f81b18e298da08d"), looks := true }, kinds := [], alts := [], laidByText := true, laidKinds := [.data, .data, .data, .sentinel, .sentinel, .data], laidTests := true, laidLooks := .later }
def EntryTellsCardSaid : Prop := Claim7.holds Tryz.pinned (.plain (OpenSpec.ofChange entryTellsSpec)) entryTellsCard

/-- THE TIED CARD OF 'stokvellaw07.EntryBack'. -/
def entryBackCard : Claim7 := { stood := { row := entryBackRow, standIns := [], harness := (true, "27c4d9a5e28532f698bad2eb482703da8d88756c565849477f81b18e298da08d"), looks := true }, kinds := [], alts := [], laidByText := true, laidKinds := [.data, .data, .data, .sentinel, .sentinel, .data], laidTests := true, laidLooks := .later }
def EntryBackCardSaid : Prop := Claim7.holds Tryz.pinned (.plain (OpenSpec.ofChange entryBackSpec)) entryBackCard

/-- THE TIED CARD OF 'stokvellaw07.EntryFields'. -/
def entryFieldsCard : Claim7 := { stood := { row := entryFieldsRow, standIns := [], harness := (true, "27c4d9a5e28532f698bad2eb482703da8d88756c565849477f81b18e298da08d"), looks := true }, kinds := [], alts := [], laidByText := true, laidKinds := [.data, .data, .data, .sentinel, .sentinel, .data], laidTests := true, laidLooks := .later }
def EntryFieldsCardSaid : Prop := Claim7.holds Tryz.pinned (.plain (OpenSpec.ofChange entryFieldsSpec)) entryFieldsCard

/-- THE TIED CARD OF 'stokvellaw07.EntrySpans'. -/
def entrySpansCard : Claim7 := { stood := { row := entrySpansRow, standIns := [], harness := (true, "27c4d9a5e28532f698bad2eb482703da8d88756c565849477f81b18e298da08d"), looks := true }, kinds := [], alts := [], laidByText := true, laidKinds := [.data, .data, .data, .sentinel, .sentinel, .data], laidTests := true, laidLooks := .later }
def EntrySpansCardSaid : Prop := Claim7.holds Tryz.pinned (.plain (OpenSpec.ofChange entrySpansSpec)) entrySpansCard

/-- THE TIED CARD OF 'stokvellaw07.EntryCoins'. -/
def entryCoinsCard : Claim7 := { stood := { row := entryCoinsRow, standIns := [], harness := (true, "27c4d9a5e28532f698bad2eb482703da8d88756c565849477f81b18e298da08d"), looks := true }, kinds := [], alts := [], laidByText := true, laidKinds := [.data, .data, .data, .sentinel, .sentinel, .data], laidTests := true, laidLooks := .later }
def EntryCoinsCardSaid : Prop := Claim7.holds Tryz.pinned (.plain (OpenSpec.ofChange entryCoinsSpec)) entryCoinsCard

/-- THE TIED CARD OF 'stokvellaw07.EntryNorms'. -/
def entryNormsCard : Claim7 := { stood := { row := entryNormsRow, standIns := [], harness := (true, "27c4d9a5e28532f698bad2eb482703da8d88756c565849477f81b18e298da08d"), looks := true }, kinds := [], alts := [], laidByText := true, laidKinds := [.data, .data, .data, .sentinel, .sentinel, .data], laidTests := true, laidLooks := .later }
def EntryNormsCardSaid : Prop := Claim7.holds Tryz.pinned (.plain (OpenSpec.ofChange entryNormsSpec)) entryNormsCard

/-- THE SECOND FORM's CARD OF 'stokvellaw07.EntryTells'. -/
def entryTellsUptoCard : Claim7 := { stood := { row := entryTellsUptoRow, standIns := [], harness := (true, "27c4d9a5e28532f698bad2eb482703da8d88756c565849477f81b18e298da08d"), looks := true }, kinds := [], alts := [], laidByText := true, laidKinds := [.data, .data, .data, .sentinel, .sentinel, .data], laidTests := true, laidLooks := .later }
def EntryTellsUptoCardSaid : Prop := Claim7.holds Tryz.pinned (.plain (OpenSpec.upto entryTellsSpec)) entryTellsUptoCard

/-- THE SECOND FORM's CARD OF 'stokvellaw07.EntryBack'. -/
def entryBackUptoCard : Claim7 := { stood := { row := entryBackUptoRow, standIns := [], harness := (true, "27c4d9a5e28532f698bad2eb482703da8d88756c565849477f81b18e298da08d"), looks := true }, kinds := [], alts := [], laidByText := true, laidKinds := [.data, .data, .data, .sentinel, .sentinel, .data], laidTests := true, laidLooks := .later }
def EntryBackUptoCardSaid : Prop := Claim7.holds Tryz.pinned (.plain (OpenSpec.upto entryBackSpec)) entryBackUptoCard

/-- THE SECOND FORM's CARD OF 'stokvellaw07.EntryFields'. -/
def entryFieldsUptoCard : Claim7 := { stood := { row := entryFieldsUptoRow, standIns := [], harness := (true, "27c4d9a5e28532f698bad2eb482703da8d88756c565849477f81b18e298da08d"), looks := true }, kinds := [], alts := [], laidByText := true, laidKinds := [.data, .data, .data, .sentinel, .sentinel, .data], laidTests := true, laidLooks := .later }
def EntryFieldsUptoCardSaid : Prop := Claim7.holds Tryz.pinned (.plain (OpenSpec.upto entryFieldsSpec)) entryFieldsUptoCard

/-- THE SECOND FORM's CARD OF 'stokvellaw07.EntrySpans'. -/
def entrySpansUptoCard : Claim7 := { stood := { row := entrySpansUptoRow, standIns := [], harness := (true, "27c4d9a5e28532f698bad2eb482703da8d88756c565849477f81b18e298da08d"), looks := true }, kinds := [], alts := [], laidByText := true, laidKinds := [.data, .data, .data, .sentinel, .sentinel, .data], laidTests := true, laidLooks := .later }
def EntrySpansUptoCardSaid : Prop := Claim7.holds Tryz.pinned (.plain (OpenSpec.upto entrySpansSpec)) entrySpansUptoCard

/-- THE SECOND FORM's CARD OF 'stokvellaw07.EntryCoins'. -/
def entryCoinsUptoCard : Claim7 := { stood := { row := entryCoinsUptoRow, standIns := [], harness := (true, "27c4d9a5e28532f698bad2eb482703da8d88756c565849477f81b18e298da08d"), looks := true }, kinds := [], alts := [], laidByText := true, laidKinds := [.data, .data, .data, .sentinel, .sentinel, .data], laidTests := true, laidLooks := .later }
def EntryCoinsUptoCardSaid : Prop := Claim7.holds Tryz.pinned (.plain (OpenSpec.upto entryCoinsSpec)) entryCoinsUptoCard

/-- THE SECOND FORM's CARD OF 'stokvellaw07.EntryNorms'. -/
def entryNormsUptoCard : Claim7 := { stood := { row := entryNormsUptoRow, standIns := [], harness := (true, "27c4d9a5e28532f698bad2eb482703da8d88756c565849477f81b18e298da08d"), looks := true }, kinds := [], alts := [], laidByText := true, laidKinds := [.data, .data, .data, .sentinel, .sentinel, .data], laidTests := true, laidLooks := .later }
def EntryNormsUptoCardSaid : Prop := Claim7.holds Tryz.pinned (.plain (OpenSpec.upto entryNormsSpec)) entryNormsUptoCard
end Rows
end Go.Proofs.YtdcahnkcnbhknaaGreatDoor
