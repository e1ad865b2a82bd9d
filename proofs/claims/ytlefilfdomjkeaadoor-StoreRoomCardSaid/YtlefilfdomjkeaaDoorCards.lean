/-
  DERIVED. GIVEN WITH THE SEED: THE CARDS: each row of YtlefilfdomjkeaaDoorRows.lean that lists a variable, with what it lists TIED to the program's text (the seventh form; the later family's looks); each row that meets fmt, with fmt's text TOLD by the authors' own Lean function (tested against real Go, not proved from fmt's source: count such statements apart). THE CARD IS WHAT COUNTS. Prove the row's statement (the work); the ties are given (YtlefilfdomjkeaaDoorTie.lean); close each card by the builder's one call (the guide's Derived/Test/ToyasCard.lean, 'card_holds'). Laid BY PROGRAM, IN A SANDBOX (cutbox-door.mjs). By AI agents, Wed Nov 11 2026. No macro, syntax, notation, axiom, sorry.
-/
import Derived.Test.YtlefilfdomjkeaaDoorRows
import GoSem.ClaimSeven
namespace Go.Proofs.YtlefilfdomjkeaaDoor
namespace Rows

/-- THE TIED CARD OF 'stokvellaw03.StoreWears'. -/
def storeWearsCard : Claim7 := { stood := { row := storeWearsRow, standIns := [], harness := (true, "85f6f2eef7bfccd7df44d9f49423aab06d02b311018657777204471dd605e675"), looks := true }, kinds := [], alts := [], laidByText := true, laidKinds := [.data, .data, .data, .sentinel, .sentinel], laidTests := true, laidLooks := .later }
def StoreWearsCardSaid : Prop := Claim7.holds Tryd.pinned (.plain (OpenSpec.ofChange storeWearsSpec)) storeWearsCard

/-- THE TIED CARD OF 'stokvellaw03.StoreRoom'. -/
def storeRoomCard : Claim7 := { stood := { row := storeRoomRow, standIns := [], harness := (true, "85f6f2eef7bfccd7df44d9f49423aab06d02b311018657777204471dd605e675"), looks := true }, kinds := [], alts := [], laidByText := true, laidKinds := [.data, .data, .data, .sentinel, .sentinel], laidTests := true, laidLooks := .later }
def StoreRoomCardSaid : Prop := Claim7.holds Tryd.pinned (.plain (OpenSpec.ofChange storeRoomSpec)) storeRoomCard

/-- THE SECOND FORM's CARD OF 'stokvellaw03.StoreWears'. -/
def storeWearsUptoCard : Claim7 := { stood := { row := storeWearsUptoRow, standIns := [], harness := (true, "85f6f2eef7bfccd7df44d9f49423aab06d02b311018657777204471dd605e675"), looks := true }, kinds := [], alts := [], laidByText := true, laidKinds := [.data, .data, .data, .sentinel, .sentinel], laidTests := true, laidLooks := .later }
def StoreWearsUptoCardSaid : Prop := Claim7.holds Tryd.pinned (.plain (OpenSpec.upto storeWearsSpec)) storeWearsUptoCard

/-- THE SECOND FORM's CARD OF 'stokvellaw03.StoreRoom'. -/
def storeRoomUptoCard : Claim7 := { stood := { row := storeRoomUptoRow, standIns := [], harness := (true, "85f6f2eef7bfccd7df44d9f49423aab06d02b311018657777204471dd605e675"), looks := true }, kinds := [], alts := [], laidByText := true, laidKinds := [.data, .data, .data, .sentinel, .sentinel], laidTests := true, laidLooks := .later }
def StoreRoomUptoCardSaid : Prop := Claim7.holds Tryd.pinned (.plain (OpenSpec.upto storeRoomSpec)) storeRoomUptoCard
end Rows
end Go.Proofs.YtlefilfdomjkeaaDoor
