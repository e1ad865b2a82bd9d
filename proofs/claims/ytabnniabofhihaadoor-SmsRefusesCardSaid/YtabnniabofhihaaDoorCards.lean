/-
  DERIVED. GIVEN WITH THE SEED: THE CARDS: each row of YtabnniabofhihaaDoorRows.lean that lists a variable, with what it lists TIED to the program's text (the seventh form; the later family's looks); each row that meets fmt, with fmt's text TOLD by the authors' own Lean function (tested against real Go, not proved from fmt's source: count such statements apart). THE CARD IS WHAT COUNTS. Prove the row's statement (the work); the ties are given (YtabnniabofhihaaDoorTie.lean); close each card by the builder's one call (the guide's Derived/Test/ToyasCard.lean, 'card_holds'). Laid BY PROGRAM, IN A SANDBOX (cutbox-door.mjs). By AI agents, Wed Nov 11 2026. No macro, syntax, notation, axiom, sorry.
-/
import Derived.Test.YtabnniabofhihaaDoorRows
import GoSem.ClaimSeven
namespace Go.Proofs.YtabnniabofhihaaDoor
namespace Rows

/-- THE TIED CARD OF 'stokvellaw11.SmsSplits'. -/
def smsSplitsCard : Claim7 := { stood := { row := smsSplitsRow, standIns := [], harness := (true, "b21b1a62632446e864005277237ae3428dc5672406e32cac29119a7b6a44ed18"), looks := true }, kinds := [], alts := [], laidByText := true, laidKinds := [.data, .data, .data, .sentinel, .sentinel], laidTests := true, laidLooks := .later }
def SmsSplitsCardSaid : Prop := Claim7.holds Tryd.pinned (.plain (OpenSpec.ofChange smsSplitsSpec)) smsSplitsCard

/-- THE TIED CARD OF 'stokvellaw11.SmsDelivers'. -/
def smsDeliversCard : Claim7 := { stood := { row := smsDeliversRow, standIns := [], harness := (true, "b21b1a62632446e864005277237ae3428dc5672406e32cac29119a7b6a44ed18"), looks := true }, kinds := [], alts := [], laidByText := true, laidKinds := [.data, .data, .data, .sentinel, .sentinel], laidTests := true, laidLooks := .later }
def SmsDeliversCardSaid : Prop := Claim7.holds Tryd.pinned (.plain (OpenSpec.ofChange smsDeliversSpec)) smsDeliversCard

/-- THE TIED CARD OF 'stokvellaw11.SmsResumes'. -/
def smsResumesCard : Claim7 := { stood := { row := smsResumesRow, standIns := [], harness := (true, "b21b1a62632446e864005277237ae3428dc5672406e32cac29119a7b6a44ed18"), looks := true }, kinds := [], alts := [], laidByText := true, laidKinds := [.data, .data, .data, .sentinel, .sentinel], laidTests := true, laidLooks := .later }
def SmsResumesCardSaid : Prop := Claim7.holds Tryd.pinned (.plain (OpenSpec.ofChange smsResumesSpec)) smsResumesCard

/-- THE TIED CARD OF 'stokvellaw11.SmsRefuses'. -/
def smsRefusesCard : Claim7 := { stood := { row := smsRefusesRow, standIns := [], harness := (true, "b21b1a62632446e864005277237ae3428dc5672406e32cac29119a7b6a44ed18"), looks := true }, kinds := [], alts := [], laidByText := true, laidKinds := [.data, .data, .data, .sentinel, .sentinel], laidTests := true, laidLooks := .later }
def SmsRefusesCardSaid : Prop := Claim7.holds Tryd.pinned (.plain (OpenSpec.ofChange smsRefusesSpec)) smsRefusesCard

/-- THE SECOND FORM's CARD OF 'stokvellaw11.SmsSplits'. -/
def smsSplitsUptoCard : Claim7 := { stood := { row := smsSplitsUptoRow, standIns := [], harness := (true, "b21b1a62632446e864005277237ae3428dc5672406e32cac29119a7b6a44ed18"), looks := true }, kinds := [], alts := [], laidByText := true, laidKinds := [.data, .data, .data, .sentinel, .sentinel], laidTests := true, laidLooks := .later }
def SmsSplitsUptoCardSaid : Prop := Claim7.holds Tryd.pinned (.plain (OpenSpec.upto smsSplitsSpec)) smsSplitsUptoCard

/-- THE SECOND FORM's CARD OF 'stokvellaw11.SmsDelivers'. -/
def smsDeliversUptoCard : Claim7 := { stood := { row := smsDeliversUptoRow, standIns := [], harness := (true, "b21b1a62632446e864005277237ae3428dc5672406e32cac29119a7b6a44ed18"), looks := true }, kinds := [], alts := [], laidByText := true, laidKinds := [.data, .data, .data, .sentinel, .sentinel], laidTests := true, laidLooks := .later }
def SmsDeliversUptoCardSaid : Prop := Claim7.holds Tryd.pinned (.plain (OpenSpec.upto smsDeliversSpec)) smsDeliversUptoCard

/-- THE SECOND FORM's CARD OF 'stokvellaw11.SmsResumes'. -/
def smsResumesUptoCard : Claim7 := { stood := { row := smsResumesUptoRow, standIns := [], harness := (true, "b21b1a62632446e864005277237ae3428dc5672406e32cac29119a7b6a44ed18"), looks := true }, kinds := [], alts := [], laidByText := true, laidKinds := [.data, .data, .data, .sentinel, .sentinel], laidTests := true, laidLooks := .later }
def SmsResumesUptoCardSaid : Prop := Claim7.holds Tryd.pinned (.plain (OpenSpec.upto smsResumesSpec)) smsResumesUptoCard

/-- THE SECOND FORM's CARD OF 'stokvellaw11.SmsRefuses'. -/
def smsRefusesUptoCard : Claim7 := { stood := { row := smsRefusesUptoRow, standIns := [], harness := (true, "b21b1a62632446e864005277237ae3428dc5672406e32cac29119a7b6a44ed18"), looks := true }, kinds := [], alts := [], laidByText := true, laidKinds := [.data, .data, .data, .sentinel, .sentinel], laidTests := true, laidLooks := .later }
def SmsRefusesUptoCardSaid : Prop := Claim7.holds Tryd.pinned (.plain (OpenSpec.upto smsRefusesSpec)) smsRefusesUptoCard
end Rows
end Go.Proofs.YtabnniabofhihaaDoor
