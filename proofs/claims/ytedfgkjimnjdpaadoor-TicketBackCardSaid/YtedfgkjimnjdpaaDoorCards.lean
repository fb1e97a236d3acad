/-
  DERIVED. GIVEN WITH THE SEED: THE CARDS: each row of YtedfgkjimnjdpaaDoorRows.lean that lists a variable, with what it lists TIED to the program's text (the seventh form; the later family's looks); each row that meets fmt, with fmt's text TOLD by the authors' own Lean function (tested against real Go, not proved from fmt's source: count such statements apart). THE CARD IS WHAT COUNTS. Prove the row's statement (the work); the ties are given (YtedfgkjimnjdpaaDoorTie.lean); close each card by the builder's one call (the guide's Derived/Test/ToyasCard.lean, 'card_holds'). Laid BY PROGRAM, IN A SANDBOX (cutbox-door.mjs). By AI agents, Wed Nov 11 2026. No macro, syntax, notation, axiom, sorry.
-/
import Derived.Test.YtedfgkjimnjdpaaDoorRows
import GoSem.ClaimSeven
namespace Go.Proofs.YtedfgkjimnjdpaaDoor
namespace Rows

/-- THE TIED CARD OF 'racewaylaw27.TicketOrder'. -/
def ticketOrderCard : Claim7 := { stood := { row := ticketOrderRow, standIns := [], harness := (true, "b663131a2dcfcd617f5cfcf444a4fc63a8401aa6e6449ca73db98ac1ee925b54"), looks := false }, kinds := [], alts := [], laidByText := true, laidKinds := [.data, .pinned], laidTests := true, laidLooks := .later }
def TicketOrderCardSaid : Prop := Claim7.holds Tryd.pinned (.plain (OpenSpec.ofChange ticketOrderSpec)) ticketOrderCard

/-- THE TIED CARD OF 'racewaylaw27.TicketReads'. -/
def ticketReadsCard : Claim7 := { stood := { row := ticketReadsRow, standIns := [], harness := (true, "b663131a2dcfcd617f5cfcf444a4fc63a8401aa6e6449ca73db98ac1ee925b54"), looks := false }, kinds := [], alts := [], laidByText := true, laidKinds := [.data, .pinned], laidTests := true, laidLooks := .later }
def TicketReadsCardSaid : Prop := Claim7.holds Tryd.pinned (.plain (OpenSpec.ofChange ticketReadsSpec)) ticketReadsCard

/-- THE TIED CARD OF 'racewaylaw27.TicketAgain'. -/
def ticketAgainCard : Claim7 := { stood := { row := ticketAgainRow, standIns := [], harness := (true, "b663131a2dcfcd617f5cfcf444a4fc63a8401aa6e6449ca73db98ac1ee925b54"), looks := false }, kinds := [], alts := [], laidByText := true, laidKinds := [.data, .pinned], laidTests := true, laidLooks := .later }
def TicketAgainCardSaid : Prop := Claim7.holds Tryd.pinned (.plain (OpenSpec.ofChange ticketAgainSpec)) ticketAgainCard

/-- THE TIED CARD OF 'racewaylaw27.TicketHandles'. -/
def ticketHandlesCard : Claim7 := { stood := { row := ticketHandlesRow, standIns := [], harness := (true, "b663131a2dcfcd617f5cfcf444a4fc63a8401aa6e6449ca73db98ac1ee925b54"), looks := false }, kinds := [], alts := [], laidByText := true, laidKinds := [.data], laidTests := true, laidLooks := .later }
def TicketHandlesCardSaid : Prop := Claim7.holds Tryd.pinned (.plain (OpenSpec.ofChange ticketHandlesSpec)) ticketHandlesCard

/-- THE TIED CARD OF 'racewaylaw27.TicketBack'. -/
def ticketBackCard : Claim7 := { stood := { row := ticketBackRow, standIns := [], harness := (true, "b663131a2dcfcd617f5cfcf444a4fc63a8401aa6e6449ca73db98ac1ee925b54"), looks := false }, kinds := [], alts := [], laidByText := true, laidKinds := [.data], laidTests := true, laidLooks := .later }
def TicketBackCardSaid : Prop := Claim7.holds Tryd.pinned (.plain (OpenSpec.ofChange ticketBackSpec)) ticketBackCard

/-- THE TIED CARD OF 'racewaylaw27.TicketIds'. -/
def ticketIdsCard : Claim7 := { stood := { row := ticketIdsRow, standIns := [], harness := (true, "b663131a2dcfcd617f5cfcf444a4fc63a8401aa6e6449ca73db98ac1ee925b54"), looks := false }, kinds := [], alts := [], laidByText := true, laidKinds := [.data, .data, .pinned], laidTests := true, laidLooks := .later }
def TicketIdsCardSaid : Prop := Claim7.holds Tryd.pinned (.plain (OpenSpec.ofChange ticketIdsSpec)) ticketIdsCard

/-- THE SECOND FORM's CARD OF 'racewaylaw27.TicketOrder'. -/
def ticketOrderUptoCard : Claim7 := { stood := { row := ticketOrderUptoRow, standIns := [], harness := (true, "b663131a2dcfcd617f5cfcf444a4fc63a8401aa6e6449ca73db98ac1ee925b54"), looks := false }, kinds := [], alts := [], laidByText := true, laidKinds := [.data, .pinned], laidTests := true, laidLooks := .later }
def TicketOrderUptoCardSaid : Prop := Claim7.holds Tryd.pinned (.plain (OpenSpec.upto ticketOrderSpec)) ticketOrderUptoCard

/-- THE SECOND FORM's CARD OF 'racewaylaw27.TicketReads'. -/
def ticketReadsUptoCard : Claim7 := { stood := { row := ticketReadsUptoRow, standIns := [], harness := (true, "b663131a2dcfcd617f5cfcf444a4fc63a8401aa6e6449ca73db98ac1ee925b54"), looks := false }, kinds := [], alts := [], laidByText := true, laidKinds := [.data, .pinned], laidTests := true, laidLooks := .later }
def TicketReadsUptoCardSaid : Prop := Claim7.holds Tryd.pinned (.plain (OpenSpec.upto ticketReadsSpec)) ticketReadsUptoCard

/-- THE SECOND FORM's CARD OF 'racewaylaw27.TicketAgain'. -/
def ticketAgainUptoCard : Claim7 := { stood := { row := ticketAgainUptoRow, standIns := [], harness := (true, "b663131a2dcfcd617f5cfcf444a4fc63a8401aa6e6449ca73db98ac1ee925b54"), looks := false }, kinds := [], alts := [], laidByText := true, laidKinds := [.data, .pinned], laidTests := true, laidLooks := .later }
def TicketAgainUptoCardSaid : Prop := Claim7.holds Tryd.pinned (.plain (OpenSpec.upto ticketAgainSpec)) ticketAgainUptoCard

/-- THE SECOND FORM's CARD OF 'racewaylaw27.TicketHandles'. -/
def ticketHandlesUptoCard : Claim7 := { stood := { row := ticketHandlesUptoRow, standIns := [], harness := (true, "b663131a2dcfcd617f5cfcf444a4fc63a8401aa6e6449ca73db98ac1ee925b54"), looks := false }, kinds := [], alts := [], laidByText := true, laidKinds := [.data], laidTests := true, laidLooks := .later }
def TicketHandlesUptoCardSaid : Prop := Claim7.holds Tryd.pinned (.plain (OpenSpec.upto ticketHandlesSpec)) ticketHandlesUptoCard

/-- THE SECOND FORM's CARD OF 'racewaylaw27.TicketBack'. -/
def ticketBackUptoCard : Claim7 := { stood := { row := ticketBackUptoRow, standIns := [], harness := (true, "b663131a2dcfcd617f5cfcf444a4fc63a8401aa6e6449ca73db98ac1ee925b54"), looks := false }, kinds := [], alts := [], laidByText := true, laidKinds := [.data], laidTests := true, laidLooks := .later }
def TicketBackUptoCardSaid : Prop := Claim7.holds Tryd.pinned (.plain (OpenSpec.upto ticketBackSpec)) ticketBackUptoCard

/-- THE SECOND FORM's CARD OF 'racewaylaw27.TicketIds'. -/
def ticketIdsUptoCard : Claim7 := { stood := { row := ticketIdsUptoRow, standIns := [], harness := (true, "b663131a2dcfcd617f5cfcf444a4fc63a8401aa6e6449ca73db98ac1ee925b54"), looks := false }, kinds := [], alts := [], laidByText := true, laidKinds := [.data, .data, .pinned], laidTests := true, laidLooks := .later }
def TicketIdsUptoCardSaid : Prop := Claim7.holds Tryd.pinned (.plain (OpenSpec.upto ticketIdsSpec)) ticketIdsUptoCard
end Rows
end Go.Proofs.YtedfgkjimnjdpaaDoor
