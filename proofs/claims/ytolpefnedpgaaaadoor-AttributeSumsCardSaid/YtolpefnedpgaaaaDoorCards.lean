/-
  DERIVED. GIVEN WITH THE SEED: THE CARDS: each row of YtolpefnedpgaaaaDoorRows.lean that lists a variable, with what it lists TIED to the program's text (the seventh form; the later family's looks); each row that meets fmt, with fmt's text TOLD by the authors' own Lean function (tested against real Go, not proved from fmt's source: count such statements apart). THE CARD IS WHAT COUNTS. Prove the row's statement (the work); the ties are given (YtolpefnedpgaaaaDoorTie.lean); close each card by the builder's one call (the guide's Derived/Test/ToyasCard.lean, 'card_holds'). Laid BY PROGRAM, IN A SANDBOX (cutbox-door.mjs). By AI agents, Wed Nov 11 2026. No macro, syntax, notation, axiom, sorry.
-/
import Derived.Test.YtolpefnedpgaaaaDoorRows
import GoSem.ClaimSeven
namespace Go.Proofs.YtolpefnedpgaaaaDoor
namespace Rows

/-- THE TIED CARD OF 'racewaylaw24.AttributeNames'. -/
def attributeNamesCard : Claim7 := { stood := { row := attributeNamesRow, standIns := [], harness := (true, "96368ead68bdce33016301de7f07ca1b054e50c94027edfc5cd94727dfe64b91"), looks := false }, kinds := [], alts := [], laidByText := true, laidKinds := [.data, .data, .data, .pinned], laidTests := true, laidLooks := .later }
def AttributeNamesCardSaid : Prop := Claim7.holds Tryd.pinned (.plain (OpenSpec.ofChange attributeNamesSpec)) attributeNamesCard

/-- THE TIED CARD OF 'racewaylaw24.AttributeSums'. -/
def attributeSumsCard : Claim7 := { stood := { row := attributeSumsRow, standIns := [], harness := (true, "96368ead68bdce33016301de7f07ca1b054e50c94027edfc5cd94727dfe64b91"), looks := false }, kinds := [], alts := [], laidByText := true, laidKinds := [.data, .data, .data, .pinned], laidTests := true, laidLooks := .later }
def AttributeSumsCardSaid : Prop := Claim7.holds Tryd.pinned (.plain (OpenSpec.ofChange attributeSumsSpec)) attributeSumsCard

/-- THE TIED CARD OF 'racewaylaw24.AttributeOrder'. -/
def attributeOrderCard : Claim7 := { stood := { row := attributeOrderRow, standIns := [], harness := (true, "96368ead68bdce33016301de7f07ca1b054e50c94027edfc5cd94727dfe64b91"), looks := false }, kinds := [], alts := [], laidByText := true, laidKinds := [.data, .data, .data, .pinned], laidTests := true, laidLooks := .later }
def AttributeOrderCardSaid : Prop := Claim7.holds Tryd.pinned (.plain (OpenSpec.ofChange attributeOrderSpec)) attributeOrderCard

/-- THE TIED CARD OF 'racewaylaw24.AttributeMay'. -/
def attributeMayCard : Claim7 := { stood := { row := attributeMayRow, standIns := [], harness := (true, "96368ead68bdce33016301de7f07ca1b054e50c94027edfc5cd94727dfe64b91"), looks := false }, kinds := [], alts := [], laidByText := true, laidKinds := [.data, .data, .data, .pinned], laidTests := true, laidLooks := .later }
def AttributeMayCardSaid : Prop := Claim7.holds Tryd.pinned (.plain (OpenSpec.ofChange attributeMaySpec)) attributeMayCard

/-- THE TIED CARD OF 'racewaylaw24.AttributeSelects'. -/
def attributeSelectsCard : Claim7 := { stood := { row := attributeSelectsRow, standIns := [], harness := (true, "96368ead68bdce33016301de7f07ca1b054e50c94027edfc5cd94727dfe64b91"), looks := false }, kinds := [], alts := [], laidByText := true, laidKinds := [.data, .data, .data, .pinned], laidTests := true, laidLooks := .later }
def AttributeSelectsCardSaid : Prop := Claim7.holds Tryd.pinned (.plain (OpenSpec.ofChange attributeSelectsSpec)) attributeSelectsCard

/-- THE TIED CARD OF 'racewaylaw24.AttributeAll'. -/
def attributeAllCard : Claim7 := { stood := { row := attributeAllRow, standIns := [], harness := (true, "96368ead68bdce33016301de7f07ca1b054e50c94027edfc5cd94727dfe64b91"), looks := false }, kinds := [], alts := [], laidByText := true, laidKinds := [.data, .data, .data, .pinned], laidTests := true, laidLooks := .later }
def AttributeAllCardSaid : Prop := Claim7.holds Tryd.pinned (.plain (OpenSpec.ofChange attributeAllSpec)) attributeAllCard

/-- THE TIED CARD OF 'racewaylaw24.AttributeChecks'. -/
def attributeChecksCard : Claim7 := { stood := { row := attributeChecksRow, standIns := [], harness := (true, "96368ead68bdce33016301de7f07ca1b054e50c94027edfc5cd94727dfe64b91"), looks := false }, kinds := [], alts := [], laidByText := true, laidKinds := [.data, .data, .data, .pinned], laidTests := true, laidLooks := .later }
def AttributeChecksCardSaid : Prop := Claim7.holds Tryd.pinned (.plain (OpenSpec.ofChange attributeChecksSpec)) attributeChecksCard

/-- THE SECOND FORM's CARD OF 'racewaylaw24.AttributeNames'. -/
def attributeNamesUptoCard : Claim7 := { stood := { row := attributeNamesUptoRow, standIns := [], harness := (true, "96368ead68bdce33016301de7f07ca1b054e50c94027edfc5cd94727dfe64b91"), looks := false }, kinds := [], alts := [], laidByText := true, laidKinds := [.data, .data, .data, .pinned], laidTests := true, laidLooks := .later }
def AttributeNamesUptoCardSaid : Prop := Claim7.holds Tryd.pinned (.plain (OpenSpec.upto attributeNamesSpec)) attributeNamesUptoCard

/-- THE SECOND FORM's CARD OF 'racewaylaw24.AttributeSums'. -/
def attributeSumsUptoCard : Claim7 := { stood := { row := attributeSumsUptoRow, standIns := [], harness := (true, "96368ead68bdce33016301de7f07ca1b054e50c94027edfc5cd94727dfe64b91"), looks := false }, kinds := [], alts := [], laidByText := true, laidKinds := [.data, .data, .data, .pinned], laidTests := true, laidLooks := .later }
def AttributeSumsUptoCardSaid : Prop := Claim7.holds Tryd.pinned (.plain (OpenSpec.upto attributeSumsSpec)) attributeSumsUptoCard

/-- THE SECOND FORM's CARD OF 'racewaylaw24.AttributeOrder'. -/
def attributeOrderUptoCard : Claim7 := { stood := { row := attributeOrderUptoRow, standIns := [], harness := (true, "96368ead68bdce33016301de7f07ca1b054e50c94027edfc5cd94727dfe64b91"), looks := false }, kinds := [], alts := [], laidByText := true, laidKinds := [.data, .data, .data, .pinned], laidTests := true, laidLooks := .later }
def AttributeOrderUptoCardSaid : Prop := Claim7.holds Tryd.pinned (.plain (OpenSpec.upto attributeOrderSpec)) attributeOrderUptoCard

/-- THE SECOND FORM's CARD OF 'racewaylaw24.AttributeMay'. -/
def attributeMayUptoCard : Claim7 := { stood := { row := attributeMayUptoRow, standIns := [], harness := (true, "96368ead68bdce33016301de7f07ca1b054e50c94027edfc5cd94727dfe64b91"), looks := false }, kinds := [], alts := [], laidByText := true, laidKinds := [.data, .data, .data, .pinned], laidTests := true, laidLooks := .later }
def AttributeMayUptoCardSaid : Prop := Claim7.holds Tryd.pinned (.plain (OpenSpec.upto attributeMaySpec)) attributeMayUptoCard

/-- THE SECOND FORM's CARD OF 'racewaylaw24.AttributeSelects'. -/
def attributeSelectsUptoCard : Claim7 := { stood := { row := attributeSelectsUptoRow, standIns := [], harness := (true, "96368ead68bdce33016301de7f07ca1b054e50c94027edfc5cd94727dfe64b91"), looks := false }, kinds := [], alts := [], laidByText := true, laidKinds := [.data, .data, .data, .pinned], laidTests := true, laidLooks := .later }
def AttributeSelectsUptoCardSaid : Prop := Claim7.holds Tryd.pinned (.plain (OpenSpec.upto attributeSelectsSpec)) attributeSelectsUptoCard

/-- THE SECOND FORM's CARD OF 'racewaylaw24.AttributeAll'. -/
def attributeAllUptoCard : Claim7 := { stood := { row := attributeAllUptoRow, standIns := [], harness := (true, "96368ead68bdce33016301de7f07ca1b054e50c94027edfc5cd94727dfe64b91"), looks := false }, kinds := [], alts := [], laidByText := true, laidKinds := [.data, .data, .data, .pinned], laidTests := true, laidLooks := .later }
def AttributeAllUptoCardSaid : Prop := Claim7.holds Tryd.pinned (.plain (OpenSpec.upto attributeAllSpec)) attributeAllUptoCard

/-- THE SECOND FORM's CARD OF 'racewaylaw24.AttributeChecks'. -/
def attributeChecksUptoCard : Claim7 := { stood := { row := attributeChecksUptoRow, standIns := [], harness := (true, "96368ead68bdce33016301de7f07ca1b054e50c94027edfc5cd94727dfe64b91"), looks := false }, kinds := [], alts := [], laidByText := true, laidKinds := [.data, .data, .data, .pinned], laidTests := true, laidLooks := .later }
def AttributeChecksUptoCardSaid : Prop := Claim7.holds Tryd.pinned (.plain (OpenSpec.upto attributeChecksSpec)) attributeChecksUptoCard
end Rows
end Go.Proofs.YtolpefnedpgaaaaDoor
