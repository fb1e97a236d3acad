/-
  DERIVED. GIVEN WITH THE SEED: THE CARDS: each row of YtjehflambbjoaaaDoorRows.lean that lists a variable, with what it lists TIED to the program's text (the seventh form; the later family's looks); each row that meets fmt, with fmt's text TOLD by the authors' own Lean function (tested against real Go, not proved from fmt's source: count such statements apart). THE CARD IS WHAT COUNTS. Prove the row's statement (the work); the ties are given (YtjehflambbjoaaaDoorTie.lean); close each card by the builder's one call (the guide's Derived/Test/ToyasCard.lean, 'card_holds'). Laid BY PROGRAM, IN A SANDBOX (cutbox-door.mjs). By AI agents, Wed Nov 11 2026. No macro, syntax, notation, axiom, sorry.
-/
import Derived.Test.YtjehflambbjoaaaDoorRows
import GoSem.ClaimSeven
namespace Go.Proofs.YtjehflambbjoaaaDoor
namespace Rows

/-- THE TIED CARD OF 'racewaylaw29.ResponseMarks'. -/
def responseMarksCard : Claim7 := { stood := { row := responseMarksRow, standIns := [], harness := (true, "6a58a0e5d17497e7f3987836acf19cc439b216d151624b86b51cf81a7320a4e7"), looks := true }, kinds := [], alts := [], laidByText := true, laidKinds := [.data, .pinned], laidTests := true, laidLooks := .later }
def ResponseMarksCardSaid : Prop := Claim7.holds Tryd.pinned (.plain (OpenSpec.ofChange responseMarksSpec)) responseMarksCard

/-- THE TIED CARD OF 'racewaylaw29.ResponseFaults'. -/
def responseFaultsCard : Claim7 := { stood := { row := responseFaultsRow, standIns := [], harness := (true, "6a58a0e5d17497e7f3987836acf19cc439b216d151624b86b51cf81a7320a4e7"), looks := true }, kinds := [], alts := [], laidByText := true, laidKinds := [.data, .pinned], laidTests := true, laidLooks := .later }
def ResponseFaultsCardSaid : Prop := Claim7.holds Tryd.pinned (.plain (OpenSpec.ofChange responseFaultsSpec)) responseFaultsCard

/-- THE SECOND FORM's CARD OF 'racewaylaw29.ResponseMarks'. -/
def responseMarksUptoCard : Claim7 := { stood := { row := responseMarksUptoRow, standIns := [], harness := (true, "6a58a0e5d17497e7f3987836acf19cc439b216d151624b86b51cf81a7320a4e7"), looks := true }, kinds := [], alts := [], laidByText := true, laidKinds := [.data, .pinned], laidTests := true, laidLooks := .later }
def ResponseMarksUptoCardSaid : Prop := Claim7.holds Tryd.pinned (.plain (OpenSpec.upto responseMarksSpec)) responseMarksUptoCard

/-- THE SECOND FORM's CARD OF 'racewaylaw29.ResponseFaults'. -/
def responseFaultsUptoCard : Claim7 := { stood := { row := responseFaultsUptoRow, standIns := [], harness := (true, "6a58a0e5d17497e7f3987836acf19cc439b216d151624b86b51cf81a7320a4e7"), looks := true }, kinds := [], alts := [], laidByText := true, laidKinds := [.data, .pinned], laidTests := true, laidLooks := .later }
def ResponseFaultsUptoCardSaid : Prop := Claim7.holds Tryd.pinned (.plain (OpenSpec.upto responseFaultsSpec)) responseFaultsUptoCard
end Rows
end Go.Proofs.YtjehflambbjoaaaDoor
