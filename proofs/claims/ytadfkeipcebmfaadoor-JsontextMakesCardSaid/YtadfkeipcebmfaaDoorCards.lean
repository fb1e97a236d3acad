/-
  DERIVED. GIVEN WITH THE SEED: THE CARDS: each row of YtadfkeipcebmfaaDoorRows.lean that lists a variable, with what it lists TIED to the program's text (the seventh form; the later family's looks); each row that meets fmt, with fmt's text TOLD by the authors' own Lean function (tested against real Go, not proved from fmt's source: count such statements apart). THE CARD IS WHAT COUNTS. Prove the row's statement (the work); the ties are given (YtadfkeipcebmfaaDoorTie.lean); close each card by the builder's one call (the guide's Derived/Test/ToyasCard.lean, 'card_holds'). Laid BY PROGRAM, IN A SANDBOX (cutbox-door.mjs). By AI agents, Wed Nov 11 2026. No macro, syntax, notation, axiom, sorry.
-/
import Derived.Test.YtadfkeipcebmfaaDoorRows
import GoSem.ClaimSeven
namespace Go.Proofs.YtadfkeipcebmfaaDoor
namespace Rows

/-- THE TIED CARD OF 'racewaylaw25.JsontextParses'. -/
def jsontextParsesCard : Claim7 := { stood := { row := jsontextParsesRow, standIns := [], harness := (true, "9fdd900af565c6abf647fdbca046a912d5e39fa21e915205527266777eefebf1"), looks := true }, kinds := [], alts := [], laidByText := true, laidKinds := [.data, .pinned], laidTests := true, laidLooks := .later }
def JsontextParsesCardSaid : Prop := Claim7.holds Tryd.pinned (.plain (OpenSpec.ofChange jsontextParsesSpec)) jsontextParsesCard

/-- THE TIED CARD OF 'racewaylaw25.JsontextBack'. -/
def jsontextBackCard : Claim7 := { stood := { row := jsontextBackRow, standIns := [], harness := (true, "9fdd900af565c6abf647fdbca046a912d5e39fa21e915205527266777eefebf1"), looks := true }, kinds := [], alts := [], laidByText := true, laidKinds := [.data, .pinned], laidTests := true, laidLooks := .later }
def JsontextBackCardSaid : Prop := Claim7.holds Tryd.pinned (.plain (OpenSpec.ofChange jsontextBackSpec)) jsontextBackCard

/-- THE TIED CARD OF 'racewaylaw25.JsontextBlanks'. -/
def jsontextBlanksCard : Claim7 := { stood := { row := jsontextBlanksRow, standIns := [], harness := (true, "9fdd900af565c6abf647fdbca046a912d5e39fa21e915205527266777eefebf1"), looks := true }, kinds := [], alts := [], laidByText := true, laidKinds := [.data, .pinned], laidTests := true, laidLooks := .later }
def JsontextBlanksCardSaid : Prop := Claim7.holds Tryd.pinned (.plain (OpenSpec.ofChange jsontextBlanksSpec)) jsontextBlanksCard

/-- THE TIED CARD OF 'racewaylaw25.JsontextDeep'. -/
def jsontextDeepCard : Claim7 := { stood := { row := jsontextDeepRow, standIns := [], harness := (true, "9fdd900af565c6abf647fdbca046a912d5e39fa21e915205527266777eefebf1"), looks := true }, kinds := [], alts := [], laidByText := true, laidKinds := [.data, .pinned], laidTests := true, laidLooks := .later }
def JsontextDeepCardSaid : Prop := Claim7.holds Tryd.pinned (.plain (OpenSpec.ofChange jsontextDeepSpec)) jsontextDeepCard

/-- THE TIED CARD OF 'racewaylaw25.JsontextMakes'. -/
def jsontextMakesCard : Claim7 := { stood := { row := jsontextMakesRow, standIns := [], harness := (true, "9fdd900af565c6abf647fdbca046a912d5e39fa21e915205527266777eefebf1"), looks := true }, kinds := [], alts := [], laidByText := true, laidKinds := [.data, .pinned], laidTests := true, laidLooks := .later }
def JsontextMakesCardSaid : Prop := Claim7.holds Tryd.pinned (.plain (OpenSpec.ofChange jsontextMakesSpec)) jsontextMakesCard

/-- THE TIED CARD OF 'racewaylaw25.JsontextTrees'. -/
def jsontextTreesCard : Claim7 := { stood := { row := jsontextTreesRow, standIns := [], harness := (true, "9fdd900af565c6abf647fdbca046a912d5e39fa21e915205527266777eefebf1"), looks := true }, kinds := [], alts := [], laidByText := true, laidKinds := [.data, .pinned], laidTests := true, laidLooks := .later }
def JsontextTreesCardSaid : Prop := Claim7.holds Tryd.pinned (.plain (OpenSpec.ofChange jsontextTreesSpec)) jsontextTreesCard

/-- THE TIED CARD OF 'racewaylaw25.JsontextGets'. -/
def jsontextGetsCard : Claim7 := { stood := { row := jsontextGetsRow, standIns := [], harness := (true, "9fdd900af565c6abf647fdbca046a912d5e39fa21e915205527266777eefebf1"), looks := true }, kinds := [], alts := [], laidByText := true, laidKinds := [.data, .pinned], laidTests := true, laidLooks := .later }
def JsontextGetsCardSaid : Prop := Claim7.holds Tryd.pinned (.plain (OpenSpec.ofChange jsontextGetsSpec)) jsontextGetsCard

/-- THE SECOND FORM's CARD OF 'racewaylaw25.JsontextParses'. -/
def jsontextParsesUptoCard : Claim7 := { stood := { row := jsontextParsesUptoRow, standIns := [], harness := (true, "9fdd900af565c6abf647fdbca046a912d5e39fa21e915205527266777eefebf1"), looks := true }, kinds := [], alts := [], laidByText := true, laidKinds := [.data, .pinned], laidTests := true, laidLooks := .later }
def JsontextParsesUptoCardSaid : Prop := Claim7.holds Tryd.pinned (.plain (OpenSpec.upto jsontextParsesSpec)) jsontextParsesUptoCard

/-- THE SECOND FORM's CARD OF 'racewaylaw25.JsontextBack'. -/
def jsontextBackUptoCard : Claim7 := { stood := { row := jsontextBackUptoRow, standIns := [], harness := (true, "9fdd900af565c6abf647fdbca046a912d5e39fa21e915205527266777eefebf1"), looks := true }, kinds := [], alts := [], laidByText := true, laidKinds := [.data, .pinned], laidTests := true, laidLooks := .later }
def JsontextBackUptoCardSaid : Prop := Claim7.holds Tryd.pinned (.plain (OpenSpec.upto jsontextBackSpec)) jsontextBackUptoCard

/-- THE SECOND FORM's CARD OF 'racewaylaw25.JsontextBlanks'. -/
def jsontextBlanksUptoCard : Claim7 := { stood := { row := jsontextBlanksUptoRow, standIns := [], harness := (true, "9fdd900af565c6abf647fdbca046a912d5e39fa21e915205527266777eefebf1"), looks := true }, kinds := [], alts := [], laidByText := true, laidKinds := [.data, .pinned], laidTests := true, laidLooks := .later }
def JsontextBlanksUptoCardSaid : Prop := Claim7.holds Tryd.pinned (.plain (OpenSpec.upto jsontextBlanksSpec)) jsontextBlanksUptoCard

/-- THE SECOND FORM's CARD OF 'racewaylaw25.JsontextDeep'. -/
def jsontextDeepUptoCard : Claim7 := { stood := { row := jsontextDeepUptoRow, standIns := [], harness := (true, "9fdd900af565c6abf647fdbca046a912d5e39fa21e915205527266777eefebf1"), looks := true }, kinds := [], alts := [], laidByText := true, laidKinds := [.data, .pinned], laidTests := true, laidLooks := .later }
def JsontextDeepUptoCardSaid : Prop := Claim7.holds Tryd.pinned (.plain (OpenSpec.upto jsontextDeepSpec)) jsontextDeepUptoCard

/-- THE SECOND FORM's CARD OF 'racewaylaw25.JsontextMakes'. -/
def jsontextMakesUptoCard : Claim7 := { stood := { row := jsontextMakesUptoRow, standIns := [], harness := (true, "9fdd900af565c6abf647fdbca046a912d5e39fa21e915205527266777eefebf1"), looks := true }, kinds := [], alts := [], laidByText := true, laidKinds := [.data, .pinned], laidTests := true, laidLooks := .later }
def JsontextMakesUptoCardSaid : Prop := Claim7.holds Tryd.pinned (.plain (OpenSpec.upto jsontextMakesSpec)) jsontextMakesUptoCard

/-- THE SECOND FORM's CARD OF 'racewaylaw25.JsontextTrees'. -/
def jsontextTreesUptoCard : Claim7 := { stood := { row := jsontextTreesUptoRow, standIns := [], harness := (true, "9fdd900af565c6abf647fdbca046a912d5e39fa21e915205527266777eefebf1"), looks := true }, kinds := [], alts := [], laidByText := true, laidKinds := [.data, .pinned], laidTests := true, laidLooks := .later }
def JsontextTreesUptoCardSaid : Prop := Claim7.holds Tryd.pinned (.plain (OpenSpec.upto jsontextTreesSpec)) jsontextTreesUptoCard

/-- THE SECOND FORM's CARD OF 'racewaylaw25.JsontextGets'. -/
def jsontextGetsUptoCard : Claim7 := { stood := { row := jsontextGetsUptoRow, standIns := [], harness := (true, "9fdd900af565c6abf647fdbca046a912d5e39fa21e915205527266777eefebf1"), looks := true }, kinds := [], alts := [], laidByText := true, laidKinds := [.data, .pinned], laidTests := true, laidLooks := .later }
def JsontextGetsUptoCardSaid : Prop := Claim7.holds Tryd.pinned (.plain (OpenSpec.upto jsontextGetsSpec)) jsontextGetsUptoCard
end Rows
end Go.Proofs.YtadfkeipcebmfaaDoor
