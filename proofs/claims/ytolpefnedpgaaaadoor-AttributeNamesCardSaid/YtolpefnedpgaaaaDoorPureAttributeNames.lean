/-
  racewaylaw24.AttributeNames answers true for every input: any text may be a name, a type of the document's kind, a number, or may not, as the document says. No condition beyond the listed tables.
-/
import Derived.Test.YtolpefnedpgaaaaDoorX7
import Derived.Test.YtolpefnedpgaaaaDoorExtPureWorks
import Derived.Test.YtolpefnedpgaaaaDoorExtGlobOf
namespace Go.Proofs.YtolpefnedpgaaaaDoor.Pure
open Go.RowKit Go.Proofs.YtolpefnedpgaaaaDoor.X Go.Proofs.YtolpefnedpgaaaaDoorW.PrintWords Go.Proofs.YtolpefnedpgaaaaDoorW.PrintLast
set_option linter.unusedVariables false
set_option linter.unusedSimpArgs false
theorem AttributeNames : racewaylaw24_AttributeNames.Pure := by
  intro a ha
  refine ⟨5001, ?_⟩
  unfold racewaylaw24_AttributeNames.f
  have h1 := mn_cases (a.size : Int) 300
  have h4 := mn_le_left (a.size : Int) 300
  have za := cutB_size a 300
  unfold cutB at za
  rw [show ((300 : Nat) : Int) = 300 from rfl] at za
  rw [if_pos (by omega), if_pos h4]
  generalize a.extract 0 (mn (a.size : Int) 300).toNat = s at za ⊢
  rw [Type_eq s (by omega) 5001 (by omega), ref_Type_eq s (by omega) 5001 (by omega), Name_eq s (by omega) 5001 (by omega), ref_Name_eq s (by omega) 5001 (by omega), Number_eq s (by omega) 5001 (by omega), ref_Number_eq s (by omega) 5001 (by omega), works_eq 5001 (by omega), numA_eq]
  simp only [Option.bind_some, beq_self_eq_true, if_true]
end Go.Proofs.YtolpefnedpgaaaaDoor.Pure
