/-
  strings.Split and TrimLeft at a cutset of one byte, out of the shelf's contracts.
-/
import Derived.Test.YtolpefnedpgaaaaDoorShelf
import Derived.Test.YtolpefnedpgaaaaDoorExtGlob
import Derived.Lib.SplitLaws
namespace Go.Proofs.YtolpefnedpgaaaaDoor.X
open Go.RowKit Go.Proofs.YtolpefnedpgaaaaDoorW.PrintWords
set_option linter.unusedVariables false
set_option linter.unusedSimpArgs false
/-- strings.TrimLeft, at a cutset of one byte below 128. -/
def strings_TrimLeft.f (s : ByteArray) (p : ByteArray) : Option ByteArray :=
  match p.data.toList with
  | [c] => if c.toNat < 128 then some ⟨(Lib.trimLeftB s.data.toList c).toArray⟩ else none
  | _ => none
theorem strings_TrimLeft.calls (a0 : ByteArray) (a1 : ByteArray) (r : ByteArray) (w : World) (h : strings_TrimLeft.f a0 a1 = some r) :
    Calls Tryd.prog 39 #[.string a0, .string a1] w fun e w' => e = .returned (.string r) ∧ Drawn0 w w' := by
  unfold strings_TrimLeft.f at h
  obtain ⟨⟨l⟩⟩ := a1
  simp only at h
  split at h
  · rename_i c
    split at h
    · rename_i hc
      obtain rfl := Option.some.inj h
      refine (Tryd.strings_TrimLeft_one a0 c hc w).mono ?_
      rintro e w' ⟨rfl, rfl⟩
      exact ⟨rfl, Drawn0.refl _⟩
    · exact absurd h (by simp)
  · exact absurd h (by simp)
end Go.Proofs.YtolpefnedpgaaaaDoor.X
