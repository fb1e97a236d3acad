/-
  strings.Replace, out of the shelf's contract.
-/
import Derived.Test.YtolpefnedpgaaaaDoorShelf
import Derived.Test.YtolpefnedpgaaaaDoorExtGlob
import Derived.Lib.SplitLaws
namespace Go.Proofs.YtolpefnedpgaaaaDoor.X
open Go.RowKit Go.Proofs.YtolpefnedpgaaaaDoorW.PrintWords
set_option linter.unusedVariables false
set_option linter.unusedSimpArgs false
/-- strings.Replace, of something by little. -/
def strings_Replace.f (s old new : ByteArray) (n : Int) : Option ByteArray :=
  if s.size < 4294967281 ∧ 1 ≤ old.size ∧ new.size ≤ 16 then some ⟨(Lib.replace s.data.toList old.data.toList new.data.toList n).toArray⟩ else none
theorem strings_Replace.calls (a0 a1 a2 : ByteArray) (a3 : Int) (r : ByteArray) (w : World) (hGMax : GlobMax w) (h : strings_Replace.f a0 a1 a2 a3 = some r) :
    Calls Tryd.prog 36 #[.string a0, .string a1, .string a2, .int .i64 a3] w fun e w' => e = .returned (.string r) ∧ Below w.heap.size w w' := by
  unfold strings_Replace.f at h
  split at h
  · rename_i hh
    obtain rfl := Option.some.inj h
    obtain ⟨_, m, hm⟩ := hGMax
    have hc := Lib.countB_le a1 hh.2.1 _ a0 (Nat.le_refl _)
    have hm2 := Nat.mul_le_mul hc hh.2.2
    exact Tryd.strings_Replace a0 a1 a2 a3 m w hh.1 hm hh.2.1 (by omega)
  · exact absurd h (by simp)
end Go.Proofs.YtolpefnedpgaaaaDoor.X
