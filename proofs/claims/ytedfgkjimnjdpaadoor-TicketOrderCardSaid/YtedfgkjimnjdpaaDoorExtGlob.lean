/-
  What package-level variables hold when the call begins, as the contracts below ask it.
-/
import Derived.Test.YtedfgkjimnjdpaaDoorWWords
import Derived.Test.YtedfgkjimnjdpaaDoorWMore
import Derived.Test.YtedfgkjimnjdpaaDoorProg
namespace Go.Proofs.YtedfgkjimnjdpaaDoor.X
open Go.RowKit Go.Proofs.YtedfgkjimnjdpaaDoorW.PrintWords
set_option linter.unusedVariables false
/-- internal/bytealg.MaxLen holds some int. -/
def GlobMax (w : World) : Prop := 4 < w.heap.size ∧ ∃ m, w.cell? ⟨4, 0, none⟩ = some (.int .i64 m)
theorem GlobMax.below {w w' : World} (h : GlobMax w) (hb : Below w.heap.size w w') : GlobMax w' := by
  obtain ⟨h1, m, h2⟩ := h
  exact ⟨Nat.lt_of_lt_of_le h1 hb.size, m, (hb.cell (p := ⟨4, 0, none⟩) h1).trans h2⟩
theorem GlobMax.of {w : World} (h : ∃ m, w.cell? ⟨4, 0, none⟩ = some (.int .i64 m)) : GlobMax w := by
  refine ⟨?_, h⟩
  obtain ⟨m, hm⟩ := h
  unfold World.cell? at hm
  split at hm
  · rename_i hh
    exact (Array.getElem?_eq_some_iff.mp hh).1
  · cases hm
theorem GlobMax.drawn {w w' : World} (h : GlobMax w) (hb : Drawn0 w w') : GlobMax w' := by
  obtain ⟨n, rfl⟩ := hb.out
  exact h
end Go.Proofs.YtedfgkjimnjdpaaDoor.X
