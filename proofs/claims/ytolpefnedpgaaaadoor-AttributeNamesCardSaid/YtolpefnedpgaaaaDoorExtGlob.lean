/-
  What package-level variables hold when the call begins, as the contracts below ask it.
-/
import Derived.Test.YtolpefnedpgaaaaDoorWWords
import Derived.Test.YtolpefnedpgaaaaDoorWMore
import Derived.Test.YtolpefnedpgaaaaDoorProg
import Derived.Test.YtolpefnedpgaaaaDoorExtFp2
namespace Go.Proofs.YtolpefnedpgaaaaDoor.X
open Go.RowKit Go.Proofs.YtolpefnedpgaaaaDoorW.PrintWords
set_option linter.unusedVariables false
/-- internal/bytealg.MaxLen holds some int. -/
def GlobMax (w : World) : Prop := 0 < w.heap.size ∧ ∃ m, w.cell? ⟨0, 0, none⟩ = some (.int .i64 m)
theorem GlobMax.below {w w' : World} (h : GlobMax w) (hb : Below w.heap.size w w') : GlobMax w' := by
  obtain ⟨h1, m, h2⟩ := h
  exact ⟨Nat.lt_of_lt_of_le h1 hb.size, m, (hb.cell (p := ⟨0, 0, none⟩) h1).trans h2⟩
theorem GlobMax.of {w : World} (h : ∃ m, w.cell? ⟨0, 0, none⟩ = some (.int .i64 m)) : GlobMax w := by
  refine ⟨?_, h⟩
  obtain ⟨m, hm⟩ := h
  unfold World.cell? at hm
  split at hm
  · rename_i hh
    exact (Array.getElem?_eq_some_iff.mp hh).1
  · cases hm
theorem GlobMax.drawn {w w' : World} (h : GlobMax w) (hb : Drawn0 w w') : GlobMax w' := by
  obtain ⟨n, rfl⟩ := hb.out
  exact h
/-- The fingerprint's two tables. -/
def GlobFp (w : World) : Prop := FpTables w
theorem GlobFp.below {w w' : World} (h : GlobFp w) (hb : Below w.heap.size w w') : GlobFp w' :=
  ⟨(hb.block _ (Array.getElem?_eq_some_iff.mp h.1).1).trans h.1, (hb.block _ (Array.getElem?_eq_some_iff.mp h.2).1).trans h.2⟩
theorem GlobFp.drawn {w w' : World} (h : GlobFp w) (hb : Drawn0 w w') : GlobFp w' := by
  obtain ⟨n, rfl⟩ := hb.out
  exact h
end Go.Proofs.YtolpefnedpgaaaaDoor.X
