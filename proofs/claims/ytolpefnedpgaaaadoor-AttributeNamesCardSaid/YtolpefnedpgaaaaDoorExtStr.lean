/-
  What the library's strings.Join, IndexByte, Repeat answer, as plain Lean functions, and that their calls answer so: out of the shelf's contracts.
-/
import Derived.Test.YtolpefnedpgaaaaDoorShelf
import Derived.Test.YtolpefnedpgaaaaDoorWWords
import Derived.Test.YtolpefnedpgaaaaDoorWMore
namespace Go.Proofs.YtolpefnedpgaaaaDoor.X
open Go.RowKit Go.Proofs.YtolpefnedpgaaaaDoorW.PrintWords
set_option linter.unusedVariables false
set_option linter.unusedSimpArgs false
/-- Cells of strings that are read: where they lie. -/
theorem str_cells {w : World} {A : Option Addr} {n : Nat} {l : List ByteArray} (h : Kd.C Kd.string w A n l) (hn : 0 < n) :
    ∃ bk o, A = some ⟨bk, o, none⟩ ∧ bk < w.heap.size ∧ ∀ (j : Nat) x, l[j]? = some x → w.cell? ⟨bk, o + j, none⟩ = some (.string x) := by
  obtain ⟨hl, _, hc0⟩ := h
  obtain ⟨ad, rfl, hc⟩ := hc0 hn
  clear hc0
  have h0 : 0 < l.length := by omega
  obtain ⟨bk, o, sp⟩ := ad
  have key : ∀ (j : Nat) x, l[j]? = some x → w.cell? (Addr.add ⟨bk, o, sp⟩ j) = some (.string x) := by
    intro j x hx
    obtain ⟨c, _, hk, hcell⟩ := hc j x hx
    have hk' : c = [Value.string x] := hk
    subst hk'
    have := hcell 0 (.string x) rfl
    simpa [Kd.string, Kd.scalar] using this
  have k0 := key 0 _ (List.getElem?_eq_getElem h0)
  simp only [Addr.add, if_pos] at k0
  have hb : bk < w.heap.size ∧ sp = none := by
    unfold World.cell? at k0
    simp only at k0
    split at k0
    · rename_i hh
      refine ⟨(Array.getElem?_eq_some_iff.mp hh).1, ?_⟩
      cases sp with
      | none => rfl
      | some v => simp at k0
    · simp at k0
  obtain ⟨hb, rfl⟩ := hb
  refine ⟨bk, o, rfl, hb, fun j x hx => ?_⟩
  have := key j x hx
  unfold Addr.add at this
  split at this
  · subst j
    simpa using this
  · simpa using this
/-- strings.IndexByte. -/
def strings_IndexByte.f (s : ByteArray) (c : Int) : Option Int := some (Lib.indexByte s.data.toList c.toNat.toUInt8)
theorem strings_IndexByte.calls (a0 : ByteArray) (a1 : Int) (r : Int) (w : World) (h : strings_IndexByte.f a0 a1 = some r) :
    Calls Tryd.prog 59 #[.string a0, .int .u8 a1] w fun e w' => e = .returned (.int .i64 r) ∧ Drawn0 w w' := by
  obtain rfl := Option.some.inj h
  refine (Tryd.strings_IndexByte a0 a1 w).mono ?_
  rintro e w' ⟨rfl, rfl⟩
  exact ⟨rfl, Drawn0.refl _⟩
end Go.Proofs.YtolpefnedpgaaaaDoor.X
