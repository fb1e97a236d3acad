/-
  What the library's strings.Join, IndexByte, Repeat answer, as plain Lean functions, and that their calls answer so: out of the shelf's contracts.
-/
import Derived.Test.YtedfgkjimnjdpaaDoorShelf
import Derived.Test.YtedfgkjimnjdpaaDoorWWords
import Derived.Test.YtedfgkjimnjdpaaDoorWMore
namespace Go.Proofs.YtedfgkjimnjdpaaDoor.X
open Go.RowKit Go.Proofs.YtedfgkjimnjdpaaDoorW.PrintWords
set_option linter.unusedVariables false
set_option linter.unusedSimpArgs false
/-- Cells of strings that are read: where they lie. -/
theorem str_cells {w : World} {A : Option Addr} {n : Nat} {l : List ByteArray} (h : Kd.C Kd.string w A n l) (hn : 0 < n) :
    ∃ bk o, A = some ⟨bk, o, none⟩ ∧ bk < w.heap.size ∧ ∀ (j : Nat) x, l[j]? = some x → w.cell? ⟨bk, o + j, none⟩ = some (.string x) := by
  obtain ⟨hl, _, hc0⟩ := h
  obtain ⟨ad, rfl, hc⟩ := hc0 hn
  clear hc0
  have h0 : 0 < l.length := by omega
  obtain ⟨bk, o, sp⟩ := ad
  have key : ∀ (j : Nat) x, l[j]? = some x → w.cell? (Addr.add ⟨bk, o, sp⟩ j) = some (.string x) := by
    intro j x hx
    obtain ⟨c, _, hk, hcell⟩ := hc j x hx
    have hk' : c = [Value.string x] := hk
    subst hk'
    have := hcell 0 (.string x) rfl
    simpa [Kd.string, Kd.scalar] using this
  have k0 := key 0 _ (List.getElem?_eq_getElem h0)
  simp only [Addr.add, if_pos] at k0
  have hb : bk < w.heap.size ∧ sp = none := by
    unfold World.cell? at k0
    simp only at k0
    split at k0
    · rename_i hh
      refine ⟨(Array.getElem?_eq_some_iff.mp hh).1, ?_⟩
      cases sp with
      | none => rfl
      | some v => simp at k0
    · simp at k0
  obtain ⟨hb, rfl⟩ := hb
  refine ⟨bk, o, rfl, hb, fun j x hx => ?_⟩
  have := key j x hx
  unfold Addr.add at this
  split at this
  · subst j
    simpa using this
  · simpa using this
/-- strings.Join. -/
def joinB (l : List ByteArray) (sep : ByteArray) : List UInt8 := Lib.join (l.map (·.data.toList)) sep.data.toList
def strings_Join.f (l : List ByteArray) (sep : ByteArray) : Option ByteArray :=
  if l.length ≤ 140737488355328 ∧ (joinB l sep).length ≤ 140737488355328 then some ⟨(joinB l sep).toArray⟩ else none
theorem strings_Join.calls (A0 : Option Addr) (c0 : Nat) (l0 : List ByteArray) (a1 : ByteArray) (r : ByteArray) (w : World) (hr0 : Kd.C Kd.string w A0 l0.length l0) (hc0 : l0.length ≤ c0) (h : strings_Join.f l0 a1 = some r) :
    Calls Tryd.prog 77 #[.slice A0 l0.length c0, .string a1] w fun e w' => e = .returned (.string r) ∧ Below w.heap.size w w' := by
  unfold strings_Join.f at h
  split at h
  · rename_i hh
    obtain rfl := Option.some.inj h
    by_cases hn : 0 < l0.length
    · obtain ⟨bk, o, rfl, hb, hcells⟩ := str_cells hr0 hn
      exact Tryd.strings_Join bk o c0 l0 a1 w hcells hb hh.1 hc0 hh.2
    · have : l0 = [] := List.length_eq_zero_iff.mp (by omega)
      subst this
      refine (Tryd.strings_Join_none A0 c0 a1 w).mono ?_
      rintro e w' ⟨rfl, rfl⟩
      exact ⟨by simp [joinB, Lib.join, List.intercalate], Below.refl _ _⟩
  · exact absurd h (by simp)
/-- strings.IndexByte. -/
def strings_IndexByte.f (s : ByteArray) (c : Int) : Option Int := some (Lib.indexByte s.data.toList c.toNat.toUInt8)
theorem strings_IndexByte.calls (a0 : ByteArray) (a1 : Int) (r : Int) (w : World) (h : strings_IndexByte.f a0 a1 = some r) :
    Calls Tryd.prog 78 #[.string a0, .int .u8 a1] w fun e w' => e = .returned (.int .i64 r) ∧ Drawn0 w w' := by
  obtain rfl := Option.some.inj h
  refine (Tryd.strings_IndexByte a0 a1 w).mono ?_
  rintro e w' ⟨rfl, rfl⟩
  exact ⟨rfl, Drawn0.refl _⟩
/-- strings.Repeat. -/
def strings_Repeat.f (s : ByteArray) (n : Int) : Option ByteArray :=
  if 0 ≤ n ∧ n ≤ 9223372036854775807 ∧ s.size * n.toNat ≤ 140737488355328 then some ⟨(Lib.repeatL s.data.toList n.toNat).toArray⟩ else none
theorem strings_Repeat.calls (a0 : ByteArray) (a1 : Int) (r : ByteArray) (w : World) (h : strings_Repeat.f a0 a1 = some r) :
    Calls Tryd.prog 71 #[.string a0, .int .i64 a1] w fun e w' => e = .returned (.string r) ∧ Below w.heap.size w w' := by
  unfold strings_Repeat.f at h
  split at h
  · rename_i hh
    obtain rfl := Option.some.inj h
    obtain ⟨n, rfl⟩ := Int.eq_ofNat_of_zero_le hh.1
    exact Tryd.strings_Repeat a0 n w (by omega) hh.2.2
  · exact absurd h (by simp)
end Go.Proofs.YtedfgkjimnjdpaaDoor.X
