/-
  strings.Split and TrimLeft at a cutset of one byte, out of the shelf's contracts.
-/
import Derived.Test.YtedfgkjimnjdpaaDoorShelf
import Derived.Test.YtedfgkjimnjdpaaDoorExtGlob
import Derived.Lib.SplitLaws
namespace Go.Proofs.YtedfgkjimnjdpaaDoor.X
open Go.RowKit Go.Proofs.YtedfgkjimnjdpaaDoorW.PrintWords
set_option linter.unusedVariables false
set_option linter.unusedSimpArgs false
/-- strings.TrimLeft, at a cutset of one byte below 128. -/
def strings_TrimLeft.f (s : ByteArray) (p : ByteArray) : Option ByteArray :=
  match p.data.toList with
  | [c] => if c.toNat < 128 then some ⟨(Lib.trimLeftB s.data.toList c).toArray⟩ else none
  | _ => none
theorem strings_TrimLeft.calls (a0 : ByteArray) (a1 : ByteArray) (r : ByteArray) (w : World) (h : strings_TrimLeft.f a0 a1 = some r) :
    Calls Tryd.prog 28 #[.string a0, .string a1] w fun e w' => e = .returned (.string r) ∧ Drawn0 w w' := by
  unfold strings_TrimLeft.f at h
  obtain ⟨⟨l⟩⟩ := a1
  simp only at h
  split at h
  · rename_i c
    split at h
    · rename_i hc
      obtain rfl := Option.some.inj h
      refine (Tryd.strings_TrimLeft_one a0 c hc w).mono ?_
      rintro e w' ⟨rfl, rfl⟩
      exact ⟨rfl, Drawn0.refl _⟩
    · exact absurd h (by simp)
  · exact absurd h (by simp)
/-- strings.Split, at a separator of one byte or more. -/
def strings_Split.f (s sep : ByteArray) : Option (List ByteArray) :=
  if s.size < 4294967281 ∧ 1 ≤ sep.size then some (Lib.splitB sep 0 (Lib.countB s sep) s) else none
theorem strings_Split.calls (a0 : ByteArray) (a1 : ByteArray) (r : List ByteArray) (w : World) (hGMax : GlobMax w) (h : strings_Split.f a0 a1 = some r) :
    Calls Tryd.prog 73 #[.string a0, .string a1] w fun e w' => ∃ v0_ : Value, e = .returned v0_ ∧ Kd.R Kd.string 9 w' w.heap.size (fun _ => True) v0_ r ∧ Below w.heap.size w w' := by
  unfold strings_Split.f at h
  split at h
  · rename_i hh
    obtain rfl := Option.some.inj h
    obtain ⟨_, m, hm⟩ := hGMax
    refine (Tryd.strings_Split a0 a1 m w hh.1 hm hh.2).mono ?_
    rintro e w' ⟨rfl, rfl⟩
    have hlen : (Lib.splitB a1 0 (Lib.countB a0 a1) a0).length = Lib.countB a0 a1 + 1 := Lib.splitB_all a1 hh.2 0 _ a0 rfl
    refine ⟨_, rfl, Kd.R_of_own ?_ (fun _ _ => trivial), (Below.refl _ _).alloc (Nat.le_refl _) _⟩
    refine ⟨by simp [encs], .inr ⟨w.heap.size, Lib.countB a0 a1 + 1, _, ?_, Nat.le_refl _, heap_alloc_new w _, by omega, ?_, ?_, ?_⟩⟩
    · rw [hlen]
    · have := Lib.countB_le a1 hh.2 _ a0 (Nat.le_refl _)
      unfold maxLen
      omega
    · simp [hlen]
    · simp only [encs, Nat.mul_one]
      rw [List.take_of_length_le (by simp)]
  · exact absurd h (by simp)
end Go.Proofs.YtedfgkjimnjdpaaDoor.X
