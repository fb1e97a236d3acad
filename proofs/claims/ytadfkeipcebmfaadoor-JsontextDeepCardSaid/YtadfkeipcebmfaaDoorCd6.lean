/-
  What the claim's law rests on, part 6 of 6: printed walks, externals, plain lemmas; conditions: none of its own.
-/
import Derived.Test.YtadfkeipcebmfaaDoorCd5
namespace Go.Proofs.YtadfkeipcebmfaaDoor.Pure
open Go.RowKit Go.Proofs.YtadfkeipcebmfaaDoor.X Go.Proofs.YtadfkeipcebmfaaDoorW.PrintWords
set_option linter.unusedVariables false
set_option maxRecDepth 100000 in
theorem deep_all : ∀ m : Nat, m < 45 → ((jsontext_Leaf.f 400 2 (⟨#[]⟩ : ByteArray)).bind fun t => racewaylaw25_JsontextDeep.l0 400 (m : Int) (⟨#[]⟩ : ByteArray) t (m : Int) 0) = some true := by decide +kernel
theorem JsontextDeep : racewaylaw25_JsontextDeep.Pure := by
  intro a0 h0
  have hr : ∃ m : Nat, m < 45 ∧ Int.tmod (wrap64 ((Int.tmod a0 45) + 45)) 45 = (m : Int) := by
    have h1 := Int.tmod_lt_of_pos a0 (show (0 : Int) < 45 by decide)
    have h2 : -45 < Int.tmod a0 45 := by
      have := Int.lt_tmod_of_pos a0 (show (0 : Int) < 45 by decide)
      simpa using this
    have h3 : wrap64 ((Int.tmod a0 45) + 45) = (Int.tmod a0 45) + 45 := by unfold wrap64; omega
    rw [h3]
    have h4 : 0 ≤ Int.tmod a0 45 + 45 := by omega
    refine ⟨(Int.tmod (Int.tmod a0 45 + 45) 45).toNat, ?_, ?_⟩
    · have := Int.tmod_lt_of_pos (Int.tmod a0 45 + 45) (show (0 : Int) < 45 by decide)
      have := Int.tmod_nonneg 45 h4
      omega
    · have := Int.tmod_nonneg 45 h4
      omega
  obtain ⟨m, hm, e⟩ := hr
  refine ⟨400, ?_⟩
  unfold racewaylaw25_JsontextDeep.f
  rw [e]
  exact deep_all m hm
end Go.Proofs.YtadfkeipcebmfaaDoor.Pure

