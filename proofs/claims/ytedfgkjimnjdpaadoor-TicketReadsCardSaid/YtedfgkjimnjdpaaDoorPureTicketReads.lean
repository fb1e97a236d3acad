/-
  racewaylaw27.TicketReads answers true for every input: any text is the URL, or the ARN, of the document's parts, or of none. No condition beyond the listed tables.
-/
import Derived.Test.YtedfgkjimnjdpaaDoorX
import Derived.Test.YtedfgkjimnjdpaaDoorExtPureSplit
import Derived.Test.YtedfgkjimnjdpaaDoorExtPureWorks
namespace Go.Proofs.YtedfgkjimnjdpaaDoor.Pure
open Go.RowKit Go.Proofs.YtedfgkjimnjdpaaDoor.X Go.Proofs.YtedfgkjimnjdpaaDoorW.PrintWords Go.Proofs.YtedfgkjimnjdpaaDoorW.PrintLast Go.Proofs.YtedfgkjimnjdpaaDoorW.PrintMore
set_option linter.unusedVariables false
set_option linter.unusedSimpArgs false
theorem same_l0 (L : List ByteArray) (d : Nat) : ∀ (k i : Nat), i + d = L.length → d < k → L.length ≤ 1000 → racewayref01_SameTexts.l0 k L L (i : Int) = some true := by
  induction d with
  | zero =>
    intro k i hi hk hl
    obtain ⟨k, rfl⟩ : ∃ m, k = m + 1 := ⟨k - 1, by omega⟩
    simp only [racewayref01_SameTexts.l0]
    rw [if_neg (by omega)]
  | succ d ih =>
    intro k i hi hk hl
    obtain ⟨k, rfl⟩ : ∃ m, k = m + 1 := ⟨k - 1, by omega⟩
    simp only [racewayref01_SameTexts.l0]
    rw [if_pos (by omega), if_pos (by omega), if_pos (by omega), if_pos trivial, w64 (by omega) (by omega), show ((i : Int) + 1) = ((i + 1 : Nat) : Int) by omega]
    exact ih k (i + 1) (by omega) (by omega) hl
theorem same_eq (L : List ByteArray) (k : Nat) (hk : L.length < k) (hl : L.length ≤ 1000) : racewayref01_SameTexts.f k L L = some true := by
  unfold racewayref01_SameTexts.f
  rw [if_pos rfl]
  exact same_l0 L L.length k 0 (by omega) hk hl
theorem TicketReads : racewaylaw27_TicketReads.Pure := by
  intro a ha
  refine ⟨2001, ?_⟩
  unfold racewaylaw27_TicketReads.f
  have h1 := mn_cases (a.size : Int) 300
  have h4 := mn_le_left (a.size : Int) 300
  have za := cutB_size a 300
  unfold cutB at za
  rw [show ((300 : Nat) : Int) = 300 from rfl] at za
  rw [if_pos (by omega), if_pos h4]
  generalize a.extract 0 (mn (a.size : Int) 300).toNat = s at za ⊢
  have hu := take_eq ⟨#[104, 116, 116, 112, 115, 58, 47, 47]⟩ 47 s (by omega) 2001 (by omega)
  have hn := take_eq ⟨#[97, 114, 110, 58, 97, 119, 115, 58, 115, 113, 115, 58]⟩ 58 s (by omega) 2001 (by omega)
  rw [show (((47 : UInt8).toNat : Nat) : Int) = 47 from rfl] at hu
  rw [show (((58 : UInt8).toNat : Nat) : Int) = 58 from rfl] at hn
  rw [fromUrl_eq s (by omega) 2001 (by omega), fromArn_eq s (by omega) 2001 (by omega), hu, hn]
  simp only [Option.bind_some]
  have w := works_eq 2000 (by omega)
  cases partsB ⟨#[104, 116, 116, 112, 115, 58, 47, 47]⟩ 47 s with
  | none =>
    cases partsB ⟨#[97, 114, 110, 58, 97, 119, 115, 58, 115, 113, 115, 58]⟩ 58 s with
    | none =>
      simp only [toldB, racewaylaw27_TicketReads.j0]
      rw [same_eq _ 2000 (by simp) (by simp), w]
      rfl
    | some v =>
      simp only [toldB, racewaylaw27_TicketReads.j0]
      rw [same_eq _ 2000 (by simp) (by simp), same_eq _ 2000 (by simp) (by simp), w]
      rfl
  | some u =>
    cases partsB ⟨#[97, 114, 110, 58, 97, 119, 115, 58, 115, 113, 115, 58]⟩ 58 s with
    | none =>
      simp only [toldB, racewaylaw27_TicketReads.j0]
      rw [same_eq _ 2000 (by simp) (by simp), same_eq _ 2000 (by simp) (by simp), w]
      rfl
    | some v =>
      simp only [toldB, racewaylaw27_TicketReads.j0]
      rw [same_eq _ 2000 (by simp) (by simp), same_eq _ 2000 (by simp) (by simp), w]
      rfl
end Go.Proofs.YtedfgkjimnjdpaaDoor.Pure
