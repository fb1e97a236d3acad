/-
  racewaylaw27.TicketAgain answers true for every input: a queue's URL and ARN are read as they were made; nothing else is. No condition beyond the listed tables.
-/
import Derived.Test.YtedfgkjimnjdpaaDoorX
import Derived.Test.YtedfgkjimnjdpaaDoorExtPurePut
import Derived.Test.YtedfgkjimnjdpaaDoorExtPureWorks
namespace Go.Proofs.YtedfgkjimnjdpaaDoor.Pure
open Go.RowKit Go.Proofs.YtedfgkjimnjdpaaDoor.X Go.Proofs.YtedfgkjimnjdpaaDoorW.PrintWords Go.Proofs.YtedfgkjimnjdpaaDoorW.PrintLast Go.Proofs.YtedfgkjimnjdpaaDoorW.PrintMore
set_option linter.unusedVariables false
set_option linter.unusedSimpArgs false
theorem TicketAgain : racewaylaw27_TicketAgain.Pure := by
  intro a b c ha hb hc
  refine ⟨2001, ?_⟩
  unfold racewaylaw27_TicketAgain.f
  have h1 := mn_cases (a.size : Int) 100
  have h2 := mn_cases (b.size : Int) 100
  have h3 := mn_cases (c.size : Int) 100
  have h4 := mn_le_left (a.size : Int) 100
  have h5 := mn_le_left (b.size : Int) 100
  have h6 := mn_le_left (c.size : Int) 100
  have za := cutB_size a 100
  have zb := cutB_size b 100
  have zc := cutB_size c 100
  unfold cutB at za zb zc
  rw [show ((100 : Nat) : Int) = 100 from rfl] at za zb zc
  rw [if_pos (by omega), if_pos h4, if_pos (by omega), if_pos h5, if_pos (by omega), if_pos h6]
  generalize a.extract 0 (mn (a.size : Int) 100).toNat = x at za ⊢
  generalize b.extract 0 (mn (b.size : Int) 100).toNat = y at zb ⊢
  generalize c.extract 0 (mn (c.size : Int) 100).toNat = z at zc ⊢
  rw [ticket_Url_eq x y z (by omega) (by omega) (by omega) 2001 (by omega), ticket_Arn_eq x y z (by omega) (by omega) (by omega) 2001 (by omega)]
  simp only [Option.bind_some, racewaylaw27_TicketAgain.j0]
  have w := works_eq 2000 (by omega)
  unfold putB
  cases hg : (hostB x && accountB y && queueB z) with
  | false =>
    simp only [Bool.false_eq_true, if_false]
    have e : (⟨#[]⟩ : ByteArray).toList = [] := by decide +kernel
    rw [w, e]
    simp
  | true =>
    rw [Bool.and_eq_true, Bool.and_eq_true] at hg
    obtain ⟨⟨hx, hy⟩, hz⟩ := hg
    simp only [if_true]
    obtain ⟨u1, u2⟩ := parts_put ⟨#[104, 116, 116, 112, 115, 58, 47, 47]⟩ 47 x y z hx hy hz (by decide) (by decide) (by decide) (by decide)
    obtain ⟨n1, n2⟩ := parts_put ⟨#[97, 114, 110, 58, 97, 119, 115, 58, 115, 113, 115, 58]⟩ 58 x y z hx hy hz (by decide) (by decide) (by decide) (by decide)
    have q8 : (⟨#[104, 116, 116, 112, 115, 58, 47, 47]⟩ : ByteArray).size = 8 := rfl
    have q12 : (⟨#[97, 114, 110, 58, 97, 119, 115, 58, 115, 113, 115, 58]⟩ : ByteArray).size = 12 := rfl
    have q1 : (⟨#[47]⟩ : ByteArray).size = 1 := rfl
    have q2 : (⟨#[58]⟩ : ByteArray).size = 1 := rfl
    have hus : ((⟨#[104, 116, 116, 112, 115, 58, 47, 47]⟩ : ByteArray) ++ x ++ ⟨#[47]⟩ ++ y ++ ⟨#[47]⟩ ++ z).size ≤ 1000 := by simp only [size_append]; omega
    have hns : ((⟨#[97, 114, 110, 58, 97, 119, 115, 58, 115, 113, 115, 58]⟩ : ByteArray) ++ x ++ ⟨#[58]⟩ ++ y ++ ⟨#[58]⟩ ++ z).size ≤ 1000 := by simp only [size_append]; omega
    have hno : partsB ⟨#[97, 114, 110, 58, 97, 119, 115, 58, 115, 113, 115, 58]⟩ 58 ((⟨#[104, 116, 116, 112, 115, 58, 47, 47]⟩ : ByteArray) ++ x ++ ⟨#[47]⟩ ++ y ++ ⟨#[47]⟩ ++ z) = none := by
      unfold partsB
      rw [if_neg]
      rw [hasB_iff, q12]
      have e : ((⟨#[104, 116, 116, 112, 115, 58, 47, 47]⟩ : ByteArray) ++ x ++ ⟨#[47]⟩ ++ y ++ ⟨#[47]⟩ ++ z).data.toList = [104, 116, 116, 112, 115, 58, 47, 47] ++ (x.data.toList ++ 47 :: (y.data.toList ++ 47 :: z.data.toList)) := by simp
      rw [e]
      simp
    generalize (⟨#[104, 116, 116, 112, 115, 58, 47, 47]⟩ : ByteArray) ++ x ++ ⟨#[47]⟩ ++ y ++ ⟨#[47]⟩ ++ z = u at *
    generalize (⟨#[97, 114, 110, 58, 97, 119, 115, 58, 115, 113, 115, 58]⟩ : ByteArray) ++ x ++ ⟨#[58]⟩ ++ y ++ ⟨#[58]⟩ ++ z = n at *
    have hu2 : (u ++ (⟨#[47]⟩ : ByteArray)).size ≤ 1001 := by rw [size_append]; omega
    rw [fromUrl_eq u (by omega) 2000 (by omega), fromArn_eq n (by omega) 2000 (by omega), fromUrl_eq (u ++ ⟨#[47]⟩) (by omega) 2000 (by omega), fromArn_eq u (by omega) 2000 (by omega), u1, u2, n1, hno, w, ticket_Queue_eq z (by omega) 2000 (by omega), hz]
    simp only [toldB, Option.bind_some]
    rw [if_pos (show u.size + 1 ≤ 9223372036854775807 by omega)]
    simp
end Go.Proofs.YtedfgkjimnjdpaaDoor.Pure
