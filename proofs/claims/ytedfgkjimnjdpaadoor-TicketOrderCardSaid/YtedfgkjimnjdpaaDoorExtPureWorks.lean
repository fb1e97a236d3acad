/-
  URLs and ARNs by the program, and the chapter's example.
-/
import Derived.Test.YtedfgkjimnjdpaaDoorExtPureNames
import Derived.Test.YtedfgkjimnjdpaaDoorExtPad
import Derived.Test.YtedfgkjimnjdpaaDoorX
namespace Go.Proofs.YtedfgkjimnjdpaaDoor.X
open Go.RowKit Go.Proofs.YtedfgkjimnjdpaaDoorW.PrintWords Go.Proofs.YtedfgkjimnjdpaaDoorW.PrintMore
set_option linter.unusedVariables false
set_option linter.unusedSimpArgs false
theorem ticket_Url_eq (x y z : ByteArray) (hx : x.size ≤ 100000) (hy : y.size ≤ 100000) (hz : z.size ≤ 100000) (k : Nat) (hk : x.size + y.size + z.size + 3 < k) :
    ticket_Url.f k x y z = some (putB ⟨#[104, 116, 116, 112, 115, 58, 47, 47]⟩ ⟨#[47]⟩ x y z) := by
  unfold ticket_Url.f putB
  rw [ticket_host_eq x (by omega) k (by omega), ticket_account_eq y (by omega) k (by omega), ticket_Queue_eq z (by omega) k (by omega)]
  simp only [Option.bind_some]
  rw [if_pos (show 8 + x.size ≤ 9223372036854775807 by omega), if_pos (show 8 + x.size + 1 ≤ 9223372036854775807 by omega), if_pos (show 8 + x.size + 1 + y.size ≤ 9223372036854775807 by omega), if_pos (show 8 + x.size + 1 + y.size + 1 ≤ 9223372036854775807 by omega), if_pos (show 8 + x.size + 1 + y.size + 1 + z.size ≤ 9223372036854775807 by omega)]
  cases hostB x <;> cases accountB y <;> cases queueB z <;> simp
theorem ticket_Arn_eq (x y z : ByteArray) (hx : x.size ≤ 100000) (hy : y.size ≤ 100000) (hz : z.size ≤ 100000) (k : Nat) (hk : x.size + y.size + z.size + 3 < k) :
    ticket_Arn.f k x y z = some (putB ⟨#[97, 114, 110, 58, 97, 119, 115, 58, 115, 113, 115, 58]⟩ ⟨#[58]⟩ x y z) := by
  unfold ticket_Arn.f putB
  rw [ticket_host_eq x (by omega) k (by omega), ticket_account_eq y (by omega) k (by omega), ticket_Queue_eq z (by omega) k (by omega)]
  simp only [Option.bind_some]
  rw [if_pos (show 12 + x.size ≤ 9223372036854775807 by omega), if_pos (show 12 + x.size + 1 ≤ 9223372036854775807 by omega), if_pos (show 12 + x.size + 1 + y.size ≤ 9223372036854775807 by omega), if_pos (show 12 + x.size + 1 + y.size + 1 ≤ 9223372036854775807 by omega), if_pos (show 12 + x.size + 1 + y.size + 1 + z.size ≤ 9223372036854775807 by omega)]
  cases hostB x <;> cases accountB y <;> cases queueB z <;> simp
theorem seq7 : ticket_Sequence.f 7 = some ⟨#[48, 48, 48, 48, 48, 48, 48, 48, 48, 48, 48, 48, 48, 48, 48, 48, 48, 48, 48, 55]⟩ := by
  unfold ticket_Sequence.f basic_Pad.f basic_Itoa.f
  rw [if_pos (by omega)]
  simp only [Option.bind_some]
  rw [if_neg (by omega)]
  simp only [Lib.itoa]
  rw [if_neg (by omega), show (7 : Int).toNat = 7 from rfl, Lib.decDigits_one (by omega)]
  decide +kernel
theorem works_eq (k : Nat) (hk : 100 < k) : racewaylaw27_works.f k = some true := by
  unfold racewaylaw27_works.f
  rw [ticket_Url_eq _ _ _ (by decide +kernel) (by decide +kernel) (by decide +kernel) k (Nat.lt_of_le_of_lt (by decide +kernel) hk), ticket_Url_eq _ _ _ (by decide +kernel) (by decide +kernel) (by decide +kernel) k (Nat.lt_of_le_of_lt (by decide +kernel) hk), seq7]
  simp only [Option.bind_some]
  decide +kernel
end Go.Proofs.YtedfgkjimnjdpaaDoor.X
