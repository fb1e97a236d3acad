/-
  The chapter's example of the law's own works answers true.
-/
import Derived.Test.YtolpefnedpgaaaaDoorX7
import Derived.Test.YtolpefnedpgaaaaDoorExtPureTypes
namespace Go.Proofs.YtolpefnedpgaaaaDoor.X
open Go.RowKit Go.Proofs.YtolpefnedpgaaaaDoorW.PrintWords Go.Proofs.YtolpefnedpgaaaaDoorW.PrintMore
set_option linter.unusedVariables false
set_option linter.unusedSimpArgs false
theorem hexL_length : ∀ l : List Int, (hexL l).length = 2 * l.length
  | [] => rfl
  | x :: l => by
    have := hexL_length l
    unfold hexL at this ⊢
    simp only [List.flatMap_cons, List.length_append, this, List.length_cons, List.length_nil]
    omega
theorem outL_length : ∀ l : List Int, (outL l).length = 4 * l.length
  | [] => rfl
  | x :: l => by
    have := outL_length l
    unfold outL at this ⊢
    simp only [List.flatMap_cons, List.length_append, this, List.length_cons, List.length_nil]
    omega
theorem sum_length {s : Fp} (h : s.Ok) : s.sum.length = 16 := by
  unfold Fp.sum
  rw [outL_length]
  have : s.fin.Ok := by unfold Fp.fin; exact Fp.bytes_ok (Fp.bytes_ok (Fp.byte_ok h _) _) _
  rw [this.1]
theorem strOfNums_size (l : List Int) : (strOfNums l).size = l.length := by
  unfold strOfNums
  show Array.size _ = _
  simp
theorem sum_one (k : Nat) (x : S33) (hx : small33 x) (hk : x.f1.size + 13 < k) : ∃ r, attribute_Sum.f k [x] = some r ∧ r.size = 32 := by
  unfold attribute_Sum.f
  rw [if_neg (by simp), if_pos (by simp), show sortA [x] = [x] from rfl]
  unfold sumAll sumStep
  rw [if_pos hx, Type_eq x.f1 (by have := hx.2.1; omega) k hk]
  refine ⟨_, rfl, ?_⟩
  rw [strOfNums_size, hexL_length, sum_length]
  exact Fp.text_ok (Fp.bytes_ok (Fp.text_ok (Fp.text_ok fp0_ok _) _) _) _
theorem works_eq (k : Nat) (hk : 4000 < k) : racewaylaw24_works.f k = some true := by
  unfold racewaylaw24_works.f
  rw [Type_eq _ (by decide) k (by show 10 + 13 < k; omega), Name_eq _ (by decide) k (by show 3 + 20 < k; omega), Name_eq _ (by decide) k (by show 4 + 20 < k; omega), Name_eq _ (by decide) k (by show 5 + 20 < k; omega), Number_eq _ (by decide) k (by omega)]
  obtain ⟨r, h1, h2⟩ := sum_one k ⟨⟨#[97]⟩, ⟨#[83, 116, 114, 105, 110, 103]⟩, ⟨#[120]⟩⟩ (by decide) (by show 6 + 13 < k; omega)
  rw [h1]
  rw [show typeF ⟨#[78, 117, 109, 98, 101, 114, 46, 105, 110, 116]⟩ kindsL 3 0 = (2, true) by decide +kernel]
  rw [show nameB ⟨#[97, 46, 98]⟩ = true by decide +kernel, show nameB ⟨#[97, 46, 46, 98]⟩ = false by decide +kernel, show nameB ⟨#[65, 87, 83, 46, 120]⟩ = false by decide +kernel]
  rw [show numA (⟨#[45, 49, 46, 53, 101, 51]⟩ : ByteArray).data.toList = true by decide +kernel]
  simp only [Option.bind_some, if_true, Bool.false_eq_true, if_false]
  rw [h2]
  rfl
end Go.Proofs.YtolpefnedpgaaaaDoor.X
