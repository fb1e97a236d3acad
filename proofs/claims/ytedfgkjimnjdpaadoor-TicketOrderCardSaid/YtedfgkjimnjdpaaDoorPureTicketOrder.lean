/-
  racewaylaw27.TicketOrder answers true for every two numbers: sequences stand in the order of their numbers and are read as they were.
-/
import Derived.Test.YtedfgkjimnjdpaaDoorX
import Derived.DataShut
import Derived.Test.YtedfgkjimnjdpaaDoorExtPureSeq
import Derived.Test.YtedfgkjimnjdpaaDoorExtPureWorks
namespace Go.Proofs.YtedfgkjimnjdpaaDoor.Pure
open Go.RowKit Go.Proofs.YtedfgkjimnjdpaaDoor.X Go.Proofs.YtedfgkjimnjdpaaDoorW.PrintWords Go.Proofs.YtedfgkjimnjdpaaDoorW.PrintLast Go.Proofs.YtedfgkjimnjdpaaDoorW.PrintMore
set_option linter.unusedVariables false
set_option linter.unusedSimpArgs false
theorem seq_eq (a : Nat) (h : a ≤ 9223372036854775807) : ticket_Sequence.f (a : Int) = some (seqB a) := by
  unfold ticket_Sequence.f
  rw [pad_seq a h]
  rfl
theorem seq_neg (n : Int) (h0 : -9223372036854775808 ≤ n) (h1 : n < 0) : ticket_Sequence.f n = some ⟨(Lib.itoa n).toArray⟩ := by
  unfold ticket_Sequence.f
  rw [pad_neg n h0 h1]
  rfl
theorem ext_list (a : ByteArray) (i j : Nat) : (a.extract i j).data.toList = (a.data.toList.take j).drop i := by
  simp [List.drop_take, List.extract]
theorem unseq (a : Nat) (h : a ≤ 9223372036854775807) : ticket_Unsequence.f (seqB a) = some ((a : Int), 0) := by
  unfold ticket_Unsequence.f
  have hz := seqB_size a
  rw [if_pos (by omega), if_pos (by omega), if_pos (by omega)]
  have e1 : strings_TrimLeft.f ((seqB a).extract 0 19) ⟨#[48]⟩ = some ⟨(Lib.trimLeftB ((fixD a 20).take 19) 48).toArray⟩ := by
    unfold strings_TrimLeft.f
    rw [ext_list]
    rfl
  rw [e1]
  simp only [Option.bind_some]
  have e2 : (⟨(Lib.trimLeftB ((fixD a 20).take 19) 48).toArray⟩ : ByteArray) ++ (seqB a).extract 19 (seqB a).size = ⟨(Lib.itoa (a : Int)).toArray⟩ := by
    have e : Lib.itoa (a : Int) = Lib.decDigits a := by unfold Lib.itoa; rw [if_neg (by omega), Int.toNat_natCast]
    rw [e, ← seq_short a h]
    have : ((seqB a).extract 19 (seqB a).size).data.toList = (fixD a 20).drop 19 := by
      rw [ext_list, hz]
      show ((fixD a 20).take 20).drop 19 = _
      rw [List.take_of_length_le (by rw [fixD_len]; omega)]
    apply ByteArray.ext
    apply Array.ext'
    rw [ByteArray.data_append, Array.toList_append, this]
  have hl : (⟨(Lib.trimLeftB ((fixD a 20).take 19) 48).toArray⟩ : ByteArray).size + ((seqB a).extract 19 (seqB a).size).size ≤ 9223372036854775807 := by
    rw [← ByteArray.size_append, e2]
    have e : Lib.itoa (a : Int) = Lib.decDigits a := by unfold Lib.itoa; rw [if_neg (by omega), Int.toNat_natCast]
    rw [e]
    have := nD_le a h
    have h2 := Lib.decDigits_length a
    show (Lib.decDigits a).toArray.size ≤ _
    simp
    omega
  rw [if_pos hl, e2]
  have e3 : basic_Atoi.f ⟨(Lib.itoa (a : Int)).toArray⟩ = some ((a : Int), 0) := by
    unfold basic_Atoi.f
    rw [atoi_itoa (a : Int) (by omega) (by omega)]
  rw [e3]
  simp only [Option.bind_some, if_true]
  rw [if_neg (by omega), seq_eq a h]
  simp
theorem unseq_neg (n : Int) (h0 : -9223372036854775808 ≤ n) (h1 : n < 0) : ∃ m, ticket_Unsequence.f ⟨(Lib.itoa n).toArray⟩ = some (m, 5) := by
  obtain ⟨m, rfl⟩ : ∃ m : Nat, n = -(m : Int) := ⟨n.natAbs, by omega⟩
  have e : Lib.itoa (-(m : Int)) = 45 :: Lib.decDigits m := by unfold Lib.itoa; rw [if_pos h1, Int.natAbs_neg, Int.natAbs_natCast]
  unfold ticket_Unsequence.f
  split
  · rename_i hs
    rw [if_pos (by omega), if_pos (by omega)]
    have hlen : (45 :: Lib.decDigits m).length = 20 := by
      have : (⟨(Lib.itoa (-(m : Int))).toArray⟩ : ByteArray).size = (Lib.itoa (-(m : Int))).length := by simp [ByteArray.size]
      rw [this, e] at hs
      omega
    have e1 : strings_TrimLeft.f ((⟨(Lib.itoa (-(m : Int))).toArray⟩ : ByteArray).extract 0 19) ⟨#[48]⟩ = some ⟨((Lib.itoa (-(m : Int))).take 19).toArray⟩ := by
      unfold strings_TrimLeft.f
      rw [ext_list]
      show some _ = _
      congr 2
      show (Lib.trimLeftB ((Lib.itoa (-(m : Int))).take 19) 48).toArray = _
      rw [e]
      rfl
    rw [e1]
    simp only [Option.bind_some]
    have e2 : (⟨((Lib.itoa (-(m : Int))).take 19).toArray⟩ : ByteArray) ++ (⟨(Lib.itoa (-(m : Int))).toArray⟩ : ByteArray).extract 19 (⟨(Lib.itoa (-(m : Int))).toArray⟩ : ByteArray).size = ⟨(Lib.itoa (-(m : Int))).toArray⟩ := by
      have : ((⟨(Lib.itoa (-(m : Int))).toArray⟩ : ByteArray).extract 19 (⟨(Lib.itoa (-(m : Int))).toArray⟩ : ByteArray).size).data.toList = (Lib.itoa (-(m : Int))).drop 19 := by
        rw [ext_list]
        have hz : (⟨(Lib.itoa (-(m : Int))).toArray⟩ : ByteArray).size = (Lib.itoa (-(m : Int))).length := by simp [ByteArray.size]
        rw [hz]
        show ((Lib.itoa (-(m : Int))).take _).drop 19 = _
        rw [List.take_length]
      apply ByteArray.ext
      apply Array.ext'
      rw [ByteArray.data_append, Array.toList_append, this]
      exact List.take_append_drop _ _
    have hl : (⟨((Lib.itoa (-(m : Int))).take 19).toArray⟩ : ByteArray).size + ((⟨(Lib.itoa (-(m : Int))).toArray⟩ : ByteArray).extract 19 (⟨(Lib.itoa (-(m : Int))).toArray⟩ : ByteArray).size).size ≤ 9223372036854775807 := by
      rw [← ByteArray.size_append, e2]
      omega
    rw [if_pos hl, e2]
    have e3 : basic_Atoi.f ⟨(Lib.itoa (-(m : Int))).toArray⟩ = some (-(m : Int), 0) := by
      unfold basic_Atoi.f
      rw [atoi_itoa _ h0 (by omega)]
    rw [e3]
    simp only [Option.bind_some, if_true]
    rw [if_pos h1]
    exact ⟨_, rfl⟩
  · exact ⟨_, rfl⟩
theorem TicketOrder : racewaylaw27_TicketOrder.Pure := by
  intro a b ha hb
  have ha := (Lit.wf_int_iff .i64 a).1 ha
  have hb := (Lit.wf_int_iff .i64 b).1 hb
  have emin : IntKind.i64.min = -9223372036854775808 := by decide
  have emax : IntKind.i64.max = 9223372036854775807 := by decide
  rw [emin, emax] at ha hb
  refine ⟨2001, ?_⟩
  have w := works_eq 2000 (by omega)
  have neg : (a < 0 ∨ b < 0) → racewaylaw27_TicketOrder.j0 2001 a b true = some true := by
    intro h
    simp only [racewaylaw27_TicketOrder.j0, if_true]
    have hm := mn_cases a b
    have h2 := mn_le_left a b
    have h3 := mn_le_right a b
    rw [seq_neg (mn a b) (by omega) (by omega)]
    simp only [Option.bind_some]
    obtain ⟨m, e⟩ := unseq_neg (mn a b) (by omega) (by omega)
    rw [e]
    simp only [Option.bind_some, if_true]
    rw [w]
    rfl
  unfold racewaylaw27_TicketOrder.f
  by_cases h1 : a < 0
  · rw [if_pos h1]
    exact neg (.inl h1)
  · rw [if_neg h1]
    by_cases h2 : b < 0
    · rw [decide_eq_true h2]
      exact neg (.inr h2)
    · rw [decide_eq_false h2]
      obtain ⟨x, rfl⟩ := Int.eq_ofNat_of_zero_le (show 0 ≤ a by omega)
      obtain ⟨y, rfl⟩ := Int.eq_ofNat_of_zero_le (show 0 ≤ b by omega)
      simp only [racewaylaw27_TicketOrder.j0, Bool.false_eq_true, if_false]
      rw [seq_eq x (by omega), seq_eq y (by omega)]
      simp only [Option.bind_some]
      rw [unseq x (by omega)]
      simp only [Option.bind_some]
      rw [seq_less x y (by omega) (by omega), seqB_size, w]
      simp
end Go.Proofs.YtedfgkjimnjdpaaDoor.Pure
