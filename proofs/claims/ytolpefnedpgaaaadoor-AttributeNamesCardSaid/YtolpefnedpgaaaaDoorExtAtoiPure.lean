/-
  Reading a number of decimal digits: plain lists, no program.
-/
import Derived.Test.YtolpefnedpgaaaaDoorExtPureBase
import Derived.Lib.Strings
namespace Go.Proofs.YtolpefnedpgaaaaDoor.X
open Go.RowKit Go.Proofs.YtolpefnedpgaaaaDoorW.PrintWords Go.Proofs.YtolpefnedpgaaaaDoorW.PrintMore
set_option linter.unusedVariables false
set_option linter.unusedSimpArgs false
/-- The digits' value, if they all are digits. -/
def digVal : Nat → List UInt8 → Option Nat
  | u, [] => some u
  | u, c :: l => if 48 ≤ c.toNat ∧ c.toNat ≤ 57 then digVal (10 * u + (c.toNat - 48)) l else none
/-- The sign has been cut off. -/
def atoiT (m : Bool) (t : List UInt8) : Int × Int :=
  if t = [] ∨ 19 < t.length ∨ (t.headD 0 = 48 ∧ (1 < t.length ∨ m = true)) then (0, 5)
  else match digVal 0 t with
    | none => (0, 5)
    | some u => if m = true then (if u ≤ 9223372036854775808 then (-(u : Int), 0) else (0, 5)) else (if u ≤ 9223372036854775807 then ((u : Int), 0) else (0, 5))
def atoiB (s : ByteArray) : Int × Int := atoiT (Lib.hasPrefix s.data.toList [45]) (Lib.trimPrefix s.data.toList [45])
theorem digVal_snoc (c : UInt8) : ∀ (l : List UInt8) (u : Nat), digVal u (l ++ [c]) = (digVal u l).bind fun v => if 48 ≤ c.toNat ∧ c.toNat ≤ 57 then some (10 * v + (c.toNat - 48)) else none
  | [], u => by simp [digVal]
  | d :: l, u => by
    simp only [List.cons_append, digVal]
    split
    · exact digVal_snoc c l _
    · rfl
theorem digVal_append (l2 : List UInt8) : ∀ (l : List UInt8) (u : Nat), digVal u (l ++ l2) = (digVal u l).bind fun v => digVal v l2
  | [], u => by simp [digVal]
  | d :: l, u => by
    simp only [List.cons_append, digVal]
    split
    · exact digVal_append l2 l _
    · rfl
theorem digVal_lt : ∀ (l : List UInt8) (u v : Nat), digVal u l = some v → v < (u + 1) * 10 ^ l.length
  | [], u, v, h => by simp [digVal] at h; subst h; simp
  | c :: l, u, v, h => by
    simp only [digVal] at h
    split at h
    · rename_i hc
      have := digVal_lt l _ v h
      simp only [List.length_cons, Nat.pow_succ]
      have h2 : (10 * u + (c.toNat - 48) + 1) * 10 ^ l.length ≤ (u + 1) * (10 ^ l.length * 10) := by
        rw [Nat.mul_comm (10 ^ l.length) 10, ← Nat.mul_assoc]
        exact Nat.mul_le_mul_right _ (by omega)
      omega
    · exact absurd h (by simp)
theorem take_succ_bytes (t : ByteArray) (k : Nat) (h : k < t.size) : t.data.toList.take (k + 1) = t.data.toList.take k ++ [t[k]'h] := by
  rw [List.take_succ_eq_append_getElem (by simpa using h)]; rfl
theorem digVal_stop (t : ByteArray) (k : Nat) (h : k < t.size) (hc : ¬ (48 ≤ (t[k]'h).toNat ∧ (t[k]'h).toNat ≤ 57)) : digVal 0 t.data.toList = none := by
  have e : t.data.toList = t.data.toList.take k ++ (t[k]'h :: t.data.toList.drop (k + 1)) := by
    have h' : k < t.data.toList.length := by simpa using h
    have h2 := List.drop_eq_getElem_cons h'
    have h3 : t.data.toList[k]'h' = t[k]'h := rfl
    rw [h3] at h2
    rw [← h2, List.take_append_drop]
  rw [e, digVal_append]
  cases digVal 0 (t.data.toList.take k) with
  | none => rfl
  | some v => simp only [Option.bind_some, digVal]; rw [if_neg hc]
theorem toList_ne (t : ByteArray) (h1 : 0 < t.size) : t.toList.isEmpty = false := by
  have h : t.toList = t.data.toList := ByteArray.toList_eq t
  rw [h]
  have : t.data.toList.length = t.size := by simp
  cases h2 : t.data.toList with
  | nil => rw [h2] at this; simp at this; omega
  | cons a b => rfl
theorem atoi_not (t : ByteArray) (m : Bool) (h1 : 0 < t.size) (h2 : t.size ≤ 19) (h3 : ((t[0]'h1).toNat : Int) ≠ 48) :
    ¬ (t.data.toList = [] ∨ 19 < t.data.toList.length ∨ (t.data.toList.headD 0 = 48 ∧ (1 < t.data.toList.length ∨ m = true))) := by
  have hl : t.data.toList.length = t.size := by simp
  rintro (h | h | ⟨h, _⟩)
  · rw [h] at hl; simp at hl; omega
  · omega
  · apply h3
    have e : t.data.toList.headD 0 = t[0]'h1 := by
      rw [List.headD_eq_head?_getD, List.head?_eq_getElem?, List.getElem?_eq_getElem (by omega)]
      rfl
    rw [← e, h]
    rfl
theorem trim_less (s : ByteArray) : decide ((Lib.trimPrefix s.data.toList [45]).length < s.size) = Lib.hasPrefix s.data.toList [45] := by
  have hl : s.data.toList.length = s.size := by simp
  unfold Lib.trimPrefix
  split
  · rename_i h
    rw [h, decide_eq_true_iff]
    simp only [List.length_drop, List.length_cons, List.length_nil]
    have : 0 < s.data.toList.length := by
      cases hd : s.data.toList with
      | nil => rw [hd] at h; simp [Lib.hasPrefix] at h
      | cons a b => simp
    omega
  · rename_i h
    rw [Bool.not_eq_true] at h
    rw [h, decide_eq_false_iff_not]
    omega
end Go.Proofs.YtolpefnedpgaaaaDoor.X
