/-
  Numbers written and read: what is written is read as it was; padded ones stand in the order of the numbers.
-/
import Derived.Test.YtedfgkjimnjdpaaDoorExtAtoi
import Derived.Test.YtedfgkjimnjdpaaDoorExtPad
import Derived.Lib.TrimByte
namespace Go.Proofs.YtedfgkjimnjdpaaDoor.X
open Go.RowKit Go.Proofs.YtedfgkjimnjdpaaDoorW.PrintWords Go.Proofs.YtedfgkjimnjdpaaDoorW.PrintMore
set_option linter.unusedVariables false
set_option linter.unusedSimpArgs false
theorem byte48 (q : Nat) (h : q < 10) : (UInt8.ofNat (48 + q)).toNat = 48 + q := by rw [UInt8.toNat_ofNat']; omega
theorem dec_step (u : Nat) : Lib.decDigits u = if u < 10 then [UInt8.ofNat (48 + u)] else Lib.decDigits (u / 10) ++ [UInt8.ofNat (48 + u % 10)] := by
  rw [Lib.decDigits]
  split <;> rfl
theorem dec_val : ∀ (n u : Nat), u < n → digVal 0 (Lib.decDigits u) = some u
  | 0, u, h => by omega
  | n + 1, u, h => by
    rw [dec_step]
    split
    · rename_i h10
      simp only [digVal]
      rw [byte48 u h10, if_pos (by omega)]
      congr 1
      omega
    · rename_i h10
      rw [digVal_snoc, dec_val n (u / 10) (by omega), Option.bind_some, byte48 _ (by omega), if_pos (by omega)]
      congr 1
      omega
theorem dec_head : ∀ (n u : Nat), u < n → ∃ c r, Lib.decDigits u = c :: r ∧ 48 ≤ c.toNat ∧ c.toNat ≤ 57 ∧ (c = 48 → u = 0)
  | 0, u, h => by omega
  | n + 1, u, h => by
    rw [dec_step]
    split
    · rename_i h10
      refine ⟨_, _, rfl, by rw [byte48 u h10]; omega, by rw [byte48 u h10]; omega, fun e => ?_⟩
      have := congrArg UInt8.toNat e
      rw [byte48 u h10] at this
      have h48 : (48 : UInt8).toNat = 48 := rfl
      omega
    · rename_i h10
      obtain ⟨c, r, e, h1, h2, h3⟩ := dec_head n (u / 10) (by omega)
      rw [e]
      exact ⟨c, r ++ [UInt8.ofNat (48 + u % 10)], rfl, h1, h2, fun hc => by have := h3 hc; omega⟩
theorem dec_len : ∀ (k u : Nat), u < 10 ^ (k + 1) → (Lib.decDigits u).length ≤ k + 1
  | 0, u, h => by
    rw [dec_step, if_pos (by simpa using h)]
    simp
  | k + 1, u, h => by
    rw [dec_step]
    split
    · simp
    · have := dec_len k (u / 10) (by rw [Nat.pow_succ] at h; omega)
      simp only [List.length_append, List.length_cons, List.length_nil]
      omega
theorem dec_len19 (u : Nat) (h : u ≤ 9223372036854775808) : (Lib.decDigits u).length ≤ 19 := by
  have h1 : u < 10 ^ (18 + 1) := by
    have : (10 : Nat) ^ (18 + 1) = 10000000000000000000 := by decide
    omega
  exact dec_len 18 u h1
theorem atoi_itoa (n : Int) (h0 : -9223372036854775808 ≤ n) (h1 : n ≤ 9223372036854775807) : atoiB ⟨(Lib.itoa n).toArray⟩ = (n, 0) := by
  unfold atoiB
  simp only
  by_cases hn : n < 0
  · obtain ⟨m, rfl⟩ : ∃ m : Nat, n = -(m : Int) := ⟨n.natAbs, by omega⟩
    have e : Lib.itoa (-(m : Int)) = 45 :: Lib.decDigits m := by unfold Lib.itoa; rw [if_pos hn, Int.natAbs_neg, Int.natAbs_natCast]
    rw [e]
    have hp : Lib.hasPrefix (45 :: Lib.decDigits m) [45] = true := by simp [Lib.hasPrefix, List.isPrefixOf]
    have ht : Lib.trimPrefix (45 :: Lib.decDigits m) [45] = Lib.decDigits m := by unfold Lib.trimPrefix; rw [if_pos hp]; rfl
    rw [hp, ht]
    obtain ⟨c, r, hd, c1, c2, c3⟩ := dec_head (m + 1) m (by omega)
    unfold atoiT
    rw [if_neg]
    · rw [dec_val (m + 1) m (by omega)]
      simp only [if_true]
      rw [if_pos (by omega)]
    · have := dec_len19 m (by omega)
      rintro (h | h | ⟨h, _⟩)
      · rw [hd] at h; cases h
      · omega
      · rw [hd] at h
        have := c3 h
        omega
  · obtain ⟨m, rfl⟩ := Int.eq_ofNat_of_zero_le (show 0 ≤ n by omega)
    have e : Lib.itoa (m : Int) = Lib.decDigits m := by unfold Lib.itoa; rw [if_neg hn, Int.toNat_natCast]
    rw [e]
    obtain ⟨c, r, hd, c1, c2, c3⟩ := dec_head (m + 1) m (by omega)
    have hp : Lib.hasPrefix (Lib.decDigits m) [45] = false := by
      rw [hd]
      simp only [Lib.hasPrefix, List.isPrefixOf]
      have : (45 == c) = false := by
        rw [beq_eq_false_iff_ne]
        rintro rfl
        have h45 : (45 : UInt8).toNat = 45 := rfl
        omega
      rw [this]
      rfl
    have ht : Lib.trimPrefix (Lib.decDigits m) [45] = Lib.decDigits m := by unfold Lib.trimPrefix; rw [if_neg (by rw [hp]; simp)]
    rw [hp, ht]
    unfold atoiT
    rw [if_neg]
    · rw [dec_val (m + 1) m (by omega)]
      simp only [Bool.false_eq_true, if_false]
      rw [if_pos (by omega)]
    · have := dec_len19 m (by omega)
      rintro (h | h | ⟨h, h2⟩)
      · rw [hd] at h; cases h
      · omega
      · rw [hd] at h
        have h0 := c3 h
        subst h0
        simp only [Bool.false_eq_true, or_false] at h2
        have : (Lib.decDigits 0).length = 1 := by rw [dec_step]; rfl
        omega
/-- Digits at fixed places. -/
def fixD (u : Nat) : Nat → List UInt8
  | 0 => []
  | n + 1 => Lib.dg u n :: fixD u n
theorem fixD_len (u : Nat) : ∀ n, (fixD u n).length = n
  | 0 => rfl
  | n + 1 => by simp [fixD, fixD_len u n]
theorem fixD_eq (u : Nat) : ∀ n, fixD u n = (List.range n).map fun t => Lib.dg u (n - 1 - t)
  | 0 => rfl
  | n + 1 => by
    rw [fixD, fixD_eq u n, List.range_succ_eq_map]
    simp only [List.map_cons, List.map_map, Nat.add_sub_cancel, Nat.sub_zero]
    congr 1
    apply List.map_congr_left
    intro t _
    simp only [Function.comp]
    congr 1
    omega
theorem fixD_dec (u : Nat) : fixD u (Lib.nDigits u) = Lib.decDigits u := by rw [fixD_eq, Lib.decDigits_eq]
theorem fixD_more (u L : Nat) (h : u < 10 ^ L) : ∀ k, fixD u (L + k) = List.replicate k 48 ++ fixD u L
  | 0 => rfl
  | k + 1 => by
    rw [← Nat.add_assoc, fixD, fixD_more u L h k, List.replicate_succ, List.cons_append]
    congr 1
    unfold Lib.dg
    have : u < 10 ^ (L + k) := Nat.lt_of_lt_of_le h (Nat.pow_le_pow_right (by omega) (by omega))
    rw [Nat.div_eq_of_lt this]
    rfl
theorem less_fix (a b : Nat) : ∀ n, Op.bytesLess (fixD a n) (fixD b n) = decide (a % 10 ^ n < b % 10 ^ n)
  | 0 => by simp [fixD, Op.bytesLess, Nat.mod_one]
  | n + 1 => by
    rw [fixD, fixD, Op.bytesLess, less_fix a b n]
    have ha := Nat.mod_lt (a / 10 ^ n) (show 0 < 10 by omega)
    have hb := Nat.mod_lt (b / 10 ^ n) (show 0 < 10 by omega)
    have pa : a % 10 ^ (n + 1) = a % 10 ^ n + 10 ^ n * (a / 10 ^ n % 10) := by rw [Nat.pow_succ, Nat.mod_mul]
    have pb : b % 10 ^ (n + 1) = b % 10 ^ n + 10 ^ n * (b / 10 ^ n % 10) := by rw [Nat.pow_succ, Nat.mod_mul]
    rw [pa, pb]
    unfold Lib.dg
    have hp : 0 < 10 ^ n := Nat.pow_pos (by omega)
    have ma := Nat.mod_lt a hp
    have mb := Nat.mod_lt b hp
    generalize a % 10 ^ n = x at *
    generalize b % 10 ^ n = y at *
    generalize a / 10 ^ n % 10 = p at *
    generalize b / 10 ^ n % 10 = q at *
    generalize 10 ^ n = t at *
    have e1 : decide (UInt8.ofNat (48 + p) < UInt8.ofNat (48 + q)) = decide (p < q) := by
      rw [decide_eq_decide, UInt8.lt_iff_toNat_lt, byte48 p ha, byte48 q hb]
      omega
    have e2 : (UInt8.ofNat (48 + p) == UInt8.ofNat (48 + q)) = decide (p = q) := by
      by_cases h : p = q
      · subst h; simp
      · rw [decide_eq_false h, beq_eq_false_iff_ne]
        intro e
        have := congrArg UInt8.toNat e
        rw [byte48 p ha, byte48 q hb] at this
        omega
    rw [e1, e2]
    rcases Nat.lt_trichotomy p q with h | h | h
    · rw [decide_eq_true h, Bool.true_or]
      symm
      rw [decide_eq_true_iff]
      have : t * p + t ≤ t * q := by rw [← Nat.mul_succ]; exact Nat.mul_le_mul_left _ h
      omega
    · subst h
      rw [decide_eq_false (Nat.lt_irrefl p), decide_eq_true rfl, Bool.false_or, Bool.true_and, decide_eq_decide]
      omega
    · rw [decide_eq_false (by omega), decide_eq_false (by omega), Bool.false_and, Bool.or_false]
      symm
      rw [decide_eq_false_iff_not]
      have : t * q + t ≤ t * p := by rw [← Nat.mul_succ]; exact Nat.mul_le_mul_left _ h
      omega
/-- The sequence of a number from 0 on. -/
def seqB (a : Nat) : ByteArray := ⟨(fixD a 20).toArray⟩
theorem seqB_size (a : Nat) : (seqB a).size = 20 := by simp [seqB, ByteArray.size, fixD_len]
theorem nD_le (a : Nat) (h : a ≤ 9223372036854775807) : Lib.nDigits a ≤ 19 := by
  have := dec_len19 a (by omega)
  rw [Lib.decDigits_length] at this
  exact this
theorem pad_seq (a : Nat) (h : a ≤ 9223372036854775807) : basic_Pad.f (a : Int) 20 = some (seqB a) := by
  unfold basic_Pad.f basic_Itoa.f
  rw [if_pos (by omega)]
  simp only [Option.bind_some]
  rw [if_neg (by omega)]
  congr 1
  have e : Lib.itoa (a : Int) = Lib.decDigits a := by unfold Lib.itoa; rw [if_neg (by omega), Int.toNat_natCast]
  rw [e]
  unfold padB seqB
  have hL := nD_le a h
  have hs : (⟨(Lib.decDigits a).toArray⟩ : ByteArray).size = Lib.nDigits a := by simp [ByteArray.size, Lib.decDigits_length]
  have hp : (padN 20 (Lib.nDigits a)).toNat = 20 - Lib.nDigits a := by unfold padN; omega
  rw [hs, hp]
  have := fixD_more a (Lib.nDigits a) (Lib.lt_pow_nDigits a) (20 - Lib.nDigits a)
  rw [show Lib.nDigits a + (20 - Lib.nDigits a) = 20 by omega, fixD_dec] at this
  rw [this]
  obtain ⟨x⟩ : ∃ x : Unit, True := ⟨(), trivial⟩
  apply congrArg ByteArray.mk
  simp
theorem pad_neg (n : Int) (h0 : -9223372036854775808 ≤ n) (h1 : n < 0) : basic_Pad.f n 20 = some ⟨(Lib.itoa n).toArray⟩ := by
  unfold basic_Pad.f basic_Itoa.f
  rw [if_pos (by omega)]
  simp only [Option.bind_some]
  rw [if_pos h1]
theorem seq_less (a b : Nat) (ha : a ≤ 9223372036854775807) (hb : b ≤ 9223372036854775807) : Op.bytesLess (seqB a).toList (seqB b).toList = decide ((a : Int) < (b : Int)) := by
  rw [ByteArray.toList_eq, ByteArray.toList_eq]
  show Op.bytesLess (fixD a 20) (fixD b 20) = _
  rw [less_fix]
  have e : (10 : Nat) ^ 20 = 100000000000000000000 := by decide
  rw [Nat.mod_eq_of_lt (by omega), Nat.mod_eq_of_lt (by omega), decide_eq_decide]
  omega
theorem drop_pad (k : Nat) (l : List UInt8) : (List.replicate k 48 ++ l).dropWhile (· == 48) = l.dropWhile (· == 48) := by
  induction k with
  | zero => rfl
  | succ k ih => rw [List.replicate_succ, List.cons_append, List.dropWhile_cons]; simp [ih]
theorem seq_short (a : Nat) (ha : a ≤ 9223372036854775807) : Lib.trimLeftB ((fixD a 20).take 19) 48 ++ (fixD a 20).drop 19 = Lib.decDigits a := by
  have hL := nD_le a ha
  have hL1 := Lib.nDigits_pos a
  have hf := fixD_more a (Lib.nDigits a) (Lib.lt_pow_nDigits a) (20 - Lib.nDigits a)
  rw [show Lib.nDigits a + (20 - Lib.nDigits a) = 20 by omega, fixD_dec] at hf
  have hlen := Lib.decDigits_length a
  rw [hf, List.take_append, List.drop_append, List.length_replicate]
  rw [List.take_of_length_le (by simp; omega), List.drop_eq_nil_of_le (by simp; omega), List.nil_append]
  unfold Lib.trimLeftB
  rw [drop_pad, show 19 - (20 - Lib.nDigits a) = Lib.nDigits a - 1 by omega]
  obtain ⟨c, r, hd, c1, c2, c3⟩ := dec_head (a + 1) a (by omega)
  have hw : ((Lib.decDigits a).take (Lib.nDigits a - 1)).dropWhile (· == 48) = (Lib.decDigits a).take (Lib.nDigits a - 1) := by
    by_cases h1 : Lib.nDigits a = 1
    · rw [h1]; rfl
    · obtain ⟨t, ht⟩ : ∃ t, Lib.nDigits a - 1 = t + 1 := ⟨Lib.nDigits a - 2, by omega⟩
      rw [hd, ht, List.take_succ_cons, List.dropWhile_cons]
      have : (c == 48) = false := by
        rw [beq_eq_false_iff_ne]
        intro e
        have h0 := c3 e
        subst h0
        exact h1 (Lib.nDigits_small (by omega))
      rw [this]
      rfl
  rw [hw, List.take_append_drop]
end Go.Proofs.YtedfgkjimnjdpaaDoor.X
