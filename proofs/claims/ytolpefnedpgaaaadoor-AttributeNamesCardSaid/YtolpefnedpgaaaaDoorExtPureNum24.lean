/-
  Numbers, names and types of attributes over lists of bytes: that the document's reading sign by sign is the same as cutting at the exponent and at the point: no program.
-/
import Derived.Test.YtolpefnedpgaaaaDoorExtAtoiPure
import Derived.Lib.IndexBytes
import Derived.Lib.IndexMore
import Derived.Lib.Replace
namespace Go.Proofs.YtolpefnedpgaaaaDoor.X
open Go.RowKit Go.Proofs.YtolpefnedpgaaaaDoorW.PrintWords Go.Proofs.YtolpefnedpgaaaaDoorW.PrintMore
set_option linter.unusedVariables false
set_option linter.unusedSimpArgs false
def dig (c : UInt8) : Bool := decide (48 ≤ c.toNat) && decide (c.toNat ≤ 57)
def dp (c : UInt8) : Bool := c == 46 || dig c
theorem dig_46 : dig 46 = false := by decide
theorem dig_ne {c : UInt8} (h : dig c = true) : c ≠ 46 ∧ c ≠ 69 ∧ c ≠ 101 ∧ c ≠ 43 ∧ c ≠ 45 := by
  refine ⟨?_, ?_, ?_, ?_, ?_⟩ <;> (rintro rfl; revert h; decide)
def unsign : List UInt8 → List UInt8
  | [] => []
  | c :: l => if c = 43 ∨ c = 45 then l else c :: l
def mostOf : List UInt8 → Nat
  | [] => 126
  | c :: _ => if c = 45 then 128 else 126
def expoL (most : Nat) : List UInt8 → Nat → Nat → Bool
  | [], k, v => decide (1 ≤ k) && decide (k ≤ 3) && decide (v ≤ most)
  | c :: l, k, v => if dig c = true ∧ k < 4 then expoL most l (k + 1) (10 * v + (c.toNat - 48)) else false
def tailR (r : List UInt8) (n p : Nat) : Bool :=
  if n < 1 ∨ 38 < n ∨ 1 < p then false else match r with
    | [] => true
    | c :: r' => if c = 101 ∨ c = 69 then expoL (mostOf r') (unsign r') 0 0 else false
def scanR : List UInt8 → Nat → Nat → Bool
  | [], n, p => tailR [] n p
  | c :: l, n, p => if c = 46 then scanR l n (p + 1) else if dig c = true then scanR l (n + 1) p else tailR (c :: l) n p
/-- The document's number. -/
def numR (l : List UInt8) : Bool := scanR (unsign l) 0 0
def digs (m : Nat) (l : List UInt8) : Bool := decide (1 ≤ l.length) && decide (l.length ≤ m) && l.all dig
def atoiL (l : List UInt8) : Int := (atoiT (Lib.hasPrefix l [45]) (Lib.trimPrefix l [45])).1
def trim0 (l : List UInt8) : List UInt8 := l.dropWhile (· == 48)
def valA (x : List UInt8) : Int := atoiL (trim0 (x.take (x.length - 1)) ++ x.drop (x.length - 1))
/-- The code's number. -/
def numA (l : List UInt8) : Bool :=
  let c := Lib.cut (Lib.replace l [69] [101] 1) [101]
  let d := Lib.cut (unsign c.1) [46]
  if digs 38 (d.1 ++ d.2.1) = true then
    if c.2.2 = true then
      if digs 3 (unsign c.2.1) = true then decide (valA (unsign c.2.1) ≤ (mostOf c.2.1 : Int)) else false
    else true
  else false
def cut1 (c : UInt8) : List UInt8 → List UInt8 × List UInt8 × Bool
  | [] => ([], [], false)
  | b :: l => if b = c then ([], l, true) else (b :: (cut1 c l).1, (cut1 c l).2.1, (cut1 c l).2.2)
theorem cut_one (c : UInt8) : ∀ l, Lib.cut l [c] = cut1 c l
  | [] => by simp [Lib.cut, Lib.index, cut1]
  | b :: l => by
    have ih := cut_one c l
    unfold Lib.cut at ih ⊢
    rw [Lib.index_one] at ih ⊢
    unfold Lib.indexByte
    unfold cut1
    by_cases h : b = c
    · simp [h]
    · have h' : (b == c) = false := by simpa using h
      rw [h', if_neg h]
      simp only [Bool.false_eq_true, if_false]
      have hge := Lib.indexByte_ge l c
      by_cases h2 : Lib.indexByte l c = -1
      · rw [h2] at ih ⊢
        simp at ih ⊢
        rw [← ih]
        simp
      · have h3 : (Lib.indexByte l c == -1) = false := by simpa using h2
        rw [h3]
        simp only [Bool.false_eq_true, if_false]
        rw [if_pos (by omega)] at ih
        rw [if_pos (by omega), ← ih]
        have e : (Lib.indexByte l c + 1).toNat = (Lib.indexByte l c).toNat + 1 := by omega
        rw [e]
        simp [Nat.add_right_comm]
def rep1 : List UInt8 → List UInt8
  | [] => []
  | b :: l => if b = 69 then 101 :: l else b :: rep1 l
theorem rep1_index : ∀ l, rep1 l = if Lib.indexByte l 69 = -1 then l else l.take (Lib.indexByte l 69).toNat ++ [101] ++ l.drop ((Lib.indexByte l 69).toNat + 1)
  | [] => by simp [rep1, Lib.indexByte]
  | b :: l => by
    have ih := rep1_index l
    unfold rep1 Lib.indexByte
    by_cases h : b = 69
    · simp [h]
    · have h' : (b == 69) = false := by simpa using h
      rw [h', if_neg h]
      simp only [Bool.false_eq_true, if_false]
      have hge := Lib.indexByte_ge l 69
      by_cases h2 : Lib.indexByte l 69 = -1
      · rw [ih, h2]; simp
      · have h3 : (Lib.indexByte l 69 == -1) = false := by simpa using h2
        rw [h3]
        simp only [Bool.false_eq_true, if_false]
        rw [if_neg (by omega), ih, if_neg h2]
        have e : (Lib.indexByte l 69 + 1).toNat = (Lib.indexByte l 69).toNat + 1 := by omega
        rw [e]
        simp
theorem replace_one (l : List UInt8) : Lib.replace l [69] [101] 1 = rep1 l := by
  unfold Lib.replace
  rw [if_neg (by decide), rep1_index]
  have hge := Lib.indexByte_ge l 69
  have hi := Lib.index_one l 69
  unfold Lib.replaceNum Lib.count Lib.countFrom
  rw [hi]
  by_cases h : Lib.indexByte l 69 = -1
  · rw [h]
    simp [Lib.replaceK]
  · have h3 : (Lib.indexByte l 69 == -1) = false := by simpa using h
    rw [h3, if_neg h]
    simp only [Bool.false_eq_true, if_false]
    rw [if_neg (by omega)]
    show Lib.replaceK [69] [101] 1 l = _
    unfold Lib.replaceK
    rw [hi, h3]
    simp only [Bool.false_eq_true, if_false, Lib.replaceK]
    rfl
def es : List UInt8 → List UInt8 × Option (List UInt8)
  | [] => ([], none)
  | c :: l => if c = 101 ∨ c = 69 then ([], some l) else (c :: (es l).1, (es l).2)
theorem cut_rep : ∀ l, ∃ q, cut1 101 (rep1 l) = ((es l).1, q, (es l).2.isSome) ∧ ∀ r, (es l).2 = some r → q = r ∨ q = rep1 r
  | [] => ⟨[], rfl, fun r h => by simp [es] at h⟩
  | c :: l => by
    obtain ⟨q, h1, h2⟩ := cut_rep l
    rw [show rep1 (c :: l) = if c = 69 then 101 :: l else c :: rep1 l from rfl, show es (c :: l) = if c = 101 ∨ c = 69 then ([], some l) else (c :: (es l).1, (es l).2) from rfl]
    by_cases h : c = 69
    · subst h
      exact ⟨l, by simp [cut1], fun r hr => by simp at hr; exact .inl hr⟩
    · rw [if_neg h]
      by_cases h' : c = 101
      · subst h'
        exact ⟨rep1 l, by simp [cut1], fun r hr => by simp at hr; exact .inr (by rw [hr])⟩
      · rw [if_neg (by simp [h, h'])]
        refine ⟨q, ?_, h2⟩
        unfold cut1
        rw [if_neg h', h1]
theorem es_unsign (l : List UInt8) : es (unsign l) = (unsign (es l).1, (es l).2) := by
  cases l with
  | nil => rfl
  | cons c l =>
    by_cases h : c = 43 ∨ c = 45
    · have e : es (c :: l) = (c :: (es l).1, (es l).2) := by
        rw [es, if_neg]
        rcases h with rfl | rfl <;> decide
      rw [e]
      simp only [unsign, if_pos h]
    · simp only [unsign, if_neg h]
      by_cases h2 : c = 101 ∨ c = 69
      · rw [es, if_pos h2]
      · rw [es, if_neg h2]
        simp only [unsign, if_neg h]
def tailN (n p : Nat) (o : Option (List UInt8)) : Bool :=
  if n < 1 ∨ 38 < n ∨ 1 < p then false else match o with
    | none => true
    | some r => expoL (mostOf r) (unsign r) 0 0
theorem scanR_eq : ∀ l n p, scanR l n p = if (es l).1.all dp = true then tailN (n + (es l).1.countP dig) (p + (es l).1.count 46) (es l).2 else false
  | [], n, p => by simp [scanR, es, tailR, tailN]
  | c :: l, n, p => by
    unfold scanR
    by_cases h : c = 46
    · subst h
      rw [if_pos rfl, scanR_eq l]
      have e : es (46 :: l) = (46 :: (es l).1, (es l).2) := by rw [es, if_neg (by decide)]
      rw [e]
      simp only [List.all_cons, List.countP_cons, List.count_cons, dig_46, show dp 46 = true by decide, Bool.true_and]
      simp only [Bool.false_eq_true, if_false, Nat.add_zero, beq_self_eq_true, if_true]
      rw [show p + 1 + (es l).1.count 46 = p + ((es l).1.count 46 + 1) by omega]
    · rw [if_neg h]
      by_cases hd : dig c = true
      · have hne := dig_ne hd
        rw [if_pos hd, scanR_eq l]
        have e : es (c :: l) = (c :: (es l).1, (es l).2) := by rw [es, if_neg (by simp [hne])]
        have hdp : dp c = true := by unfold dp; rw [hd]; simp
        have hcb : (c == 46) = false := by simpa using h
        rw [e]
        simp only [List.all_cons, List.countP_cons, List.count_cons, hd, hdp, hcb, Bool.true_and]
        simp only [Bool.false_eq_true, if_false, Nat.add_zero, if_true]
        rw [show n + 1 + (es l).1.countP dig = n + ((es l).1.countP dig + 1) by omega]
      · rw [if_neg hd]
        unfold tailR
        by_cases he : c = 101 ∨ c = 69
        · have e : es (c :: l) = ([], some l) := by rw [es, if_pos he]
          rw [e]
          simp only [List.all_nil, if_true, List.countP_nil, List.count_nil, Nat.add_zero, tailN, if_pos he]
          rfl
        · have e : es (c :: l) = (c :: (es l).1, (es l).2) := by rw [es, if_neg he]
          rw [e]
          have hdp : dp c = false := by
            unfold dp
            rw [Bool.or_eq_false_iff]
            exact ⟨by simpa using h, by simpa using hd⟩
          simp only [List.all_cons, hdp, Bool.false_and, Bool.false_eq_true, if_false, if_neg he]
          simp
def erase1 : List UInt8 → List UInt8
  | [] => []
  | c :: l => if c = 46 then l else c :: erase1 l
theorem cut_erase : ∀ l, (cut1 46 l).1 ++ (cut1 46 l).2.1 = erase1 l
  | [] => rfl
  | c :: l => by
    unfold cut1 erase1
    by_cases h : c = 46
    · rw [if_pos h, if_pos h]; rfl
    · rw [if_neg h, if_neg h]; simp [cut_erase l]
theorem all_dig_iff : ∀ l : List UInt8, l.all dig = (l.all dp && decide (l.count 46 = 0))
  | [] => rfl
  | c :: l => by
    have ih := all_dig_iff l
    simp only [List.all_cons, List.count_cons, ih]
    by_cases h : c = 46
    · subst h; simp [dig_46]
    · have hcb : (c == 46) = false := by simpa using h
      simp [hcb, dp, h]
      cases dig c <;> cases l.all dp <;> simp
theorem erase_all : ∀ l : List UInt8, (erase1 l).all dig = (l.all dp && decide (l.count 46 ≤ 1))
  | [] => rfl
  | c :: l => by
    unfold erase1
    by_cases h : c = 46
    · subst h
      rw [if_pos rfl, all_dig_iff]
      simp only [List.all_cons, List.count_cons, show dp 46 = true by decide, Bool.true_and, beq_self_eq_true, if_true]
      congr 1
      rw [decide_eq_decide]; omega
    · have ih := erase_all l
      have hcb : (c == 46) = false := by simpa using h
      rw [if_neg h]
      simp only [List.all_cons, List.count_cons, ih, hcb, Bool.false_eq_true, if_false, Nat.add_zero]
      have : dp c = dig c := by unfold dp; rw [hcb]; rfl
      rw [this]
      cases dig c <;> simp
theorem erase_count : ∀ l : List UInt8, (erase1 l).countP dig = l.countP dig
  | [] => rfl
  | c :: l => by
    unfold erase1
    by_cases h : c = 46
    · subst h; rw [if_pos rfl, List.countP_cons, dig_46]; simp
    · rw [if_neg h, List.countP_cons, List.countP_cons, erase_count l]
theorem digs_erase (m : List UInt8) : digs 38 (erase1 m) = (m.all dp && decide (m.count 46 ≤ 1) && decide (1 ≤ m.countP dig) && decide (m.countP dig ≤ 38)) := by
  unfold digs
  rw [erase_all]
  by_cases h : (m.all dp && decide (m.count 46 ≤ 1)) = true
  · have h2 : (erase1 m).all dig = true := by rw [erase_all]; exact h
    have h3 : (erase1 m).length = m.countP dig := by
      rw [← erase_count, eq_comm, List.countP_eq_length]
      intro a ha
      exact List.all_eq_true.1 h2 a ha
    rw [h3, h]
    simp
  · rw [Bool.not_eq_true] at h
    rw [h]
    simp
def val (v : Nat) (l : List UInt8) : Nat := l.foldl (fun u c => 10 * u + (c.toNat - 48)) v
theorem expoL_eq (M : Nat) : ∀ (x : List UInt8) (k v : Nat), k ≤ 4 → expoL M x k v = (x.all dig && decide (1 ≤ k + x.length) && decide (k + x.length ≤ 3) && decide (val v x ≤ M))
  | [], k, v, h => by simp only [expoL, val, List.all_nil, List.length_nil, Nat.add_zero, Bool.true_and, List.foldl_nil]; rfl
  | c :: l, k, v, h => by
    unfold expoL
    by_cases hd : dig c = true ∧ k < 4
    · rw [if_pos hd, expoL_eq M l (k + 1) _ (by omega)]
      simp only [List.all_cons, List.length_cons, hd.1, Bool.true_and]
      rw [show k + 1 + l.length = k + (l.length + 1) by omega]
      rfl
    · rw [if_neg hd]
      by_cases h2 : dig c = true
      · have h3 : ¬ k < 4 := fun h' => hd ⟨h2, h'⟩
        have : ¬ (k + (c :: l).length ≤ 3) := by simp only [List.length_cons]; omega
        rw [decide_eq_false this]; simp
      · rw [Bool.not_eq_true] at h2
        simp [h2]
theorem digVal_val : ∀ (l : List UInt8) (v : Nat), l.all dig = true → digVal v l = some (val v l)
  | [], v, _ => rfl
  | c :: l, v, h => by
    simp only [List.all_cons, Bool.and_eq_true] at h
    have hc : 48 ≤ c.toNat ∧ c.toNat ≤ 57 := by
      have := h.1
      unfold dig at this
      rw [Bool.and_eq_true, decide_eq_true_iff, decide_eq_true_iff] at this
      exact this
    unfold digVal
    rw [if_pos hc, digVal_val l _ h.2]
    rfl
theorem val_trim0 (m : List UInt8) : ∀ l : List UInt8, val 0 (trim0 l ++ m) = val 0 (l ++ m)
  | [] => rfl
  | c :: l => by
    unfold trim0
    rw [List.dropWhile_cons]
    by_cases h : c = 48
    · subst h
      simp only [beq_self_eq_true, if_true]
      rw [show (l.dropWhile (· == 48)) = trim0 l from rfl, val_trim0 m l]
      rfl
    · have : (c == 48) = false := by simpa using h
      rw [this]
      rfl
theorem trim0_head (l : List UInt8) : ∀ c r, trim0 l = c :: r → c ≠ 48 := by
  induction l with
  | nil => intro c r h; simp [trim0] at h
  | cons a l ih =>
    intro c r h
    unfold trim0 at h
    rw [List.dropWhile_cons] at h
    split at h
    · exact ih c r h
    · rename_i hh
      simp only [List.cons.injEq] at h
      rintro rfl
      exact hh (by simp [h.1])
theorem val_lt (l : List UInt8) (h : l.all dig = true) : val 0 l < 10 ^ l.length := by
  have := digVal_lt l 0 _ (digVal_val l 0 h)
  simpa using this
theorem atoiL_dig (l : List UInt8) (h : l.all dig = true) (h1 : 1 ≤ l.length) (h2 : l.length ≤ 18) (h3 : 1 < l.length → l.headD 0 ≠ 48) : atoiL l = (val 0 l : Int) := by
  have hp : Lib.hasPrefix l [45] = false := by
    cases l with
    | nil => rfl
    | cons c l =>
      simp only [List.all_cons, Bool.and_eq_true] at h
      have := (dig_ne h.1).2.2.2.2
      simp [Lib.hasPrefix, List.isPrefixOf, Ne.symm this]
  unfold atoiL
  have ht : Lib.trimPrefix l [45] = l := by unfold Lib.trimPrefix; rw [hp]; simp
  rw [hp, ht]
  unfold atoiT
  rw [if_neg, digVal_val l 0 h]
  · simp only [Bool.false_eq_true, if_false]
    rw [if_pos]
    have h4 := val_lt l h
    have : 10 ^ l.length ≤ 10 ^ 18 := Nat.pow_le_pow_right (by omega) h2
    have : (10 : Nat) ^ 18 = 1000000000000000000 := by decide
    omega
  · rintro (h4 | h4 | ⟨h4, h5⟩)
    · rw [h4] at h1; simp at h1
    · omega
    · rcases h5 with h5 | h5
      · exact h3 h5 h4
      · exact absurd h5 (by simp)
theorem valA_eq (x : List UInt8) (h : x.all dig = true) (h1 : 1 ≤ x.length) (h2 : x.length ≤ 3) : valA x = (val 0 x : Int) := by
  have hd : (x.drop (x.length - 1)).length = 1 := by simp; omega
  have hsub : ∀ c ∈ trim0 (x.take (x.length - 1)), c ∈ x := fun c hc => List.mem_of_mem_take ((List.dropWhile_sublist _).subset hc)
  have hlen : (trim0 (x.take (x.length - 1))).length ≤ x.length - 1 := by
    have := (List.dropWhile_sublist (l := x.take (x.length - 1)) (· == (48 : UInt8))).length_le
    unfold trim0
    simp at this ⊢
    omega
  unfold valA
  rw [atoiL_dig]
  · rw [val_trim0, List.take_append_drop]
  · rw [List.all_append, Bool.and_eq_true]
    exact ⟨List.all_eq_true.2 fun c hc => List.all_eq_true.1 h c (hsub c hc), List.all_eq_true.2 fun c hc => List.all_eq_true.1 h c (List.mem_of_mem_drop hc)⟩
  · simp; omega
  · simp only [List.length_append, hd]; omega
  · intro hgt
    cases ht : trim0 (x.take (x.length - 1)) with
    | nil => rw [ht] at hgt; simp only [List.nil_append, hd] at hgt; omega
    | cons c r => exact trim0_head _ c r ht
theorem expo_same (M : Nat) (x : List UInt8) : expoL M x 0 0 = if digs 3 x = true then decide (valA x ≤ (M : Int)) else false := by
  rw [expoL_eq M x 0 0 (by omega)]
  unfold digs
  simp only [Nat.zero_add]
  by_cases h : (decide (1 ≤ x.length) && decide (x.length ≤ 3) && x.all dig) = true
  · rw [if_pos h]
    simp only [Bool.and_eq_true, decide_eq_true_iff] at h
    rw [valA_eq x h.2 h.1.1 h.1.2, h.2, decide_eq_true h.1.1, decide_eq_true h.1.2]
    simp only [Bool.true_and]
    rw [decide_eq_decide]; omega
  · rw [if_neg h]
    rw [Bool.not_eq_true] at h
    have : (x.all dig && decide (1 ≤ x.length) && decide (x.length ≤ 3)) = false := by rw [← h, Bool.and_assoc, Bool.and_comm]
    rw [this]; rfl
theorem rep1_same : ∀ l : List UInt8, (69 : UInt8) ∉ l → rep1 l = l
  | [], _ => rfl
  | c :: l, h => by
    simp only [List.mem_cons, not_or] at h
    unfold rep1
    rw [if_neg (fun e => h.1 e.symm), rep1_same l h.2]
theorem digs_mem {m : Nat} {l : List UInt8} {c : UInt8} (hc : c ∈ l) (hd : dig c = false) : digs m l = false := by
  unfold digs
  rw [Bool.and_eq_false_iff]
  right
  rw [Bool.eq_false_iff]
  intro h
  rw [List.all_eq_true.1 h c hc] at hd
  exact absurd hd (by simp)
theorem mem_unsign {c : UInt8} (h1 : c ≠ 43) (h2 : c ≠ 45) (l : List UInt8) (h : c ∈ l) : c ∈ unsign l := by
  cases l with
  | nil => exact h
  | cons b l =>
    rw [show unsign (b :: l) = if b = 43 ∨ b = 45 then l else b :: l from rfl]
    by_cases hb : b = 43 ∨ b = 45
    · rw [if_pos hb]
      rcases List.mem_cons.1 h with rfl | h
      · rcases hb with hb | hb
        · exact absurd hb h1
        · exact absurd hb h2
      · exact h
    · rw [if_neg hb]
      exact h
theorem mem_rep1 : ∀ l : List UInt8, (69 : UInt8) ∈ l → (101 : UInt8) ∈ rep1 l
  | [], h => by simp at h
  | b :: l, h => by
    unfold rep1
    split
    · simp
    · rename_i hb
      rcases List.mem_cons.1 h with h | h
      · exact absurd h.symm hb
      · exact List.mem_cons_of_mem _ (mem_rep1 l h)
theorem expo_rep (q r : List UInt8) (h : q = r ∨ q = rep1 r) : (if digs 3 (unsign q) = true then decide (valA (unsign q) ≤ (mostOf q : Int)) else false) = expoL (mostOf r) (unsign r) 0 0 := by
  rw [expo_same]
  rcases h with rfl | rfl
  · rfl
  · by_cases h : (69 : UInt8) ∈ r
    · rw [digs_mem (mem_unsign (by decide) (by decide) _ (mem_rep1 r h)) (by decide), digs_mem (mem_unsign (by decide) (by decide) _ h) (by decide)]
      rfl
    · rw [rep1_same r h]
/-- Both numbers are one. -/
theorem numA_eq (l : List UInt8) : numA l = numR l := by
  unfold numA numR
  rw [replace_one, cut_one, scanR_eq, es_unsign]
  obtain ⟨q, h1, h2⟩ := cut_rep l
  rw [h1]
  simp only
  rw [cut_one, cut_erase, digs_erase]
  simp only [Nat.zero_add]
  by_cases ha : (unsign (es l).1).all dp = true
  · rw [ha, if_pos rfl]
    simp only [Bool.true_and]
    unfold tailN
    by_cases hb : (unsign (es l).1).countP dig < 1 ∨ 38 < (unsign (es l).1).countP dig ∨ 1 < (unsign (es l).1).count 46
    · rw [if_pos hb, if_neg]
      simp only [Bool.and_eq_true, decide_eq_true_iff]
      omega
    · rw [if_neg hb, if_pos (by simp only [Bool.and_eq_true, decide_eq_true_iff]; omega)]
      cases ho : (es l).2 with
      | none => rfl
      | some r => exact expo_rep q r (h2 r ho)
  · rw [Bool.not_eq_true] at ha
    rw [ha]
    simp
/-- Two points, one behind the other. -/
def dd : List UInt8 → Bool
  | a :: b :: l => (a == 46 && b == 46) || dd (b :: l)
  | _ => false
theorem contains_dd : ∀ l : List UInt8, Lib.contains l [46, 46] = dd l
  | [] => by simp [Lib.contains, Lib.index, dd]
  | [a] => by simp [Lib.contains, Lib.index, dd, List.isPrefixOf]
  | a :: b :: l => by
    have ih := contains_dd (b :: l)
    unfold Lib.contains at ih ⊢
    unfold dd
    rw [← ih, Lib.index]
    have hge := Lib.index_ge (b :: l) [46, 46]
    generalize Lib.index (b :: l) [46, 46] = x at *
    by_cases h : a = 46 ∧ b = 46
    · rw [h.1, h.2]; simp [List.isPrefixOf]
    · have e : (a == 46 && b == 46) = false := by
        rw [Bool.and_eq_false_iff, beq_eq_false_iff_ne, beq_eq_false_iff_ne]
        by_cases h1 : a = 46
        · exact .inr fun h2 => h ⟨h1, h2⟩
        · exact .inl h1
      rw [e, Bool.false_or]
      have e2 : List.isPrefixOf [46, 46] (a :: b :: l) = false := by
        simp only [List.isPrefixOf, Bool.and_true]
        rw [← e, Bool.beq_comm (a := a), Bool.beq_comm (a := b)]
      rw [e2]
      simp only [Bool.false_eq_true, if_false]
      rw [decide_eq_decide]
      split
      · rename_i hx
        have := beq_iff_eq.1 hx
        omega
      · rename_i hx
        have : x ≠ -1 := fun e => hx (by rw [e]; rfl)
        omega
end Go.Proofs.YtolpefnedpgaaaaDoor.X
