/-
  Names, types and numbers of attributes: what the program's functions and the document's come to, as plain Lean functions, and that both are the same.
-/
import Derived.Test.YtolpefnedpgaaaaDoorX4
import Derived.Test.YtolpefnedpgaaaaDoorExtPureNum24
namespace Go.Proofs.YtolpefnedpgaaaaDoor.X
open Go.RowKit Go.Proofs.YtolpefnedpgaaaaDoorW.PrintWords Go.Proofs.YtolpefnedpgaaaaDoorW.PrintMore
set_option linter.unusedVariables false
set_option linter.unusedSimpArgs false
def inB (l : ByteArray) (c : Int) : Bool := decide (0 ≤ Lib.indexByte l.data.toList c.toNat.toUInt8)
def digitI (c : Int) : Bool := decide (48 ≤ c) && decide (c ≤ 57)
def letterI (c : Int) : Bool := digitI c || (decide (97 ≤ c) && decide (c ≤ 122)) || (decide (65 ≤ c) && decide (c ≤ 90)) || decide (c = 95) || decide (c = 45) || decide (c = 46)
theorem at_drop (s : ByteArray) (i : Nat) (h : i < s.size) : ∃ c : UInt8, s.data.toList.drop i = c :: s.data.toList.drop (i + 1) ∧ bt s (i : Int) = (c.toNat : Int) :=
  ⟨s[i]'h, List.drop_eq_getElem_cons (by simpa using h), q_bt s i h⟩
theorem drop_all (s : ByteArray) (i : Nat) (h : s.size ≤ i) : s.data.toList.drop i = [] := by rw [List.drop_eq_nil_iff]; simpa using h
theorem allD_list (p : Int → Bool) (s : ByteArray) : ∀ (d i : Nat), i + d = s.size → allD p s d i = (s.data.toList.drop i).all fun c => p (c.toNat : Int)
  | 0, i, h => by rw [drop_all s i (by omega)]; rfl
  | d + 1, i, h => by
    obtain ⟨c, hc, hb⟩ := at_drop s i (by omega)
    rw [hc, allD, hb, List.all_cons, allD_list p s d (i + 1) (by omega)]
theorem all_l0 (s x1 : ByteArray) (hs : s.size ≤ 1000000) : ∀ (d k i : Nat), i + d = s.size → d < k → attribute_all.l0 k s x1 (s.size : Int) (i : Int) = some (allD (inB x1) s d i) := by
  intro d
  induction d with
  | zero =>
    intro k i h hk
    obtain ⟨k, rfl⟩ : ∃ m, k = m + 1 := ⟨k - 1, by omega⟩
    simp only [attribute_all.l0, allD]
    rw [if_neg (by omega)]
  | succ d ih =>
    intro k i h hk
    obtain ⟨k, rfl⟩ : ∃ m, k = m + 1 := ⟨k - 1, by omega⟩
    simp only [attribute_all.l0, allD, strings_IndexByte.f, Option.bind_some]
    rw [if_pos (by omega), if_pos (by omega), if_pos (by omega), w64 (by omega) (by omega), show ((i : Int) + 1) = ((i + 1 : Nat) : Int) by omega, ih k (i + 1) (by omega) (by omega)]
    unfold inB
    by_cases hb : Lib.indexByte x1.data.toList (bt s (i : Int)).toNat.toUInt8 < 0
    · rw [if_pos hb, decide_eq_false (by omega)]; rfl
    · rw [if_neg hb, decide_eq_true (by omega)]; rfl
theorem all_eq (s l : ByteArray) (m : Nat) (hs : s.size ≤ 1000000) (k : Nat) (hk : s.size + 2 < k) :
    attribute_all.f k s l (m : Int) = some (decide (1 ≤ s.size) && decide (s.size ≤ m) && allD (inB l) s s.size 0) := by
  unfold attribute_all.f
  obtain ⟨k, rfl⟩ : ∃ m, k = m + 1 := ⟨k - 1, by omega⟩
  by_cases h1 : (s.size : Int) < 1
  · rw [if_pos h1, decide_eq_false (p := 1 ≤ s.size) (by omega)]; simp [attribute_all.j0]
  · rw [if_neg h1, decide_eq_true (p := 1 ≤ s.size) (by omega)]
    by_cases h2 : (s.size : Int) > m
    · rw [decide_eq_true (p := (s.size : Int) > m) h2, decide_eq_false (p := s.size ≤ m) (by omega)]; simp [attribute_all.j0]
    · rw [decide_eq_false (p := (s.size : Int) > m) h2, decide_eq_true (p := s.size ≤ m) (by omega)]
      simp only [attribute_all.j0, Bool.false_eq_true, if_false, Bool.true_and]
      exact all_l0 s l hs s.size k 0 (by omega) (by omega)
abbrev lettersB : ByteArray := ⟨#[65, 66, 67, 68, 69, 70, 71, 72, 73, 74, 75, 76, 77, 78, 79, 80, 81, 82, 83, 84, 85, 86, 87, 88, 89, 90, 97, 98, 99, 100, 101, 102, 103, 104, 105, 106, 107, 108, 109, 110, 111, 112, 113, 114, 115, 116, 117, 118, 119, 120, 121, 122, 48, 49, 50, 51, 52, 53, 54, 55, 56, 57, 95, 45, 46]⟩
abbrev digitsB : ByteArray := ⟨#[48, 49, 50, 51, 52, 53, 54, 55, 56, 57]⟩
theorem letters_in (c : Int) (h0 : 0 ≤ c) (h1 : c < 256) : inB lettersB c = letterI c := byte_eq (by decide +kernel) c h0 h1
theorem digits_in (c : Int) (h0 : 0 ≤ c) (h1 : c < 256) : inB digitsB c = digitI c := byte_eq (by decide +kernel) c h0 h1
theorem digitI_dig (c : UInt8) : digitI (c.toNat : Int) = dig c := by
  unfold digitI dig
  congr 1 <;> (rw [decide_eq_decide]; omega)
theorem digits_eq (s : ByteArray) (m : Nat) (hs : s.size ≤ 1000000) (k : Nat) (hk : s.size + 2 < k) : attribute_all.f k s ⟨#[48, 49, 50, 51, 52, 53, 54, 55, 56, 57]⟩ (m : Int) = some (digs m s.data.toList) := by
  rw [all_eq s _ m hs k hk, allD_congr digits_in, allD_list _ _ _ _ (by omega)]
  unfold digs
  simp only [List.drop_zero, digitI_dig]
  have : s.data.toList.length = s.size := by simp
  rw [this]
def letter8 (c : UInt8) : Bool := letterI (c.toNat : Int)
theorem letters_eq (s : ByteArray) (m : Nat) (hs : s.size ≤ 1000000) (k : Nat) (hk : s.size + 2 < k) : attribute_all.f k s lettersB (m : Int) = some (decide (1 ≤ s.data.toList.length) && decide (s.data.toList.length ≤ m) && s.data.toList.all letter8) := by
  rw [all_eq s _ m hs k hk, allD_congr letters_in, allD_list _ _ _ _ (by omega)]
  have : s.data.toList.length = s.size := by simp
  rw [this]
  rfl
theorem digit_eq (c : Int) : racewayref24_digit.f c = some (digitI c) := by
  unfold racewayref24_digit.f digitI
  split
  · rename_i h; rw [decide_eq_true (p := 48 ≤ c) (by omega)]; rfl
  · rename_i h; rw [decide_eq_false (p := 48 ≤ c) (by omega)]; rfl
theorem byte_opt {p : Int → Option Bool} {q : Int → Bool} (h : ∀ n : Fin 256, p (n.val : Int) = some (q (n.val : Int))) (c : Int) (h0 : 0 ≤ c) (h1 : c < 256) : p c = some (q c) := by
  obtain ⟨n, rfl⟩ := Int.eq_ofNat_of_zero_le h0
  exact h ⟨n, by omega⟩
theorem letter_eq (c : Int) (h0 : 0 ≤ c) (h1 : c < 256) : racewayref24_letter.f c = some (letterI c) := byte_opt (by decide +kernel) c h0 h1
theorem letter_bt (s : ByteArray) (i : Int) : racewayref24_letter.f (bt s i) = some (letterI (bt s i)) := letter_eq _ (bt_range s i).1 (bt_range s i).2
theorem digit_bt (s : ByteArray) (i : Int) : racewayref24_digit.f (bt s i) = some (digitI (bt s i)) := digit_eq _
-- begins
def smallI (c : Int) : Int := if c ≥ 65 then (if c ≤ 90 then (c + 32) % 256 else c) else c
def begD (s p : ByteArray) : Nat → Nat → Bool
  | 0, _ => true
  | d + 1, i => decide (smallI (bt s (i : Int)) = bt p (i : Int)) && begD s p d (i + 1)
def begB (s p : ByteArray) : Bool := decide (p.size ≤ s.size) && begD s p p.size 0
theorem begins_l0 (s p : ByteArray) (hp : p.size ≤ s.size) (hs : s.size ≤ 1000000) : ∀ (d k i : Nat), i + d = p.size → 2 * d + 1 < k → attribute_begins.l0 k s p (p.size : Int) (i : Int) = some (begD s p d i) := by
  intro d
  induction d with
  | zero =>
    intro k i h hk
    obtain ⟨k, rfl⟩ : ∃ m, k = m + 1 := ⟨k - 1, by omega⟩
    simp only [attribute_begins.l0, begD]
    rw [if_neg (by omega)]
  | succ d ih =>
    intro k i h hk
    obtain ⟨k, rfl⟩ : ∃ m, k = m + 2 := ⟨k - 2, by omega⟩
    simp only [attribute_begins.l0, begD]
    rw [if_pos (by omega), if_pos (by omega), if_pos (by omega)]
    have e : ∀ b, attribute_begins.j1 (k + 1) s p (i : Int) (bt s i) (p.size : Int) (i : Int) b = some (decide ((if b = true then (bt s i + 32) % 256 else bt s i) = bt p (i : Int)) && begD s p d (i + 1)) := by
      intro b
      simp only [attribute_begins.j1]
      cases b
      · simp only [Bool.false_eq_true, if_false]
        rw [if_pos (show (0 : Int) ≤ (i : Int) by omega), if_pos (show (i : Int) < (p.size : Int) by omega), w64 (by omega) (by omega), show ((i : Int) + 1) = ((i + 1 : Nat) : Int) by omega, ih k (i + 1) (by omega) (by omega)]
        by_cases hq : bt s (i : Int) = bt p (i : Int)
        · rw [if_pos hq, decide_eq_true hq]; rfl
        · rw [if_neg hq, decide_eq_false hq]; rfl
      · simp only [if_true]
        rw [if_pos (show (0 : Int) ≤ (i : Int) by omega), if_pos (show (i : Int) < (p.size : Int) by omega), w64 (by omega) (by omega), show ((i : Int) + 1) = ((i + 1 : Nat) : Int) by omega, ih k (i + 1) (by omega) (by omega)]
        by_cases hq : (bt s (i : Int) + 32) % 256 = bt p (i : Int)
        · rw [if_pos hq, decide_eq_true hq]; rfl
        · rw [if_neg hq, decide_eq_false hq]; rfl
    rw [e, e]
    unfold smallI
    by_cases h1 : bt s (i : Int) ≥ 65
    · rw [if_pos h1, if_pos h1]
      by_cases h2 : bt s (i : Int) ≤ 90
      · rw [decide_eq_true h2, if_pos h2]; rfl
      · rw [decide_eq_false h2, if_neg h2]; rfl
    · rw [if_neg h1, if_neg h1]; rfl
theorem begins_eq (s p : ByteArray) (hs : s.size ≤ 1000000) (k : Nat) (hk : 2 * p.size + 1 < k) : attribute_begins.f k s p = some (begB s p) := by
  unfold attribute_begins.f begB
  by_cases h : p.size ≤ s.size
  · rw [if_neg (by omega), decide_eq_true h, Bool.true_and]
    exact begins_l0 s p h hs p.size k 0 (by omega) hk
  · rw [if_pos (by omega), decide_eq_false h]; rfl
theorem small_eq (c : Int) : racewayref24_small.f c = some (smallI c) := by
  unfold racewayref24_small.f smallI
  split
  · split <;> rfl
  · rfl
theorem ref_begins_l0 (s p : ByteArray) (hp : p.size ≤ s.size) (hs : s.size ≤ 1000000) : ∀ (d k i : Nat), i + d = p.size → d < k → racewayref24_begins.l0 k s p (i : Int) = some (begD s p d i) := by
  intro d
  induction d with
  | zero =>
    intro k i h hk
    obtain ⟨k, rfl⟩ : ∃ m, k = m + 1 := ⟨k - 1, by omega⟩
    simp only [racewayref24_begins.l0, begD]
    rw [if_neg (by omega)]
  | succ d ih =>
    intro k i h hk
    obtain ⟨k, rfl⟩ : ∃ m, k = m + 1 := ⟨k - 1, by omega⟩
    simp only [racewayref24_begins.l0, begD, small_eq, Option.bind_some]
    rw [if_pos (by omega), if_pos (by omega), if_pos (by omega), w64 (by omega) (by omega), show ((i : Int) + 1) = ((i + 1 : Nat) : Int) by omega, ih k (i + 1) (by omega) (by omega)]
    by_cases hq : smallI (bt s (i : Int)) = bt p (i : Int)
    · rw [if_pos hq, decide_eq_true hq]; rfl
    · rw [if_neg hq, decide_eq_false hq]; rfl
theorem ref_begins_eq (s p : ByteArray) (hs : s.size ≤ 1000000) (k : Nat) (hk : p.size + 1 < k) : racewayref24_begins.f k s p = some (begB s p) := by
  unfold racewayref24_begins.f begB
  by_cases h : p.size ≤ s.size
  · rw [if_neg (by omega), decide_eq_true h, Bool.true_and]
    exact ref_begins_l0 s p h hs p.size k 0 (by omega) (by omega)
  · rw [if_pos (by omega), decide_eq_false h]; rfl
-- names
def nameB (s : ByteArray) : Bool :=
  decide (1 ≤ s.size) && decide (s.size ≤ 64) && s.data.toList.all letter8 && !decide (bt s 0 = 46) && !decide (bt s ((s.size - 1 : Nat) : Int) = 46) && !dd s.data.toList && !begB s ⟨#[97, 119, 115, 46]⟩ && !begB s ⟨#[97, 109, 97, 122, 111, 110, 46]⟩
theorem Name_eq (s : ByteArray) (hs : s.size ≤ 1000000) (k : Nat) (hk : s.size + 20 < k) : attribute_Name.f k s = some (nameB s) := by
  unfold attribute_Name.f nameB
  have h64 := letters_eq s 64 hs k (by omega)
  have hl : s.data.toList.length = s.size := by simp
  rw [hl] at h64
  rw [show ((64 : Nat) : Int) = 64 from rfl] at h64
  rw [h64, begins_eq s _ hs k (by show 2 * 4 + 1 < k; omega), begins_eq s _ hs k (by show 2 * 7 + 1 < k; omega)]
  simp only [Option.bind_some]
  by_cases h : (decide (1 ≤ s.size) && decide (s.size ≤ 64) && s.data.toList.all letter8) = true
  · rw [h]
    rw [Bool.and_eq_true, Bool.and_eq_true, decide_eq_true_iff, decide_eq_true_iff] at h
    rw [if_pos rfl, if_pos (by omega), w64 (by omega) (by omega), show ((s.size : Int) - 1) = ((s.size - 1 : Nat) : Int) by omega, if_pos (show (0 : Int) ≤ ((s.size - 1 : Nat) : Int) by omega), if_pos (show ((s.size - 1 : Nat) : Int) < (s.size : Int) by omega)]
    simp only [Bool.true_and]
    by_cases h1 : bt s 0 = 46
    · rw [if_pos h1, decide_eq_true h1]; rfl
    · rw [if_neg h1, decide_eq_false h1]
      by_cases h2 : bt s ((s.size - 1 : Nat) : Int) = 46
      · rw [if_pos h2, decide_eq_true h2]; rfl
      · rw [if_neg h2, decide_eq_false h2]
        unfold strings_Contains.f
        rw [if_pos (by omega)]
        simp only [Option.bind_some]
        rw [contains_dd]
        cases dd s.data.toList <;> cases begB s ⟨#[97, 119, 115, 46]⟩ <;> cases begB s ⟨#[97, 109, 97, 122, 111, 110, 46]⟩ <;> rfl
  · rw [Bool.not_eq_true] at h
    rw [h]
    simp only [Bool.false_eq_true, if_false, Bool.false_and]
def nameD (s : ByteArray) : Nat → Nat → Bool
  | 0, _ => true
  | d + 1, i => letterI (bt s (i : Int)) && !(decide (0 < i) && decide (bt s (i : Int) = 46) && decide (bt s ((i - 1 : Nat) : Int) = 46)) && nameD s d (i + 1)
theorem nameD_list (s : ByteArray) : ∀ (d i : Nat), i + 1 + d = s.size → nameD s d (i + 1) = ((s.data.toList.drop (i + 1)).all letter8 && !dd (s.data.toList.drop i))
  | 0, i, h => by
    obtain ⟨c, hc, hb⟩ := at_drop s i (by omega)
    rw [hc, drop_all s (i + 1) (by omega)]; rfl
  | d + 1, i, h => by
    obtain ⟨c, hc, hb⟩ := at_drop s i (by omega)
    obtain ⟨c', hc', hb'⟩ := at_drop s (i + 1) (by omega)
    rw [nameD, nameD_list s d (i + 1) (by omega), hc, hc', hb', show (i + 1 - 1 : Nat) = i by omega, hb, List.all_cons]
    rw [show dd (c :: c' :: s.data.toList.drop (i + 1 + 1)) = ((c == 46 && c' == 46) || dd (c' :: s.data.toList.drop (i + 1 + 1))) from rfl]
    have e : ∀ x : UInt8, decide ((x.toNat : Int) = 46) = (x == 46) := by
      intro x
      by_cases hx : x = 46
      · subst hx; rfl
      · rw [decide_eq_false, eq_comm, beq_eq_false_iff_ne]
        · exact hx
        · intro he
          apply hx
          apply UInt8.toNat.inj
          show x.toNat = 46
          omega
    rw [e, e, decide_eq_true (show 0 < i + 1 by omega)]
    unfold letter8
    cases letterI (c'.toNat : Int) <;> cases (c == 46) <;> cases (c' == 46) <;> simp
theorem ref_name_l0 (s : ByteArray) (hs : s.size ≤ 1000000) : ∀ (d k i : Nat), i + d = s.size → d < k → racewayref24_Name.l0 k s (i : Int) = some (nameD s d i) := by
  intro d
  induction d with
  | zero =>
    intro k i h hk
    obtain ⟨k, rfl⟩ : ∃ m, k = m + 1 := ⟨k - 1, by omega⟩
    simp only [racewayref24_Name.l0, nameD]
    rw [if_neg (by omega)]
  | succ d ih =>
    intro k i h hk
    obtain ⟨k, rfl⟩ : ∃ m, k = m + 1 := ⟨k - 1, by omega⟩
    simp only [racewayref24_Name.l0, nameD, letter_bt, Option.bind_some]
    rw [if_pos (by omega), if_pos (by omega), w64 (x := (i : Int) + 1) (by omega) (by omega), show ((i : Int) + 1) = ((i + 1 : Nat) : Int) by omega, ih k (i + 1) (by omega) (by omega)]
    cases hl : letterI (bt s (i : Int))
    · simp
    · simp only [if_true, Bool.true_and]
      by_cases h0 : 0 < i
      · rw [if_pos (by omega), decide_eq_true h0, w64 (by omega) (by omega), show ((i : Int) - 1) = ((i - 1 : Nat) : Int) by omega, if_pos (show (0 : Int) ≤ ((i - 1 : Nat) : Int) by omega), if_pos (show ((i - 1 : Nat) : Int) < (s.size : Int) by omega)]
        by_cases h1 : bt s (i : Int) = 46
        · rw [if_pos h1, decide_eq_true h1]
          by_cases h2 : bt s ((i - 1 : Nat) : Int) = 46
          · rw [if_pos h2, decide_eq_true h2]; rfl
          · rw [if_neg h2, decide_eq_false h2]; simp
        · rw [if_neg h1, decide_eq_false h1]; simp
      · rw [if_neg (by omega), decide_eq_false h0]; simp
theorem ref_Name_eq (s : ByteArray) (hs : s.size ≤ 1000000) (k : Nat) (hk : s.size + 20 < k) : racewayref24_Name.f k s = some (nameB s) := by
  unfold racewayref24_Name.f nameB
  obtain ⟨k, rfl⟩ : ∃ m, k = m + 1 := ⟨k - 1, by omega⟩
  have hj : ∀ b, racewayref24_Name.j0 (k + 1) s b = some (if b = true then false else nameD s s.size 0) := by
    intro b
    simp only [racewayref24_Name.j0]
    rw [show (0 : Int) = ((0 : Nat) : Int) from rfl, ref_name_l0 s hs s.size k 0 (by omega) (by omega)]
    cases b <;> rfl
  simp only [hj]
  by_cases h0 : s.size = 0
  · rw [if_pos (by omega), decide_eq_false (p := 1 ≤ s.size) (by omega)]; rfl
  · rw [if_neg (by omega), decide_eq_true (p := 1 ≤ s.size) (by omega)]
    by_cases h64 : s.size ≤ 64
    · rw [if_neg (by omega), decide_eq_true h64, if_pos (by omega), w64 (by omega) (by omega), show ((s.size : Int) - 1) = ((s.size - 1 : Nat) : Int) by omega, if_pos (show (0 : Int) ≤ ((s.size - 1 : Nat) : Int) by omega), if_pos (show ((s.size - 1 : Nat) : Int) < (s.size : Int) by omega)]
      rw [ref_begins_eq s _ hs (k + 1) (by show 4 + 1 < k + 1; omega), ref_begins_eq s _ hs (k + 1) (by show 7 + 1 < k + 1; omega)]
      obtain ⟨n, hn⟩ : ∃ n, s.size = n + 1 := ⟨s.size - 1, by omega⟩
      have hD : nameD s s.size 0 = (s.data.toList.all letter8 && !dd s.data.toList) := by
        obtain ⟨c, hc, hb⟩ := at_drop s 0 (by omega)
        have hz := nameD_list s n 0 (by omega)
        rw [hn, nameD, hz, hb]
        rw [List.drop_zero] at hc ⊢
        have ha : s.data.toList.all letter8 = (letterI (c.toNat : Int) && (s.data.toList.drop (0 + 1)).all letter8) := by
          conv => lhs; rw [hc]
          rfl
        rw [ha]
        simp [Bool.and_assoc]
      rw [hD]
      simp only [Option.bind_some, Bool.true_and]
      by_cases h1 : bt s 0 = 46
      · rw [if_pos h1, decide_eq_true h1]; simp
      · rw [if_neg h1, decide_eq_false h1]
        by_cases h2 : bt s ((s.size - 1 : Nat) : Int) = 46
        · rw [if_pos h2, decide_eq_true h2]; simp
        · rw [if_neg h2, decide_eq_false h2]
          cases s.data.toList.all letter8 <;> cases dd s.data.toList <;> cases begB s ⟨#[97, 119, 115, 46]⟩ <;> cases begB s ⟨#[97, 109, 97, 122, 111, 110, 46]⟩ <;> rfl
    · rw [if_pos (by omega), decide_eq_false h64]; simp
end Go.Proofs.YtolpefnedpgaaaaDoor.X
