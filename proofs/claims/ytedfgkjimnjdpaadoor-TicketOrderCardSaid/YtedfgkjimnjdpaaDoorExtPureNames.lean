/-
  Hosts, accounts, queues' names, URLs and ARNs: what the program's functions and the document's come to, as plain Lean functions, and that both are the same.
-/
import Derived.Test.YtedfgkjimnjdpaaDoorExtPureBase
import Derived.Test.YtedfgkjimnjdpaaDoorX
namespace Go.Proofs.YtedfgkjimnjdpaaDoor.X
open Go.RowKit Go.Proofs.YtedfgkjimnjdpaaDoorW.PrintWords Go.Proofs.YtedfgkjimnjdpaaDoorW.PrintMore
set_option linter.unusedVariables false
set_option linter.unusedSimpArgs false
def inB (l : ByteArray) (c : Int) : Bool := decide (0 ≤ Lib.indexByte l.data.toList c.toNat.toUInt8)
def smallB (c : Int) : Bool := decide (97 ≤ c) && decide (c ≤ 122)
def digitB (c : Int) : Bool := decide (48 ≤ c) && decide (c ≤ 57)
def largeB (c : Int) : Bool := decide (65 ≤ c) && decide (c ≤ 90)
def pHost (c : Int) : Bool := smallB c || digitB c || decide (c = 45) || decide (c = 46)
def pQueue (c : Int) : Bool := smallB c || digitB c || largeB c || decide (c = 45) || decide (c = 95)
def hostB (s : ByteArray) : Bool := decide (1 ≤ s.size) && decide (s.size ≤ 63) && allD pHost s s.size 0
def accountB (s : ByteArray) : Bool := decide (s.size = 12) && allD digitB s s.size 0
def queueB (s : ByteArray) : Bool := decide (11 ≤ s.size) && decide (s.size ≤ 80) && ((s.extract (s.size - 5) s.size).toList == [46, 102, 105, 102, 111]) && allD pQueue s (s.size - 5) 0
theorem only_l0 (s x9 : ByteArray) (hs : s.size ≤ 4611686018427387904) (d : Nat) : ∀ (k i : Nat), i + d = s.size → d < k → ticket_only.l0 k s x9 (s.size : Int) (i : Int) = some (allD (inB x9) s d i) := by
  induction d with
  | zero =>
    intro k i h hk
    obtain ⟨k, rfl⟩ : ∃ m, k = m + 1 := ⟨k - 1, by omega⟩
    simp only [ticket_only.l0, allD]
    rw [if_neg (by omega)]
  | succ d ih =>
    intro k i h hk
    obtain ⟨k, rfl⟩ : ∃ m, k = m + 1 := ⟨k - 1, by omega⟩
    simp only [ticket_only.l0, allD, strings_IndexByte.f, Option.bind_some]
    rw [if_pos (by omega), if_pos (by omega), if_pos (by omega), w64 (by omega) (by omega), show ((i : Int) + 1) = ((i + 1 : Nat) : Int) by omega, ih k (i + 1) (by omega) (by omega)]
    unfold inB
    by_cases hb : Lib.indexByte x9.data.toList (bt s (i : Int)).toNat.toUInt8 < 0
    · rw [if_pos hb, decide_eq_false (by omega)]; rfl
    · rw [if_neg hb, decide_eq_true (by omega)]; rfl
theorem only_eq (s : ByteArray) (lo hi : Nat) (l : List ByteArray) (j : ByteArray) (hj : strings_Join.f l ⟨#[]⟩ = some j) (hs : s.size ≤ 4611686018427387904) (k : Nat) (hk : s.size + 2 < k) :
    ticket_only.f k s (lo : Int) (hi : Int) l = some (decide (lo ≤ s.size) && decide (s.size ≤ hi) && allD (inB j) s s.size 0) := by
  unfold ticket_only.f
  rw [hj]
  simp only [Option.bind_some]
  obtain ⟨k, rfl⟩ : ∃ m, k = m + 1 := ⟨k - 1, by omega⟩
  by_cases h1 : (s.size : Int) < lo
  · rw [if_pos h1, decide_eq_false (p := lo ≤ s.size) (by omega)]; simp [ticket_only.j0]
  · rw [if_neg h1, decide_eq_true (p := lo ≤ s.size) (by omega)]
    by_cases h2 : (s.size : Int) > hi
    · rw [decide_eq_true (p := (s.size : Int) > hi) h2, decide_eq_false (p := s.size ≤ hi) (by omega)]; simp [ticket_only.j0]
    · rw [decide_eq_false (p := (s.size : Int) > hi) h2, decide_eq_true (p := s.size ≤ hi) (by omega)]
      simp only [ticket_only.j0, Bool.false_eq_true, if_false, Bool.true_and]
      exact only_l0 s j hs s.size k 0 (by omega) (by omega)
theorem host_join : strings_Join.f [⟨#[97, 98, 99, 100, 101, 102, 103, 104, 105, 106, 107, 108, 109, 110, 111, 112, 113, 114, 115, 116, 117, 118, 119, 120, 121, 122]⟩, ⟨#[48, 49, 50, 51, 52, 53, 54, 55, 56, 57]⟩, ⟨#[45, 46]⟩] ⟨#[]⟩ = some ⟨#[97, 98, 99, 100, 101, 102, 103, 104, 105, 106, 107, 108, 109, 110, 111, 112, 113, 114, 115, 116, 117, 118, 119, 120, 121, 122, 48, 49, 50, 51, 52, 53, 54, 55, 56, 57, 45, 46]⟩ := by decide +kernel
theorem account_join : strings_Join.f [⟨#[48, 49, 50, 51, 52, 53, 54, 55, 56, 57]⟩] ⟨#[]⟩ = some ⟨#[48, 49, 50, 51, 52, 53, 54, 55, 56, 57]⟩ := by decide +kernel
theorem queue_join : strings_Join.f [⟨#[97, 98, 99, 100, 101, 102, 103, 104, 105, 106, 107, 108, 109, 110, 111, 112, 113, 114, 115, 116, 117, 118, 119, 120, 121, 122]⟩, ⟨#[65, 66, 67, 68, 69, 70, 71, 72, 73, 74, 75, 76, 77, 78, 79, 80, 81, 82, 83, 84, 85, 86, 87, 88, 89, 90]⟩, ⟨#[48, 49, 50, 51, 52, 53, 54, 55, 56, 57]⟩, ⟨#[45, 95]⟩] ⟨#[]⟩ = some ⟨#[97, 98, 99, 100, 101, 102, 103, 104, 105, 106, 107, 108, 109, 110, 111, 112, 113, 114, 115, 116, 117, 118, 119, 120, 121, 122, 65, 66, 67, 68, 69, 70, 71, 72, 73, 74, 75, 76, 77, 78, 79, 80, 81, 82, 83, 84, 85, 86, 87, 88, 89, 90, 48, 49, 50, 51, 52, 53, 54, 55, 56, 57, 45, 95]⟩ := by decide +kernel
theorem host_in (c : Int) (h0 : 0 ≤ c) (h1 : c < 256) : inB ⟨#[97, 98, 99, 100, 101, 102, 103, 104, 105, 106, 107, 108, 109, 110, 111, 112, 113, 114, 115, 116, 117, 118, 119, 120, 121, 122, 48, 49, 50, 51, 52, 53, 54, 55, 56, 57, 45, 46]⟩ c = pHost c := byte_eq (by decide +kernel) c h0 h1
theorem account_in (c : Int) (h0 : 0 ≤ c) (h1 : c < 256) : inB ⟨#[48, 49, 50, 51, 52, 53, 54, 55, 56, 57]⟩ c = digitB c := byte_eq (by decide +kernel) c h0 h1
theorem queue_in (c : Int) (h0 : 0 ≤ c) (h1 : c < 256) : inB ⟨#[97, 98, 99, 100, 101, 102, 103, 104, 105, 106, 107, 108, 109, 110, 111, 112, 113, 114, 115, 116, 117, 118, 119, 120, 121, 122, 65, 66, 67, 68, 69, 70, 71, 72, 73, 74, 75, 76, 77, 78, 79, 80, 81, 82, 83, 84, 85, 86, 87, 88, 89, 90, 48, 49, 50, 51, 52, 53, 54, 55, 56, 57, 45, 95]⟩ c = pQueue c := byte_eq (by decide +kernel) c h0 h1
theorem ticket_host_eq (s : ByteArray) (hs : s.size ≤ 4611686018427387904) (k : Nat) (hk : s.size + 2 < k) : ticket_host.f k s = some (hostB s) := by
  unfold ticket_host.f hostB
  have := only_eq s 1 63 _ _ host_join hs k hk
  rw [show ((1 : Nat) : Int) = 1 from rfl, show ((63 : Nat) : Int) = 63 from rfl] at this
  rw [this, allD_congr host_in]
  rfl
theorem ticket_account_eq (s : ByteArray) (hs : s.size ≤ 4611686018427387904) (k : Nat) (hk : s.size + 2 < k) : ticket_account.f k s = some (accountB s) := by
  unfold ticket_account.f accountB
  have := only_eq s 12 12 _ _ account_join hs k hk
  rw [show ((12 : Nat) : Int) = 12 from rfl] at this
  rw [this, allD_congr account_in]
  simp only [Option.bind_some]
  congr 2
  by_cases h : s.size = 12
  · simp [h]
  · rw [decide_eq_false h, Bool.and_eq_false_iff]
    simp only [decide_eq_false_iff_not]
    omega
theorem hasSuffix_eq (s p : ByteArray) (hs : s.size ≤ 4611686018427387904) : stringslite_HasSuffix.f s p = some (decide (p.size ≤ s.size) && ((s.extract (s.size - p.size) s.size).toList == p.toList)) := by
  unfold stringslite_HasSuffix.f
  by_cases h : p.size ≤ s.size
  · rw [if_pos (by omega), w64 (by omega) (by omega), if_pos (by omega), if_pos (by omega), decide_eq_true h, show ((s.size : Int) - p.size).toNat = s.size - p.size by omega]; rfl
  · rw [if_neg (by omega), decide_eq_false h]; rfl
theorem cutSuffix_eq (s p : ByteArray) (hs : s.size ≤ 4611686018427387904) : strings_CutSuffix.f s p = some (if (decide (p.size ≤ s.size) && ((s.extract (s.size - p.size) s.size).toList == p.toList)) = true then (s.extract 0 (s.size - p.size), true) else (s, false)) := by
  unfold strings_CutSuffix.f stringslite_CutSuffix.f
  rw [hasSuffix_eq s p hs]
  simp only [Option.bind_some]
  by_cases h : (decide (p.size ≤ s.size) && ((s.extract (s.size - p.size) s.size).toList == p.toList)) = true
  · have h' := h
    rw [Bool.and_eq_true, decide_eq_true_iff] at h'
    rw [if_pos h, if_pos h, w64 (by omega) (by omega), if_pos (by omega), if_pos (by omega), show ((s.size : Int) - p.size).toNat = s.size - p.size by omega]; rfl
  · rw [if_neg h, if_neg h]; rfl
theorem bt_cut (s : ByteArray) (n j : Nat) (hn : n ≤ s.size) (hj : j < n) : bt (s.extract 0 n) (j : Int) = bt s (j : Int) := by
  rw [q_bt _ _ (by rw [ByteArray.size_extract]; omega), q_bt _ _ (by omega)]
  simp [ByteArray.getElem_extract]
theorem ticket_Queue_eq (s : ByteArray) (hs : s.size ≤ 4611686018427387904) (k : Nat) (hk : s.size + 2 < k) : ticket_Queue.f k s = some (queueB s) := by
  unfold ticket_Queue.f queueB
  rw [cutSuffix_eq s _ hs]
  simp only [Option.bind_some]
  have e5 : (⟨#[46, 102, 105, 102, 111]⟩ : ByteArray).size = 5 := rfl
  have el : (⟨#[46, 102, 105, 102, 111]⟩ : ByteArray).toList = [46, 102, 105, 102, 111] := by decide +kernel
  rw [e5, el]
  by_cases h : (decide (5 ≤ s.size) && ((s.extract (s.size - 5) s.size).toList == [46, 102, 105, 102, 111])) = true
  · rw [if_pos h]
    rw [Bool.and_eq_true, decide_eq_true_iff] at h
    simp only [if_true]
    rw [h.2, Bool.and_true]
    have hz : (s.extract 0 (s.size - 5)).size = s.size - 5 := by rw [ByteArray.size_extract]; omega
    by_cases h80 : s.size ≤ 80
    · rw [if_pos (by omega)]
      have := only_eq (s.extract 0 (s.size - 5)) 6 75 _ _ queue_join (by omega) k (by omega)
      rw [show ((6 : Nat) : Int) = 6 from rfl, show ((75 : Nat) : Int) = 75 from rfl] at this
      rw [this, allD_congr queue_in, hz]
      rw [allD_prefix (t := s) (s.size - 5) 0 (fun j _ h2 => bt_cut s (s.size - 5) j (by omega) (by omega))]
      simp only [Option.bind_some]
      congr 2
      rw [decide_eq_true h80]
      congr 1
      · rw [decide_eq_decide]; omega
      · rw [decide_eq_true_iff]; omega
    · rw [if_neg (by omega), decide_eq_false h80]; simp
  · rw [if_neg h]
    simp only [Bool.false_eq_true, if_false]
    congr 1
    by_cases h5 : 5 ≤ s.size
    · rw [decide_eq_true h5, Bool.true_and, Bool.not_eq_true] at h
      rw [h]; simp
    · rw [decide_eq_false (p := 11 ≤ s.size) (by omega)]; simp
theorem small_eq (c : Int) : racewayref27_small.f c = some (smallB c) := by
  unfold racewayref27_small.f smallB
  split
  · rename_i h; rw [decide_eq_true (p := 97 ≤ c) (by omega)]; rfl
  · rename_i h; rw [decide_eq_false (p := 97 ≤ c) (by omega)]; rfl
theorem digit_eq (c : Int) : racewayref27_digit.f c = some (digitB c) := by
  unfold racewayref27_digit.f digitB
  split
  · rename_i h; rw [decide_eq_true (p := 48 ≤ c) (by omega)]; rfl
  · rename_i h; rw [decide_eq_false (p := 48 ≤ c) (by omega)]; rfl
theorem ref_host_l0 (s : ByteArray) (hs : s.size ≤ 4611686018427387904) (d : Nat) : ∀ (k i : Nat), i + d = s.size → d < k → racewayref27_host.l0 k s (i : Int) = some (allD pHost s d i && decide (1 ≤ s.size) && decide (s.size ≤ 63)) := by
  induction d with
  | zero =>
    intro k i h hk
    obtain ⟨k, rfl⟩ : ∃ m, k = m + 1 := ⟨k - 1, by omega⟩
    simp only [racewayref27_host.l0, allD]
    rw [if_neg (by omega)]
    by_cases h1 : 1 ≤ s.size
    · rw [if_pos (by omega), decide_eq_true h1]; simp only [Bool.true_and]; congr 1; rw [decide_eq_decide]; omega
    · rw [if_neg (by omega), decide_eq_false h1]; rfl
  | succ d ih =>
    intro k i h hk
    obtain ⟨k, rfl⟩ : ∃ m, k = m + 1 := ⟨k - 1, by omega⟩
    simp only [racewayref27_host.l0, allD, small_eq, digit_eq, Option.bind_some]
    rw [if_pos (by omega), if_pos (by omega), w64 (by omega) (by omega), show ((i : Int) + 1) = ((i + 1 : Nat) : Int) by omega, ih k (i + 1) (by omega) (by omega)]
    unfold pHost
    cases smallB (bt s (i : Int)) <;> cases digitB (bt s (i : Int)) <;> simp
    by_cases h1 : bt s (i : Int) = 45
    · simp [h1]
    · by_cases h2 : bt s (i : Int) = 46
      · simp [h2]
      · simp [h1, h2]
theorem ref_host_eq (s : ByteArray) (hs : s.size ≤ 4611686018427387904) (k : Nat) (hk : s.size < k) : racewayref27_host.f k s = some (hostB s) := by
  unfold racewayref27_host.f hostB
  have := ref_host_l0 s hs s.size k 0 (by omega) hk
  rw [show ((0 : Nat) : Int) = 0 from rfl] at this
  rw [this]
  cases allD pHost s s.size 0 <;> simp
theorem ref_account_l0 (s : ByteArray) (hs : s.size ≤ 4611686018427387904) (d : Nat) : ∀ (k i : Nat), i + d = s.size → d < k → racewayref27_account.l0 k s (i : Int) = some (allD digitB s d i && decide (s.size = 12)) := by
  induction d with
  | zero =>
    intro k i h hk
    obtain ⟨k, rfl⟩ : ∃ m, k = m + 1 := ⟨k - 1, by omega⟩
    simp only [racewayref27_account.l0, allD]
    rw [if_neg (by omega)]
    simp only [Bool.true_and]
    congr 1
    by_cases h1 : s.size = 12
    · simp [h1]
    · rw [decide_eq_false h1]; simp; omega
  | succ d ih =>
    intro k i h hk
    obtain ⟨k, rfl⟩ : ∃ m, k = m + 1 := ⟨k - 1, by omega⟩
    simp only [racewayref27_account.l0, allD, digit_eq, Option.bind_some]
    rw [if_pos (by omega), if_pos (by omega), w64 (by omega) (by omega), show ((i : Int) + 1) = ((i + 1 : Nat) : Int) by omega, ih k (i + 1) (by omega) (by omega)]
    cases digitB (bt s (i : Int)) <;> simp
theorem ref_account_eq (s : ByteArray) (hs : s.size ≤ 4611686018427387904) (k : Nat) (hk : s.size < k) : racewayref27_account.f k s = some (accountB s) := by
  unfold racewayref27_account.f accountB
  have := ref_account_l0 s hs s.size k 0 (by omega) hk
  rw [show ((0 : Nat) : Int) = 0 from rfl] at this
  rw [this, Bool.and_comm]
theorem ref_Queue_l0 (s : ByteArray) (n : Nat) (hn : n ≤ s.size) (hs : s.size ≤ 4611686018427387904) (d : Nat) : ∀ (k i : Nat), i + d = n → d < k → racewayref27_Queue.l0 k s (n : Int) (i : Int) = some (allD pQueue s d i) := by
  induction d with
  | zero =>
    intro k i h hk
    obtain ⟨k, rfl⟩ : ∃ m, k = m + 1 := ⟨k - 1, by omega⟩
    simp only [racewayref27_Queue.l0, allD]
    rw [if_neg (by omega)]
  | succ d ih =>
    intro k i h hk
    obtain ⟨k, rfl⟩ : ∃ m, k = m + 1 := ⟨k - 1, by omega⟩
    simp only [racewayref27_Queue.l0, allD, small_eq, digit_eq, Option.bind_some]
    rw [if_pos (by omega), if_pos (by omega), if_pos (by omega), w64 (by omega) (by omega), show ((i : Int) + 1) = ((i + 1 : Nat) : Int) by omega, ih k (i + 1) (by omega) (by omega)]
    unfold pQueue largeB
    generalize bt s (i : Int) = c
    cases smallB c <;> cases digitB c <;> simp
    by_cases h1 : c ≥ 65
    · by_cases h2 : c ≤ 90
      · simp [h1, h2]
      · have h3 : ¬ c = 45 := by omega
        by_cases h4 : c = 95 <;> simp [h1, h2, h3, h4]
    · by_cases h3 : c = 45 <;> by_cases h4 : c = 95 <;> simp [h1, h3, h4]
theorem ref_Queue_eq (s : ByteArray) (hs : s.size ≤ 4611686018427387904) (k : Nat) (hk : s.size + 1 < k) : racewayref27_Queue.f k s = some (queueB s) := by
  obtain ⟨k, rfl⟩ : ∃ m, k = m + 1 := ⟨k - 1, by omega⟩
  unfold racewayref27_Queue.f queueB
  rw [w64 (by omega) (by omega)]
  simp only [racewayref27_Queue.j0]
  by_cases h1 : (s.size : Int) - 5 < 6
  · rw [if_pos h1, decide_eq_false (p := 11 ≤ s.size) (by omega)]; simp
  · rw [if_neg h1, decide_eq_true (p := 11 ≤ s.size) (by omega)]
    by_cases h2 : (s.size : Int) - 5 > 75
    · rw [if_pos h2, decide_eq_false (p := s.size ≤ 80) (by omega)]; simp
    · rw [if_neg h2, decide_eq_true (p := s.size ≤ 80) (by omega), if_pos (by omega), if_pos (by omega), show ((s.size : Int) - 5).toNat = s.size - 5 by omega]
      rw [show (s.size : Int) - 5 = ((s.size - 5 : Nat) : Int) by omega]
      have := ref_Queue_l0 s (s.size - 5) (by omega) hs (s.size - 5) k 0 (by omega) (by omega)
      rw [show ((0 : Nat) : Int) = 0 from rfl] at this
      rw [this]
      by_cases h3 : (s.extract (s.size - 5) s.size).toList = [46, 102, 105, 102, 111]
      · simp [h3]
      · simp [h3]
/-- What stands for three parts. -/
def putB (b g x y z : ByteArray) : ByteArray × Int := if hostB x && accountB y && queueB z then (b ++ x ++ g ++ y ++ g ++ z, 0) else (⟨#[]⟩, 2)
end Go.Proofs.YtedfgkjimnjdpaaDoor.X
