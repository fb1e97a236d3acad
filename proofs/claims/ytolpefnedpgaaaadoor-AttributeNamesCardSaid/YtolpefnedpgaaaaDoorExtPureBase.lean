/-
  Plain lemmas on bytes, sums and loops over a text: no program in them.
-/
import Derived.Test.YtolpefnedpgaaaaDoorWMore
import Derived.Lib.Bytealg
namespace Go.Proofs.YtolpefnedpgaaaaDoor.X
open Go.RowKit Go.Proofs.YtolpefnedpgaaaaDoorW.PrintWords Go.Proofs.YtolpefnedpgaaaaDoorW.PrintMore
set_option linter.unusedVariables false
set_option linter.unusedSimpArgs false
theorem w64 {x : Int} (h0 : -9223372036854775808 ≤ x) (h1 : x ≤ 9223372036854775807) : wrap64 x = x := by unfold wrap64; omega
theorem bt_range (s : ByteArray) (i : Int) : 0 ≤ bt s i ∧ bt s i < 256 := by
  unfold bt
  split
  · rename_i h
    have := (s[i.toNat]'h).toNat_lt
    omega
  · omega
theorem q_bt (s : ByteArray) (i : Nat) (h : i < s.size) : bt s (i : Int) = ((s[i]'h).toNat : Int) := by
  unfold bt
  simp only [Int.toNat_natCast]
  rw [dif_pos h]
/-- All bytes from i on, d of them. -/
def allD (p : Int → Bool) (s : ByteArray) : Nat → Nat → Bool
  | 0, _ => true
  | d + 1, i => p (bt s (i : Int)) && allD p s d (i + 1)
theorem allD_congr {p q : Int → Bool} (h : ∀ c : Int, 0 ≤ c → c < 256 → p c = q c) (s : ByteArray) (d : Nat) : ∀ i, allD p s d i = allD q s d i := by
  induction d with
  | zero => intro i; rfl
  | succ d ih => intro i; have := bt_range s (i : Int); simp only [allD]; rw [ih, h _ this.1 this.2]
theorem allD_prefix {p : Int → Bool} {s t : ByteArray} (d : Nat) : ∀ i, (∀ j, i ≤ j → j < i + d → bt s (j : Int) = bt t (j : Int)) → allD p s d i = allD p t d i := by
  induction d with
  | zero => intro i _; rfl
  | succ d ih => intro i h; simp only [allD]; rw [ih (i + 1) (fun j h1 h2 => h j (by omega) (by omega)), h i (by omega) (by omega)]
theorem decide_byte {p : Int → Bool} (h : ∀ n : Fin 256, p (n.val : Int) = true) (c : Int) (h0 : 0 ≤ c) (h1 : c < 256) : p c = true := by
  obtain ⟨n, rfl⟩ := Int.eq_ofNat_of_zero_le h0
  exact h ⟨n, by omega⟩
theorem byte_eq {p q : Int → Bool} (h : ∀ n : Fin 256, p (n.val : Int) = q (n.val : Int)) (c : Int) (h0 : 0 ≤ c) (h1 : c < 256) : p c = q c := by
  obtain ⟨n, rfl⟩ := Int.eq_ofNat_of_zero_le h0
  exact h ⟨n, by omega⟩
theorem size_append (a b : ByteArray) : (a ++ b).size = a.size + b.size := by simp
theorem mn_le_left (a b : Int) : mn a b ≤ a := by unfold mn; split <;> omega
theorem mn_le_right (a b : Int) : mn a b ≤ b := by unfold mn; split <;> omega
theorem mn_cases (a b : Int) : mn a b = a ∨ mn a b = b := by unfold mn; split <;> simp
/-- A text cut at n. -/
def cutB (s : ByteArray) (n : Nat) : ByteArray := s.extract 0 (mn (s.size : Int) (n : Int)).toNat
theorem cutB_size (s : ByteArray) (n : Nat) : (cutB s n).size = min s.size n := by
  unfold cutB mn
  rw [ByteArray.size_extract]
  split <;> omega
theorem ite_and_true (c : Prop) [Decidable c] (b : Bool) : (if c then b else false) = (decide c && b) := by by_cases h : c <;> simp [h]
end Go.Proofs.YtolpefnedpgaaaaDoor.X
