/-
  Package fingerprint: its steps, as plain Lean functions.
-/
import Derived.Test.YtolpefnedpgaaaaDoorWMore
import Derived.Test.YtolpefnedpgaaaaDoorProg
import Derived.WalkKit
import Derived.WalkLawsBesides
import Derived.WalkSpells
namespace Go.Proofs.YtolpefnedpgaaaaDoor.X
open Go.RowKit Go.Proofs.YtolpefnedpgaaaaDoorW.PrintWords
set_option linter.unusedVariables false
set_option linter.unusedSimpArgs false
theorem and31 (k : Int) (h0 : 0 ≤ k) (h1 : k < 32) : bits .and .u64 k 31 = k := by
  obtain ⟨m, rfl⟩ := Int.eq_ofNat_of_zero_le h0
  have : ∀ k : Fin 32, bits .and .u64 ((k.val : Nat) : Int) 31 = ((k.val : Nat) : Int) := by decide +kernel
  exact this ⟨m, by omega⟩
/-- A word turned left. -/
def rotl (x k : Int) : Int := bits .or .u32 (IntKind.u32.wrap (x * 2 ^ k.toNat)) (x / 2 ^ (32 - k).toNat)
set_option maxHeartbeats 1000000 in
set_option maxRecDepth 100000 in
theorem rotl_calls (x k : Int) (h0 : 0 ≤ k) (h1 : k < 32) (w : World) : Calls Tryd.prog 101 #[.int .u32 x, .int .i64 k] w fun e w' => e = .returned (.int .u32 (rotl x k)) ∧ w' = w := by
  have hb := and31 k h0 h1
  have hw : ∀ n : Int, IntKind.u32.wrap n = n % 4294967296 := fun n => rfl
  unfold rotl
  rw [hw]
  clear hw
  go_enter Tryd.func101, Tryd.ntmps101
  go_wp2
  go_ret
  exact ⟨rfl, rfl⟩
def not32 (x : Int) : Int := bits .xor .u32 IntKind.u32.max x
/-- What a step makes of three words, and which word of the block it takes. -/
def fstep (i b c d : Int) : Int × Int :=
  if i / 16 = 0 then (bits .or .u32 (bits .and .u32 b c) (bits .and .u32 (not32 b) d), i)
  else if i / 16 = 1 then (bits .or .u32 (bits .and .u32 d b) (bits .and .u32 (not32 d) c), (5 * i + 1) % 16)
  else if i / 16 = 2 then (bits .xor .u32 (bits .xor .u32 b c) d, (3 * i + 5) % 16)
  else (bits .xor .u32 c (bits .or .u32 b (not32 d)), 7 * i % 16)
theorem u32_signed : IntKind.u32.signed = false := rfl
set_option maxHeartbeats 2000000 in
set_option maxRecDepth 100000 in
theorem fstep_calls (i b c d : Int) (h0 : 0 ≤ i) (h1 : i < 64) (w : World) : Calls Tryd.prog 100 #[.int .i64 i, .int .u32 b, .int .u32 c, .int .u32 d] w fun e w' => e = .returned (.tuple #[.int .u32 (fstep i b c d).1, .int .i64 (fstep i b c d).2]) ∧ w' = w := by
  have hsg := u32_signed
  unfold fstep
  go_enter Tryd.func100, Tryd.ntmps100
  by_cases h2 : i / 16 = 0
  · rw [if_pos h2]
    go_wp2
    go_ret2
    exact ⟨rfl, rfl⟩
  · rw [if_neg h2]
    have q2 : (i / 16 == 0) = false := by simpa using h2
    by_cases h3 : i / 16 = 1
    · rw [if_pos h3]
      go_wp2
      go_ret2
      exact ⟨rfl, rfl⟩
    · rw [if_neg h3]
      have q3 : (i / 16 == 1) = false := by simpa using h3
      by_cases h4 : i / 16 = 2
      · rw [if_pos h4]
        go_wp2
        go_ret2
        exact ⟨rfl, rfl⟩
      · rw [if_neg h4]
        have q4 : (i / 16 == 2) = false := by simpa using h4
        go_wp2
        go_ret2
        exact ⟨rfl, rfl⟩
end Go.Proofs.YtolpefnedpgaaaaDoor.X
