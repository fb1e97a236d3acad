/-
  The decimal digits of a number, as a loop lays them from the right into twenty places: plain lists, no program.
-/
import Derived.Lib.ItoaNum
import Derived.Lib.ItoaLen
import Derived.Test.YtedfgkjimnjdpaaDoorWWords
namespace Go.Proofs.YtedfgkjimnjdpaaDoor.X
open Go.RowKit Go.Proofs.YtedfgkjimnjdpaaDoorW.PrintWords
set_option linter.unusedVariables false
set_option linter.unusedSimpArgs false
/-- What the loop keeps: u: the number; k: the places from k on are filled; v: what is left. -/
structure ItoaInv (u k v : Nat) (d : List Int) : Prop where
  len : d.length = 20
  le : k ≤ 20
  pos : 2 ≤ k
  rest : v = u / 10 ^ (20 - k)
  more : k = 20 ∨ v ≠ 0
  small : v < 10 ^ (k - 1)
  done : ∀ t, k ≤ t → t < 20 → d.getD t 0 = ((Lib.dg u (19 - t)).toNat : Int)
theorem ItoaInv.start {u : Nat} (h : u < 10 ^ 19) (d : List Int) (hd : d.length = 20) : ItoaInv u 20 u d :=
  ⟨hd, Nat.le_refl _, by omega, by simp, .inl rfl, h, fun t h1 h2 => by omega⟩
/-- The digit that a round lays. -/
theorem itoa_digit (v : Nat) : ((UInt8.ofNat (48 + v % 10)).toNat : Int) = 48 + (v : Int) % 10 := by
  rw [UInt8.toNat_ofNat']
  omega
theorem getD_set_same {d : List Int} {i : Nat} {x : Int} (h : i < d.length) : (d.set i x).getD i 0 = x := by
  simp [List.getD_eq_getElem?_getD, h]
theorem getD_set_other {d : List Int} {i j : Nat} {x : Int} (h : j ≠ i) : (d.set i x).getD j 0 = d.getD j 0 := by
  simp [List.getD_eq_getElem?_getD, Ne.symm h]
theorem ItoaInv.digit {u k v : Nat} {d : List Int} (h : ItoaInv u k v d) : ∀ t, k - 1 ≤ t → t < 20 → (d.set (k - 1) (48 + (v : Int) % 10)).getD t 0 = ((Lib.dg u (19 - t)).toNat : Int) := by
  intro t h1 h2
  have hp := h.pos
  have hl := h.le
  by_cases e : t = k - 1
  · subst e
    rw [getD_set_same (by rw [h.len]; omega)]
    unfold Lib.dg
    rw [show 19 - (k - 1) = 20 - k by omega, ← h.rest, itoa_digit]
  · rw [getD_set_other e]
    exact h.done t (by omega) h2
theorem ItoaInv.next {u k v : Nat} {d : List Int} (h : ItoaInv u k v d) (hv : v / 10 ≠ 0) : ItoaInv u (k - 1) (v / 10) (d.set (k - 1) (48 + (v : Int) % 10)) := by
  have hp := h.pos
  have hl := h.le
  have hs := h.small
  have hk3 : 3 ≤ k := by
    rcases Nat.lt_or_ge k 3 with h3 | h3
    · have : k = 2 := by omega
      subst this
      have : v < 10 := by simpa using hs
      omega
    · exact h3
  refine ⟨by simp [h.len], by omega, by omega, ?_, .inr hv, ?_, h.digit⟩
  · rw [h.rest, Nat.div_div_eq_div_mul, show 20 - (k - 1) = 20 - k + 1 by omega, Nat.pow_succ]
  · rw [show k - 1 = k - 1 - 1 + 1 by omega, Nat.pow_succ, Nat.mul_comm] at hs
    exact Nat.div_lt_of_lt_mul hs
/-- Behind the last round: how many digits there are. -/
theorem ItoaInv.digits {u k v : Nat} {d : List Int} (h : ItoaInv u k v d) (hv : v / 10 = 0) : Lib.nDigits u = 21 - k := by
  have hp := h.pos
  have hl := h.le
  have h1 : u < 10 ^ (21 - k) := by
    have hr := h.rest
    rw [hr, Nat.div_div_eq_div_mul, ← Nat.pow_succ, show (20 - k).succ = 21 - k by omega] at hv
    exact (Nat.div_eq_zero_iff.mp hv).resolve_left (by have := Nat.pow_pos (n := 21 - k) (show 0 < 10 by omega); omega)
  rcases h.more with e | e
  · subst e
    exact Lib.nDigits_small (by simpa using h1)
  · rw [Lib.nDigits_unique (20 - k) u ?_ (by rw [show 20 - k + 1 = 21 - k by omega]; exact h1)]
    · omega
    · rw [h.rest] at e
      rcases Nat.lt_or_ge u (10 ^ (20 - k)) with hh | hh
      · exact absurd (Nat.div_eq_of_lt hh) e
      · exact hh
theorem ItoaInv.result {u k v : Nat} {d : List Int} (h : ItoaInv u k v d) (hv : v / 10 = 0) :
    (d.set (k - 1) (48 + (v : Int) % 10)).drop (k - 1) = (Lib.decDigits u).map fun b => (b.toNat : Int) := by
  have hp := h.pos
  have hl := h.le
  have hn := h.digits hv
  apply List.ext_getElem?
  intro i
  rw [Lib.decDigits_eq, hn, List.getElem?_drop]
  by_cases hi : i < 21 - k
  · have := h.digit (k - 1 + i) (by omega) (by omega)
    rw [List.getD_eq_getElem?_getD, List.getElem?_eq_getElem (by simp [h.len]; omega)] at this
    rw [List.getElem?_eq_getElem (by simp [h.len]; omega)]
    simp only [List.map_map, List.getElem?_map, List.getElem?_range hi, Option.map_some, Function.comp]
    simp only [Option.getD_some] at this
    rw [this, show 19 - (k - 1 + i) = 21 - k - 1 - i by omega]
  · rw [List.getElem?_eq_none (by simp [h.len]; omega), List.getElem?_eq_none (by simp; omega)]
theorem ItoaInv.resultN {u k v : Nat} {d : List Int} (h : ItoaInv u k v d) (hd : d.length = 20) (hv : v / 10 = 0) :
    ((d.set (k - 1) (48 + (v : Int) % 10)).set (k - 2) 45).drop (k - 2) = 45 :: (Lib.decDigits u).map fun b => (b.toNat : Int) := by
  have hp := h.pos
  have hl := h.le
  rw [← h.result hv]
  rw [List.drop_eq_getElem_cons (by simp [hd]; omega), List.getElem_set_self, show k - 2 + 1 = k - 1 by omega, List.drop_set, if_pos (by omega)]
theorem strOfNums_map (l : List UInt8) : strOfNums (l.map fun b => (b.toNat : Int)) = ⟨l.toArray⟩ := by
  unfold strOfNums
  congr 1
  congr 1
  rw [List.map_map]
  conv => rhs; rw [← List.map_id l]
  apply List.map_congr_left
  intro b _
  simp
end Go.Proofs.YtedfgkjimnjdpaaDoor.X
