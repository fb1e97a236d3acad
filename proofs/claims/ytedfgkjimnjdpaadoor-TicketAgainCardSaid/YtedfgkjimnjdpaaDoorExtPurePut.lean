/-
  What was put together of parts that may be is cut into them again.
-/
import Derived.Test.YtedfgkjimnjdpaaDoorExtPureSplit
namespace Go.Proofs.YtedfgkjimnjdpaaDoor.X
open Go.RowKit Go.Proofs.YtedfgkjimnjdpaaDoorW.PrintWords Go.Proofs.YtedfgkjimnjdpaaDoorW.PrintMore
set_option linter.unusedVariables false
set_option linter.unusedSimpArgs false
theorem allD_at {p : Int → Bool} {s : ByteArray} (d : Nat) : ∀ i, allD p s d i = true → ∀ j, i ≤ j → j < i + d → p (bt s (j : Int)) = true := by
  induction d with
  | zero => intro i _ j h1 h2; omega
  | succ d ih =>
    intro i h j h1 h2
    simp only [allD, Bool.and_eq_true] at h
    by_cases e : j = i
    · subst e; exact h.1
    · exact ih (i + 1) h.2 j (by omega) (by omega)
theorem mem_take {s : ByteArray} {n : Nat} {b : UInt8} (h : b ∈ s.data.toList.take n) : ∃ j, j < n ∧ ∃ hj : j < s.size, s[j]'hj = b := by
  obtain ⟨j, hj, e⟩ := List.mem_iff_getElem.1 h
  rw [List.length_take] at hj
  have hj2 : j < s.size := by have : j < s.data.toList.length := by omega
                              simpa using this
  refine ⟨j, by omega, hj2, ?_⟩
  rw [List.getElem_take] at e
  exact e
theorem all_mem {p : Int → Bool} {s : ByteArray} {n : Nat} (h : allD p s n 0 = true) {b : UInt8} (hb : b ∈ s.data.toList.take n) : p (b.toNat : Int) = true := by
  obtain ⟨j, h1, h2, rfl⟩ := mem_take hb
  have := allD_at n 0 h j (by omega) (by omega)
  rwa [q_bt s j h2] at this
theorem all_mem' {p : Int → Bool} {s : ByteArray} (h : allD p s s.size 0 = true) {b : UInt8} (hb : b ∈ s.data.toList) : p (b.toNat : Int) = true :=
  all_mem h (by rw [List.take_of_length_le (by simp)]; exact hb)
theorem host_no {x : ByteArray} (h : hostB x = true) (c : UInt8) (hc : pHost (c.toNat : Int) = false) : ∀ b ∈ x.data.toList, b ≠ c := by
  unfold hostB at h
  rw [Bool.and_eq_true] at h
  rintro b hb rfl
  rw [all_mem' h.2 hb] at hc
  cases hc
theorem account_no {x : ByteArray} (h : accountB x = true) (c : UInt8) (hc : digitB (c.toNat : Int) = false) : ∀ b ∈ x.data.toList, b ≠ c := by
  unfold accountB at h
  rw [Bool.and_eq_true] at h
  rintro b hb rfl
  rw [all_mem' h.2 hb] at hc
  cases hc
theorem queue_no {x : ByteArray} (h : queueB x = true) (c : UInt8) (hc : pQueue (c.toNat : Int) = false) (hs : c ∉ [46, 102, 105, 102, 111]) : ∀ b ∈ x.data.toList, b ≠ c := by
  unfold queueB at h
  simp only [Bool.and_eq_true, decide_eq_true_iff, beq_iff_eq] at h
  obtain ⟨⟨⟨h1, h2⟩, h3⟩, h4⟩ := h
  rintro b hb rfl
  rw [← List.take_append_drop (x.size - 5) x.data.toList] at hb
  rcases List.mem_append.1 hb with hb | hb
  · rw [all_mem h4 hb] at hc
    cases hc
  · rw [ByteArray.toList_eq, Lib.extract_to_end] at h3
    rw [h3] at hb
    exact hs hb
theorem hasB_iff (p s : ByteArray) : hasB p s = true ↔ s.data.toList.take p.size = p.data.toList := by
  unfold hasB
  rw [Bool.and_eq_true, decide_eq_true_iff, beq_iff_eq, ByteArray.toList_eq, ByteArray.toList_eq, ByteArray.data_extract, Array.toList_extract]
  simp only [List.extract, List.drop_zero, Nat.sub_zero]
  refine ⟨fun h => h.2, fun h => ⟨?_, h⟩⟩
  have := congrArg List.length h
  simp only [List.length_take, Array.length_toList] at this
  have e : p.data.size = p.size := rfl
  have e2 : s.data.size = s.size := rfl
  omega
theorem restB_of (p s : ByteArray) (l : List UInt8) (h : s.data.toList = p.data.toList ++ l) : hasB p s = true ∧ (restB p s).data.toList = l := by
  have hp : hasB p s = true := by
    rw [hasB_iff, h, List.take_append_of_le_length (by simp), List.take_of_length_le (by simp)]
  refine ⟨hp, ?_⟩
  unfold restB
  rw [if_pos hp, Lib.extract_to_end, h]
  have e : p.size = p.data.toList.length := by simp
  rw [e, List.drop_left]
theorem parts_put (p : ByteArray) (c : UInt8) (x y z : ByteArray) (hx : hostB x = true) (hy : accountB y = true) (hz : queueB z = true)
    (h1 : pHost (c.toNat : Int) = false) (h2 : digitB (c.toNat : Int) = false) (h3 : pQueue (c.toNat : Int) = false) (h4 : c ∉ [46, 102, 105, 102, 111]) :
    partsB p c (p ++ x ++ ⟨#[c]⟩ ++ y ++ ⟨#[c]⟩ ++ z) = some (x, y, z) ∧ partsB p c ((p ++ x ++ ⟨#[c]⟩ ++ y ++ ⟨#[c]⟩ ++ z) ++ ⟨#[c]⟩) = none := by
  have e1 : (p ++ x ++ ⟨#[c]⟩ ++ y ++ ⟨#[c]⟩ ++ z).data.toList = p.data.toList ++ (x.data.toList ++ c :: (y.data.toList ++ c :: z.data.toList)) := by simp
  have e2 : ((p ++ x ++ ⟨#[c]⟩ ++ y ++ ⟨#[c]⟩ ++ z) ++ ⟨#[c]⟩).data.toList = p.data.toList ++ (x.data.toList ++ c :: (y.data.toList ++ c :: (z.data.toList ++ c :: []))) := by simp
  obtain ⟨a1, b1⟩ := restB_of p _ _ e1
  obtain ⟨a2, b2⟩ := restB_of p _ _ e2
  unfold partsB
  rw [if_pos a1, if_pos a2]
  constructor
  · have : Lib.splitB ⟨#[c]⟩ 0 (Lib.countB (restB p (p ++ x ++ ⟨#[c]⟩ ++ y ++ ⟨#[c]⟩ ++ z)) ⟨#[c]⟩) (restB p (p ++ x ++ ⟨#[c]⟩ ++ y ++ ⟨#[c]⟩ ++ z)) = [x, y, z] := by
      apply list_data_inj
      rw [splitB_cs, b1, cs_append c _ _ (host_no hx c h1), cs_append c _ _ (account_no hy c h2), cs_none c _ (queue_no hz c h3 h4)]
      rfl
    rw [this]
    simp [goodB, hx, hy, hz]
  · have : Lib.splitB ⟨#[c]⟩ 0 (Lib.countB (restB p ((p ++ x ++ ⟨#[c]⟩ ++ y ++ ⟨#[c]⟩ ++ z) ++ ⟨#[c]⟩)) ⟨#[c]⟩) (restB p ((p ++ x ++ ⟨#[c]⟩ ++ y ++ ⟨#[c]⟩ ++ z) ++ ⟨#[c]⟩)) = [x, y, z, ⟨#[]⟩] := by
      apply list_data_inj
      rw [splitB_cs, b2, cs_append c _ _ (host_no hx c h1), cs_append c _ _ (account_no hy c h2), cs_append c _ _ (queue_no hz c h3 h4)]
      rfl
    rw [this]
    rfl
end Go.Proofs.YtedfgkjimnjdpaaDoor.X
