/-
  basic.Pad answers the digits of its number, with noughts ahead: a walk over Itoa and Repeat.
-/
import Derived.Test.YtedfgkjimnjdpaaDoorExtItoa
import Derived.Test.YtedfgkjimnjdpaaDoorExtStr
namespace Go.Proofs.YtedfgkjimnjdpaaDoor.X
open Go.RowKit Go.Proofs.YtedfgkjimnjdpaaDoorW.PrintWords
set_option linter.unusedVariables false
set_option linter.unusedSimpArgs false
/-- How many noughts stand ahead. -/
def padN (w : Int) (n : Nat) : Int := max 0 (min (max w 1) 100 - (n : Int))
theorem padN_bd (w : Int) (n : Nat) : 0 ≤ padN w n ∧ padN w n ≤ 100 := by unfold padN; omega
theorem repeat_one (c : Nat) : Lib.repeatL [48] c = List.replicate c 48 := by
  induction c with
  | zero => rfl
  | succ c ih => simp [Lib.repeatL, ih, List.replicate_succ]
def padB (s : ByteArray) (w : Int) : ByteArray := (⟨(List.replicate (padN w s.size).toNat 48).toArray⟩ : ByteArray) ++ s
/-- basic.Pad. -/
def basic_Pad.f (n : Int) (w : Int) : Option ByteArray := (basic_Itoa.f n).bind fun s => if n < 0 then some s else some (padB s w)
theorem itoa_size21 {n : Int} {s : ByteArray} (h : basic_Itoa.f n = some s) : s.size ≤ 21 := by
  unfold basic_Itoa.f at h
  split at h
  · rename_i hh
    obtain rfl := Option.some.inj h
    have := Lib.itoa_length_le n hh.1 hh.2
    simpa [ByteArray.size] using this
  · exact absurd h (by simp)
theorem repeat_pad (c : Nat) (h : c ≤ 100) : strings_Repeat.f ⟨#[48]⟩ (c : Int) = some ⟨(List.replicate c 48).toArray⟩ := by
  unfold strings_Repeat.f
  rw [if_pos ⟨by omega, by omega, by simp [ByteArray.size]; omega⟩, Int.toNat_natCast, repeat_one]
set_option maxHeartbeats 1000000 in
set_option maxRecDepth 100000 in
theorem basic_Pad.calls (a0 a1 : Int) (r : ByteArray) (w : World) (h : basic_Pad.f a0 a1 = some r) :
    Calls Tryd.prog 30 #[.int .i64 a0, .int .i64 a1] w fun e w' => e = .returned (.string r) ∧ Below w.heap.size w w' := by
  unfold basic_Pad.f at h
  obtain ⟨s, h1, h⟩ := Option.bind_eq_some_iff.mp h
  have hs := itoa_size21 h1
  have H1 := Lib.hid h1
  clear h1
  by_cases hn : a0 < 0
  · rw [if_pos hn] at h
    obtain rfl := Option.some.inj h
    have hd : decide (a0 < 0) = true := by simpa using hn
    go_enter Tryd.func30, Tryd.ntmps30
    go_wp2_with (go_at_call 60; refine (basic_Itoa.calls a0 s _ H1.out).mono ?_; rintro e w1 ⟨rfl, hb⟩)
    go_ret
    exact ⟨rfl, hb⟩
  · rw [if_neg hn] at h
    obtain rfl := Option.some.inj h
    have hd : decide (a0 < 0) = false := by simpa using hn
    obtain ⟨hw1, hw2⟩ := padN_bd a1 s.size
    obtain ⟨m, hm⟩ : ∃ m : Nat, padN a1 s.size = m := ⟨(padN a1 s.size).toNat, by omega⟩
    have hrep := repeat_pad m (by omega)
    have hsz : (⟨(List.replicate m 48).toArray⟩ : ByteArray).size = m := by simp [ByteArray.size]
    have hfin : padB s a1 = (⟨(List.replicate m 48).toArray⟩ : ByteArray) ++ s := by unfold padB; rw [hm, Int.toNat_natCast]
    rw [← hm] at hrep
    generalize (⟨(List.replicate m 48).toArray⟩ : ByteArray) = t at hrep hsz hfin
    have hcat : t.size + s.size ≤ 9223372036854775807 := by omega
    have HR : Hid (strings_Repeat.f ⟨#[48]⟩ (max 0 (min (max a1 1) 100 - (s.size : Int))) = some t) := Lib.hid hrep
    have HF := Lib.hid hfin
    clear hm hsz hrep hfin hw1 hw2
    go_enter Tryd.func30, Tryd.ntmps30
    go_wp2_with (first | (go_at_call 60; refine (basic_Itoa.calls a0 s _ H1.out).mono ?_; rintro e w1 ⟨rfl, hb⟩) | (go_at_call 71; refine (strings_Repeat.calls _ _ t _ HR.out).mono ?_; rintro e w2 ⟨rfl, hb2⟩))
    go_ret
    exact ⟨ret_str HF.out.symm, below_step hb hb2⟩
end Go.Proofs.YtedfgkjimnjdpaaDoor.X
