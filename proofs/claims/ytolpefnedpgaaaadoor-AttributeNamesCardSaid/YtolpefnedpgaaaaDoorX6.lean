-- printed by pp.py, a program of this session
import Derived.Test.YtolpefnedpgaaaaDoorX0
import Derived.Test.YtolpefnedpgaaaaDoorX2
namespace Go.Proofs.YtolpefnedpgaaaaDoor.X
open Go.RowKit Go.Proofs.YtolpefnedpgaaaaDoorW.PrintWords Go.Proofs.YtolpefnedpgaaaaDoorW.PrintLast Go.Proofs.YtolpefnedpgaaaaDoorW.PrintMore
attribute [local go_sem] max2_int min2_int max_two min_two max_three min_three max_four min_four   -- for this text's walks alone
set_option linter.unusedVariables false
set_option linter.unusedSimpArgs false

/-! ### racewayref24_Number: function 15 -/
mutual
def racewayref24_Number.j0 : Nat → ByteArray → Int → Bool → Option (Bool)
  | 0, _, _, _ => none
  | k + 1, x0, x3, x24 => if x24 = true then (racewayref24_Number.j1 k x0 (wrap64 (x3 + 1))) else (racewayref24_Number.j1 k x0 x3)
def racewayref24_Number.j1 : Nat → ByteArray → Int → Option (Bool)
  | 0, _, _ => none
  | k + 1, x0, x3 => racewayref24_Number.l0 k x0 x3 0 0
def racewayref24_Number.l0 : Nat → ByteArray → Int → Int → Int → Option (Bool)
  | 0, _, _, _, _ => none
  | k + 1, x0, x3, x4, x5 => if x3 < (x0.size : Int) then (if 0 ≤ x3 then ((racewayref24_digit.f (bt x0 x3)).bind fun t145 => (if t145 = true then (racewayref24_Number.j3 k x0 x3 x4 x5 true) else (racewayref24_Number.j3 k x0 x3 x4 x5 ((bt x0 x3) == 46)))) else (none)) else (racewayref24_Number.j3 k x0 x3 x4 x5 false)
def racewayref24_Number.j3 : Nat → ByteArray → Int → Int → Int → Bool → Option (Bool)
  | 0, _, _, _, _, _ => none
  | k + 1, x0, x3, x4, x5, x42 => if x42 = true then (if 0 ≤ x3 then (if x3 < (x0.size : Int) then (if (bt x0 x3) = 46 then (racewayref24_Number.l0 k x0 (wrap64 (x3 + 1)) x4 (wrap64 (x5 + 1))) else (racewayref24_Number.l0 k x0 (wrap64 (x3 + 1)) (wrap64 (x4 + 1)) x5)) else (none)) else (none)) else (if x4 < 1 then (racewayref24_Number.j4 k x0 x3 true) else (if x4 > 38 then (racewayref24_Number.j4 k x0 x3 true) else (racewayref24_Number.j4 k x0 x3 (decide (x5 > 1)))))
def racewayref24_Number.j4 : Nat → ByteArray → Int → Bool → Option (Bool)
  | 0, _, _, _ => none
  | k + 1, x0, x3, x62 => if x62 = true then (some false) else (if x3 = (x0.size : Int) then (some true) else (if 0 ≤ x3 then (if x3 < (x0.size : Int) then (if (bt x0 x3) = 101 then (racewayref24_Number.j5 k x0 x3 false) else (racewayref24_Number.j5 k x0 x3 ((bt x0 x3) != 69))) else (none)) else (none)))
def racewayref24_Number.j5 : Nat → ByteArray → Int → Bool → Option (Bool)
  | 0, _, _, _ => none
  | k + 1, x0, x3, x76 => if x76 = true then (some false) else (if (wrap64 (x3 + 1)) < (x0.size : Int) then (if 0 ≤ (wrap64 (x3 + 1)) then (if (bt x0 (wrap64 (x3 + 1))) = 43 then (racewayref24_Number.j6 k x0 (wrap64 (x3 + 1)) 126 true) else (racewayref24_Number.j6 k x0 (wrap64 (x3 + 1)) 126 ((bt x0 (wrap64 (x3 + 1))) == 45))) else (none)) else (racewayref24_Number.j6 k x0 (wrap64 (x3 + 1)) 126 false))
def racewayref24_Number.j6 : Nat → ByteArray → Int → Int → Bool → Option (Bool)
  | 0, _, _, _, _ => none
  | k + 1, x0, x3, x6, x94 => if x94 = true then (if 0 ≤ x3 then (if x3 < (x0.size : Int) then (if (bt x0 x3) = 45 then (racewayref24_Number.j7 k x0 (wrap64 (x3 + 1)) 128) else (racewayref24_Number.j7 k x0 (wrap64 (x3 + 1)) x6)) else (none)) else (none)) else (racewayref24_Number.j7 k x0 x3 x6)
def racewayref24_Number.j7 : Nat → ByteArray → Int → Int → Option (Bool)
  | 0, _, _, _ => none
  | k + 1, x0, x3, x6 => racewayref24_Number.l1 k x0 x3 x6 0 0
def racewayref24_Number.l1 : Nat → ByteArray → Int → Int → Int → Int → Option (Bool)
  | 0, _, _, _, _, _ => none
  | k + 1, x0, x3, x6, x7, x8 => if x3 < (x0.size : Int) then (if 0 ≤ x3 then ((racewayref24_digit.f (bt x0 x3)).bind fun t146 => (if t146 = true then (if x7 < 4 then (racewayref24_Number.l1 k x0 (wrap64 (x3 + 1)) x6 (wrap64 (x7 + 1)) (wrap64 ((wrap64 (10 * x8)) + (((bt x0 x3) - 48) % 256)))) else (if x3 = (x0.size : Int) then (if x7 ≥ 1 then (if x7 ≤ 3 then (some (decide (x8 ≤ x6))) else (some false)) else (some false)) else (some false))) else (if x3 = (x0.size : Int) then (if x7 ≥ 1 then (if x7 ≤ 3 then (some (decide (x8 ≤ x6))) else (some false)) else (some false)) else (some false)))) else (none)) else (if x3 = (x0.size : Int) then (if x7 ≥ 1 then (if x7 ≤ 3 then (some (decide (x8 ≤ x6))) else (some false)) else (some false)) else (some false))
end
def racewayref24_Number.f (k : Nat) (a0 : ByteArray) : Option (Bool) := if 0 < (a0.size : Int) then (if (bt a0 0) = 43 then (racewayref24_Number.j0 k a0 0 true) else (racewayref24_Number.j0 k a0 0 ((bt a0 0) == 45))) else (racewayref24_Number.j0 k a0 0 false)
theorem racewayref24_Number.mono_l : ∀ k, (∀ y0 y1 y2, LeO (racewayref24_Number.j0 k y0 y1 y2) (racewayref24_Number.j0 (k + 1) y0 y1 y2)) ∧ (∀ y0 y1, LeO (racewayref24_Number.j1 k y0 y1) (racewayref24_Number.j1 (k + 1) y0 y1)) ∧ (∀ y0 y1 y2 y3, LeO (racewayref24_Number.l0 k y0 y1 y2 y3) (racewayref24_Number.l0 (k + 1) y0 y1 y2 y3)) ∧ (∀ y0 y1 y2 y3 y4, LeO (racewayref24_Number.j3 k y0 y1 y2 y3 y4) (racewayref24_Number.j3 (k + 1) y0 y1 y2 y3 y4)) ∧ (∀ y0 y1 y2, LeO (racewayref24_Number.j4 k y0 y1 y2) (racewayref24_Number.j4 (k + 1) y0 y1 y2)) ∧ (∀ y0 y1 y2, LeO (racewayref24_Number.j5 k y0 y1 y2) (racewayref24_Number.j5 (k + 1) y0 y1 y2)) ∧ (∀ y0 y1 y2 y3, LeO (racewayref24_Number.j6 k y0 y1 y2 y3) (racewayref24_Number.j6 (k + 1) y0 y1 y2 y3)) ∧ (∀ y0 y1 y2, LeO (racewayref24_Number.j7 k y0 y1 y2) (racewayref24_Number.j7 (k + 1) y0 y1 y2)) ∧ (∀ y0 y1 y2 y3 y4, LeO (racewayref24_Number.l1 k y0 y1 y2 y3 y4) (racewayref24_Number.l1 (k + 1) y0 y1 y2 y3 y4))
  | 0 => ⟨fun _ _ _ r h => by simp [racewayref24_Number.j0] at h, fun _ _ r h => by simp [racewayref24_Number.j1] at h, fun _ _ _ _ r h => by simp [racewayref24_Number.l0] at h, fun _ _ _ _ _ r h => by simp [racewayref24_Number.j3] at h, fun _ _ _ r h => by simp [racewayref24_Number.j4] at h, fun _ _ _ r h => by simp [racewayref24_Number.j5] at h, fun _ _ _ _ r h => by simp [racewayref24_Number.j6] at h, fun _ _ _ r h => by simp [racewayref24_Number.j7] at h, fun _ _ _ _ _ r h => by simp [racewayref24_Number.l1] at h⟩
  | k + 1 => by
    obtain ⟨ih0, ih1, ih2, ih3, ih4, ih5, ih6, ih7, ih8⟩ := racewayref24_Number.mono_l k
    refine ⟨?_, ?_, ?_, ?_, ?_, ?_, ?_, ?_, ?_⟩
    · intro y0 y1 y2
      unfold racewayref24_Number.j0
      repeat' first
      | (with_reducible exact ih0 _ _ _)
      | (with_reducible exact ih1 _ _)
      | (with_reducible exact ih2 _ _ _ _)
      | (with_reducible exact ih3 _ _ _ _ _)
      | (with_reducible exact ih4 _ _ _)
      | (with_reducible exact ih5 _ _ _)
      | (with_reducible exact ih6 _ _ _ _)
      | (with_reducible exact ih7 _ _ _)
      | (with_reducible exact ih8 _ _ _ _ _)
      | (with_reducible exact LeO.refl _)
      | (with_reducible exact LeO.none _)
      | (with_reducible refine LeO.ite ?_ ?_)
      | (with_reducible refine LeO.bind ?_ (fun _ => ?_))
      | exact ih0 _ _ _
      | exact ih1 _ _
      | exact ih2 _ _ _ _
      | exact ih3 _ _ _ _ _
      | exact ih4 _ _ _
      | exact ih5 _ _ _
      | exact ih6 _ _ _ _
      | exact ih7 _ _ _
      | exact ih8 _ _ _ _ _
      | exact LeO.none _
      | refine LeO.ite ?_ ?_
      | refine LeO.bind ?_ (fun _ => ?_)
    · intro y0 y1
      unfold racewayref24_Number.j1
      repeat' first
      | (with_reducible exact ih0 _ _ _)
      | (with_reducible exact ih1 _ _)
      | (with_reducible exact ih2 _ _ _ _)
      | (with_reducible exact ih3 _ _ _ _ _)
      | (with_reducible exact ih4 _ _ _)
      | (with_reducible exact ih5 _ _ _)
      | (with_reducible exact ih6 _ _ _ _)
      | (with_reducible exact ih7 _ _ _)
      | (with_reducible exact ih8 _ _ _ _ _)
      | (with_reducible exact LeO.refl _)
      | (with_reducible exact LeO.none _)
      | (with_reducible refine LeO.ite ?_ ?_)
      | (with_reducible refine LeO.bind ?_ (fun _ => ?_))
      | exact ih0 _ _ _
      | exact ih1 _ _
      | exact ih2 _ _ _ _
      | exact ih3 _ _ _ _ _
      | exact ih4 _ _ _
      | exact ih5 _ _ _
      | exact ih6 _ _ _ _
      | exact ih7 _ _ _
      | exact ih8 _ _ _ _ _
      | exact LeO.none _
      | refine LeO.ite ?_ ?_
      | refine LeO.bind ?_ (fun _ => ?_)
    · intro y0 y1 y2 y3
      unfold racewayref24_Number.l0
      repeat' first
      | (with_reducible exact ih0 _ _ _)
      | (with_reducible exact ih1 _ _)
      | (with_reducible exact ih2 _ _ _ _)
      | (with_reducible exact ih3 _ _ _ _ _)
      | (with_reducible exact ih4 _ _ _)
      | (with_reducible exact ih5 _ _ _)
      | (with_reducible exact ih6 _ _ _ _)
      | (with_reducible exact ih7 _ _ _)
      | (with_reducible exact ih8 _ _ _ _ _)
      | (with_reducible exact LeO.refl _)
      | (with_reducible exact LeO.none _)
      | (with_reducible refine LeO.ite ?_ ?_)
      | (with_reducible refine LeO.bind ?_ (fun _ => ?_))
      | exact ih0 _ _ _
      | exact ih1 _ _
      | exact ih2 _ _ _ _
      | exact ih3 _ _ _ _ _
      | exact ih4 _ _ _
      | exact ih5 _ _ _
      | exact ih6 _ _ _ _
      | exact ih7 _ _ _
      | exact ih8 _ _ _ _ _
      | exact LeO.none _
      | refine LeO.ite ?_ ?_
      | refine LeO.bind ?_ (fun _ => ?_)
    · intro y0 y1 y2 y3 y4
      unfold racewayref24_Number.j3
      repeat' first
      | (with_reducible exact ih0 _ _ _)
      | (with_reducible exact ih1 _ _)
      | (with_reducible exact ih2 _ _ _ _)
      | (with_reducible exact ih3 _ _ _ _ _)
      | (with_reducible exact ih4 _ _ _)
      | (with_reducible exact ih5 _ _ _)
      | (with_reducible exact ih6 _ _ _ _)
      | (with_reducible exact ih7 _ _ _)
      | (with_reducible exact ih8 _ _ _ _ _)
      | (with_reducible exact LeO.refl _)
      | (with_reducible exact LeO.none _)
      | (with_reducible refine LeO.ite ?_ ?_)
      | (with_reducible refine LeO.bind ?_ (fun _ => ?_))
      | exact ih0 _ _ _
      | exact ih1 _ _
      | exact ih2 _ _ _ _
      | exact ih3 _ _ _ _ _
      | exact ih4 _ _ _
      | exact ih5 _ _ _
      | exact ih6 _ _ _ _
      | exact ih7 _ _ _
      | exact ih8 _ _ _ _ _
      | exact LeO.none _
      | refine LeO.ite ?_ ?_
      | refine LeO.bind ?_ (fun _ => ?_)
    · intro y0 y1 y2
      unfold racewayref24_Number.j4
      repeat' first
      | (with_reducible exact ih0 _ _ _)
      | (with_reducible exact ih1 _ _)
      | (with_reducible exact ih2 _ _ _ _)
      | (with_reducible exact ih3 _ _ _ _ _)
      | (with_reducible exact ih4 _ _ _)
      | (with_reducible exact ih5 _ _ _)
      | (with_reducible exact ih6 _ _ _ _)
      | (with_reducible exact ih7 _ _ _)
      | (with_reducible exact ih8 _ _ _ _ _)
      | (with_reducible exact LeO.refl _)
      | (with_reducible exact LeO.none _)
      | (with_reducible refine LeO.ite ?_ ?_)
      | (with_reducible refine LeO.bind ?_ (fun _ => ?_))
      | exact ih0 _ _ _
      | exact ih1 _ _
      | exact ih2 _ _ _ _
      | exact ih3 _ _ _ _ _
      | exact ih4 _ _ _
      | exact ih5 _ _ _
      | exact ih6 _ _ _ _
      | exact ih7 _ _ _
      | exact ih8 _ _ _ _ _
      | exact LeO.none _
      | refine LeO.ite ?_ ?_
      | refine LeO.bind ?_ (fun _ => ?_)
    · intro y0 y1 y2
      unfold racewayref24_Number.j5
      repeat' first
      | (with_reducible exact ih0 _ _ _)
      | (with_reducible exact ih1 _ _)
      | (with_reducible exact ih2 _ _ _ _)
      | (with_reducible exact ih3 _ _ _ _ _)
      | (with_reducible exact ih4 _ _ _)
      | (with_reducible exact ih5 _ _ _)
      | (with_reducible exact ih6 _ _ _ _)
      | (with_reducible exact ih7 _ _ _)
      | (with_reducible exact ih8 _ _ _ _ _)
      | (with_reducible exact LeO.refl _)
      | (with_reducible exact LeO.none _)
      | (with_reducible refine LeO.ite ?_ ?_)
      | (with_reducible refine LeO.bind ?_ (fun _ => ?_))
      | exact ih0 _ _ _
      | exact ih1 _ _
      | exact ih2 _ _ _ _
      | exact ih3 _ _ _ _ _
      | exact ih4 _ _ _
      | exact ih5 _ _ _
      | exact ih6 _ _ _ _
      | exact ih7 _ _ _
      | exact ih8 _ _ _ _ _
      | exact LeO.none _
      | refine LeO.ite ?_ ?_
      | refine LeO.bind ?_ (fun _ => ?_)
    · intro y0 y1 y2 y3
      unfold racewayref24_Number.j6
      repeat' first
      | (with_reducible exact ih0 _ _ _)
      | (with_reducible exact ih1 _ _)
      | (with_reducible exact ih2 _ _ _ _)
      | (with_reducible exact ih3 _ _ _ _ _)
      | (with_reducible exact ih4 _ _ _)
      | (with_reducible exact ih5 _ _ _)
      | (with_reducible exact ih6 _ _ _ _)
      | (with_reducible exact ih7 _ _ _)
      | (with_reducible exact ih8 _ _ _ _ _)
      | (with_reducible exact LeO.refl _)
      | (with_reducible exact LeO.none _)
      | (with_reducible refine LeO.ite ?_ ?_)
      | (with_reducible refine LeO.bind ?_ (fun _ => ?_))
      | exact ih0 _ _ _
      | exact ih1 _ _
      | exact ih2 _ _ _ _
      | exact ih3 _ _ _ _ _
      | exact ih4 _ _ _
      | exact ih5 _ _ _
      | exact ih6 _ _ _ _
      | exact ih7 _ _ _
      | exact ih8 _ _ _ _ _
      | exact LeO.none _
      | refine LeO.ite ?_ ?_
      | refine LeO.bind ?_ (fun _ => ?_)
    · intro y0 y1 y2
      unfold racewayref24_Number.j7
      repeat' first
      | (with_reducible exact ih0 _ _ _)
      | (with_reducible exact ih1 _ _)
      | (with_reducible exact ih2 _ _ _ _)
      | (with_reducible exact ih3 _ _ _ _ _)
      | (with_reducible exact ih4 _ _ _)
      | (with_reducible exact ih5 _ _ _)
      | (with_reducible exact ih6 _ _ _ _)
      | (with_reducible exact ih7 _ _ _)
      | (with_reducible exact ih8 _ _ _ _ _)
      | (with_reducible exact LeO.refl _)
      | (with_reducible exact LeO.none _)
      | (with_reducible refine LeO.ite ?_ ?_)
      | (with_reducible refine LeO.bind ?_ (fun _ => ?_))
      | exact ih0 _ _ _
      | exact ih1 _ _
      | exact ih2 _ _ _ _
      | exact ih3 _ _ _ _ _
      | exact ih4 _ _ _
      | exact ih5 _ _ _
      | exact ih6 _ _ _ _
      | exact ih7 _ _ _
      | exact ih8 _ _ _ _ _
      | exact LeO.none _
      | refine LeO.ite ?_ ?_
      | refine LeO.bind ?_ (fun _ => ?_)
    · intro y0 y1 y2 y3 y4
      unfold racewayref24_Number.l1
      repeat' first
      | (with_reducible exact ih0 _ _ _)
      | (with_reducible exact ih1 _ _)
      | (with_reducible exact ih2 _ _ _ _)
      | (with_reducible exact ih3 _ _ _ _ _)
      | (with_reducible exact ih4 _ _ _)
      | (with_reducible exact ih5 _ _ _)
      | (with_reducible exact ih6 _ _ _ _)
      | (with_reducible exact ih7 _ _ _)
      | (with_reducible exact ih8 _ _ _ _ _)
      | (with_reducible exact LeO.refl _)
      | (with_reducible exact LeO.none _)
      | (with_reducible refine LeO.ite ?_ ?_)
      | (with_reducible refine LeO.bind ?_ (fun _ => ?_))
      | exact ih0 _ _ _
      | exact ih1 _ _
      | exact ih2 _ _ _ _
      | exact ih3 _ _ _ _ _
      | exact ih4 _ _ _
      | exact ih5 _ _ _
      | exact ih6 _ _ _ _
      | exact ih7 _ _ _
      | exact ih8 _ _ _ _ _
      | exact LeO.none _
      | refine LeO.ite ?_ ?_
      | refine LeO.bind ?_ (fun _ => ?_)
theorem racewayref24_Number.mono : ∀ a0 k, LeO (racewayref24_Number.f k a0) (racewayref24_Number.f (k + 1) a0) := by
  intro a0 k
  obtain ⟨ih0, ih1, ih2, ih3, ih4, ih5, ih6, ih7, ih8⟩ := racewayref24_Number.mono_l k
  unfold racewayref24_Number.f
  repeat' first
      | (with_reducible exact ih0 _ _ _)
      | (with_reducible exact ih1 _ _)
      | (with_reducible exact ih2 _ _ _ _)
      | (with_reducible exact ih3 _ _ _ _ _)
      | (with_reducible exact ih4 _ _ _)
      | (with_reducible exact ih5 _ _ _)
      | (with_reducible exact ih6 _ _ _ _)
      | (with_reducible exact ih7 _ _ _)
      | (with_reducible exact ih8 _ _ _ _ _)
      | (with_reducible exact LeO.refl _)
      | (with_reducible exact LeO.none _)
      | (with_reducible refine LeO.ite ?_ ?_)
      | (with_reducible refine LeO.bind ?_ (fun _ => ?_))
      | exact ih0 _ _ _
      | exact ih1 _ _
      | exact ih2 _ _ _ _
      | exact ih3 _ _ _ _ _
      | exact ih4 _ _ _
      | exact ih5 _ _ _
      | exact ih6 _ _ _ _
      | exact ih7 _ _ _
      | exact ih8 _ _ _ _ _
      | exact LeO.none _
      | refine LeO.ite ?_ ?_
      | refine LeO.bind ?_ (fun _ => ?_)
set_option maxHeartbeats 8000000 in
set_option maxRecDepth 100000 in
theorem racewayref24_Number.calls (k : Nat) (a0 : ByteArray) (r : Bool) (w : World) (h : racewayref24_Number.f k a0 = some r) :
    Calls Tryd.prog 15 #[.string a0] w fun e w' => e = .returned (.bool r) ∧ Drawn0 w w' := by
  have H : (if 0 < (a0.size : Int) then (if (bt a0 0) = 43 then (racewayref24_Number.j0 k a0 0 true) else (racewayref24_Number.j0 k a0 0 ((bt a0 0) == 45))) else (racewayref24_Number.j0 k a0 0 false)) = some r := h
  clear h
  have HC2 := Aside0.mk H
  clear H
  go_enter Tryd.func15, Tryd.ntmps15
  go_upto_region 2 with (fail)
  go_cut [24] (fun v24 wc => ∃ (kq : Nat) (x24_1 : Bool), v24 = .bool x24_1 ∧ Aside0 (racewayref24_Number.j0 kq a0 0 x24_1 = some r) ∧ Aside0 (kq ≤ k) ∧ Drawn0 w wc)
  case first =>
    have H := HC2.out
    clear HC2
    by_cases c3 : 0 < (a0.size : Int)
    · rw [if_pos c3] at H
      have c3b0 : decide (0 < (a0.size : Int)) = true := decide_eq_true c3
      have c3b1 : decide (0 < a0.size) = true := decide_eq_true (by omega)
      clear c3
      (first | rw [c3b0] | (simp only [i64_w, i32_w]; rw [c3b0]) | skip)
      by_cases c5 : (bt a0 0) = 43
      · rw [if_pos c5] at H
        have c5b0 : ((bt a0 0) == 43) = true := beq_iff_eq.mpr c5
        have c5b1 : ((bt a0 0) != 43) = false := bne_eq_false_iff_eq.mpr c5
        clear c5
        have H' := Aside0.mk H
        clear H
        have p4 : 0 ≤ (0 : Int) := (by omega)
        have q4 : 0 < a0.size := (by have : (0 : Int) < (a0.size : Int) := of_decide_eq_true (by first | (with_reducible assumption) | assumption); omega)
        have hx4 : ∀ h : 0 < a0.size, ((a0[0]'h).toNat : Int) = bt a0 0 := bt_at a0 0
        clear p4
        have qi4 : (0 < (a0.size : Int)) = True := eq_true (of_decide_eq_true (by first | (with_reducible assumption) | assumption))
        replace q4 := eq_true q4
        go_wp2
        go_meet
        case rel => exact ⟨_, (true), (by first | rfl | (simp; done) | (simp; decide +kernel) | (simp [*]; done)), (by first | exact H' | (subst_vars; exact H')), ⟨by first | omega | exact Nat.le_refl _⟩, by repeat (first | exact Drawn0.refl _ | apply Drawn0.step)⟩
      · rw [if_neg c5] at H
        have c5b0 : ((bt a0 0) == 43) = false := beq_eq_false_iff_ne.mpr c5
        have c5b1 : ((bt a0 0) != 43) = true := bne_iff_ne.mpr c5
        have H' := Aside0.mk H
        clear H
        have p4 : 0 ≤ (0 : Int) := (by omega)
        have q4 : 0 < a0.size := (by have : (0 : Int) < (a0.size : Int) := of_decide_eq_true (by first | (with_reducible assumption) | assumption); omega)
        have hx4 : ∀ h : 0 < a0.size, ((a0[0]'h).toNat : Int) = bt a0 0 := bt_at a0 0
        clear p4
        have qi4 : (0 < (a0.size : Int)) = True := eq_true (of_decide_eq_true (by first | (with_reducible assumption) | assumption))
        replace q4 := eq_true q4
        have p6 : 0 ≤ (0 : Int) := (by omega)
        have q6 : 0 < a0.size := (by have : (0 : Int) < (a0.size : Int) := of_decide_eq_true (by first | (with_reducible assumption) | assumption); omega)
        have hx6 : ∀ h : 0 < a0.size, ((a0[0]'h).toNat : Int) = bt a0 0 := bt_at a0 0
        clear p6
        have qi6 : (0 < (a0.size : Int)) = True := eq_true (of_decide_eq_true (by first | (with_reducible assumption) | assumption))
        replace q6 := eq_true q6
        go_wp2
        go_meet
        case rel => exact ⟨_, (((bt a0 0) == 45)), (by first | rfl | (simp; done) | (simp; decide +kernel) | (simp [*]; done)), (by first | exact H' | (subst_vars; exact H')), ⟨by first | omega | exact Nat.le_refl _⟩, by repeat (first | exact Drawn0.refl _ | apply Drawn0.step)⟩
    · rw [if_neg c3] at H
      have c3b0 : decide (0 < (a0.size : Int)) = false := decide_eq_false c3
      have c3b1 : decide (0 < a0.size) = false := decide_eq_false (by omega)
      clear c3
      (first | rw [c3b0] | (simp only [i64_w, i32_w]; rw [c3b0]) | skip)
      have H' := Aside0.mk H
      clear H
      go_wp2
      go_meet
      case rel => exact ⟨_, (false), (by first | rfl | (simp; done) | (simp; decide +kernel) | (simp [*]; done)), (by first | exact H' | (subst_vars; exact H')), ⟨by first | omega | exact Nat.le_refl _⟩, by repeat (first | exact Drawn0.refl _ | apply Drawn0.step)⟩
  case rest =>
    clear HC2
    try clear c1
    try clear p2
    try clear c3
    try clear c3b0
    try clear c3b1
    try clear p4
    try clear q4
    try clear hx4
    try clear qi4
    try clear c5
    try clear c5b0
    try clear c5b1
    try clear p6
    try clear q6
    try clear hx6
    try clear qi6
    try clear p4
    try clear p6
    try clear q4
    try clear q6
    obtain ⟨kq, x24_1, rfl, HA, HJ1, ⟨mc1, rfl⟩⟩ := hcut
    cases kq with
    | zero => exact absurd HA.out (by simp [racewayref24_Number.j0])
    | succ kj1 =>
      have H := HA.out
      clear HA
      simp only [racewayref24_Number.j0] at H
      have HC7 := Aside0.mk H
      clear H
      go_upto_if 24 with (fail)
      go_cut [3] (fun v3 wc => ∃ (kq : Nat) (x3_6 : Int), v3 = .int .i64 x3_6 ∧ Aside0 (racewayref24_Number.j1 kq a0 x3_6 = some r) ∧ Aside0 (kq ≤ kj1) ∧ Drawn0 w wc)
      case first =>
        have H := HC7.out
        clear HC7
        by_cases c8 : x24_1 = true
        · subst c8
          have H1 : (racewayref24_Number.j1 kj1 a0 (wrap64 (0 + 1))) = some r := by rw [if_pos rfl] at H; exact H
          clear H
          have H := H1
          clear H1
          have H' := Aside0.mk H
          clear H
          go_wp2
          go_meet
          case rel => exact ⟨_, (wrap64 (0 + 1)), (by first | rfl | (simp; done) | (simp; decide +kernel) | (simp [*]; done)), (by first | exact H' | (subst_vars; exact H')), ⟨by have := HJ1.out; first | omega | exact Nat.le_refl _⟩, by repeat (first | exact Drawn0.refl _ | apply Drawn0.step)⟩
        · replace c8 := Bool.eq_false_iff.mpr c8
          subst c8
          have H1 : (racewayref24_Number.j1 kj1 a0 0) = some r := by rw [if_neg (show ¬ (false = true) by decide)] at H; exact H
          clear H
          have H := H1
          clear H1
          have H' := Aside0.mk H
          clear H
          go_wp2
          go_meet
          case rel => exact ⟨_, (0), (by first | rfl | (simp; done) | (simp; decide +kernel) | (simp [*]; done)), (by first | exact H' | (subst_vars; exact H')), ⟨by have := HJ1.out; first | omega | exact Nat.le_refl _⟩, by repeat (first | exact Drawn0.refl _ | apply Drawn0.step)⟩
      case rest =>
        clear HC7
        try clear c1
        try clear p2
        try clear c3
        try clear c3b0
        try clear c3b1
        try clear p4
        try clear q4
        try clear hx4
        try clear qi4
        try clear c5
        try clear c5b0
        try clear c5b1
        try clear p6
        try clear q6
        try clear hx6
        try clear qi6
        try clear c8
        try clear p2
        try clear p4
        try clear p6
        try clear q4
        try clear q6
        obtain ⟨kq, x3_6, rfl, HA, HJ6, ⟨mc6, rfl⟩⟩ := hcut
        cases kq with
        | zero => exact absurd HA.out (by simp [racewayref24_Number.j1])
        | succ kj6 =>
          have H := HA.out
          clear HA
          simp only [racewayref24_Number.j1] at H
          have H' := Aside0.mk H
          clear H
          go_wp2
          go_loopg [3, 4, 5] kj6 (fun kq v3 v4 v5 w' => ∃ (x3_3 : Int) (x4_3 : Int) (x5_3 : Int), v3 = .int .i64 x3_3 ∧ v4 = .int .i64 x4_3 ∧ v5 = .int .i64 x5_3 ∧ Aside0 (racewayref24_Number.l0 kq a0 x3_3 x4_3 x5_3 = some r) ∧ Aside0 (kq ≤ kj6) ∧ Drawn0 w w')
          case atStart => exact ⟨(x3_6), (0), (0), (by first | rfl | (simp; done) | (simp; decide +kernel) | (simp [*]; done)), (by first | rfl | (simp; done) | (simp; decide +kernel) | (simp [*]; done)), (by first | rfl | (simp; done) | (simp; decide +kernel) | (simp [*]; done)), (by first | exact H' | (subst_vars; exact H')), ⟨Nat.le_refl _⟩, by repeat (first | exact Drawn0.refl _ | apply Drawn0.step)⟩
          case round =>
            clear H'
            try clear c1
            try clear p2
            try clear c3
            try clear c3b0
            try clear c3b1
            try clear p4
            try clear q4
            try clear hx4
            try clear qi4
            try clear c5
            try clear c5b0
            try clear c5b1
            try clear c6
            try clear p6
            try clear q6
            try clear hx6
            try clear qi6
            try clear c8
            try clear p2
            try clear p4
            try clear p6
            try clear q4
            try clear q6
            obtain ⟨x3_3, x4_3, x5_3, rfl, rfl, rfl, HA, HK3, ⟨m3, rfl⟩⟩ := hrel
            cases gk with
            | zero => exact absurd HA.out (by simp [racewayref24_Number.l0])
            | succ k3 =>
              have H := HA.out
              clear HA
              simp only [racewayref24_Number.l0] at H
              have HC9 := Aside0.mk H
              clear H
              go_upto_region 6 with (fail)
              go_cut [42] (fun v42 wc => ∃ (kq : Nat) (x42_8 : Bool), v42 = .bool x42_8 ∧ Aside0 (racewayref24_Number.j3 kq a0 x3_3 x4_3 x5_3 x42_8 = some r) ∧ Aside0 (kq ≤ k3) ∧ Drawn0 w wc)
              case first =>
                have H := HC9.out
                clear HC9
                by_cases c10 : x3_3 < (a0.size : Int)
                · rw [if_pos c10] at H
                  have c10b0 : decide (x3_3 < (a0.size : Int)) = true := decide_eq_true c10
                  clear c10
                  (first | rw [c10b0] | (simp only [i64_w, i32_w]; rw [c10b0]) | skip)
                  by_cases c11 : 0 ≤ x3_3
                  · rw [if_pos c11] at H
                    have c11b0 : decide (0 ≤ x3_3) = true := decide_eq_true c11
                    clear c11
                    replace H := Option.bind_eq_some_iff.mp H
                    obtain ⟨t145, A130, H⟩ := H
                    replace H : (if t145 = true then (racewayref24_Number.j3 k3 a0 x3_3 x4_3 x5_3 true) else (racewayref24_Number.j3 k3 a0 x3_3 x4_3 x5_3 ((bt a0 x3_3) == 46))) = some r := H
                    have A13 := Aside0.mk A130
                    clear A130
                    by_cases c14 : t145 = true
                    · subst c14
                      have H1 : (racewayref24_Number.j3 k3 a0 x3_3 x4_3 x5_3 true) = some r := by rw [if_pos rfl] at H; exact H
                      clear H
                      have H := H1
                      clear H1
                      have H' := Aside0.mk H
                      clear H
                      have p12 : 0 ≤ (x3_3 : Int) := of_decide_eq_true (by first | (with_reducible assumption) | assumption)
                      have q12 : x3_3 < (a0.size : Int) := of_decide_eq_true (by first | (with_reducible assumption) | assumption)
                      have hx12 := bt_at a0 x3_3
                      replace p12 := eq_true p12
                      replace q12 := eq_true q12
                      go_wp2_with (first | (go_at_call 41; (with_reducible refine (racewayref24_digit.calls (bt a0 x3_3) true _ A13.out).mono ?_); rintro e w' ⟨rfl, ⟨nd, rfl⟩⟩))
                      go_meet
                      case rel => exact ⟨_, (true), (by first | rfl | (simp; done) | (simp; decide +kernel) | (simp [*]; done)), (by first | exact H' | (subst_vars; exact H')), ⟨by have := HJ1.out; have := HJ6.out; have := HK3.out; first | omega | exact Nat.le_refl _⟩, by repeat (first | exact Drawn0.refl _ | apply Drawn0.step)⟩
                    · replace c14 := Bool.eq_false_iff.mpr c14
                      subst c14
                      have H1 : (racewayref24_Number.j3 k3 a0 x3_3 x4_3 x5_3 ((bt a0 x3_3) == 46)) = some r := by rw [if_neg (show ¬ (false = true) by decide)] at H; exact H
                      clear H
                      have H := H1
                      clear H1
                      have H' := Aside0.mk H
                      clear H
                      have p12 : 0 ≤ (x3_3 : Int) := of_decide_eq_true (by first | (with_reducible assumption) | assumption)
                      have q12 : x3_3 < (a0.size : Int) := of_decide_eq_true (by first | (with_reducible assumption) | assumption)
                      have hx12 := bt_at a0 x3_3
                      replace p12 := eq_true p12
                      replace q12 := eq_true q12
                      go_wp2_with (first | (go_at_call 41; (with_reducible refine (racewayref24_digit.calls (bt a0 x3_3) false _ A13.out).mono ?_); rintro e w' ⟨rfl, ⟨nd, rfl⟩⟩; have p15 : 0 ≤ (x3_3 : Int) := of_decide_eq_true (by first | (with_reducible assumption) | assumption); have q15 : x3_3 < (a0.size : Int) := of_decide_eq_true (by first | (with_reducible assumption) | assumption); have hx15 := bt_at a0 x3_3; replace p15 := eq_true p15; replace q15 := eq_true q15))
                      go_meet
                      case rel => exact ⟨_, (((bt a0 x3_3) == 46)), (by first | rfl | (simp; done) | (simp; decide +kernel) | (simp [*]; done)), (by first | exact H' | (subst_vars; exact H')), ⟨by have := HJ1.out; have := HJ6.out; have := HK3.out; first | omega | exact Nat.le_refl _⟩, by repeat (first | exact Drawn0.refl _ | apply Drawn0.step)⟩
                  · rw [if_neg c11] at H
                    exact absurd H (by simp)
                · rw [if_neg c10] at H
                  have c10b0 : decide (x3_3 < (a0.size : Int)) = false := decide_eq_false c10
                  clear c10
                  (first | rw [c10b0] | (simp only [i64_w, i32_w]; rw [c10b0]) | skip)
                  have H' := Aside0.mk H
                  clear H
                  go_wp2
                  go_meet
                  case rel => exact ⟨_, (false), (by first | rfl | (simp; done) | (simp; decide +kernel) | (simp [*]; done)), (by first | exact H' | (subst_vars; exact H')), ⟨by have := HJ1.out; have := HJ6.out; have := HK3.out; first | omega | exact Nat.le_refl _⟩, by repeat (first | exact Drawn0.refl _ | apply Drawn0.step)⟩
              case rest =>
                clear HC9
                try clear c1
                try clear p1
                try clear q1
                try clear hx1
                try clear p2
                try clear c3
                try clear c3b0
                try clear c3b1
                try clear p4
                try clear q4
                try clear hx4
                try clear qi4
                try clear c5
                try clear c5b0
                try clear c5b1
                try clear c6
                try clear p6
                try clear q6
                try clear hx6
                try clear qi6
                try clear c8
                try clear c10
                try clear c10b0
                try clear c11
                try clear c11b0
                try clear p12
                try clear q12
                try clear hx12
                try clear c14
                try clear c15
                try clear p15
                try clear q15
                try clear hx15
                try clear p12
                try clear p15
                try clear p2
                try clear p4
                try clear p6
                try clear q12
                try clear q15
                try clear q4
                try clear q6
                obtain ⟨kq, x42_8, rfl, HA, HJ8, ⟨mc8, rfl⟩⟩ := hcut
                cases kq with
                | zero => exact absurd HA.out (by simp [racewayref24_Number.j3])
                | succ kj8 =>
                  have H := HA.out
                  clear HA
                  simp only [racewayref24_Number.j3] at H
                  by_cases c16 : x42_8 = true
                  · subst c16
                    have H1 : (if 0 ≤ x3_3 then (if x3_3 < (a0.size : Int) then (if (bt a0 x3_3) = 46 then (racewayref24_Number.l0 kj8 a0 (wrap64 (x3_3 + 1)) x4_3 (wrap64 (x5_3 + 1))) else (racewayref24_Number.l0 kj8 a0 (wrap64 (x3_3 + 1)) (wrap64 (x4_3 + 1)) x5_3)) else (none)) else (none)) = some r := by rw [if_pos rfl] at H; exact H
                    clear H
                    have H := H1
                    clear H1
                    by_cases c17 : 0 ≤ x3_3
                    · rw [if_pos c17] at H
                      have c17b0 : decide (0 ≤ x3_3) = true := decide_eq_true c17
                      clear c17
                      by_cases c18 : x3_3 < (a0.size : Int)
                      · rw [if_pos c18] at H
                        have c18b0 : decide (x3_3 < (a0.size : Int)) = true := decide_eq_true c18
                        clear c18
                        by_cases c20 : (bt a0 x3_3) = 46
                        · rw [if_pos c20] at H
                          have c20b0 : ((bt a0 x3_3) == 46) = true := beq_iff_eq.mpr c20
                          have c20b1 : ((bt a0 x3_3) != 46) = false := bne_eq_false_iff_eq.mpr c20
                          clear c20
                          have H' := Aside0.mk H
                          clear H
                          have p19 : 0 ≤ (x3_3 : Int) := of_decide_eq_true (by first | (with_reducible assumption) | assumption)
                          have q19 : x3_3 < (a0.size : Int) := of_decide_eq_true (by first | (with_reducible assumption) | assumption)
                          have hx19 := bt_at a0 x3_3
                          replace p19 := eq_true p19
                          replace q19 := eq_true q19
                          go_wp2
                          go_roundg kj8
                          case measure => have := HJ1.out; have := HJ6.out; have := HK3.out; have := HJ8.out; omega
                          case rel => exact ⟨(wrap64 (x3_3 + 1)), (x4_3), (wrap64 (x5_3 + 1)), (by first | rfl | (simp; done) | (simp; decide +kernel) | (simp [*]; done)), (by first | rfl | (simp; done) | (simp; decide +kernel) | (simp [*]; done)), (by first | rfl | (simp; done) | (simp; decide +kernel) | (simp [*]; done)), (by first | exact H' | (subst_vars; exact H')), ⟨by have := HJ1.out; have := HJ6.out; have := HK3.out; have := HJ8.out; omega⟩, by repeat (first | exact Drawn0.refl _ | apply Drawn0.step)⟩
                        · rw [if_neg c20] at H
                          have c20b0 : ((bt a0 x3_3) == 46) = false := beq_eq_false_iff_ne.mpr c20
                          have c20b1 : ((bt a0 x3_3) != 46) = true := bne_iff_ne.mpr c20
                          have H' := Aside0.mk H
                          clear H
                          have p19 : 0 ≤ (x3_3 : Int) := of_decide_eq_true (by first | (with_reducible assumption) | assumption)
                          have q19 : x3_3 < (a0.size : Int) := of_decide_eq_true (by first | (with_reducible assumption) | assumption)
                          have hx19 := bt_at a0 x3_3
                          replace p19 := eq_true p19
                          replace q19 := eq_true q19
                          go_wp2
                          go_roundg kj8
                          case measure => have := HJ1.out; have := HJ6.out; have := HK3.out; have := HJ8.out; omega
                          case rel => exact ⟨(wrap64 (x3_3 + 1)), (wrap64 (x4_3 + 1)), (x5_3), (by first | rfl | (simp; done) | (simp; decide +kernel) | (simp [*]; done)), (by first | rfl | (simp; done) | (simp; decide +kernel) | (simp [*]; done)), (by first | rfl | (simp; done) | (simp; decide +kernel) | (simp [*]; done)), (by first | exact H' | (subst_vars; exact H')), ⟨by have := HJ1.out; have := HJ6.out; have := HK3.out; have := HJ8.out; omega⟩, by repeat (first | exact Drawn0.refl _ | apply Drawn0.step)⟩
                      · rw [if_neg c18] at H
                        exact absurd H (by simp)
                    · rw [if_neg c17] at H
                      exact absurd H (by simp)
                  · replace c16 := Bool.eq_false_iff.mpr c16
                    subst c16
                    have H1 : (if x4_3 < 1 then (racewayref24_Number.j4 kj8 a0 x3_3 true) else (if x4_3 > 38 then (racewayref24_Number.j4 kj8 a0 x3_3 true) else (racewayref24_Number.j4 kj8 a0 x3_3 (decide (x5_3 > 1))))) = some r := by rw [if_neg (show ¬ (false = true) by decide)] at H; exact H
                    clear H
                    have H := H1
                    clear H1
                    have HC21 := Aside0.mk H
                    clear H
                    go_upto_region 11 with (fail)
                    go_cut [62] (fun v62 wc => ∃ (kq : Nat) (x62_20 : Bool), v62 = .bool x62_20 ∧ Aside0 (racewayref24_Number.j4 kq a0 x3_3 x62_20 = some r) ∧ Aside0 (kq ≤ kj8) ∧ Drawn0 w wc)
                    case first =>
                      have H := HC21.out
                      clear HC21
                      by_cases c22 : x4_3 < 1
                      · rw [if_pos c22] at H
                        have c22b0 : decide (x4_3 < 1) = true := decide_eq_true c22
                        clear c22
                        (first | rw [c22b0] | (simp only [i64_w, i32_w]; rw [c22b0]) | skip)
                        have H' := Aside0.mk H
                        clear H
                        go_wp2
                        go_meet
                        case rel => exact ⟨_, (true), (by first | rfl | (simp; done) | (simp; decide +kernel) | (simp [*]; done)), (by first | exact H' | (subst_vars; exact H')), ⟨by have := HJ1.out; have := HJ6.out; have := HK3.out; have := HJ8.out; first | omega | exact Nat.le_refl _⟩, by repeat (first | exact Drawn0.refl _ | apply Drawn0.step)⟩
                      · rw [if_neg c22] at H
                        have c22b0 : decide (x4_3 < 1) = false := decide_eq_false c22
                        clear c22
                        (first | rw [c22b0] | (simp only [i64_w, i32_w]; rw [c22b0]) | skip)
                        by_cases c23 : x4_3 > 38
                        · rw [if_pos c23] at H
                          have c23b0 : decide (38 < x4_3) = true := decide_eq_true c23
                          clear c23
                          have H' := Aside0.mk H
                          clear H
                          go_wp2
                          go_meet
                          case rel => exact ⟨_, (true), (by first | rfl | (simp; done) | (simp; decide +kernel) | (simp [*]; done)), (by first | exact H' | (subst_vars; exact H')), ⟨by have := HJ1.out; have := HJ6.out; have := HK3.out; have := HJ8.out; first | omega | exact Nat.le_refl _⟩, by repeat (first | exact Drawn0.refl _ | apply Drawn0.step)⟩
                        · rw [if_neg c23] at H
                          have c23b0 : decide (38 < x4_3) = false := decide_eq_false c23
                          clear c23
                          have H' := Aside0.mk H
                          clear H
                          go_wp2
                          go_meet
                          case rel => exact ⟨_, (decide (x5_3 > 1)), (by first | rfl | (simp; done) | (simp; decide +kernel) | (simp [*]; done)), (by first | exact H' | (subst_vars; exact H')), ⟨by have := HJ1.out; have := HJ6.out; have := HK3.out; have := HJ8.out; first | omega | exact Nat.le_refl _⟩, by repeat (first | exact Drawn0.refl _ | apply Drawn0.step)⟩
                    case rest =>
                      clear HC21
                      try clear c1
                      try clear p1
                      try clear q1
                      try clear hx1
                      try clear c2
                      try clear p2
                      try clear c3
                      try clear c3b0
                      try clear c3b1
                      try clear p4
                      try clear q4
                      try clear hx4
                      try clear qi4
                      try clear c5
                      try clear c5b0
                      try clear c5b1
                      try clear c6
                      try clear p6
                      try clear q6
                      try clear hx6
                      try clear qi6
                      try clear c8
                      try clear c10
                      try clear c10b0
                      try clear c11
                      try clear c11b0
                      try clear p12
                      try clear q12
                      try clear hx12
                      try clear c14
                      try clear c15
                      try clear p15
                      try clear q15
                      try clear hx15
                      try clear c16
                      try clear c17
                      try clear c17b0
                      try clear c18
                      try clear c18b0
                      try clear p19
                      try clear q19
                      try clear hx19
                      try clear c20
                      try clear c20b0
                      try clear c20b1
                      try clear c22
                      try clear c22b0
                      try clear c23
                      try clear c23b0
                      try clear p1
                      try clear p12
                      try clear p15
                      try clear p19
                      try clear p2
                      try clear p4
                      try clear p6
                      try clear q1
                      try clear q12
                      try clear q15
                      try clear q19
                      try clear q4
                      try clear q6
                      obtain ⟨kq, x62_20, rfl, HA, HJ20, ⟨mc20, rfl⟩⟩ := hcut
                      cases kq with
                      | zero => exact absurd HA.out (by simp [racewayref24_Number.j4])
                      | succ kj20 =>
                        have H := HA.out
                        clear HA
                        simp only [racewayref24_Number.j4] at H
                        by_cases c24 : x62_20 = true
                        · subst c24
                          have H1 : (some false) = some r := by rw [if_pos rfl] at H; exact H
                          clear H
                          have H := H1
                          clear H1
                          obtain rfl := Option.some.inj H
                          go_wp2
                          go_ret
                          exact ⟨by first | rfl | (simp; done) | (simp; decide +kernel) | (simp [*]; done), by repeat (first | exact Drawn0.refl _ | apply Drawn0.step)⟩
                        · replace c24 := Bool.eq_false_iff.mpr c24
                          subst c24
                          have H1 : (if x3_3 = (a0.size : Int) then (some true) else (if 0 ≤ x3_3 then (if x3_3 < (a0.size : Int) then (if (bt a0 x3_3) = 101 then (racewayref24_Number.j5 kj20 a0 x3_3 false) else (racewayref24_Number.j5 kj20 a0 x3_3 ((bt a0 x3_3) != 69))) else (none)) else (none))) = some r := by rw [if_neg (show ¬ (false = true) by decide)] at H; exact H
                          clear H
                          have H := H1
                          clear H1
                          by_cases c25 : x3_3 = (a0.size : Int)
                          · rw [if_pos c25] at H
                            have c25b0 : (x3_3 == (a0.size : Int)) = true := beq_iff_eq.mpr c25
                            have c25b1 : (x3_3 != (a0.size : Int)) = false := bne_eq_false_iff_eq.mpr c25
                            clear c25
                            obtain rfl := Option.some.inj H
                            go_wp2
                            go_ret
                            exact ⟨by first | rfl | (simp; done) | (simp; decide +kernel) | (simp [*]; done), by repeat (first | exact Drawn0.refl _ | apply Drawn0.step)⟩
                          · rw [if_neg c25] at H
                            have c25b0 : (x3_3 == (a0.size : Int)) = false := beq_eq_false_iff_ne.mpr c25
                            have c25b1 : (x3_3 != (a0.size : Int)) = true := bne_iff_ne.mpr c25
                            have HC26 := Aside0.mk H
                            clear H
                            go_upto_region 15 with (fail)
                            go_cut [76] (fun v76 wc => ∃ (kq : Nat) (x76_25 : Bool), v76 = .bool x76_25 ∧ Aside0 (racewayref24_Number.j5 kq a0 x3_3 x76_25 = some r) ∧ Aside0 (kq ≤ kj20) ∧ Drawn0 w wc)
                            case first =>
                              have H := HC26.out
                              clear HC26
                              by_cases c27 : 0 ≤ x3_3
                              · rw [if_pos c27] at H
                                have c27b0 : decide (0 ≤ x3_3) = true := decide_eq_true c27
                                clear c27
                                (first | rw [c27b0] | (simp only [i64_w, i32_w]; rw [c27b0]) | skip)
                                by_cases c28 : x3_3 < (a0.size : Int)
                                · rw [if_pos c28] at H
                                  have c28b0 : decide (x3_3 < (a0.size : Int)) = true := decide_eq_true c28
                                  clear c28
                                  by_cases c30 : (bt a0 x3_3) = 101
                                  · rw [if_pos c30] at H
                                    have c30b0 : ((bt a0 x3_3) == 101) = true := beq_iff_eq.mpr c30
                                    have c30b1 : ((bt a0 x3_3) != 101) = false := bne_eq_false_iff_eq.mpr c30
                                    clear c30
                                    have H' := Aside0.mk H
                                    clear H
                                    have p29 : 0 ≤ (x3_3 : Int) := of_decide_eq_true (by first | (with_reducible assumption) | assumption)
                                    have q29 : x3_3 < (a0.size : Int) := of_decide_eq_true (by first | (with_reducible assumption) | assumption)
                                    have hx29 := bt_at a0 x3_3
                                    replace p29 := eq_true p29
                                    replace q29 := eq_true q29
                                    go_wp2
                                    go_meet
                                    case rel => exact ⟨_, (false), (by first | rfl | (simp; done) | (simp; decide +kernel) | (simp [*]; done)), (by first | exact H' | (subst_vars; exact H')), ⟨by have := HJ1.out; have := HJ6.out; have := HK3.out; have := HJ8.out; have := HJ20.out; first | omega | exact Nat.le_refl _⟩, by repeat (first | exact Drawn0.refl _ | apply Drawn0.step)⟩
                                  · rw [if_neg c30] at H
                                    have c30b0 : ((bt a0 x3_3) == 101) = false := beq_eq_false_iff_ne.mpr c30
                                    have c30b1 : ((bt a0 x3_3) != 101) = true := bne_iff_ne.mpr c30
                                    have H' := Aside0.mk H
                                    clear H
                                    have p29 : 0 ≤ (x3_3 : Int) := of_decide_eq_true (by first | (with_reducible assumption) | assumption)
                                    have q29 : x3_3 < (a0.size : Int) := of_decide_eq_true (by first | (with_reducible assumption) | assumption)
                                    have hx29 := bt_at a0 x3_3
                                    replace p29 := eq_true p29
                                    replace q29 := eq_true q29
                                    have p31 : 0 ≤ (x3_3 : Int) := of_decide_eq_true (by first | (with_reducible assumption) | assumption)
                                    have q31 : x3_3 < (a0.size : Int) := of_decide_eq_true (by first | (with_reducible assumption) | assumption)
                                    have hx31 := bt_at a0 x3_3
                                    replace p31 := eq_true p31
                                    replace q31 := eq_true q31
                                    go_wp2
                                    go_meet
                                    case rel => exact ⟨_, (((bt a0 x3_3) != 69)), (by first | rfl | (simp; done) | (simp; decide +kernel) | (simp [*]; done)), (by first | exact H' | (subst_vars; exact H')), ⟨by have := HJ1.out; have := HJ6.out; have := HK3.out; have := HJ8.out; have := HJ20.out; first | omega | exact Nat.le_refl _⟩, by repeat (first | exact Drawn0.refl _ | apply Drawn0.step)⟩
                                · rw [if_neg c28] at H
                                  exact absurd H (by simp)
                              · rw [if_neg c27] at H
                                exact absurd H (by simp)
                            case rest =>
                              clear HC26
                              try clear c1
                              try clear p1
                              try clear q1
                              try clear hx1
                              try clear c2
                              try clear p2
                              try clear q2
                              try clear hx2
                              try clear c3
                              try clear c3b0
                              try clear c3b1
                              try clear p3
                              try clear q3
                              try clear hx3
                              try clear p4
                              try clear q4
                              try clear hx4
                              try clear qi4
                              try clear c5
                              try clear c5b0
                              try clear c5b1
                              try clear c6
                              try clear p6
                              try clear q6
                              try clear hx6
                              try clear qi6
                              try clear c8
                              try clear c10
                              try clear c10b0
                              try clear c11
                              try clear c11b0
                              try clear p12
                              try clear q12
                              try clear hx12
                              try clear c14
                              try clear c15
                              try clear p15
                              try clear q15
                              try clear hx15
                              try clear c16
                              try clear c17
                              try clear c17b0
                              try clear c18
                              try clear c18b0
                              try clear p19
                              try clear q19
                              try clear hx19
                              try clear c20
                              try clear c20b0
                              try clear c20b1
                              try clear c22
                              try clear c22b0
                              try clear c23
                              try clear c23b0
                              try clear c24
                              try clear c25
                              try clear c25b0
                              try clear c25b1
                              try clear c27
                              try clear c27b0
                              try clear c28
                              try clear c28b0
                              try clear p29
                              try clear q29
                              try clear hx29
                              try clear c30
                              try clear c30b0
                              try clear c30b1
                              try clear p31
                              try clear q31
                              try clear hx31
                              try clear p1
                              try clear p12
                              try clear p15
                              try clear p19
                              try clear p2
                              try clear p29
                              try clear p31
                              try clear p4
                              try clear p6
                              try clear q1
                              try clear q12
                              try clear q15
                              try clear q19
                              try clear q29
                              try clear q31
                              try clear q4
                              try clear q6
                              obtain ⟨kq, x76_25, rfl, HA, HJ25, ⟨mc25, rfl⟩⟩ := hcut
                              cases kq with
                              | zero => exact absurd HA.out (by simp [racewayref24_Number.j5])
                              | succ kj25 =>
                                have H := HA.out
                                clear HA
                                simp only [racewayref24_Number.j5] at H
                                by_cases c32 : x76_25 = true
                                · subst c32
                                  have H1 : (some false) = some r := by rw [if_pos rfl] at H; exact H
                                  clear H
                                  have H := H1
                                  clear H1
                                  obtain rfl := Option.some.inj H
                                  go_wp2
                                  go_ret
                                  exact ⟨by first | rfl | (simp; done) | (simp; decide +kernel) | (simp [*]; done), by repeat (first | exact Drawn0.refl _ | apply Drawn0.step)⟩
                                · replace c32 := Bool.eq_false_iff.mpr c32
                                  subst c32
                                  have H1 : (if (wrap64 (x3_3 + 1)) < (a0.size : Int) then (if 0 ≤ (wrap64 (x3_3 + 1)) then (if (bt a0 (wrap64 (x3_3 + 1))) = 43 then (racewayref24_Number.j6 kj25 a0 (wrap64 (x3_3 + 1)) 126 true) else (racewayref24_Number.j6 kj25 a0 (wrap64 (x3_3 + 1)) 126 ((bt a0 (wrap64 (x3_3 + 1))) == 45))) else (none)) else (racewayref24_Number.j6 kj25 a0 (wrap64 (x3_3 + 1)) 126 false)) = some r := by rw [if_neg (show ¬ (false = true) by decide)] at H; exact H
                                  clear H
                                  have H := H1
                                  clear H1
                                  have HC33 := Aside0.mk H
                                  clear H
                                  go_upto_region 19 with (fail)
                                  go_cut [94] (fun v94 wc => ∃ (kq : Nat) (x94_32 : Bool), v94 = .bool x94_32 ∧ Aside0 (racewayref24_Number.j6 kq a0 (wrap64 (x3_3 + 1)) 126 x94_32 = some r) ∧ Aside0 (kq ≤ kj25) ∧ Drawn0 w wc)
                                  case first =>
                                    have H := HC33.out
                                    clear HC33
                                    by_cases c34 : (wrap64 (x3_3 + 1)) < (a0.size : Int)
                                    · rw [if_pos c34] at H
                                      have c34b0 : decide ((wrap64 (x3_3 + 1)) < (a0.size : Int)) = true := decide_eq_true c34
                                      clear c34
                                      (first | rw [c34b0] | (simp only [i64_w, i32_w]; rw [c34b0]) | skip)
                                      obtain ⟨ji35, hji35⟩ : ∃ j_ : Int, (wrap64 (x3_3 + 1)) = j_ := ⟨_, rfl⟩
                                      replace H : (if 0 ≤ (ji35) then (if (bt a0 (ji35)) = 43 then (racewayref24_Number.j6 kj25 a0 ji35 126 true) else (racewayref24_Number.j6 kj25 a0 ji35 126 ((bt a0 (ji35)) == 45))) else (none)) = some r := by first | (rw [hji35] at H; exact H) | (simp only [hji35] at H ⊢; exact H)
                                      (try rw [hji35] at c34b0)
                                      have hji35w : (IntKind.i64.wrap (x3_3 + 1)) = ji35 := (i64_w _).trans hji35
                                      by_cases c36 : 0 ≤ (ji35)
                                      · rw [if_pos c36] at H
                                        have c36b0 : decide (0 ≤ (ji35)) = true := decide_eq_true c36
                                        clear c36
                                        by_cases c38 : (bt a0 (ji35)) = 43
                                        · rw [if_pos c38] at H
                                          have c38b0 : ((bt a0 (ji35)) == 43) = true := beq_iff_eq.mpr c38
                                          have c38b1 : ((bt a0 (ji35)) != 43) = false := bne_eq_false_iff_eq.mpr c38
                                          clear c38
                                          have H' := Aside0.mk H
                                          clear H
                                          have p37 : 0 ≤ ((ji35) : Int) := of_decide_eq_true (by first | (with_reducible assumption) | assumption)
                                          have q37 : (ji35) < (a0.size : Int) := of_decide_eq_true (by first | (with_reducible assumption) | assumption)
                                          have hx37 := bt_at a0 (ji35)
                                          replace p37 := eq_true p37
                                          replace q37 := eq_true q37
                                          go_wp2
                                          go_meet
                                          case rel => exact ⟨_, (true), (by first | rfl | (simp; done) | (simp; decide +kernel) | (simp [*]; done)), (by first | exact H' | (subst_vars; exact H')), ⟨by have := HJ1.out; have := HJ6.out; have := HK3.out; have := HJ8.out; have := HJ20.out; have := HJ25.out; first | omega | exact Nat.le_refl _⟩, by repeat (first | exact Drawn0.refl _ | apply Drawn0.step)⟩
                                        · rw [if_neg c38] at H
                                          have c38b0 : ((bt a0 (ji35)) == 43) = false := beq_eq_false_iff_ne.mpr c38
                                          have c38b1 : ((bt a0 (ji35)) != 43) = true := bne_iff_ne.mpr c38
                                          have H' := Aside0.mk H
                                          clear H
                                          have p37 : 0 ≤ ((ji35) : Int) := of_decide_eq_true (by first | (with_reducible assumption) | assumption)
                                          have q37 : (ji35) < (a0.size : Int) := of_decide_eq_true (by first | (with_reducible assumption) | assumption)
                                          have hx37 := bt_at a0 (ji35)
                                          replace p37 := eq_true p37
                                          replace q37 := eq_true q37
                                          have p39 : 0 ≤ ((ji35) : Int) := of_decide_eq_true (by first | (with_reducible assumption) | assumption)
                                          have q39 : (ji35) < (a0.size : Int) := of_decide_eq_true (by first | (with_reducible assumption) | assumption)
                                          have hx39 := bt_at a0 (ji35)
                                          replace p39 := eq_true p39
                                          replace q39 := eq_true q39
                                          go_wp2
                                          go_meet
                                          case rel => exact ⟨_, (((bt a0 (ji35)) == 45)), (by first | rfl | (simp; done) | (simp only [← hji35] <;> (first | rfl | simp)) | (simp [*]; done)), (by first | exact H' | (subst_vars; exact H')), ⟨by have := HJ1.out; have := HJ6.out; have := HK3.out; have := HJ8.out; have := HJ20.out; have := HJ25.out; first | omega | exact Nat.le_refl _⟩, by repeat (first | exact Drawn0.refl _ | apply Drawn0.step)⟩
                                      · rw [if_neg c36] at H
                                        exact absurd H (by simp)
                                    · rw [if_neg c34] at H
                                      have c34b0 : decide ((wrap64 (x3_3 + 1)) < (a0.size : Int)) = false := decide_eq_false c34
                                      clear c34
                                      (first | rw [c34b0] | (simp only [i64_w, i32_w]; rw [c34b0]) | skip)
                                      have H' := Aside0.mk H
                                      clear H
                                      go_wp2
                                      go_meet
                                      case rel => exact ⟨_, (false), (by first | rfl | (simp; done) | (simp; decide +kernel) | (simp [*]; done)), (by first | exact H' | (subst_vars; exact H')), ⟨by have := HJ1.out; have := HJ6.out; have := HK3.out; have := HJ8.out; have := HJ20.out; have := HJ25.out; first | omega | exact Nat.le_refl _⟩, by repeat (first | exact Drawn0.refl _ | apply Drawn0.step)⟩
                                  case rest =>
                                    clear HC33
                                    try clear c1
                                    try clear p1
                                    try clear q1
                                    try clear hx1
                                    try clear c2
                                    try clear p2
                                    try clear q2
                                    try clear hx2
                                    try clear c3
                                    try clear c3b0
                                    try clear c3b1
                                    try clear p3
                                    try clear q3
                                    try clear hx3
                                    try clear p4
                                    try clear q4
                                    try clear hx4
                                    try clear qi4
                                    try clear c5
                                    try clear c5b0
                                    try clear c5b1
                                    try clear c6
                                    try clear p6
                                    try clear q6
                                    try clear hx6
                                    try clear qi6
                                    try clear c8
                                    try clear c10
                                    try clear c10b0
                                    try clear c11
                                    try clear c11b0
                                    try clear p12
                                    try clear q12
                                    try clear hx12
                                    try clear c14
                                    try clear c15
                                    try clear p15
                                    try clear q15
                                    try clear hx15
                                    try clear c16
                                    try clear c17
                                    try clear c17b0
                                    try clear c18
                                    try clear c18b0
                                    try clear p19
                                    try clear q19
                                    try clear hx19
                                    try clear c20
                                    try clear c20b0
                                    try clear c20b1
                                    try clear c22
                                    try clear c22b0
                                    try clear c23
                                    try clear c23b0
                                    try clear c24
                                    try clear c25
                                    try clear c25b0
                                    try clear c25b1
                                    try clear c27
                                    try clear c27b0
                                    try clear c28
                                    try clear c28b0
                                    try clear p29
                                    try clear q29
                                    try clear hx29
                                    try clear c30
                                    try clear c30b0
                                    try clear c30b1
                                    try clear p31
                                    try clear q31
                                    try clear hx31
                                    try clear c32
                                    try clear c34
                                    try clear c34b0
                                    try clear c36
                                    try clear c36b0
                                    try clear p37
                                    try clear q37
                                    try clear hx37
                                    try clear c38
                                    try clear c38b0
                                    try clear c38b1
                                    try clear p39
                                    try clear q39
                                    try clear hx39
                                    try clear p1
                                    try clear p12
                                    try clear p15
                                    try clear p19
                                    try clear p2
                                    try clear p29
                                    try clear p3
                                    try clear p31
                                    try clear p37
                                    try clear p39
                                    try clear p4
                                    try clear p6
                                    try clear q1
                                    try clear q12
                                    try clear q15
                                    try clear q19
                                    try clear q2
                                    try clear q29
                                    try clear q3
                                    try clear q31
                                    try clear q37
                                    try clear q39
                                    try clear q4
                                    try clear q6
                                    obtain ⟨kq, x94_32, rfl, HA, HJ32, ⟨mc32, rfl⟩⟩ := hcut
                                    cases kq with
                                    | zero => exact absurd HA.out (by simp [racewayref24_Number.j6])
                                    | succ kj32 =>
                                      have H := HA.out
                                      clear HA
                                      simp only [racewayref24_Number.j6] at H
                                      have HC40 := Aside0.mk H
                                      clear H
                                      go_upto_if 94 with (fail)
                                      go_cut [3, 6] (fun v3 v6 wc => ∃ (kq : Nat) (x3_39 : Int) (x6_39 : Int), v3 = .int .i64 x3_39 ∧ v6 = .int .i64 x6_39 ∧ Aside0 (racewayref24_Number.j7 kq a0 x3_39 x6_39 = some r) ∧ Aside0 (kq ≤ kj32) ∧ Drawn0 w wc)
                                      case first =>
                                        have H := HC40.out
                                        clear HC40
                                        by_cases c41 : x94_32 = true
                                        · subst c41
                                          have H1 : (if 0 ≤ (wrap64 (x3_3 + 1)) then (if (wrap64 (x3_3 + 1)) < (a0.size : Int) then (if (bt a0 (wrap64 (x3_3 + 1))) = 45 then (racewayref24_Number.j7 kj32 a0 (wrap64 ((wrap64 (x3_3 + 1)) + 1)) 128) else (racewayref24_Number.j7 kj32 a0 (wrap64 ((wrap64 (x3_3 + 1)) + 1)) 126)) else (none)) else (none)) = some r := by rw [if_pos rfl] at H; exact H
                                          clear H
                                          have H := H1
                                          clear H1
                                          obtain ⟨ji42, hji42⟩ : ∃ j_ : Int, (wrap64 (x3_3 + 1)) = j_ := ⟨_, rfl⟩
                                          replace H : (if 0 ≤ (ji42) then (if (ji42) < (a0.size : Int) then (if (bt a0 (ji42)) = 45 then (racewayref24_Number.j7 kj32 a0 (wrap64 ((ji42) + 1)) 128) else (racewayref24_Number.j7 kj32 a0 (wrap64 ((ji42) + 1)) 126)) else (none)) else (none)) = some r := by first | (rw [hji42] at H; exact H) | (simp only [hji42] at H ⊢; exact H)
                                          have hji42w : (IntKind.i64.wrap (x3_3 + 1)) = ji42 := (i64_w _).trans hji42
                                          by_cases c43 : 0 ≤ (ji42)
                                          · rw [if_pos c43] at H
                                            have c43b0 : decide (0 ≤ (ji42)) = true := decide_eq_true c43
                                            clear c43
                                            (first | rw [c43b0] | (simp only [i64_w, i32_w]; rw [c43b0]) | skip)
                                            by_cases c44 : (ji42) < (a0.size : Int)
                                            · rw [if_pos c44] at H
                                              have c44b0 : decide ((ji42) < (a0.size : Int)) = true := decide_eq_true c44
                                              clear c44
                                              by_cases c46 : (bt a0 (ji42)) = 45
                                              · rw [if_pos c46] at H
                                                have c46b0 : ((bt a0 (ji42)) == 45) = true := beq_iff_eq.mpr c46
                                                have c46b1 : ((bt a0 (ji42)) != 45) = false := bne_eq_false_iff_eq.mpr c46
                                                clear c46
                                                have H' := Aside0.mk H
                                                clear H
                                                have p45 : 0 ≤ ((ji42) : Int) := of_decide_eq_true (by first | (with_reducible assumption) | assumption)
                                                have q45 : (ji42) < (a0.size : Int) := of_decide_eq_true (by first | (with_reducible assumption) | assumption)
                                                have hx45 := bt_at a0 (ji42)
                                                replace p45 := eq_true p45
                                                replace q45 := eq_true q45
                                                go_wp2
                                                go_meet
                                                case rel => exact ⟨_, (wrap64 ((ji42) + 1)), (128), (by first | rfl | (simp; done) | (simp only [← hji42] <;> (first | rfl | simp)) | (simp [*]; done)), (by first | rfl | (simp; done) | (simp; decide +kernel) | (simp [*]; done)), (by first | exact H' | (subst_vars; exact H')), ⟨by have := HJ1.out; have := HJ6.out; have := HK3.out; have := HJ8.out; have := HJ20.out; have := HJ25.out; have := HJ32.out; first | omega | exact Nat.le_refl _⟩, by repeat (first | exact Drawn0.refl _ | apply Drawn0.step)⟩
                                              · rw [if_neg c46] at H
                                                have c46b0 : ((bt a0 (ji42)) == 45) = false := beq_eq_false_iff_ne.mpr c46
                                                have c46b1 : ((bt a0 (ji42)) != 45) = true := bne_iff_ne.mpr c46
                                                have H' := Aside0.mk H
                                                clear H
                                                have p45 : 0 ≤ ((ji42) : Int) := of_decide_eq_true (by first | (with_reducible assumption) | assumption)
                                                have q45 : (ji42) < (a0.size : Int) := of_decide_eq_true (by first | (with_reducible assumption) | assumption)
                                                have hx45 := bt_at a0 (ji42)
                                                replace p45 := eq_true p45
                                                replace q45 := eq_true q45
                                                go_wp2
                                                go_meet
                                                case rel => exact ⟨_, (wrap64 ((ji42) + 1)), (126), (by first | rfl | (simp; done) | (simp only [← hji42] <;> (first | rfl | simp)) | (simp [*]; done)), (by first | rfl | (simp; done) | (simp; decide +kernel) | (simp [*]; done)), (by first | exact H' | (subst_vars; exact H')), ⟨by have := HJ1.out; have := HJ6.out; have := HK3.out; have := HJ8.out; have := HJ20.out; have := HJ25.out; have := HJ32.out; first | omega | exact Nat.le_refl _⟩, by repeat (first | exact Drawn0.refl _ | apply Drawn0.step)⟩
                                            · rw [if_neg c44] at H
                                              exact absurd H (by simp)
                                          · rw [if_neg c43] at H
                                            exact absurd H (by simp)
                                        · replace c41 := Bool.eq_false_iff.mpr c41
                                          subst c41
                                          have H1 : (racewayref24_Number.j7 kj32 a0 (wrap64 (x3_3 + 1)) 126) = some r := by rw [if_neg (show ¬ (false = true) by decide)] at H; exact H
                                          clear H
                                          have H := H1
                                          clear H1
                                          have H' := Aside0.mk H
                                          clear H
                                          go_wp2
                                          go_meet
                                          case rel => exact ⟨_, ((wrap64 (x3_3 + 1))), (126), (by first | rfl | (simp; done) | (simp; decide +kernel) | (simp [*]; done)), (by first | rfl | (simp; done) | (simp; decide +kernel) | (simp [*]; done)), (by first | exact H' | (subst_vars; exact H')), ⟨by have := HJ1.out; have := HJ6.out; have := HK3.out; have := HJ8.out; have := HJ20.out; have := HJ25.out; have := HJ32.out; first | omega | exact Nat.le_refl _⟩, by repeat (first | exact Drawn0.refl _ | apply Drawn0.step)⟩
                                      case rest =>
                                        clear HC40
                                        try clear c1
                                        try clear p1
                                        try clear q1
                                        try clear hx1
                                        try clear c2
                                        try clear p2
                                        try clear q2
                                        try clear hx2
                                        try clear c3
                                        try clear c3b0
                                        try clear c3b1
                                        try clear p3
                                        try clear q3
                                        try clear hx3
                                        try clear c4
                                        try clear p4
                                        try clear q4
                                        try clear hx4
                                        try clear qi4
                                        try clear c5
                                        try clear c5b0
                                        try clear c5b1
                                        try clear c6
                                        try clear p6
                                        try clear q6
                                        try clear hx6
                                        try clear qi6
                                        try clear c8
                                        try clear c10
                                        try clear c10b0
                                        try clear c11
                                        try clear c11b0
                                        try clear p12
                                        try clear q12
                                        try clear hx12
                                        try clear c14
                                        try clear c15
                                        try clear p15
                                        try clear q15
                                        try clear hx15
                                        try clear c16
                                        try clear c17
                                        try clear c17b0
                                        try clear c18
                                        try clear c18b0
                                        try clear p19
                                        try clear q19
                                        try clear hx19
                                        try clear c20
                                        try clear c20b0
                                        try clear c20b1
                                        try clear c22
                                        try clear c22b0
                                        try clear c23
                                        try clear c23b0
                                        try clear c24
                                        try clear c25
                                        try clear c25b0
                                        try clear c25b1
                                        try clear c27
                                        try clear c27b0
                                        try clear c28
                                        try clear c28b0
                                        try clear p29
                                        try clear q29
                                        try clear hx29
                                        try clear c30
                                        try clear c30b0
                                        try clear c30b1
                                        try clear p31
                                        try clear q31
                                        try clear hx31
                                        try clear c32
                                        try clear c34
                                        try clear c34b0
                                        try clear c36
                                        try clear c36b0
                                        try clear p37
                                        try clear q37
                                        try clear hx37
                                        try clear c38
                                        try clear c38b0
                                        try clear c38b1
                                        try clear p39
                                        try clear q39
                                        try clear hx39
                                        try clear c41
                                        try clear c43
                                        try clear c43b0
                                        try clear c44
                                        try clear c44b0
                                        try clear p45
                                        try clear q45
                                        try clear hx45
                                        try clear c46
                                        try clear c46b0
                                        try clear c46b1
                                        try clear p1
                                        try clear p12
                                        try clear p15
                                        try clear p19
                                        try clear p2
                                        try clear p29
                                        try clear p3
                                        try clear p31
                                        try clear p37
                                        try clear p39
                                        try clear p4
                                        try clear p45
                                        try clear p6
                                        try clear q1
                                        try clear q12
                                        try clear q15
                                        try clear q19
                                        try clear q2
                                        try clear q29
                                        try clear q3
                                        try clear q31
                                        try clear q37
                                        try clear q39
                                        try clear q4
                                        try clear q45
                                        try clear q6
                                        obtain ⟨kq, x3_39, x6_39, rfl, rfl, HA, HJ39, ⟨mc39, rfl⟩⟩ := hcut
                                        cases kq with
                                        | zero => exact absurd HA.out (by simp [racewayref24_Number.j7])
                                        | succ kj39 =>
                                          have H := HA.out
                                          clear HA
                                          simp only [racewayref24_Number.j7] at H
                                          have H' := Aside0.mk H
                                          clear H
                                          go_wp2
                                          go_loopg [3, 7, 8] kj39 (fun kq v3 v7 v8 w' => ∃ (x3_9 : Int) (x7_9 : Int) (x8_9 : Int), v3 = .int .i64 x3_9 ∧ v7 = .int .i64 x7_9 ∧ v8 = .int .i64 x8_9 ∧ Aside0 (racewayref24_Number.l1 kq a0 x3_9 x6_39 x7_9 x8_9 = some r) ∧ Aside0 (kq ≤ kj39) ∧ Drawn0 w w')
                                          case atStart => exact ⟨(x3_39), (0), (0), (by first | rfl | (simp; done) | (simp; decide +kernel) | (simp [*]; done)), (by first | rfl | (simp; done) | (simp; decide +kernel) | (simp [*]; done)), (by first | rfl | (simp; done) | (simp; decide +kernel) | (simp [*]; done)), (by first | exact H' | (subst_vars; exact H')), ⟨Nat.le_refl _⟩, by repeat (first | exact Drawn0.refl _ | apply Drawn0.step)⟩
                                          case round =>
                                            clear H'
                                            try clear c1
                                            try clear p1
                                            try clear q1
                                            try clear hx1
                                            try clear c2
                                            try clear p2
                                            try clear q2
                                            try clear hx2
                                            try clear c3
                                            try clear c3b0
                                            try clear c3b1
                                            try clear p3
                                            try clear q3
                                            try clear hx3
                                            try clear c4
                                            try clear p4
                                            try clear q4
                                            try clear hx4
                                            try clear qi4
                                            try clear c5
                                            try clear c5b0
                                            try clear c5b1
                                            try clear c6
                                            try clear p6
                                            try clear q6
                                            try clear hx6
                                            try clear qi6
                                            try clear c8
                                            try clear c10
                                            try clear c10b0
                                            try clear c11
                                            try clear c11b0
                                            try clear p12
                                            try clear q12
                                            try clear hx12
                                            try clear c14
                                            try clear c15
                                            try clear p15
                                            try clear q15
                                            try clear hx15
                                            try clear c16
                                            try clear c17
                                            try clear c17b0
                                            try clear c18
                                            try clear c18b0
                                            try clear p19
                                            try clear q19
                                            try clear hx19
                                            try clear c20
                                            try clear c20b0
                                            try clear c20b1
                                            try clear c22
                                            try clear c22b0
                                            try clear c23
                                            try clear c23b0
                                            try clear c24
                                            try clear c25
                                            try clear c25b0
                                            try clear c25b1
                                            try clear c27
                                            try clear c27b0
                                            try clear c28
                                            try clear c28b0
                                            try clear p29
                                            try clear q29
                                            try clear hx29
                                            try clear c30
                                            try clear c30b0
                                            try clear c30b1
                                            try clear p31
                                            try clear q31
                                            try clear hx31
                                            try clear c32
                                            try clear c34
                                            try clear c34b0
                                            try clear c36
                                            try clear c36b0
                                            try clear p37
                                            try clear q37
                                            try clear hx37
                                            try clear c38
                                            try clear c38b0
                                            try clear c38b1
                                            try clear c39
                                            try clear p39
                                            try clear q39
                                            try clear hx39
                                            try clear c41
                                            try clear c43
                                            try clear c43b0
                                            try clear c44
                                            try clear c44b0
                                            try clear p45
                                            try clear q45
                                            try clear hx45
                                            try clear c46
                                            try clear c46b0
                                            try clear c46b1
                                            try clear p1
                                            try clear p12
                                            try clear p15
                                            try clear p19
                                            try clear p2
                                            try clear p29
                                            try clear p3
                                            try clear p31
                                            try clear p37
                                            try clear p39
                                            try clear p4
                                            try clear p45
                                            try clear p6
                                            try clear q1
                                            try clear q12
                                            try clear q15
                                            try clear q19
                                            try clear q2
                                            try clear q29
                                            try clear q3
                                            try clear q31
                                            try clear q37
                                            try clear q39
                                            try clear q4
                                            try clear q45
                                            try clear q6
                                            obtain ⟨x3_9, x7_9, x8_9, rfl, rfl, rfl, HA, HK9, ⟨m9, rfl⟩⟩ := hrel
                                            cases gk with
                                            | zero => exact absurd HA.out (by simp [racewayref24_Number.l1])
                                            | succ k9 =>
                                              have H := HA.out
                                              clear HA
                                              simp only [racewayref24_Number.l1] at H
                                              by_cases c47 : x3_9 < (a0.size : Int)
                                              · rw [if_pos c47] at H
                                                have c47b0 : decide (x3_9 < (a0.size : Int)) = true := decide_eq_true c47
                                                clear c47
                                                by_cases c48 : 0 ≤ x3_9
                                                · rw [if_pos c48] at H
                                                  have c48b0 : decide (0 ≤ x3_9) = true := decide_eq_true c48
                                                  clear c48
                                                  replace H := Option.bind_eq_some_iff.mp H
                                                  obtain ⟨t146, A500, H⟩ := H
                                                  replace H : (if t146 = true then (if x7_9 < 4 then (racewayref24_Number.l1 k9 a0 (wrap64 (x3_9 + 1)) x6_39 (wrap64 (x7_9 + 1)) (wrap64 ((wrap64 (10 * x8_9)) + (((bt a0 x3_9) - 48) % 256)))) else (if x3_9 = (a0.size : Int) then (if x7_9 ≥ 1 then (if x7_9 ≤ 3 then (some (decide (x8_9 ≤ x6_39))) else (some false)) else (some false)) else (some false))) else (if x3_9 = (a0.size : Int) then (if x7_9 ≥ 1 then (if x7_9 ≤ 3 then (some (decide (x8_9 ≤ x6_39))) else (some false)) else (some false)) else (some false))) = some r := H
                                                  have A50 := Aside0.mk A500
                                                  clear A500
                                                  by_cases c51 : t146 = true
                                                  · subst c51
                                                    have H1 : (if x7_9 < 4 then (racewayref24_Number.l1 k9 a0 (wrap64 (x3_9 + 1)) x6_39 (wrap64 (x7_9 + 1)) (wrap64 ((wrap64 (10 * x8_9)) + (((bt a0 x3_9) - 48) % 256)))) else (if x3_9 = (a0.size : Int) then (if x7_9 ≥ 1 then (if x7_9 ≤ 3 then (some (decide (x8_9 ≤ x6_39))) else (some false)) else (some false)) else (some false))) = some r := by rw [if_pos rfl] at H; exact H
                                                    clear H
                                                    have H := H1
                                                    clear H1
                                                    by_cases c52 : x7_9 < 4
                                                    · rw [if_pos c52] at H
                                                      have c52b0 : decide (x7_9 < 4) = true := decide_eq_true c52
                                                      clear c52
                                                      have H' := Aside0.mk H
                                                      clear H
                                                      have p49 : 0 ≤ (x3_9 : Int) := of_decide_eq_true (by first | (with_reducible assumption) | assumption)
                                                      have q49 : x3_9 < (a0.size : Int) := of_decide_eq_true (by first | (with_reducible assumption) | assumption)
                                                      have hx49 := bt_at a0 x3_9
                                                      replace p49 := eq_true p49
                                                      replace q49 := eq_true q49
                                                      go_wp2_with (first | (go_at_call 41; (with_reducible refine (racewayref24_digit.calls (bt a0 x3_9) true _ A50.out).mono ?_); rintro e w' ⟨rfl, ⟨nd, rfl⟩⟩; have p53 : 0 ≤ (x3_9 : Int) := of_decide_eq_true (by first | (with_reducible assumption) | assumption); have q53 : x3_9 < (a0.size : Int) := of_decide_eq_true (by first | (with_reducible assumption) | assumption); have hx53 := bt_at a0 x3_9; replace p53 := eq_true p53; replace q53 := eq_true q53))
                                                      go_roundg k9
                                                      case measure => have := HJ1.out; have := HJ6.out; have := HK3.out; have := HJ8.out; have := HJ20.out; have := HJ25.out; have := HJ32.out; have := HJ39.out; have := HK9.out; omega
                                                      case rel => exact ⟨(wrap64 (x3_9 + 1)), (wrap64 (x7_9 + 1)), (wrap64 ((wrap64 (10 * x8_9)) + (((bt a0 x3_9) - 48) % 256))), (by first | rfl | (simp; done) | (simp; decide +kernel) | (simp [*]; done)), (by first | rfl | (simp; done) | (simp; decide +kernel) | (simp [*]; done)), (by first | rfl | (simp; done) | (simp; decide +kernel) | (simp [*]; done)), (by first | exact H' | (subst_vars; exact H')), ⟨by have := HJ1.out; have := HJ6.out; have := HK3.out; have := HJ8.out; have := HJ20.out; have := HJ25.out; have := HJ32.out; have := HJ39.out; have := HK9.out; omega⟩, by repeat (first | exact Drawn0.refl _ | apply Drawn0.step)⟩
                                                    · rw [if_neg c52] at H
                                                      have c52b0 : decide (x7_9 < 4) = false := decide_eq_false c52
                                                      clear c52
                                                      by_cases c54 : x3_9 = (a0.size : Int)
                                                      · rw [if_pos c54] at H
                                                        have c54b0 : (x3_9 == (a0.size : Int)) = true := beq_iff_eq.mpr c54
                                                        have c54b1 : (x3_9 != (a0.size : Int)) = false := bne_eq_false_iff_eq.mpr c54
                                                        clear c54
                                                        by_cases c55 : x7_9 ≥ 1
                                                        · rw [if_pos c55] at H
                                                          have c55b0 : decide (1 ≤ x7_9) = true := decide_eq_true c55
                                                          clear c55
                                                          by_cases c56 : x7_9 ≤ 3
                                                          · rw [if_pos c56] at H
                                                            have c56b0 : decide (x7_9 ≤ 3) = true := decide_eq_true c56
                                                            clear c56
                                                            obtain rfl := Option.some.inj H
                                                            have p49 : 0 ≤ (x3_9 : Int) := of_decide_eq_true (by first | (with_reducible assumption) | assumption)
                                                            have q49 : x3_9 < (a0.size : Int) := of_decide_eq_true (by first | (with_reducible assumption) | assumption)
                                                            have hx49 := bt_at a0 x3_9
                                                            replace p49 := eq_true p49
                                                            replace q49 := eq_true q49
                                                            go_wp2_with (first | (go_at_call 41; (with_reducible refine (racewayref24_digit.calls (bt a0 x3_9) true _ A50.out).mono ?_); rintro e w' ⟨rfl, ⟨nd, rfl⟩⟩))
                                                            go_ret
                                                            exact ⟨by first | rfl | (simp; done) | (simp; decide +kernel) | (simp [*]; done), by repeat (first | exact Drawn0.refl _ | apply Drawn0.step)⟩
                                                          · rw [if_neg c56] at H
                                                            have c56b0 : decide (x7_9 ≤ 3) = false := decide_eq_false c56
                                                            clear c56
                                                            obtain rfl := Option.some.inj H
                                                            have p49 : 0 ≤ (x3_9 : Int) := of_decide_eq_true (by first | (with_reducible assumption) | assumption)
                                                            have q49 : x3_9 < (a0.size : Int) := of_decide_eq_true (by first | (with_reducible assumption) | assumption)
                                                            have hx49 := bt_at a0 x3_9
                                                            replace p49 := eq_true p49
                                                            replace q49 := eq_true q49
                                                            go_wp2_with (first | (go_at_call 41; (with_reducible refine (racewayref24_digit.calls (bt a0 x3_9) true _ A50.out).mono ?_); rintro e w' ⟨rfl, ⟨nd, rfl⟩⟩))
                                                            go_ret
                                                            exact ⟨by first | rfl | (simp; done) | (simp; decide +kernel) | (simp [*]; done), by repeat (first | exact Drawn0.refl _ | apply Drawn0.step)⟩
                                                        · rw [if_neg c55] at H
                                                          have c55b0 : decide (1 ≤ x7_9) = false := decide_eq_false c55
                                                          clear c55
                                                          obtain rfl := Option.some.inj H
                                                          have p49 : 0 ≤ (x3_9 : Int) := of_decide_eq_true (by first | (with_reducible assumption) | assumption)
                                                          have q49 : x3_9 < (a0.size : Int) := of_decide_eq_true (by first | (with_reducible assumption) | assumption)
                                                          have hx49 := bt_at a0 x3_9
                                                          replace p49 := eq_true p49
                                                          replace q49 := eq_true q49
                                                          go_wp2_with (first | (go_at_call 41; (with_reducible refine (racewayref24_digit.calls (bt a0 x3_9) true _ A50.out).mono ?_); rintro e w' ⟨rfl, ⟨nd, rfl⟩⟩))
                                                          go_ret
                                                          exact ⟨by first | rfl | (simp; done) | (simp; decide +kernel) | (simp [*]; done), by repeat (first | exact Drawn0.refl _ | apply Drawn0.step)⟩
                                                      · rw [if_neg c54] at H
                                                        have c54b0 : (x3_9 == (a0.size : Int)) = false := beq_eq_false_iff_ne.mpr c54
                                                        have c54b1 : (x3_9 != (a0.size : Int)) = true := bne_iff_ne.mpr c54
                                                        obtain rfl := Option.some.inj H
                                                        have p49 : 0 ≤ (x3_9 : Int) := of_decide_eq_true (by first | (with_reducible assumption) | assumption)
                                                        have q49 : x3_9 < (a0.size : Int) := of_decide_eq_true (by first | (with_reducible assumption) | assumption)
                                                        have hx49 := bt_at a0 x3_9
                                                        replace p49 := eq_true p49
                                                        replace q49 := eq_true q49
                                                        go_wp2_with (first | (go_at_call 41; (with_reducible refine (racewayref24_digit.calls (bt a0 x3_9) true _ A50.out).mono ?_); rintro e w' ⟨rfl, ⟨nd, rfl⟩⟩))
                                                        go_ret
                                                        exact ⟨by first | rfl | (simp; done) | (simp; decide +kernel) | (simp [*]; done), by repeat (first | exact Drawn0.refl _ | apply Drawn0.step)⟩
                                                  · replace c51 := Bool.eq_false_iff.mpr c51
                                                    subst c51
                                                    have H1 : (if x3_9 = (a0.size : Int) then (if x7_9 ≥ 1 then (if x7_9 ≤ 3 then (some (decide (x8_9 ≤ x6_39))) else (some false)) else (some false)) else (some false)) = some r := by rw [if_neg (show ¬ (false = true) by decide)] at H; exact H
                                                    clear H
                                                    have H := H1
                                                    clear H1
                                                    by_cases c57 : x3_9 = (a0.size : Int)
                                                    · rw [if_pos c57] at H
                                                      have c57b0 : (x3_9 == (a0.size : Int)) = true := beq_iff_eq.mpr c57
                                                      have c57b1 : (x3_9 != (a0.size : Int)) = false := bne_eq_false_iff_eq.mpr c57
                                                      clear c57
                                                      by_cases c58 : x7_9 ≥ 1
                                                      · rw [if_pos c58] at H
                                                        have c58b0 : decide (1 ≤ x7_9) = true := decide_eq_true c58
                                                        clear c58
                                                        by_cases c59 : x7_9 ≤ 3
                                                        · rw [if_pos c59] at H
                                                          have c59b0 : decide (x7_9 ≤ 3) = true := decide_eq_true c59
                                                          clear c59
                                                          obtain rfl := Option.some.inj H
                                                          have p49 : 0 ≤ (x3_9 : Int) := of_decide_eq_true (by first | (with_reducible assumption) | assumption)
                                                          have q49 : x3_9 < (a0.size : Int) := of_decide_eq_true (by first | (with_reducible assumption) | assumption)
                                                          have hx49 := bt_at a0 x3_9
                                                          replace p49 := eq_true p49
                                                          replace q49 := eq_true q49
                                                          go_wp2_with (first | (go_at_call 41; (with_reducible refine (racewayref24_digit.calls (bt a0 x3_9) false _ A50.out).mono ?_); rintro e w' ⟨rfl, ⟨nd, rfl⟩⟩))
                                                          go_ret
                                                          exact ⟨by first | rfl | (simp; done) | (simp; decide +kernel) | (simp [*]; done), by repeat (first | exact Drawn0.refl _ | apply Drawn0.step)⟩
                                                        · rw [if_neg c59] at H
                                                          have c59b0 : decide (x7_9 ≤ 3) = false := decide_eq_false c59
                                                          clear c59
                                                          obtain rfl := Option.some.inj H
                                                          have p49 : 0 ≤ (x3_9 : Int) := of_decide_eq_true (by first | (with_reducible assumption) | assumption)
                                                          have q49 : x3_9 < (a0.size : Int) := of_decide_eq_true (by first | (with_reducible assumption) | assumption)
                                                          have hx49 := bt_at a0 x3_9
                                                          replace p49 := eq_true p49
                                                          replace q49 := eq_true q49
                                                          go_wp2_with (first | (go_at_call 41; (with_reducible refine (racewayref24_digit.calls (bt a0 x3_9) false _ A50.out).mono ?_); rintro e w' ⟨rfl, ⟨nd, rfl⟩⟩))
                                                          go_ret
                                                          exact ⟨by first | rfl | (simp; done) | (simp; decide +kernel) | (simp [*]; done), by repeat (first | exact Drawn0.refl _ | apply Drawn0.step)⟩
                                                      · rw [if_neg c58] at H
                                                        have c58b0 : decide (1 ≤ x7_9) = false := decide_eq_false c58
                                                        clear c58
                                                        obtain rfl := Option.some.inj H
                                                        have p49 : 0 ≤ (x3_9 : Int) := of_decide_eq_true (by first | (with_reducible assumption) | assumption)
                                                        have q49 : x3_9 < (a0.size : Int) := of_decide_eq_true (by first | (with_reducible assumption) | assumption)
                                                        have hx49 := bt_at a0 x3_9
                                                        replace p49 := eq_true p49
                                                        replace q49 := eq_true q49
                                                        go_wp2_with (first | (go_at_call 41; (with_reducible refine (racewayref24_digit.calls (bt a0 x3_9) false _ A50.out).mono ?_); rintro e w' ⟨rfl, ⟨nd, rfl⟩⟩))
                                                        go_ret
                                                        exact ⟨by first | rfl | (simp; done) | (simp; decide +kernel) | (simp [*]; done), by repeat (first | exact Drawn0.refl _ | apply Drawn0.step)⟩
                                                    · rw [if_neg c57] at H
                                                      have c57b0 : (x3_9 == (a0.size : Int)) = false := beq_eq_false_iff_ne.mpr c57
                                                      have c57b1 : (x3_9 != (a0.size : Int)) = true := bne_iff_ne.mpr c57
                                                      obtain rfl := Option.some.inj H
                                                      have p49 : 0 ≤ (x3_9 : Int) := of_decide_eq_true (by first | (with_reducible assumption) | assumption)
                                                      have q49 : x3_9 < (a0.size : Int) := of_decide_eq_true (by first | (with_reducible assumption) | assumption)
                                                      have hx49 := bt_at a0 x3_9
                                                      replace p49 := eq_true p49
                                                      replace q49 := eq_true q49
                                                      go_wp2_with (first | (go_at_call 41; (with_reducible refine (racewayref24_digit.calls (bt a0 x3_9) false _ A50.out).mono ?_); rintro e w' ⟨rfl, ⟨nd, rfl⟩⟩))
                                                      go_ret
                                                      exact ⟨by first | rfl | (simp; done) | (simp; decide +kernel) | (simp [*]; done), by repeat (first | exact Drawn0.refl _ | apply Drawn0.step)⟩
                                                · rw [if_neg c48] at H
                                                  exact absurd H (by simp)
                                              · rw [if_neg c47] at H
                                                have c47b0 : decide (x3_9 < (a0.size : Int)) = false := decide_eq_false c47
                                                clear c47
                                                by_cases c60 : x3_9 = (a0.size : Int)
                                                · rw [if_pos c60] at H
                                                  have c60b0 : (x3_9 == (a0.size : Int)) = true := beq_iff_eq.mpr c60
                                                  have c60b1 : (x3_9 != (a0.size : Int)) = false := bne_eq_false_iff_eq.mpr c60
                                                  clear c60
                                                  by_cases c61 : x7_9 ≥ 1
                                                  · rw [if_pos c61] at H
                                                    have c61b0 : decide (1 ≤ x7_9) = true := decide_eq_true c61
                                                    clear c61
                                                    by_cases c62 : x7_9 ≤ 3
                                                    · rw [if_pos c62] at H
                                                      have c62b0 : decide (x7_9 ≤ 3) = true := decide_eq_true c62
                                                      clear c62
                                                      obtain rfl := Option.some.inj H
                                                      go_wp2
                                                      go_ret
                                                      exact ⟨by first | rfl | (simp; done) | (simp; decide +kernel) | (simp [*]; done), by repeat (first | exact Drawn0.refl _ | apply Drawn0.step)⟩
                                                    · rw [if_neg c62] at H
                                                      have c62b0 : decide (x7_9 ≤ 3) = false := decide_eq_false c62
                                                      clear c62
                                                      obtain rfl := Option.some.inj H
                                                      go_wp2
                                                      go_ret
                                                      exact ⟨by first | rfl | (simp; done) | (simp; decide +kernel) | (simp [*]; done), by repeat (first | exact Drawn0.refl _ | apply Drawn0.step)⟩
                                                  · rw [if_neg c61] at H
                                                    have c61b0 : decide (1 ≤ x7_9) = false := decide_eq_false c61
                                                    clear c61
                                                    obtain rfl := Option.some.inj H
                                                    go_wp2
                                                    go_ret
                                                    exact ⟨by first | rfl | (simp; done) | (simp; decide +kernel) | (simp [*]; done), by repeat (first | exact Drawn0.refl _ | apply Drawn0.step)⟩
                                                · rw [if_neg c60] at H
                                                  have c60b0 : (x3_9 == (a0.size : Int)) = false := beq_eq_false_iff_ne.mpr c60
                                                  have c60b1 : (x3_9 != (a0.size : Int)) = true := bne_iff_ne.mpr c60
                                                  obtain rfl := Option.some.inj H
                                                  go_wp2
                                                  go_ret
                                                  exact ⟨by first | rfl | (simp; done) | (simp; decide +kernel) | (simp [*]; done), by repeat (first | exact Drawn0.refl _ | apply Drawn0.step)⟩

end Go.Proofs.YtolpefnedpgaaaaDoor.X
