-- printed by pp.py, a program of this session
import Derived.Test.YtolpefnedpgaaaaDoorX0
import Derived.Test.YtolpefnedpgaaaaDoorX2
namespace Go.Proofs.YtolpefnedpgaaaaDoor.X
open Go.RowKit Go.Proofs.YtolpefnedpgaaaaDoorW.PrintWords Go.Proofs.YtolpefnedpgaaaaDoorW.PrintLast Go.Proofs.YtolpefnedpgaaaaDoorW.PrintMore
attribute [local go_sem] max2_int min2_int max_two min_two max_three min_three max_four min_four   -- for this text's walks alone
set_option linter.unusedVariables false
set_option linter.unusedSimpArgs false

/-! ### racewayref24_Type: function 11 -/
mutual
def racewayref24_Type.l0 : Nat → ByteArray → List ByteArray → Int → Option (Int × Bool)
  | 0, _, _, _ => none
  | k + 1, x0, x4, x5 => if x5 < 3 then (if 0 ≤ x5 then (if x5 < (x4.length : Int) then (if (x0.size : Int) < ((rdOf ByteArray.empty x4 x5).size : Int) then (racewayref24_Type.j1 k x0 x4 x5 ((rdOf ByteArray.empty x4 x5).size : Int) true) else (if 0 ≤ ((rdOf ByteArray.empty x4 x5).size : Int) then (if ((rdOf ByteArray.empty x4 x5).size : Int) ≤ (x0.size : Int) then (racewayref24_Type.j1 k x0 x4 x5 ((rdOf ByteArray.empty x4 x5).size : Int) ((x0.extract 0 (((rdOf ByteArray.empty x4 x5).size : Int) : Int).toNat).toList != (rdOf ByteArray.empty x4 x5).toList)) else (none)) else (none))) else (none)) else (none)) else (some (0, false))
def racewayref24_Type.j1 : Nat → ByteArray → List ByteArray → Int → Int → Bool → Option (Int × Bool)
  | 0, _, _, _, _, _ => none
  | k + 1, x0, x4, x5, x6, x32 => if x32 = true then (racewayref24_Type.l0 k x0 x4 (wrap64 (x5 + 1))) else (if (x0.size : Int) = x6 then (some (wrap64 (x5 + 1), true)) else (if 0 ≤ x6 then (if x6 < (x0.size : Int) then (if (bt x0 x6) = 46 then (if (x0.size : Int) > (wrap64 (x6 + 1)) then (racewayref24_Type.j2 k x0 x4 x5 x6 (decide ((x0.size : Int) ≤ (wrap64 (x6 + 33))))) else (racewayref24_Type.j2 k x0 x4 x5 x6 false)) else (racewayref24_Type.j2 k x0 x4 x5 x6 false)) else (none)) else (none)))
def racewayref24_Type.j2 : Nat → ByteArray → List ByteArray → Int → Int → Bool → Option (Int × Bool)
  | 0, _, _, _, _, _ => none
  | k + 1, x0, x4, x5, x6, x7 => racewayref24_Type.l1 k x0 x4 x5 x7 (wrap64 (x6 + 1))
def racewayref24_Type.l1 : Nat → ByteArray → List ByteArray → Int → Bool → Int → Option (Int × Bool)
  | 0, _, _, _, _, _ => none
  | k + 1, x0, x4, x5, x7, x8 => if x8 < (x0.size : Int) then (if x7 = true then (if 0 ≤ x8 then ((racewayref24_letter.f (bt x0 x8)).bind fun t118 => (racewayref24_Type.l1 k x0 x4 x5 t118 (wrap64 (x8 + 1)))) else (none)) else (racewayref24_Type.l1 k x0 x4 x5 false (wrap64 (x8 + 1)))) else (if x7 = true then (some (wrap64 (x5 + 1), true)) else (racewayref24_Type.l0 k x0 x4 (wrap64 (x5 + 1))))
end
def racewayref24_Type.f (k : Nat) (a0 : ByteArray) : Option (Int × Bool) := racewayref24_Type.l0 k a0 (([(⟨#[83, 116, 114, 105, 110, 103]⟩ : ByteArray), (⟨#[78, 117, 109, 98, 101, 114]⟩ : ByteArray), (⟨#[66, 105, 110, 97, 114, 121]⟩ : ByteArray)] : List ByteArray)) 0
theorem racewayref24_Type.mono_l : ∀ k, (∀ y0 y1 y2, LeO (racewayref24_Type.l0 k y0 y1 y2) (racewayref24_Type.l0 (k + 1) y0 y1 y2)) ∧ (∀ y0 y1 y2 y3 y4, LeO (racewayref24_Type.j1 k y0 y1 y2 y3 y4) (racewayref24_Type.j1 (k + 1) y0 y1 y2 y3 y4)) ∧ (∀ y0 y1 y2 y3 y4, LeO (racewayref24_Type.j2 k y0 y1 y2 y3 y4) (racewayref24_Type.j2 (k + 1) y0 y1 y2 y3 y4)) ∧ (∀ y0 y1 y2 y3 y4, LeO (racewayref24_Type.l1 k y0 y1 y2 y3 y4) (racewayref24_Type.l1 (k + 1) y0 y1 y2 y3 y4))
  | 0 => ⟨fun _ _ _ r h => by simp [racewayref24_Type.l0] at h, fun _ _ _ _ _ r h => by simp [racewayref24_Type.j1] at h, fun _ _ _ _ _ r h => by simp [racewayref24_Type.j2] at h, fun _ _ _ _ _ r h => by simp [racewayref24_Type.l1] at h⟩
  | k + 1 => by
    obtain ⟨ih0, ih1, ih2, ih3⟩ := racewayref24_Type.mono_l k
    refine ⟨?_, ?_, ?_, ?_⟩
    · intro y0 y1 y2
      unfold racewayref24_Type.l0
      repeat' first
      | (with_reducible exact ih0 _ _ _)
      | (with_reducible exact ih1 _ _ _ _ _)
      | (with_reducible exact ih2 _ _ _ _ _)
      | (with_reducible exact ih3 _ _ _ _ _)
      | (with_reducible exact LeO.refl _)
      | (with_reducible exact LeO.none _)
      | (with_reducible refine LeO.ite ?_ ?_)
      | (with_reducible refine LeO.bind ?_ (fun _ => ?_))
      | exact ih0 _ _ _
      | exact ih1 _ _ _ _ _
      | exact ih2 _ _ _ _ _
      | exact ih3 _ _ _ _ _
      | exact LeO.none _
      | refine LeO.ite ?_ ?_
      | refine LeO.bind ?_ (fun _ => ?_)
    · intro y0 y1 y2 y3 y4
      unfold racewayref24_Type.j1
      repeat' first
      | (with_reducible exact ih0 _ _ _)
      | (with_reducible exact ih1 _ _ _ _ _)
      | (with_reducible exact ih2 _ _ _ _ _)
      | (with_reducible exact ih3 _ _ _ _ _)
      | (with_reducible exact LeO.refl _)
      | (with_reducible exact LeO.none _)
      | (with_reducible refine LeO.ite ?_ ?_)
      | (with_reducible refine LeO.bind ?_ (fun _ => ?_))
      | exact ih0 _ _ _
      | exact ih1 _ _ _ _ _
      | exact ih2 _ _ _ _ _
      | exact ih3 _ _ _ _ _
      | exact LeO.none _
      | refine LeO.ite ?_ ?_
      | refine LeO.bind ?_ (fun _ => ?_)
    · intro y0 y1 y2 y3 y4
      unfold racewayref24_Type.j2
      repeat' first
      | (with_reducible exact ih0 _ _ _)
      | (with_reducible exact ih1 _ _ _ _ _)
      | (with_reducible exact ih2 _ _ _ _ _)
      | (with_reducible exact ih3 _ _ _ _ _)
      | (with_reducible exact LeO.refl _)
      | (with_reducible exact LeO.none _)
      | (with_reducible refine LeO.ite ?_ ?_)
      | (with_reducible refine LeO.bind ?_ (fun _ => ?_))
      | exact ih0 _ _ _
      | exact ih1 _ _ _ _ _
      | exact ih2 _ _ _ _ _
      | exact ih3 _ _ _ _ _
      | exact LeO.none _
      | refine LeO.ite ?_ ?_
      | refine LeO.bind ?_ (fun _ => ?_)
    · intro y0 y1 y2 y3 y4
      unfold racewayref24_Type.l1
      repeat' first
      | (with_reducible exact ih0 _ _ _)
      | (with_reducible exact ih1 _ _ _ _ _)
      | (with_reducible exact ih2 _ _ _ _ _)
      | (with_reducible exact ih3 _ _ _ _ _)
      | (with_reducible exact LeO.refl _)
      | (with_reducible exact LeO.none _)
      | (with_reducible refine LeO.ite ?_ ?_)
      | (with_reducible refine LeO.bind ?_ (fun _ => ?_))
      | exact ih0 _ _ _
      | exact ih1 _ _ _ _ _
      | exact ih2 _ _ _ _ _
      | exact ih3 _ _ _ _ _
      | exact LeO.none _
      | refine LeO.ite ?_ ?_
      | refine LeO.bind ?_ (fun _ => ?_)
theorem racewayref24_Type.mono : ∀ a0 k, LeO (racewayref24_Type.f k a0) (racewayref24_Type.f (k + 1) a0) := by
  intro a0 k
  obtain ⟨ih0, ih1, ih2, ih3⟩ := racewayref24_Type.mono_l k
  unfold racewayref24_Type.f
  repeat' first
      | (with_reducible exact ih0 _ _ _)
      | (with_reducible exact ih1 _ _ _ _ _)
      | (with_reducible exact ih2 _ _ _ _ _)
      | (with_reducible exact ih3 _ _ _ _ _)
      | (with_reducible exact LeO.refl _)
      | (with_reducible exact LeO.none _)
      | (with_reducible refine LeO.ite ?_ ?_)
      | (with_reducible refine LeO.bind ?_ (fun _ => ?_))
      | exact ih0 _ _ _
      | exact ih1 _ _ _ _ _
      | exact ih2 _ _ _ _ _
      | exact ih3 _ _ _ _ _
      | exact LeO.none _
      | refine LeO.ite ?_ ?_
      | refine LeO.bind ?_ (fun _ => ?_)
set_option maxHeartbeats 8000000 in
set_option maxRecDepth 100000 in
theorem racewayref24_Type.calls (k : Nat) (a0 : ByteArray) (r1 : Int) (r2 : Bool) (w : World) (h : racewayref24_Type.f k a0 = some (r1, r2)) :
    Calls Tryd.prog 11 #[.string a0] w fun e w' => e = .returned (.tuple #[.int .i64 r1, .bool r2]) ∧ Below w.heap.size w w' := by
  have HB := Aside0.mk (Below.refl w.heap.size w)
  have H : (racewayref24_Type.l0 k a0 (([(⟨#[83, 116, 114, 105, 110, 103]⟩ : ByteArray), (⟨#[78, 117, 109, 98, 101, 114]⟩ : ByteArray), (⟨#[66, 105, 110, 97, 114, 121]⟩ : ByteArray)] : List ByteArray)) 0) = some (r1, r2) := h
  clear h
  obtain ⟨y113, hy113⟩ : ∃ y_ : List ByteArray, y_ = (([(⟨#[83, 116, 114, 105, 110, 103]⟩ : ByteArray), (⟨#[78, 117, 109, 98, 101, 114]⟩ : ByteArray), (⟨#[66, 105, 110, 97, 114, 121]⟩ : ByteArray)] : List ByteArray)) := ⟨_, rfl⟩
  replace H : (racewayref24_Type.l0 k a0 y113 0) = some (r1, r2) := by first | (rw [hy113]; with_reducible exact H) | (have H2_ := (Option.bind_some _ _).symm.trans H; rw [hy113]; with_reducible exact H2_) | (have H2_ := (Option.bind_some _ _).symm.trans H; with_reducible exact H2_) | with_reducible exact H | (rw [hy113]; exact H) | exact H
  have Ny113 := Aside0.mk hy113
  clear hy113
  have H' := Aside0.mk H
  clear H
  go_enter Tryd.func11, Tryd.ntmps11
  go_wp2_with (first | ((with_reducible refine gate_dst (N := 9) rfl ?_); (try (refine gate_guard (by rfl) ?_; dsimp only)); refine Kd.R_lit Kd.string _ 9 ?hg (N := 9) ?hd (xs := ([(⟨#[83, 116, 114, 105, 110, 103]⟩ : ByteArray), (⟨#[78, 117, 109, 98, 101, 114]⟩ : ByteArray), (⟨#[66, 105, 110, 97, 114, 121]⟩ : ByteArray)] : List ByteArray)) (inner := [.string (⟨#[83, 116, 114, 105, 110, 103]⟩ : ByteArray), .string (⟨#[78, 117, 109, 98, 101, 114]⟩ : ByteArray), .string (⟨#[66, 105, 110, 97, 114, 121]⟩ : ByteArray)]) (ok := fun _ => True) (okp := fun _ => True) ?hr ?hp (fun _ hk => hk) trivial (Below.refl _ _) (Nat.le_refl _) (by simp) ?_; (case hd => rfl); (case hg => rfl); (case hr => first | (go_simp; done) | (go_simp; rfl)); (case hp => exact (Reps.one (show Kd.M Kd.string _ _ _ (⟨#[83, 116, 114, 105, 110, 103]⟩ : ByteArray) [.string (⟨#[83, 116, 114, 105, 110, 103]⟩ : ByteArray)] from rfl) (Reps.one (show Kd.M Kd.string _ _ _ (⟨#[78, 117, 109, 98, 101, 114]⟩ : ByteArray) [.string (⟨#[78, 117, 109, 98, 101, 114]⟩ : ByteArray)] from rfl) (Reps.one (show Kd.M Kd.string _ _ _ (⟨#[66, 105, 110, 97, 114, 121]⟩ : ByteArray) [.string (⟨#[66, 105, 110, 97, 114, 121]⟩ : ByteArray)] from rfl) (Reps.none _ _))))); intro v114 w2 ho3 hb hg_ hnew_; clear hg_ hnew_; (first | rw [← Ny113.out] at ho3 | (simp only [Int.reduceToNat] at ho3; rw [← Ny113.out] at ho3)); have n0_ := Aside0.mk (Kd.R_lower ho3 (below_size (by repeat (first | (with_reducible first | exact HB.out | apply below_alloc | apply pw_below_drewN | apply below_drew1) | exact HB.out)))); have n1_ := Aside0.mk (below_step (by repeat (first | (with_reducible first | exact HB.out | apply below_alloc | apply pw_below_drewN | apply below_drew1) | exact HB.out)) hb); clear HB; have HO115 := n0_; have HB := n1_; clear n0_ n1_; clear hb ho3))
  repeat (go_quiet (first | ((with_reducible refine gate_dst (N := 9) rfl ?_); (try (refine gate_guard (by rfl) ?_; dsimp only)); refine Kd.R_lit Kd.string _ 9 ?hg (N := 9) ?hd (xs := ([(⟨#[83, 116, 114, 105, 110, 103]⟩ : ByteArray), (⟨#[78, 117, 109, 98, 101, 114]⟩ : ByteArray), (⟨#[66, 105, 110, 97, 114, 121]⟩ : ByteArray)] : List ByteArray)) (inner := [.string (⟨#[83, 116, 114, 105, 110, 103]⟩ : ByteArray), .string (⟨#[78, 117, 109, 98, 101, 114]⟩ : ByteArray), .string (⟨#[66, 105, 110, 97, 114, 121]⟩ : ByteArray)]) (ok := fun _ => True) (okp := fun _ => True) ?hr ?hp (fun _ hk => hk) trivial (Below.refl _ _) (Nat.le_refl _) (by simp) ?_; (case hd => rfl); (case hg => rfl); (case hr => first | (go_simp; done) | (go_simp; rfl)); (case hp => exact (Reps.one (show Kd.M Kd.string _ _ _ (⟨#[83, 116, 114, 105, 110, 103]⟩ : ByteArray) [.string (⟨#[83, 116, 114, 105, 110, 103]⟩ : ByteArray)] from rfl) (Reps.one (show Kd.M Kd.string _ _ _ (⟨#[78, 117, 109, 98, 101, 114]⟩ : ByteArray) [.string (⟨#[78, 117, 109, 98, 101, 114]⟩ : ByteArray)] from rfl) (Reps.one (show Kd.M Kd.string _ _ _ (⟨#[66, 105, 110, 97, 114, 121]⟩ : ByteArray) [.string (⟨#[66, 105, 110, 97, 114, 121]⟩ : ByteArray)] from rfl) (Reps.none _ _))))); intro v114 w2 ho3 hb hg_ hnew_; clear hg_ hnew_; (first | rw [← Ny113.out] at ho3 | (simp only [Int.reduceToNat] at ho3; rw [← Ny113.out] at ho3)); have n0_ := Aside0.mk (Kd.R_lower ho3 (below_size (by repeat (first | (with_reducible first | exact HB.out | apply below_alloc | apply pw_below_drewN | apply below_drew1) | exact HB.out)))); have n1_ := Aside0.mk (below_step (by repeat (first | (with_reducible first | exact HB.out | apply below_alloc | apply pw_below_drewN | apply below_drew1) | exact HB.out)) hb); clear HB; have HO115 := n0_; have HB := n1_; clear n0_ n1_; clear hb ho3)); try go_wp2_with (first | ((with_reducible refine gate_dst (N := 9) rfl ?_); (try (refine gate_guard (by rfl) ?_; dsimp only)); refine Kd.R_lit Kd.string _ 9 ?hg (N := 9) ?hd (xs := ([(⟨#[83, 116, 114, 105, 110, 103]⟩ : ByteArray), (⟨#[78, 117, 109, 98, 101, 114]⟩ : ByteArray), (⟨#[66, 105, 110, 97, 114, 121]⟩ : ByteArray)] : List ByteArray)) (inner := [.string (⟨#[83, 116, 114, 105, 110, 103]⟩ : ByteArray), .string (⟨#[78, 117, 109, 98, 101, 114]⟩ : ByteArray), .string (⟨#[66, 105, 110, 97, 114, 121]⟩ : ByteArray)]) (ok := fun _ => True) (okp := fun _ => True) ?hr ?hp (fun _ hk => hk) trivial (Below.refl _ _) (Nat.le_refl _) (by simp) ?_; (case hd => rfl); (case hg => rfl); (case hr => first | (go_simp; done) | (go_simp; rfl)); (case hp => exact (Reps.one (show Kd.M Kd.string _ _ _ (⟨#[83, 116, 114, 105, 110, 103]⟩ : ByteArray) [.string (⟨#[83, 116, 114, 105, 110, 103]⟩ : ByteArray)] from rfl) (Reps.one (show Kd.M Kd.string _ _ _ (⟨#[78, 117, 109, 98, 101, 114]⟩ : ByteArray) [.string (⟨#[78, 117, 109, 98, 101, 114]⟩ : ByteArray)] from rfl) (Reps.one (show Kd.M Kd.string _ _ _ (⟨#[66, 105, 110, 97, 114, 121]⟩ : ByteArray) [.string (⟨#[66, 105, 110, 97, 114, 121]⟩ : ByteArray)] from rfl) (Reps.none _ _))))); intro v114 w2 ho3 hb hg_ hnew_; clear hg_ hnew_; (first | rw [← Ny113.out] at ho3 | (simp only [Int.reduceToNat] at ho3; rw [← Ny113.out] at ho3)); have n0_ := Aside0.mk (Kd.R_lower ho3 (below_size (by repeat (first | (with_reducible first | exact HB.out | apply below_alloc | apply pw_below_drewN | apply below_drew1) | exact HB.out)))); have n1_ := Aside0.mk (below_step (by repeat (first | (with_reducible first | exact HB.out | apply below_alloc | apply pw_below_drewN | apply below_drew1) | exact HB.out)) hb); clear HB; have HO115 := n0_; have HB := n1_; clear n0_ n1_; clear hb ho3)))
  go_loopg [5] k (fun kq v5 w' => ∃ (x5_1 : Int), v5 = .int .i64 x5_1 ∧ Aside0 (racewayref24_Type.l0 kq a0 y113 x5_1 = some (r1, r2)) ∧ Aside0 (kq ≤ k) ∧ Aside0 (Kd.R Kd.string 9 w' w.heap.size (fun _ => True) v114 y113) ∧ Aside0 (Below w.heap.size w w'))
  case atStart => exact ⟨(0), (by first | rfl | (simp; done) | (simp; decide +kernel) | (simp [*]; done)), (by first | exact H' | (subst_vars; exact H')), ⟨Nat.le_refl _⟩, ⟨by (with_reducible repeat (first | apply Kd.R_alloc | apply Kd.R_drewN | apply Kd.R_drew)); exact HO115.out⟩, ⟨by repeat (first | (with_reducible first | exact HB.out | apply below_alloc | apply pw_below_drewN | apply below_drew1) | exact HB.out)⟩⟩
  case round =>
    clear H'
    try clear c1
    try clear p2
    obtain ⟨x5_1, rfl, HA, HK1, HO_4, HB⟩ := hrel
    cases gk with
    | zero => exact absurd HA.out (by simp [racewayref24_Type.l0])
    | succ k1 =>
      have H := HA.out
      clear HA
      simp only [racewayref24_Type.l0] at H
      by_cases c4 : x5_1 < 3
      · rw [if_pos c4] at H
        have c4b0 : decide (x5_1 < 3) = true := decide_eq_true c4
        clear c4
        by_cases c5 : 0 ≤ x5_1
        · rw [if_pos c5] at H
          have c5b0 : decide (0 ≤ x5_1) = true := decide_eq_true c5
          clear c5
          by_cases c6 : x5_1 < (y113.length : Int)
          · rw [if_pos c6] at H
            have c6b0 : decide (x5_1 < (y113.length : Int)) = true := decide_eq_true c6
            clear c6
            have HC7 := Aside0.mk H
            clear H
            obtain ⟨Ao8, co8, eo8⟩ := Kd.R_slice HO_4.out
            subst eo8
            have p116 : 0 ≤ (x5_1 : Int) := of_decide_eq_true (by first | (with_reducible assumption) | assumption)
            have q116 : x5_1 < (y113.length : Int) := of_decide_eq_true (by first | (with_reducible assumption) | assumption)
            obtain ⟨ad116, e116, hx116_0⟩ := Kd.at_string (Kd.R_reads' HO_4.out).2.2 x5_1 p116 q116
            cases e116
            replace p116 := eq_true p116
            replace q116 := eq_true q116
            go_upto_region 6 with (fail)
            repeat (go_quiet (fail); go_upto_region 6 with (fail))
            go_cut [32] (fun v32 wc => ∃ (kq : Nat) (x32_6 : Bool), v32 = .bool x32_6 ∧ Aside0 (racewayref24_Type.j1 kq a0 y113 x5_1 ((rdOf ByteArray.empty y113 x5_1).size : Int) x32_6 = some (r1, r2)) ∧ Aside0 (kq ≤ k1) ∧ Aside0 (Kd.R Kd.string 9 wc w.heap.size (fun _ => True) (.slice (some ad116) y113.length co8) y113) ∧ Aside0 (Below w.heap.size w wc))
            case first =>
              have H := HC7.out
              clear HC7
              by_cases c9 : (a0.size : Int) < ((rdOf ByteArray.empty y113 x5_1).size : Int)
              · rw [if_pos c9] at H
                have c9b0 : decide ((a0.size : Int) < ((rdOf ByteArray.empty y113 x5_1).size : Int)) = true := decide_eq_true c9
                have c9b1 : decide (a0.size < (rdOf ByteArray.empty y113 x5_1).size) = true := decide_eq_true (Int.ofNat_lt.mp c9)
                clear c9
                (first | rw [c9b0] | (simp only [i64_w, i32_w]; rw [c9b0]) | skip)
                have H' := Aside0.mk H
                clear H
                go_wp2
                repeat (go_quiet (fail); try go_wp2)
                go_meet
                case rel => exact ⟨_, (true), (by first | rfl | (simp; done) | (simp; decide +kernel) | (simp [*]; done)), (by first | exact H' | (subst_vars; exact H')), ⟨by have := HK1.out; first | omega | exact Nat.le_refl _⟩, ⟨by (with_reducible repeat (first | apply Kd.R_alloc | apply Kd.R_drewN | apply Kd.R_drew)); exact HO_4.out⟩, ⟨by repeat (first | (with_reducible first | exact HB.out | apply below_alloc | apply pw_below_drewN | apply below_drew1) | exact HB.out)⟩⟩
              · rw [if_neg c9] at H
                have c9b0 : decide ((a0.size : Int) < ((rdOf ByteArray.empty y113 x5_1).size : Int)) = false := decide_eq_false c9
                have c9b1 : decide (a0.size < (rdOf ByteArray.empty y113 x5_1).size) = false := decide_eq_false (fun h => c9 (Int.ofNat_lt.mpr h))
                clear c9
                (first | rw [c9b0] | (simp only [i64_w, i32_w]; rw [c9b0]) | skip)
                by_cases c10 : 0 ≤ ((rdOf ByteArray.empty y113 x5_1).size : Int)
                · rw [if_pos c10] at H
                  have c10b0 := eq_true c10
                  have c10b1 : decide (0 ≤ ((rdOf ByteArray.empty y113 x5_1).size : Int)) = true := decide_eq_true c10
                  clear c10
                  by_cases c11 : ((rdOf ByteArray.empty y113 x5_1).size : Int) ≤ (a0.size : Int)
                  · rw [if_pos c11] at H
                    have c11b0 := eq_true c11
                    have c11b1 : decide (((rdOf ByteArray.empty y113 x5_1).size : Int) ≤ (a0.size : Int)) = true := decide_eq_true c11
                    clear c11
                    have H' := Aside0.mk H
                    clear H
                    have p117 : 0 ≤ (x5_1 : Int) := of_decide_eq_true (by first | (with_reducible assumption) | assumption)
                    have q117 : x5_1 < (y113.length : Int) := of_decide_eq_true (by first | (with_reducible assumption) | assumption)
                    obtain ⟨ad117, e117, hx117_0⟩ := Kd.at_string (Kd.R_reads' HO_4.out).2.2 x5_1 p117 q117
                    obtain rfl : ad116 = ad117 := (by injection e117)
                    replace p117 := eq_true p117
                    replace q117 := eq_true q117
                    go_wp2
                    repeat (go_quiet (fail); try go_wp2)
                    go_meet
                    case rel => exact ⟨_, (((a0.extract 0 (((rdOf ByteArray.empty y113 x5_1).size : Int) : Int).toNat).toList != (rdOf ByteArray.empty y113 x5_1).toList)), (by first | rfl | (simp; done) | (simp; decide +kernel) | (simp [*]; done)), (by first | exact H' | (subst_vars; exact H')), ⟨by have := HK1.out; first | omega | exact Nat.le_refl _⟩, ⟨by (with_reducible repeat (first | apply Kd.R_alloc | apply Kd.R_drewN | apply Kd.R_drew)); exact HO_4.out⟩, ⟨by repeat (first | (with_reducible first | exact HB.out | apply below_alloc | apply pw_below_drewN | apply below_drew1) | exact HB.out)⟩⟩
                  · rw [if_neg c11] at H
                    exact absurd H (by simp)
                · rw [if_neg c10] at H
                  exact absurd H (by simp)
            case rest =>
              clear HC7
              try clear c1
              try clear p1
              try clear q1
              try clear hx1
              try clear p2
              try clear c4
              try clear c4b0
              try clear c5
              try clear c5b0
              try clear c6
              try clear c6b0
              try clear c9
              try clear c9b0
              try clear c9b1
              try clear c10
              try clear c10b0
              try clear c10b1
              try clear c11
              try clear c11b0
              try clear c11b1
              try clear p11
              try clear q11
              try clear hx11
              try clear hx116_0
              try clear hx117_0
              try clear p116
              try clear p117
              try clear p2
              try clear q116
              try clear q117
              obtain ⟨kq, x32_6, rfl, HA, HJ6, HO_4, HB⟩ := hcut
              cases kq with
              | zero => exact absurd HA.out (by simp [racewayref24_Type.j1])
              | succ kj6 =>
                have H := HA.out
                clear HA
                simp only [racewayref24_Type.j1] at H
                by_cases c12 : x32_6 = true
                · subst c12
                  have H1 : (racewayref24_Type.l0 kj6 a0 y113 (wrap64 (x5_1 + 1))) = some (r1, r2) := by rw [if_pos rfl] at H; exact H
                  clear H
                  have H := H1
                  clear H1
                  have H' := Aside0.mk H
                  clear H
                  go_wp2
                  repeat (go_quiet (fail); try go_wp2)
                  go_roundg kj6
                  case measure => have := HK1.out; have := HJ6.out; omega
                  case rel => exact ⟨(wrap64 (x5_1 + 1)), (by first | rfl | (simp; done) | (simp; decide +kernel) | (simp [*]; done)), (by first | exact H' | (subst_vars; exact H')), ⟨by have := HK1.out; have := HJ6.out; omega⟩, ⟨by (with_reducible repeat (first | apply Kd.R_alloc | apply Kd.R_drewN | apply Kd.R_drew)); exact HO_4.out⟩, ⟨by repeat (first | (with_reducible first | exact HB.out | apply below_alloc | apply pw_below_drewN | apply below_drew1) | exact HB.out)⟩⟩
                · replace c12 := Bool.eq_false_iff.mpr c12
                  subst c12
                  have H1 : (if (a0.size : Int) = ((rdOf ByteArray.empty y113 x5_1).size : Int) then (some (wrap64 (x5_1 + 1), true)) else (if 0 ≤ ((rdOf ByteArray.empty y113 x5_1).size : Int) then (if ((rdOf ByteArray.empty y113 x5_1).size : Int) < (a0.size : Int) then (if (bt a0 ((rdOf ByteArray.empty y113 x5_1).size : Int)) = 46 then (if (a0.size : Int) > (wrap64 (((rdOf ByteArray.empty y113 x5_1).size : Int) + 1)) then (racewayref24_Type.j2 kj6 a0 y113 x5_1 ((rdOf ByteArray.empty y113 x5_1).size : Int) (decide ((a0.size : Int) ≤ (wrap64 (((rdOf ByteArray.empty y113 x5_1).size : Int) + 33))))) else (racewayref24_Type.j2 kj6 a0 y113 x5_1 ((rdOf ByteArray.empty y113 x5_1).size : Int) false)) else (racewayref24_Type.j2 kj6 a0 y113 x5_1 ((rdOf ByteArray.empty y113 x5_1).size : Int) false)) else (none)) else (none))) = some (r1, r2) := by rw [if_neg (show ¬ (false = true) by decide)] at H; exact H
                  clear H
                  have H := H1
                  clear H1
                  by_cases c13 : (a0.size : Int) = ((rdOf ByteArray.empty y113 x5_1).size : Int)
                  · rw [if_pos c13] at H
                    have c13b0 : ((a0.size : Int) == ((rdOf ByteArray.empty y113 x5_1).size : Int)) = true := beq_iff_eq.mpr c13
                    have c13b1 : ((a0.size : Int) != ((rdOf ByteArray.empty y113 x5_1).size : Int)) = false := bne_eq_false_iff_eq.mpr c13
                    have c13b2 : (a0.size == (rdOf ByteArray.empty y113 x5_1).size) = true := by first | simpa using c13 | (simp at c13 ⊢; omega)
                    clear c13
                    simp only [Option.some.injEq, Prod.mk.injEq] at H
                    obtain ⟨rfl, rfl⟩ := H
                    go_wp2
                    repeat (go_quiet (fail); try go_wp2)
                    go_ret2
                    exact ⟨by first | rfl | (simp [errW_none, errW_some] <;> rfl) | (simp [*, errW_none, errW_some] <;> rfl), by repeat (first | (with_reducible first | exact HB.out | apply below_alloc | apply pw_below_drewN | apply below_drew1) | exact HB.out)⟩
                  · rw [if_neg c13] at H
                    have c13b0 : ((a0.size : Int) == ((rdOf ByteArray.empty y113 x5_1).size : Int)) = false := beq_eq_false_iff_ne.mpr c13
                    have c13b1 : ((a0.size : Int) != ((rdOf ByteArray.empty y113 x5_1).size : Int)) = true := bne_iff_ne.mpr c13
                    have c13b2 : (a0.size == (rdOf ByteArray.empty y113 x5_1).size) = false := by first | simpa using c13 | (simp at c13 ⊢; omega)
                    have HC14 := Aside0.mk H
                    clear H
                    go_upto_region 9 with (fail)
                    repeat (go_quiet (fail); go_upto_region 9 with (fail))
                    go_cut [7] (fun v7 wc => ∃ (kq : Nat) (x7_13 : Bool), v7 = .bool x7_13 ∧ Aside0 (racewayref24_Type.j2 kq a0 y113 x5_1 ((rdOf ByteArray.empty y113 x5_1).size : Int) x7_13 = some (r1, r2)) ∧ Aside0 (kq ≤ kj6) ∧ Aside0 (Kd.R Kd.string 9 wc w.heap.size (fun _ => True) (.slice (some ad116) y113.length co8) y113) ∧ Aside0 (Below w.heap.size w wc))
                    case first =>
                      have H := HC14.out
                      clear HC14
                      by_cases c15 : 0 ≤ ((rdOf ByteArray.empty y113 x5_1).size : Int)
                      · rw [if_pos c15] at H
                        have c15b0 : decide (0 ≤ ((rdOf ByteArray.empty y113 x5_1).size : Int)) = true := decide_eq_true c15
                        have c15b1 : decide (0 ≤ (rdOf ByteArray.empty y113 x5_1).size) = true := decide_eq_true (by omega)
                        clear c15
                        (first | rw [c15b0] | (simp only [i64_w, i32_w]; rw [c15b0]) | skip)
                        by_cases c16 : ((rdOf ByteArray.empty y113 x5_1).size : Int) < (a0.size : Int)
                        · rw [if_pos c16] at H
                          have c16b0 : decide (((rdOf ByteArray.empty y113 x5_1).size : Int) < (a0.size : Int)) = true := decide_eq_true c16
                          have c16b1 : decide ((rdOf ByteArray.empty y113 x5_1).size < a0.size) = true := decide_eq_true (Int.ofNat_lt.mp c16)
                          clear c16
                          by_cases c18 : (bt a0 ((rdOf ByteArray.empty y113 x5_1).size : Int)) = 46
                          · rw [if_pos c18] at H
                            have c18b0 : ((bt a0 ((rdOf ByteArray.empty y113 x5_1).size : Int)) == 46) = true := beq_iff_eq.mpr c18
                            have c18b1 : ((bt a0 ((rdOf ByteArray.empty y113 x5_1).size : Int)) != 46) = false := bne_eq_false_iff_eq.mpr c18
                            clear c18
                            by_cases c19 : (a0.size : Int) > (wrap64 (((rdOf ByteArray.empty y113 x5_1).size : Int) + 1))
                            · rw [if_pos c19] at H
                              have c19b0 : decide ((wrap64 (((rdOf ByteArray.empty y113 x5_1).size : Int) + 1)) < (a0.size : Int)) = true := decide_eq_true c19
                              clear c19
                              have H' := Aside0.mk H
                              clear H
                              have p17 : 0 ≤ (((rdOf ByteArray.empty y113 x5_1).size : Int) : Int) := of_decide_eq_true (by first | (with_reducible assumption) | assumption)
                              have hz17 : ∀ h : (rdOf ByteArray.empty y113 x5_1).size < a0.size, ((a0[(rdOf ByteArray.empty y113 x5_1).size]'h).toNat : Int) = bt a0 ((rdOf ByteArray.empty y113 x5_1).size : Int) := bt_at a0 ((rdOf ByteArray.empty y113 x5_1).size : Int)
                              have q17 : ((rdOf ByteArray.empty y113 x5_1).size : Int) < (a0.size : Int) := of_decide_eq_true (by first | (with_reducible assumption) | assumption)
                              have hx17 := bt_at a0 ((rdOf ByteArray.empty y113 x5_1).size : Int)
                              replace p17 := eq_true p17
                              replace q17 := eq_true q17
                              go_wp2
                              repeat (go_quiet (fail); try go_wp2)
                              go_meet
                              case rel => exact ⟨_, (decide ((a0.size : Int) ≤ (wrap64 (((rdOf ByteArray.empty y113 x5_1).size : Int) + 33)))), (by first | rfl | (simp; done) | (simp; decide +kernel) | (simp [*]; done)), (by first | exact H' | (subst_vars; exact H')), ⟨by have := HK1.out; have := HJ6.out; first | omega | exact Nat.le_refl _⟩, ⟨by (with_reducible repeat (first | apply Kd.R_alloc | apply Kd.R_drewN | apply Kd.R_drew)); exact HO_4.out⟩, ⟨by repeat (first | (with_reducible first | exact HB.out | apply below_alloc | apply pw_below_drewN | apply below_drew1) | exact HB.out)⟩⟩
                            · rw [if_neg c19] at H
                              have c19b0 : decide ((wrap64 (((rdOf ByteArray.empty y113 x5_1).size : Int) + 1)) < (a0.size : Int)) = false := decide_eq_false c19
                              clear c19
                              have H' := Aside0.mk H
                              clear H
                              have p17 : 0 ≤ (((rdOf ByteArray.empty y113 x5_1).size : Int) : Int) := of_decide_eq_true (by first | (with_reducible assumption) | assumption)
                              have hz17 : ∀ h : (rdOf ByteArray.empty y113 x5_1).size < a0.size, ((a0[(rdOf ByteArray.empty y113 x5_1).size]'h).toNat : Int) = bt a0 ((rdOf ByteArray.empty y113 x5_1).size : Int) := bt_at a0 ((rdOf ByteArray.empty y113 x5_1).size : Int)
                              have q17 : ((rdOf ByteArray.empty y113 x5_1).size : Int) < (a0.size : Int) := of_decide_eq_true (by first | (with_reducible assumption) | assumption)
                              have hx17 := bt_at a0 ((rdOf ByteArray.empty y113 x5_1).size : Int)
                              replace p17 := eq_true p17
                              replace q17 := eq_true q17
                              go_wp2
                              repeat (go_quiet (fail); try go_wp2)
                              go_meet
                              case rel => exact ⟨_, (false), (by first | rfl | (simp; done) | (simp; decide +kernel) | (simp [*]; done)), (by first | exact H' | (subst_vars; exact H')), ⟨by have := HK1.out; have := HJ6.out; first | omega | exact Nat.le_refl _⟩, ⟨by (with_reducible repeat (first | apply Kd.R_alloc | apply Kd.R_drewN | apply Kd.R_drew)); exact HO_4.out⟩, ⟨by repeat (first | (with_reducible first | exact HB.out | apply below_alloc | apply pw_below_drewN | apply below_drew1) | exact HB.out)⟩⟩
                          · rw [if_neg c18] at H
                            have c18b0 : ((bt a0 ((rdOf ByteArray.empty y113 x5_1).size : Int)) == 46) = false := beq_eq_false_iff_ne.mpr c18
                            have c18b1 : ((bt a0 ((rdOf ByteArray.empty y113 x5_1).size : Int)) != 46) = true := bne_iff_ne.mpr c18
                            have H' := Aside0.mk H
                            clear H
                            have p17 : 0 ≤ (((rdOf ByteArray.empty y113 x5_1).size : Int) : Int) := of_decide_eq_true (by first | (with_reducible assumption) | assumption)
                            have hz17 : ∀ h : (rdOf ByteArray.empty y113 x5_1).size < a0.size, ((a0[(rdOf ByteArray.empty y113 x5_1).size]'h).toNat : Int) = bt a0 ((rdOf ByteArray.empty y113 x5_1).size : Int) := bt_at a0 ((rdOf ByteArray.empty y113 x5_1).size : Int)
                            have q17 : ((rdOf ByteArray.empty y113 x5_1).size : Int) < (a0.size : Int) := of_decide_eq_true (by first | (with_reducible assumption) | assumption)
                            have hx17 := bt_at a0 ((rdOf ByteArray.empty y113 x5_1).size : Int)
                            replace p17 := eq_true p17
                            replace q17 := eq_true q17
                            go_wp2
                            repeat (go_quiet (fail); try go_wp2)
                            go_meet
                            case rel => exact ⟨_, (false), (by first | rfl | (simp; done) | (simp; decide +kernel) | (simp [*]; done)), (by first | exact H' | (subst_vars; exact H')), ⟨by have := HK1.out; have := HJ6.out; first | omega | exact Nat.le_refl _⟩, ⟨by (with_reducible repeat (first | apply Kd.R_alloc | apply Kd.R_drewN | apply Kd.R_drew)); exact HO_4.out⟩, ⟨by repeat (first | (with_reducible first | exact HB.out | apply below_alloc | apply pw_below_drewN | apply below_drew1) | exact HB.out)⟩⟩
                        · rw [if_neg c16] at H
                          exact absurd H (by simp)
                      · rw [if_neg c15] at H
                        exact absurd H (by simp)
                    case rest =>
                      clear HC14
                      try clear c1
                      try clear p1
                      try clear q1
                      try clear hx1
                      try clear p2
                      try clear c4
                      try clear c4b0
                      try clear c5
                      try clear c5b0
                      try clear c6
                      try clear c6b0
                      try clear p6
                      try clear c9
                      try clear c9b0
                      try clear c9b1
                      try clear c10
                      try clear c10b0
                      try clear c10b1
                      try clear c11
                      try clear c11b0
                      try clear c11b1
                      try clear p11
                      try clear q11
                      try clear hx11
                      try clear c12
                      try clear c13
                      try clear c13b0
                      try clear c13b1
                      try clear c13b2
                      try clear c15
                      try clear c15b0
                      try clear c15b1
                      try clear c16
                      try clear c16b0
                      try clear c16b1
                      try clear p17
                      try clear q17
                      try clear hx17
                      try clear c18
                      try clear c18b0
                      try clear c18b1
                      try clear c19
                      try clear c19b0
                      try clear hx116_0
                      try clear hx117_0
                      try clear p1
                      try clear p11
                      try clear p116
                      try clear p117
                      try clear p17
                      try clear p2
                      try clear q1
                      try clear q11
                      try clear q116
                      try clear q117
                      try clear q17
                      obtain ⟨kq, x7_13, rfl, HA, HJ13, HO_4, HB⟩ := hcut
                      cases kq with
                      | zero => exact absurd HA.out (by simp [racewayref24_Type.j2])
                      | succ kj13 =>
                        have H := HA.out
                        clear HA
                        simp only [racewayref24_Type.j2] at H
                        have H' := Aside0.mk H
                        clear H
                        go_wp2
                        repeat (go_quiet (fail); try go_wp2)
                        go_loopg [7, 8] kj13 (fun kq v7 v8 w' => ∃ (x7_4 : Bool) (x8_4 : Int), v7 = .bool x7_4 ∧ v8 = .int .i64 x8_4 ∧ Aside0 (racewayref24_Type.l1 kq a0 y113 x5_1 x7_4 x8_4 = some (r1, r2)) ∧ Aside0 (kq ≤ kj13) ∧ Aside0 (Kd.R Kd.string 9 w' w.heap.size (fun _ => True) (.slice (some ad116) y113.length co8) y113) ∧ Aside0 (Below w.heap.size w w'))
                        case atStart => exact ⟨(x7_13), (wrap64 (((rdOf ByteArray.empty y113 x5_1).size : Int) + 1)), (by first | rfl | (simp; done) | (simp; decide +kernel) | (simp [*]; done)), (by first | rfl | (simp; done) | (simp; decide +kernel) | (simp [*]; done)), (by first | exact H' | (subst_vars; exact H')), ⟨Nat.le_refl _⟩, ⟨by (with_reducible repeat (first | apply Kd.R_alloc | apply Kd.R_drewN | apply Kd.R_drew)); exact HO_4.out⟩, ⟨by repeat (first | (with_reducible first | exact HB.out | apply below_alloc | apply pw_below_drewN | apply below_drew1) | exact HB.out)⟩⟩
                        case round =>
                          clear H'
                          try clear c1
                          try clear p1
                          try clear q1
                          try clear hx1
                          try clear p2
                          try clear c4
                          try clear c4b0
                          try clear c5
                          try clear c5b0
                          try clear c6
                          try clear c6b0
                          try clear p6
                          try clear c9
                          try clear c9b0
                          try clear c9b1
                          try clear c10
                          try clear c10b0
                          try clear c10b1
                          try clear c11
                          try clear c11b0
                          try clear c11b1
                          try clear p11
                          try clear q11
                          try clear hx11
                          try clear c12
                          try clear c13
                          try clear c13b0
                          try clear c13b1
                          try clear c13b2
                          try clear c15
                          try clear c15b0
                          try clear c15b1
                          try clear c16
                          try clear c16b0
                          try clear c16b1
                          try clear p17
                          try clear q17
                          try clear hx17
                          try clear c18
                          try clear c18b0
                          try clear c18b1
                          try clear c19
                          try clear c19b0
                          try clear hx116_0
                          try clear hx117_0
                          try clear p1
                          try clear p11
                          try clear p116
                          try clear p117
                          try clear p17
                          try clear p2
                          try clear p6
                          try clear q1
                          try clear q11
                          try clear q116
                          try clear q117
                          try clear q17
                          obtain ⟨x7_4, x8_4, rfl, rfl, HA, HK4, HO_4, HB⟩ := hrel
                          cases gk with
                          | zero => exact absurd HA.out (by simp [racewayref24_Type.l1])
                          | succ k4 =>
                            have H := HA.out
                            clear HA
                            simp only [racewayref24_Type.l1] at H
                            by_cases c20 : x8_4 < (a0.size : Int)
                            · rw [if_pos c20] at H
                              have c20b0 : decide (x8_4 < (a0.size : Int)) = true := decide_eq_true c20
                              clear c20
                              by_cases c21 : x7_4 = true
                              · subst c21
                                have H1 : (if 0 ≤ x8_4 then ((racewayref24_letter.f (bt a0 x8_4)).bind fun t118 => (racewayref24_Type.l1 k4 a0 y113 x5_1 t118 (wrap64 (x8_4 + 1)))) else (none)) = some (r1, r2) := by rw [if_pos rfl] at H; exact H
                                clear H
                                have H := H1
                                clear H1
                                by_cases c22 : 0 ≤ x8_4
                                · rw [if_pos c22] at H
                                  have c22b0 : decide (0 ≤ x8_4) = true := decide_eq_true c22
                                  clear c22
                                  replace H := Option.bind_eq_some_iff.mp H
                                  obtain ⟨t118, A240, H⟩ := H
                                  replace H : (racewayref24_Type.l1 k4 a0 y113 x5_1 t118 (wrap64 (x8_4 + 1))) = some (r1, r2) := H
                                  have A24 := Aside0.mk A240
                                  clear A240
                                  have H' := Aside0.mk H
                                  clear H
                                  have p23 : 0 ≤ (x8_4 : Int) := of_decide_eq_true (by first | (with_reducible assumption) | assumption)
                                  have q23 : x8_4 < (a0.size : Int) := of_decide_eq_true (by first | (with_reducible assumption) | assumption)
                                  have hx23 := bt_at a0 x8_4
                                  replace p23 := eq_true p23
                                  replace q23 := eq_true q23
                                  go_wp2_with (first | (go_at_call 31; (with_reducible refine (racewayref24_letter.calls (bt a0 x8_4) t118 _ A24.out).mono ?_); rintro e w' ⟨rfl, ⟨nd, rfl⟩⟩; (try first | exact ⟨rfl, _, World.drewN_drewN _ _ _⟩ | exact ⟨rfl, _, Eq.trans (World.drewN_drewN _ _ _) (congrArg (World.drewN _) (Nat.add_assoc _ _ _))⟩)))
                                  repeat (go_quiet (first | (go_at_call 31; (with_reducible refine (racewayref24_letter.calls (bt a0 x8_4) t118 _ A24.out).mono ?_); rintro e w' ⟨rfl, ⟨nd, rfl⟩⟩; (try first | exact ⟨rfl, _, World.drewN_drewN _ _ _⟩ | exact ⟨rfl, _, Eq.trans (World.drewN_drewN _ _ _) (congrArg (World.drewN _) (Nat.add_assoc _ _ _))⟩))); try go_wp2_with (first | (go_at_call 31; (with_reducible refine (racewayref24_letter.calls (bt a0 x8_4) t118 _ A24.out).mono ?_); rintro e w' ⟨rfl, ⟨nd, rfl⟩⟩; (try first | exact ⟨rfl, _, World.drewN_drewN _ _ _⟩ | exact ⟨rfl, _, Eq.trans (World.drewN_drewN _ _ _) (congrArg (World.drewN _) (Nat.add_assoc _ _ _))⟩))))
                                  go_roundg k4
                                  case measure => have := HK1.out; have := HJ6.out; have := HJ13.out; have := HK4.out; omega
                                  case rel => exact ⟨(t118), (wrap64 (x8_4 + 1)), (by first | rfl | (simp; done) | (simp; decide +kernel) | (simp [*]; done)), (by first | rfl | (simp; done) | (simp; decide +kernel) | (simp [*]; done)), (by first | exact H' | (subst_vars; exact H')), ⟨by have := HK1.out; have := HJ6.out; have := HJ13.out; have := HK4.out; omega⟩, ⟨by (with_reducible repeat (first | apply Kd.R_alloc | apply Kd.R_drewN | apply Kd.R_drew)); exact HO_4.out⟩, ⟨by repeat (first | (with_reducible first | exact HB.out | apply below_alloc | apply pw_below_drewN | apply below_drew1) | exact HB.out)⟩⟩
                                · rw [if_neg c22] at H
                                  exact absurd H (by simp)
                              · replace c21 := Bool.eq_false_iff.mpr c21
                                subst c21
                                have H1 : (racewayref24_Type.l1 k4 a0 y113 x5_1 false (wrap64 (x8_4 + 1))) = some (r1, r2) := by rw [if_neg (show ¬ (false = true) by decide)] at H; exact H
                                clear H
                                have H := H1
                                clear H1
                                have H' := Aside0.mk H
                                clear H
                                go_wp2
                                repeat (go_quiet (fail); try go_wp2)
                                go_roundg k4
                                case measure => have := HK1.out; have := HJ6.out; have := HJ13.out; have := HK4.out; omega
                                case rel => exact ⟨(false), (wrap64 (x8_4 + 1)), (by first | rfl | (simp; done) | (simp; decide +kernel) | (simp [*]; done)), (by first | rfl | (simp; done) | (simp; decide +kernel) | (simp [*]; done)), (by first | exact H' | (subst_vars; exact H')), ⟨by have := HK1.out; have := HJ6.out; have := HJ13.out; have := HK4.out; omega⟩, ⟨by (with_reducible repeat (first | apply Kd.R_alloc | apply Kd.R_drewN | apply Kd.R_drew)); exact HO_4.out⟩, ⟨by repeat (first | (with_reducible first | exact HB.out | apply below_alloc | apply pw_below_drewN | apply below_drew1) | exact HB.out)⟩⟩
                            · rw [if_neg c20] at H
                              have c20b0 : decide (x8_4 < (a0.size : Int)) = false := decide_eq_false c20
                              clear c20
                              by_cases c25 : x7_4 = true
                              · subst c25
                                have H1 : (some (wrap64 (x5_1 + 1), true)) = some (r1, r2) := by rw [if_pos rfl] at H; exact H
                                clear H
                                have H := H1
                                clear H1
                                simp only [Option.some.injEq, Prod.mk.injEq] at H
                                obtain ⟨rfl, rfl⟩ := H
                                go_wp2
                                repeat (go_quiet (fail); try go_wp2)
                                go_ret2
                                exact ⟨by first | rfl | (simp [errW_none, errW_some] <;> rfl) | (simp [*, errW_none, errW_some] <;> rfl), by repeat (first | (with_reducible first | exact HB.out | apply below_alloc | apply pw_below_drewN | apply below_drew1) | exact HB.out)⟩
                              · replace c25 := Bool.eq_false_iff.mpr c25
                                subst c25
                                have H1 : (racewayref24_Type.l0 k4 a0 y113 (wrap64 (x5_1 + 1))) = some (r1, r2) := by rw [if_neg (show ¬ (false = true) by decide)] at H; exact H
                                clear H
                                have H := H1
                                clear H1
                                have H' := Aside0.mk H
                                clear H
                                go_wp2
                                repeat (go_quiet (fail); try go_wp2)
                                go_roundg k4
                                case measure => have := HK1.out; have := HJ6.out; have := HJ13.out; have := HK4.out; omega
                                case rel => exact ⟨(wrap64 (x5_1 + 1)), (by first | rfl | (simp; done) | (simp; decide +kernel) | (simp [*]; done)), (by first | exact H' | (subst_vars; exact H')), ⟨by have := HK1.out; have := HJ6.out; have := HJ13.out; have := HK4.out; omega⟩, ⟨by (with_reducible repeat (first | apply Kd.R_alloc | apply Kd.R_drewN | apply Kd.R_drew)); exact HO_4.out⟩, ⟨by repeat (first | (with_reducible first | exact HB.out | apply below_alloc | apply pw_below_drewN | apply below_drew1) | exact HB.out)⟩⟩
          · rw [if_neg c6] at H
            exact absurd H (by simp)
        · rw [if_neg c5] at H
          exact absurd H (by simp)
      · rw [if_neg c4] at H
        have c4b0 : decide (x5_1 < 3) = false := decide_eq_false c4
        clear c4
        simp only [Option.some.injEq, Prod.mk.injEq] at H
        obtain ⟨rfl, rfl⟩ := H
        go_wp2
        repeat (go_quiet (fail); try go_wp2)
        go_ret2
        exact ⟨by first | rfl | (simp [errW_none, errW_some] <;> rfl) | (simp [*, errW_none, errW_some] <;> rfl), by repeat (first | (with_reducible first | exact HB.out | apply below_alloc | apply pw_below_drewN | apply below_drew1) | exact HB.out)⟩

-- EXTERNAL: function 32 (strings_Contains): YtolpefnedpgaaaaDoorExtStr2

/-! ### attribute_begins: function 33 -/
mutual
def attribute_begins.l0 : Nat → ByteArray → ByteArray → Int → Int → Option (Bool)
  | 0, _, _, _, _ => none
  | k + 1, x0, x1, x13, x14 => if x14 < x13 then (if 0 ≤ x14 then (if x14 < (x0.size : Int) then (if (bt x0 x14) ≥ 65 then (attribute_begins.j1 k x0 x1 x14 (bt x0 x14) x13 x14 (decide ((bt x0 x14) ≤ 90))) else (attribute_begins.j1 k x0 x1 x14 (bt x0 x14) x13 x14 false)) else (none)) else (none)) else (some true)
def attribute_begins.j1 : Nat → ByteArray → ByteArray → Int → Int → Int → Int → Bool → Option (Bool)
  | 0, _, _, _, _, _, _, _ => none
  | k + 1, x0, x1, x5, x6, x13, x14, x25 => if x25 = true then (if 0 ≤ x5 then (if x5 < (x1.size : Int) then (if ((x6 + 32) % 256) = (bt x1 x5) then (attribute_begins.l0 k x0 x1 x13 (wrap64 (x14 + 1))) else (some false)) else (none)) else (none)) else (if 0 ≤ x5 then (if x5 < (x1.size : Int) then (if x6 = (bt x1 x5) then (attribute_begins.l0 k x0 x1 x13 (wrap64 (x14 + 1))) else (some false)) else (none)) else (none))
end
def attribute_begins.f (k : Nat) (a0 : ByteArray) (a1 : ByteArray) : Option (Bool) := if (a0.size : Int) < (a1.size : Int) then (some false) else (attribute_begins.l0 k a0 a1 (a1.size : Int) 0)
theorem attribute_begins.mono_l : ∀ k, (∀ y0 y1 y2 y3, LeO (attribute_begins.l0 k y0 y1 y2 y3) (attribute_begins.l0 (k + 1) y0 y1 y2 y3)) ∧ (∀ y0 y1 y2 y3 y4 y5 y6, LeO (attribute_begins.j1 k y0 y1 y2 y3 y4 y5 y6) (attribute_begins.j1 (k + 1) y0 y1 y2 y3 y4 y5 y6))
  | 0 => ⟨fun _ _ _ _ r h => by simp [attribute_begins.l0] at h, fun _ _ _ _ _ _ _ r h => by simp [attribute_begins.j1] at h⟩
  | k + 1 => by
    obtain ⟨ih0, ih1⟩ := attribute_begins.mono_l k
    refine ⟨?_, ?_⟩
    · intro y0 y1 y2 y3
      unfold attribute_begins.l0
      repeat' first
      | (with_reducible exact ih0 _ _ _ _)
      | (with_reducible exact ih1 _ _ _ _ _ _ _)
      | (with_reducible exact LeO.refl _)
      | (with_reducible exact LeO.none _)
      | (with_reducible refine LeO.ite ?_ ?_)
      | (with_reducible refine LeO.bind ?_ (fun _ => ?_))
      | exact ih0 _ _ _ _
      | exact ih1 _ _ _ _ _ _ _
      | exact LeO.none _
      | refine LeO.ite ?_ ?_
      | refine LeO.bind ?_ (fun _ => ?_)
    · intro y0 y1 y2 y3 y4 y5 y6
      unfold attribute_begins.j1
      repeat' first
      | (with_reducible exact ih0 _ _ _ _)
      | (with_reducible exact ih1 _ _ _ _ _ _ _)
      | (with_reducible exact LeO.refl _)
      | (with_reducible exact LeO.none _)
      | (with_reducible refine LeO.ite ?_ ?_)
      | (with_reducible refine LeO.bind ?_ (fun _ => ?_))
      | exact ih0 _ _ _ _
      | exact ih1 _ _ _ _ _ _ _
      | exact LeO.none _
      | refine LeO.ite ?_ ?_
      | refine LeO.bind ?_ (fun _ => ?_)
theorem attribute_begins.mono : ∀ a0 a1 k, LeO (attribute_begins.f k a0 a1) (attribute_begins.f (k + 1) a0 a1) := by
  intro a0 a1 k
  obtain ⟨ih0, ih1⟩ := attribute_begins.mono_l k
  unfold attribute_begins.f
  repeat' first
      | (with_reducible exact ih0 _ _ _ _)
      | (with_reducible exact ih1 _ _ _ _ _ _ _)
      | (with_reducible exact LeO.refl _)
      | (with_reducible exact LeO.none _)
      | (with_reducible refine LeO.ite ?_ ?_)
      | (with_reducible refine LeO.bind ?_ (fun _ => ?_))
      | exact ih0 _ _ _ _
      | exact ih1 _ _ _ _ _ _ _
      | exact LeO.none _
      | refine LeO.ite ?_ ?_
      | refine LeO.bind ?_ (fun _ => ?_)
set_option maxHeartbeats 8000000 in
set_option maxRecDepth 100000 in
theorem attribute_begins.calls (k : Nat) (a0 : ByteArray) (a1 : ByteArray) (r : Bool) (w : World) (h : attribute_begins.f k a0 a1 = some r) :
    Calls Tryd.prog 33 #[.string a0, .string a1] w fun e w' => e = .returned (.bool r) ∧ Drawn0 w w' := by
  have H : (if (a0.size : Int) < (a1.size : Int) then (some false) else (attribute_begins.l0 k a0 a1 (a1.size : Int) 0)) = some r := h
  clear h
  by_cases c3 : (a0.size : Int) < (a1.size : Int)
  · rw [if_pos c3] at H
    have c3b0 : decide ((a0.size : Int) < (a1.size : Int)) = true := decide_eq_true c3
    have c3b1 : decide (a0.size < a1.size) = true := decide_eq_true (Int.ofNat_lt.mp c3)
    clear c3
    obtain rfl := Option.some.inj H
    go_enter Tryd.func33, Tryd.ntmps33
    go_wp2
    go_ret
    exact ⟨by first | rfl | (simp; done) | (simp; decide +kernel) | (simp [*]; done), by repeat (first | exact Drawn0.refl _ | apply Drawn0.step)⟩
  · rw [if_neg c3] at H
    have c3b0 : decide ((a0.size : Int) < (a1.size : Int)) = false := decide_eq_false c3
    have c3b1 : decide (a0.size < a1.size) = false := decide_eq_false (fun h => c3 (Int.ofNat_lt.mpr h))
    clear c3
    have H' := Aside0.mk H
    clear H
    go_enter Tryd.func33, Tryd.ntmps33
    go_wp2
    go_loopg [14] k (fun kq v14 w' => ∃ (x14_1 : Int), v14 = .int .i64 x14_1 ∧ Aside0 (attribute_begins.l0 kq a0 a1 (a1.size : Int) x14_1 = some r) ∧ Aside0 (kq ≤ k) ∧ Drawn0 w w')
    case atStart => exact ⟨(0), (by first | rfl | (simp; done) | (simp; decide +kernel) | (simp [*]; done)), (by first | exact H' | (subst_vars; exact H')), ⟨Nat.le_refl _⟩, by repeat (first | exact Drawn0.refl _ | apply Drawn0.step)⟩
    case round =>
      clear H'
      try clear p2
      try clear c3
      try clear c3b0
      try clear c3b1
      obtain ⟨x14_1, rfl, HA, HK1, ⟨m1, rfl⟩⟩ := hrel
      cases gk with
      | zero => exact absurd HA.out (by simp [attribute_begins.l0])
      | succ k1 =>
        have H := HA.out
        clear HA
        simp only [attribute_begins.l0] at H
        by_cases c4 : x14_1 < (a1.size : Int)
        · rw [if_pos c4] at H
          have c4b0 : decide (x14_1 < (a1.size : Int)) = true := decide_eq_true c4
          clear c4
          by_cases c5 : 0 ≤ x14_1
          · rw [if_pos c5] at H
            have c5b0 : decide (0 ≤ x14_1) = true := decide_eq_true c5
            clear c5
            by_cases c6 : x14_1 < (a0.size : Int)
            · rw [if_pos c6] at H
              have c6b0 : decide (x14_1 < (a0.size : Int)) = true := decide_eq_true c6
              clear c6
              have HC8 := Aside0.mk H
              clear H
              have p7 : 0 ≤ (x14_1 : Int) := of_decide_eq_true (by first | (with_reducible assumption) | assumption)
              have q7 : x14_1 < (a0.size : Int) := of_decide_eq_true (by first | (with_reducible assumption) | assumption)
              have hx7 := bt_at a0 x14_1
              replace p7 := eq_true p7
              replace q7 := eq_true q7
              go_upto_region 7 with (fail)
              go_cut [25] (fun v25 wc => ∃ (kq : Nat) (x25_7 : Bool), v25 = .bool x25_7 ∧ Aside0 (attribute_begins.j1 kq a0 a1 x14_1 (bt a0 x14_1) (a1.size : Int) x14_1 x25_7 = some r) ∧ Aside0 (kq ≤ k1) ∧ Drawn0 w wc)
              case first =>
                have H := HC8.out
                clear HC8
                by_cases c9 : (bt a0 x14_1) ≥ 65
                · rw [if_pos c9] at H
                  have c9b0 : decide (65 ≤ (bt a0 x14_1)) = true := decide_eq_true c9
                  clear c9
                  (first | rw [c9b0] | (simp only [i64_w, i32_w]; rw [c9b0]) | skip)
                  have H' := Aside0.mk H
                  clear H
                  go_wp2
                  go_meet
                  case rel => exact ⟨_, (decide ((bt a0 x14_1) ≤ 90)), (by first | rfl | (simp; done) | (simp; decide +kernel) | (simp [*]; done)), (by first | exact H' | (subst_vars; exact H')), ⟨by have := HK1.out; first | omega | exact Nat.le_refl _⟩, by repeat (first | exact Drawn0.refl _ | apply Drawn0.step)⟩
                · rw [if_neg c9] at H
                  have c9b0 : decide (65 ≤ (bt a0 x14_1)) = false := decide_eq_false c9
                  clear c9
                  (first | rw [c9b0] | (simp only [i64_w, i32_w]; rw [c9b0]) | skip)
                  have H' := Aside0.mk H
                  clear H
                  go_wp2
                  go_meet
                  case rel => exact ⟨_, (false), (by first | rfl | (simp; done) | (simp; decide +kernel) | (simp [*]; done)), (by first | exact H' | (subst_vars; exact H')), ⟨by have := HK1.out; first | omega | exact Nat.le_refl _⟩, by repeat (first | exact Drawn0.refl _ | apply Drawn0.step)⟩
              case rest =>
                clear HC8
                try clear p2
                try clear c3
                try clear c3b0
                try clear c3b1
                try clear c4
                try clear c4b0
                try clear c5
                try clear c5b0
                try clear c6
                try clear c6b0
                try clear p7
                try clear q7
                try clear hx7
                try clear c9
                try clear c9b0
                try clear p2
                try clear p7
                try clear q7
                obtain ⟨kq, x25_7, rfl, HA, HJ7, ⟨mc7, rfl⟩⟩ := hcut
                cases kq with
                | zero => exact absurd HA.out (by simp [attribute_begins.j1])
                | succ kj7 =>
                  have H := HA.out
                  clear HA
                  simp only [attribute_begins.j1] at H
                  by_cases c10 : x25_7 = true
                  · subst c10
                    have H1 : (if 0 ≤ x14_1 then (if x14_1 < (a1.size : Int) then (if (((bt a0 x14_1) + 32) % 256) = (bt a1 x14_1) then (attribute_begins.l0 kj7 a0 a1 (a1.size : Int) (wrap64 (x14_1 + 1))) else (some false)) else (none)) else (none)) = some r := by rw [if_pos rfl] at H; exact H
                    clear H
                    have H := H1
                    clear H1
                    by_cases c11 : 0 ≤ x14_1
                    · rw [if_pos c11] at H
                      have c11b0 : decide (0 ≤ x14_1) = true := decide_eq_true c11
                      clear c11
                      by_cases c12 : x14_1 < (a1.size : Int)
                      · rw [if_pos c12] at H
                        have c12b0 : decide (x14_1 < (a1.size : Int)) = true := decide_eq_true c12
                        clear c12
                        by_cases c14 : (((bt a0 x14_1) + 32) % 256) = (bt a1 x14_1)
                        · rw [if_pos c14] at H
                          have c14b0 : ((((bt a0 x14_1) + 32) % 256) == (bt a1 x14_1)) = true := beq_iff_eq.mpr c14
                          have c14b1 : ((((bt a0 x14_1) + 32) % 256) != (bt a1 x14_1)) = false := bne_eq_false_iff_eq.mpr c14
                          clear c14
                          have H' := Aside0.mk H
                          clear H
                          have p13 : 0 ≤ (x14_1 : Int) := of_decide_eq_true (by first | (with_reducible assumption) | assumption)
                          have q13 : x14_1 < (a1.size : Int) := of_decide_eq_true (by first | (with_reducible assumption) | assumption)
                          have hx13 := bt_at a1 x14_1
                          replace p13 := eq_true p13
                          replace q13 := eq_true q13
                          go_wp2
                          go_roundg kj7
                          case measure => have := HK1.out; have := HJ7.out; omega
                          case rel => exact ⟨(wrap64 (x14_1 + 1)), (by first | rfl | (simp; done) | (simp; decide +kernel) | (simp [*]; done)), (by first | exact H' | (subst_vars; exact H')), ⟨by have := HK1.out; have := HJ7.out; omega⟩, by repeat (first | exact Drawn0.refl _ | apply Drawn0.step)⟩
                        · rw [if_neg c14] at H
                          have c14b0 : ((((bt a0 x14_1) + 32) % 256) == (bt a1 x14_1)) = false := beq_eq_false_iff_ne.mpr c14
                          have c14b1 : ((((bt a0 x14_1) + 32) % 256) != (bt a1 x14_1)) = true := bne_iff_ne.mpr c14
                          obtain rfl := Option.some.inj H
                          have p13 : 0 ≤ (x14_1 : Int) := of_decide_eq_true (by first | (with_reducible assumption) | assumption)
                          have q13 : x14_1 < (a1.size : Int) := of_decide_eq_true (by first | (with_reducible assumption) | assumption)
                          have hx13 := bt_at a1 x14_1
                          replace p13 := eq_true p13
                          replace q13 := eq_true q13
                          go_wp2
                          go_ret
                          exact ⟨by first | rfl | (simp; done) | (simp; decide +kernel) | (simp [*]; done), by repeat (first | exact Drawn0.refl _ | apply Drawn0.step)⟩
                      · rw [if_neg c12] at H
                        exact absurd H (by simp)
                    · rw [if_neg c11] at H
                      exact absurd H (by simp)
                  · replace c10 := Bool.eq_false_iff.mpr c10
                    subst c10
                    have H1 : (if 0 ≤ x14_1 then (if x14_1 < (a1.size : Int) then (if (bt a0 x14_1) = (bt a1 x14_1) then (attribute_begins.l0 kj7 a0 a1 (a1.size : Int) (wrap64 (x14_1 + 1))) else (some false)) else (none)) else (none)) = some r := by rw [if_neg (show ¬ (false = true) by decide)] at H; exact H
                    clear H
                    have H := H1
                    clear H1
                    by_cases c15 : 0 ≤ x14_1
                    · rw [if_pos c15] at H
                      have c15b0 : decide (0 ≤ x14_1) = true := decide_eq_true c15
                      clear c15
                      by_cases c16 : x14_1 < (a1.size : Int)
                      · rw [if_pos c16] at H
                        have c16b0 : decide (x14_1 < (a1.size : Int)) = true := decide_eq_true c16
                        clear c16
                        by_cases c18 : (bt a0 x14_1) = (bt a1 x14_1)
                        · rw [if_pos c18] at H
                          have c18b0 : ((bt a0 x14_1) == (bt a1 x14_1)) = true := beq_iff_eq.mpr c18
                          have c18b1 : ((bt a0 x14_1) != (bt a1 x14_1)) = false := bne_eq_false_iff_eq.mpr c18
                          clear c18
                          have H' := Aside0.mk H
                          clear H
                          have p17 : 0 ≤ (x14_1 : Int) := of_decide_eq_true (by first | (with_reducible assumption) | assumption)
                          have q17 : x14_1 < (a1.size : Int) := of_decide_eq_true (by first | (with_reducible assumption) | assumption)
                          have hx17 := bt_at a1 x14_1
                          replace p17 := eq_true p17
                          replace q17 := eq_true q17
                          go_wp2
                          go_roundg kj7
                          case measure => have := HK1.out; have := HJ7.out; omega
                          case rel => exact ⟨(wrap64 (x14_1 + 1)), (by first | rfl | (simp; done) | (simp; decide +kernel) | (simp [*]; done)), (by first | exact H' | (subst_vars; exact H')), ⟨by have := HK1.out; have := HJ7.out; omega⟩, by repeat (first | exact Drawn0.refl _ | apply Drawn0.step)⟩
                        · rw [if_neg c18] at H
                          have c18b0 : ((bt a0 x14_1) == (bt a1 x14_1)) = false := beq_eq_false_iff_ne.mpr c18
                          have c18b1 : ((bt a0 x14_1) != (bt a1 x14_1)) = true := bne_iff_ne.mpr c18
                          obtain rfl := Option.some.inj H
                          have p17 : 0 ≤ (x14_1 : Int) := of_decide_eq_true (by first | (with_reducible assumption) | assumption)
                          have q17 : x14_1 < (a1.size : Int) := of_decide_eq_true (by first | (with_reducible assumption) | assumption)
                          have hx17 := bt_at a1 x14_1
                          replace p17 := eq_true p17
                          replace q17 := eq_true q17
                          go_wp2
                          go_ret
                          exact ⟨by first | rfl | (simp; done) | (simp; decide +kernel) | (simp [*]; done), by repeat (first | exact Drawn0.refl _ | apply Drawn0.step)⟩
                      · rw [if_neg c16] at H
                        exact absurd H (by simp)
                    · rw [if_neg c15] at H
                      exact absurd H (by simp)
            · rw [if_neg c6] at H
              exact absurd H (by simp)
          · rw [if_neg c5] at H
            exact absurd H (by simp)
        · rw [if_neg c4] at H
          have c4b0 : decide (x14_1 < (a1.size : Int)) = false := decide_eq_false c4
          clear c4
          obtain rfl := Option.some.inj H
          go_wp2
          go_ret
          exact ⟨by first | rfl | (simp; done) | (simp; decide +kernel) | (simp [*]; done), by repeat (first | exact Drawn0.refl _ | apply Drawn0.step)⟩

end Go.Proofs.YtolpefnedpgaaaaDoor.X
