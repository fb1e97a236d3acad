/-
  What the claim's law rests on, part 6 of 8: printed walks, externals, plain lemmas; conditions: none of its own.
-/
import Derived.Lib.SliceRun
import Derived.Test.YtadfkeipcebmfaaDoorCg5
namespace Go.Proofs.YtadfkeipcebmfaaDoor.X
open Go.RowKit Go.Proofs.YtadfkeipcebmfaaDoorW.PrintWords Go.Proofs.YtadfkeipcebmfaaDoorW.PrintLast Go.Proofs.YtadfkeipcebmfaaDoorW.PrintMore
attribute [local go_sem] max2_int min2_int max_two min_two max_three min_three max_four min_four   -- for this text's walks alone
set_option linter.unusedVariables false
set_option linter.unusedSimpArgs false

def jsontext_Get.l0 : Nat → List (S46) → Int → ByteArray → List Int → Int → Int → Option (Int)
  | 0, _, _, _, _, _, _ => none
  | k + 1, x0, x1, x2, x11, x12, x13 => if x13 < x12 then (if 0 ≤ x13 then (if x13 < (x11.length : Int) then (if 0 ≤ x1 then (if x1 < (x0.length : Int) then (if ((rd_T46 x0 x1).f0) = 7 then (if 0 ≤ (rd x11 x13) then (if (rd x11 x13) < (x0.length : Int) then (if ((rd_T46 x0 (rd x11 x13)).f3).toList = x2.toList then (some (rd x11 x13)) else (jsontext_Get.l0 k x0 x1 x2 x11 x12 (wrap64 (x13 + 1)))) else (none)) else (none)) else (jsontext_Get.l0 k x0 x1 x2 x11 x12 (wrap64 (x13 + 1)))) else (none)) else (none)) else (none)) else (none)) else (some (-1))
def jsontext_Get.f (k : Nat) (l0 : List (S46)) (a1 : Int) (a2 : ByteArray) : Option (Int) := (jsontext_Kids.f k l0 a1).bind fun t398 => (jsontext_Get.l0 k l0 a1 a2 t398 (t398.length : Int) 0)
set_option maxHeartbeats 8000000 in
set_option maxRecDepth 100000 in
theorem jsontext_Get.calls (k : Nat) (A0 : Option Addr) (c0 : Nat) (l0 : List (S46)) (a1 : Int) (a2 : ByteArray) (r : Int) (w : World) (hGU8 : GlobU8 w) (hr0 : Kd.C k46 w A0 l0.length l0) (hc0 : l0.length ≤ c0) (h : jsontext_Get.f k l0 a1 a2 = some r) :
    Calls Tryd.prog 26 #[.slice A0 l0.length c0, .int .i64 a1, .string a2] w fun e w' => e = .returned (.int .i64 r) ∧ Below w.heap.size w w' := by
  have HGU8 := Aside0.mk hGU8
  clear hGU8
  have HR0 := Aside0.mk hr0
  have HC0 := Aside0.mk hc0
  clear hr0 hc0
  have HB := Aside0.mk (Below.refl w.heap.size w)
  have H : ((jsontext_Kids.f k l0 a1).bind fun t398 => (jsontext_Get.l0 k l0 a1 a2 t398 (t398.length : Int) 0)) = some r := h
  clear h
  replace H := Option.bind_eq_some_iff.mp H
  obtain ⟨t398, A40, H⟩ := H
  replace H : (jsontext_Get.l0 k l0 a1 a2 t398 (t398.length : Int) 0) = some r := H
  have A4 := Aside0.mk A40
  clear A40
  have H' := Aside0.mk H
  clear H
  go_enter Tryd.func26, Tryd.ntmps26
  go_wp2_with (first | ((with_reducible refine gate_callee (f := 24) rfl ?_); refine goesL_ (some 11) rfl rfl Tryd.func24 (by kernel_rfl) rfl #[.slice A0 l0.length c0, .int .i64 a1] rfl (by (try simp only [List.map_toArray, List.map_cons, List.map_nil]); first | done | rfl | (simp only [List.length_drop, List.length_take]; rfl)) ?_; (with_reducible refine (jsontext_Kids.calls k _ _ l0 a1 t398 _ ?side3 ?side1 ?side2 A4.out).mono ?_); (case side1 => repeat (first | exact HR0.out | (with_reducible refine Kd.C_alloc ?_ _) | (with_reducible refine Kd.C_drewN ?_ _) | (with_reducible refine Kd.C_drew ?_))); (case side2 => exact HC0.out); (case side3 => first | exact HGU8.out | exact GlobU8.below HGU8.out (by repeat (first | (with_reducible first | exact HB.out | apply below_alloc | apply pw_below_drewN | apply below_drew1) | exact HB.out)) | exact GlobU8.drawn HGU8.out (by repeat (first | exact Drawn0.refl _ | apply Drawn0.step))); rintro e w5 ⟨v399, rfl, ho0, hb⟩; refine ⟨_, rfl, ?_⟩; have n0_ := Aside0.mk (Kd.R_lower ho0 (below_size (by repeat (first | (with_reducible first | exact HB.out | apply below_alloc | apply pw_below_drewN | apply below_drew1) | exact HB.out)))); have n1_ := Aside0.mk (below_step (by repeat (first | (with_reducible first | exact HB.out | apply below_alloc | apply pw_below_drewN | apply below_drew1) | exact HB.out)) hb); clear HB; have HO400 := n0_; have HB := n1_; clear n0_ n1_; (try clear hb); (try clear hb2); (try clear hk); (try clear hi); (try clear ho0); obtain ⟨Ao6, co6, eo6⟩ := Kd.R_slice HO400.out; subst eo6))
  go_loopg [13] k (fun kq v13 w' => ∃ (x13_1 : Int), v13 = .int .i64 x13_1 ∧ Aside0 (jsontext_Get.l0 kq l0 a1 a2 t398 (t398.length : Int) x13_1 = some r) ∧ Aside0 (kq ≤ k) ∧ Aside0 (Kd.R (Kd.int .i64) 3 w' w.heap.size (fun _ => True) (.slice Ao6 t398.length co6) t398) ∧ Aside0 (Below w.heap.size w w'))
  case atStart => exact ⟨(0), (by first | rfl | (simp; done) | (simp; decide +kernel) | (simp [*]; done)), (by first | exact H' | (subst_vars; exact H')), ⟨Nat.le_refl _⟩, ⟨by (with_reducible repeat (first | apply Kd.R_alloc | apply Kd.R_drewN | apply Kd.R_drew)); exact HO400.out⟩, ⟨by repeat (first | (with_reducible first | exact HB.out | apply below_alloc | apply pw_below_drewN | apply below_drew1) | exact HB.out)⟩⟩
  case round =>
    clear H'
    try clear c2
    try clear p2
    obtain ⟨x13_1, rfl, HA, HK1, HO_11, HB⟩ := hrel
    cases gk with
    | zero => exact absurd HA.out (by simp [jsontext_Get.l0])
    | succ k1 =>
      have H := HA.out
      clear HA
      simp only [jsontext_Get.l0] at H
      by_cases c7 : x13_1 < (t398.length : Int)
      · rw [if_pos c7] at H
        have c7b0 : decide (x13_1 < (t398.length : Int)) = true := decide_eq_true c7
        clear c7
        by_cases c8 : 0 ≤ x13_1
        · rw [if_pos c8] at H
          have c8b0 : decide (0 ≤ x13_1) = true := decide_eq_true c8
          clear c8
          by_cases c9 : x13_1 < (t398.length : Int)
          · rw [if_pos c9] at H
            have c9b0 : decide (x13_1 < (t398.length : Int)) = true := decide_eq_true c9
            clear c9
            by_cases c10 : 0 ≤ a1
            · rw [if_pos c10] at H
              have c10b0 : decide (0 ≤ a1) = true := decide_eq_true c10
              clear c10
              by_cases c11 : a1 < (l0.length : Int)
              · rw [if_pos c11] at H
                have c11b0 : decide (a1 < (l0.length : Int)) = true := decide_eq_true c11
                clear c11
                by_cases c12 : ((rd_T46 l0 a1).f0) = 7
                · rw [if_pos c12] at H
                  have c12b0 : (((rd_T46 l0 a1).f0) == 7) = true := beq_iff_eq.mpr c12
                  have c12b1 : (((rd_T46 l0 a1).f0) != 7) = false := bne_eq_false_iff_eq.mpr c12
                  clear c12
                  by_cases c13 : 0 ≤ (rd t398 x13_1)
                  · rw [if_pos c13] at H
                    have c13b0 : decide (0 ≤ (rd t398 x13_1)) = true := decide_eq_true c13
                    clear c13
                    by_cases c14 : (rd t398 x13_1) < (l0.length : Int)
                    · rw [if_pos c14] at H
                      have c14b0 : decide ((rd t398 x13_1) < (l0.length : Int)) = true := decide_eq_true c14
                      clear c14
                      by_cases c15 : ((rd_T46 l0 (rd t398 x13_1)).f3).toList = a2.toList
                      · rw [if_pos c15] at H
                        have c15b0 : (((rd_T46 l0 (rd t398 x13_1)).f3).toList == a2.toList) = true := beq_iff_eq.mpr c15
                        have c15b1 : (((rd_T46 l0 (rd t398 x13_1)).f3).toList != a2.toList) = false := bne_eq_false_iff_eq.mpr c15
                        clear c15
                        obtain rfl := Option.some.inj H
                        have p401 : 0 ≤ (x13_1 : Int) := of_decide_eq_true (by first | (with_reducible assumption) | assumption)
                        have q401 : x13_1 < (t398.length : Int) := of_decide_eq_true (by first | (with_reducible assumption) | assumption)
                        obtain ⟨ad401, e401, hx401_0⟩ := Kd.at_int (Kd.R_reads' HO_11.out).2.2 x13_1 p401 q401
                        cases e401
                        replace p401 := eq_true p401
                        replace q401 := eq_true q401
                        have p402 : 0 ≤ (a1 : Int) := of_decide_eq_true (by first | (with_reducible assumption) | assumption)
                        have q402 : a1 < (l0.length : Int) := of_decide_eq_true (by first | (with_reducible assumption) | assumption)
                        obtain ⟨ad402, e402, hx402_0, hx402_1, hx402_2, hx402_3, hx402_4⟩ := at_T46 HR0.out a1 p402 q402
                        cases e402
                        replace hx402_0 := (HB.out.cell (World.block_lt_of_cell? w _ hx402_0)).trans hx402_0
                        replace hx402_1 := (HB.out.cell (World.block_lt_of_cell? w _ hx402_1)).trans hx402_1
                        replace hx402_2 := (HB.out.cell (World.block_lt_of_cell? w _ hx402_2)).trans hx402_2
                        replace hx402_3 := (HB.out.cell (World.block_lt_of_cell? w _ hx402_3)).trans hx402_3
                        replace hx402_4 := (HB.out.cell (World.block_lt_of_cell? w _ hx402_4)).trans hx402_4
                        replace p402 := eq_true p402
                        replace q402 := eq_true q402
                        have p403 : 0 ≤ ((rd t398 x13_1) : Int) := of_decide_eq_true (by first | (with_reducible assumption) | assumption)
                        have q403 : (rd t398 x13_1) < (l0.length : Int) := of_decide_eq_true (by first | (with_reducible assumption) | assumption)
                        obtain ⟨ad403, e403, hx403_0, hx403_1, hx403_2, hx403_3, hx403_4⟩ := at_T46 HR0.out (rd t398 x13_1) p403 q403
                        obtain rfl : ad402 = ad403 := (by injection e403)
                        replace hx403_0 := (HB.out.cell (World.block_lt_of_cell? w _ hx403_0)).trans hx403_0
                        replace hx403_1 := (HB.out.cell (World.block_lt_of_cell? w _ hx403_1)).trans hx403_1
                        replace hx403_2 := (HB.out.cell (World.block_lt_of_cell? w _ hx403_2)).trans hx403_2
                        replace hx403_3 := (HB.out.cell (World.block_lt_of_cell? w _ hx403_3)).trans hx403_3
                        replace hx403_4 := (HB.out.cell (World.block_lt_of_cell? w _ hx403_4)).trans hx403_4
                        replace p403 := eq_true p403
                        replace q403 := eq_true q403
                        go_wp2
                        go_ret
                        exact ⟨by first | rfl | (simp [errW_none, errW_some] <;> rfl) | (simp [*, errW_none, errW_some] <;> rfl), by repeat (first | (with_reducible first | exact HB.out | apply below_alloc | apply pw_below_drewN | apply below_drew1) | exact HB.out)⟩
                      · rw [if_neg c15] at H
                        have c15b0 : (((rd_T46 l0 (rd t398 x13_1)).f3).toList == a2.toList) = false := beq_eq_false_iff_ne.mpr c15
                        have c15b1 : (((rd_T46 l0 (rd t398 x13_1)).f3).toList != a2.toList) = true := bne_iff_ne.mpr c15
                        have H' := Aside0.mk H
                        clear H
                        have p401 : 0 ≤ (x13_1 : Int) := of_decide_eq_true (by first | (with_reducible assumption) | assumption)
                        have q401 : x13_1 < (t398.length : Int) := of_decide_eq_true (by first | (with_reducible assumption) | assumption)
                        obtain ⟨ad401, e401, hx401_0⟩ := Kd.at_int (Kd.R_reads' HO_11.out).2.2 x13_1 p401 q401
                        cases e401
                        replace p401 := eq_true p401
                        replace q401 := eq_true q401
                        have p402 : 0 ≤ (a1 : Int) := of_decide_eq_true (by first | (with_reducible assumption) | assumption)
                        have q402 : a1 < (l0.length : Int) := of_decide_eq_true (by first | (with_reducible assumption) | assumption)
                        obtain ⟨ad402, e402, hx402_0, hx402_1, hx402_2, hx402_3, hx402_4⟩ := at_T46 HR0.out a1 p402 q402
                        cases e402
                        replace hx402_0 := (HB.out.cell (World.block_lt_of_cell? w _ hx402_0)).trans hx402_0
                        replace hx402_1 := (HB.out.cell (World.block_lt_of_cell? w _ hx402_1)).trans hx402_1
                        replace hx402_2 := (HB.out.cell (World.block_lt_of_cell? w _ hx402_2)).trans hx402_2
                        replace hx402_3 := (HB.out.cell (World.block_lt_of_cell? w _ hx402_3)).trans hx402_3
                        replace hx402_4 := (HB.out.cell (World.block_lt_of_cell? w _ hx402_4)).trans hx402_4
                        replace p402 := eq_true p402
                        replace q402 := eq_true q402
                        have p403 : 0 ≤ ((rd t398 x13_1) : Int) := of_decide_eq_true (by first | (with_reducible assumption) | assumption)
                        have q403 : (rd t398 x13_1) < (l0.length : Int) := of_decide_eq_true (by first | (with_reducible assumption) | assumption)
                        obtain ⟨ad403, e403, hx403_0, hx403_1, hx403_2, hx403_3, hx403_4⟩ := at_T46 HR0.out (rd t398 x13_1) p403 q403
                        obtain rfl : ad402 = ad403 := (by injection e403)
                        replace hx403_0 := (HB.out.cell (World.block_lt_of_cell? w _ hx403_0)).trans hx403_0
                        replace hx403_1 := (HB.out.cell (World.block_lt_of_cell? w _ hx403_1)).trans hx403_1
                        replace hx403_2 := (HB.out.cell (World.block_lt_of_cell? w _ hx403_2)).trans hx403_2
                        replace hx403_3 := (HB.out.cell (World.block_lt_of_cell? w _ hx403_3)).trans hx403_3
                        replace hx403_4 := (HB.out.cell (World.block_lt_of_cell? w _ hx403_4)).trans hx403_4
                        replace p403 := eq_true p403
                        replace q403 := eq_true q403
                        go_wp2
                        go_roundg k1
                        case measure => have := HK1.out; omega
                        case rel => exact ⟨(wrap64 (x13_1 + 1)), (by first | rfl | (simp; done) | (simp; decide +kernel) | (simp [*]; done)), (by first | exact H' | (subst_vars; exact H')), ⟨by have := HK1.out; omega⟩, ⟨by (with_reducible repeat (first | apply Kd.R_alloc | apply Kd.R_drewN | apply Kd.R_drew)); exact HO_11.out⟩, ⟨by repeat (first | (with_reducible first | exact HB.out | apply below_alloc | apply pw_below_drewN | apply below_drew1) | exact HB.out)⟩⟩
                    · rw [if_neg c14] at H
                      exact absurd H (by simp)
                  · rw [if_neg c13] at H
                    exact absurd H (by simp)
                · rw [if_neg c12] at H
                  have c12b0 : (((rd_T46 l0 a1).f0) == 7) = false := beq_eq_false_iff_ne.mpr c12
                  have c12b1 : (((rd_T46 l0 a1).f0) != 7) = true := bne_iff_ne.mpr c12
                  have H' := Aside0.mk H
                  clear H
                  have p401 : 0 ≤ (x13_1 : Int) := of_decide_eq_true (by first | (with_reducible assumption) | assumption)
                  have q401 : x13_1 < (t398.length : Int) := of_decide_eq_true (by first | (with_reducible assumption) | assumption)
                  obtain ⟨ad401, e401, hx401_0⟩ := Kd.at_int (Kd.R_reads' HO_11.out).2.2 x13_1 p401 q401
                  cases e401
                  replace p401 := eq_true p401
                  replace q401 := eq_true q401
                  have p402 : 0 ≤ (a1 : Int) := of_decide_eq_true (by first | (with_reducible assumption) | assumption)
                  have q402 : a1 < (l0.length : Int) := of_decide_eq_true (by first | (with_reducible assumption) | assumption)
                  obtain ⟨ad402, e402, hx402_0, hx402_1, hx402_2, hx402_3, hx402_4⟩ := at_T46 HR0.out a1 p402 q402
                  cases e402
                  replace hx402_0 := (HB.out.cell (World.block_lt_of_cell? w _ hx402_0)).trans hx402_0
                  replace hx402_1 := (HB.out.cell (World.block_lt_of_cell? w _ hx402_1)).trans hx402_1
                  replace hx402_2 := (HB.out.cell (World.block_lt_of_cell? w _ hx402_2)).trans hx402_2
                  replace hx402_3 := (HB.out.cell (World.block_lt_of_cell? w _ hx402_3)).trans hx402_3
                  replace hx402_4 := (HB.out.cell (World.block_lt_of_cell? w _ hx402_4)).trans hx402_4
                  replace p402 := eq_true p402
                  replace q402 := eq_true q402
                  go_wp2
                  go_roundg k1
                  case measure => have := HK1.out; omega
                  case rel => exact ⟨(wrap64 (x13_1 + 1)), (by first | rfl | (simp; done) | (simp; decide +kernel) | (simp [*]; done)), (by first | exact H' | (subst_vars; exact H')), ⟨by have := HK1.out; omega⟩, ⟨by (with_reducible repeat (first | apply Kd.R_alloc | apply Kd.R_drewN | apply Kd.R_drew)); exact HO_11.out⟩, ⟨by repeat (first | (with_reducible first | exact HB.out | apply below_alloc | apply pw_below_drewN | apply below_drew1) | exact HB.out)⟩⟩
              · rw [if_neg c11] at H
                exact absurd H (by simp)
            · rw [if_neg c10] at H
              exact absurd H (by simp)
          · rw [if_neg c9] at H
            exact absurd H (by simp)
        · rw [if_neg c8] at H
          exact absurd H (by simp)
      · rw [if_neg c7] at H
        have c7b0 : decide (x13_1 < (t398.length : Int)) = false := decide_eq_false c7
        clear c7
        obtain rfl := Option.some.inj H
        go_wp2
        go_ret
        exact ⟨by first | rfl | (simp [errW_none, errW_some] <;> rfl) | (simp [*, errW_none, errW_some] <;> rfl), by repeat (first | (with_reducible first | exact HB.out | apply below_alloc | apply pw_below_drewN | apply below_drew1) | exact HB.out)⟩

end Go.Proofs.YtadfkeipcebmfaaDoor.X

namespace Go.Proofs.YtadfkeipcebmfaaDoor.X
open Go.RowKit Go.Proofs.YtadfkeipcebmfaaDoorW.PrintWords Go.Proofs.YtadfkeipcebmfaaDoorW.PrintLast Go.Proofs.YtadfkeipcebmfaaDoorW.PrintMore
set_option linter.unusedVariables false
set_option linter.unusedSimpArgs false
set_option maxHeartbeats 2000000 in
set_option maxRecDepth 100000 in
theorem clone_calls (A0 : Option Addr) (c0 : Nat) (l : List S46) (w : World) (hr : Kd.C k46 w A0 l.length l) (hc : l.length ≤ c0) (hl : l.length ≤ 100000) :
    Calls Tryd.prog 43 #[.slice A0 l.length c0] w fun e w' => ∃ v0_ : Value, e = .returned v0_ ∧ Kd.R k46 46 w' w.heap.size (fun _ => True) v0_ l ∧ Below w.heap.size w w' := by
  go_enter Tryd.func43, Tryd.ntmps43
  have he := fun W => Lib.run_eql_slice_nil (P := Tryd.prog) W 22 46 A0 l.length c0 0 0 Tryd.underlying22
  rcases A0 with _ | ad
  · have h0 : l = [] := by
      rcases l with _ | ⟨x, l⟩
      · rfl
      · obtain ⟨ad, h, _⟩ := hr.2.2 (by simp)
        cases h
    subst h0
    simp only [List.length_nil] at he
    go_wp2
    go_ret
    exact ⟨_, rfl, Kd.R_nil _ _ _ _ _, Below.refl _ _⟩
  · go_upto_region 3 with (fail)
    have hnew := heap_alloc_new w (.cells #[] 46 (0, 0))
    have hbel : Below w.heap.size w (w.alloc (.cells #[] 46 (0, 0))) := (Below.refl _ _).alloc (Nat.le_refl _) _
    have hown : Kd.R k46 46 (w.alloc (.cells #[] 46 (0, 0))) w.heap.size (fun _ => True) (.slice (some ⟨w.heap.size, 0, none⟩) 0 0) [] := by
      refine ⟨fun _ _ => trivial, [], ⟨rfl, .inr ⟨w.heap.size, 0, _, rfl, Nat.le_refl _, hnew, Nat.le_refl _, by unfold maxLen; omega, rfl, rfl⟩⟩, Reps.none _ _⟩
    refine wp_region_lit ?_
    refine wpList_step (fun K hK => ?_)
    go_simp
    refine hK _ _ ?_
    clear hK K
    refine wpList_step (fun K hK => ?_)
    go_simp
    refine hK _ _ ?_
    clear hK K
    refine Kd.R_append_rows k46 (Rr := k46.K w) (w0 := w) w.heap.size rfl _ _ _ 46 _ 56 rfl Tryd.underlying22 info46 rfl (by decide) (by decide) (.slice (some ⟨w.heap.size, 0, none⟩) 0 0) [] l (some ad) l.length c0 (fun _ => True) (fun _ => False) rfl rfl hown (Kd.C_below hr hbel) (fun x cs h => by rw [k46_open h]; exact k46_mkM _ _ _ _) (fun _ h => h.elim) (fun _ _ => trivial) hbel (by rw [World.size_alloc]; omega) (by simp; omega) ?_
    intro v1 w1 h1 hb1 hg1 hat
    refine wpList_step (fun K hK => ?_)
    go_simp
    refine hK _ _ ?_
    clear hK K
    refine wpList_nil ?_
    go_wp2
    go_ret
    exact ⟨_, rfl, h1, hb1⟩
def api_Jnode.f (l : List (S46)) : Option (List (S46)) := if l.length ≤ 100000 then some l else none
theorem api_Jnode.calls (A0 : Option Addr) (c0 : Nat) (l0 : List (S46)) (r : List (S46)) (w : World) (hr0 : Kd.C k46 w A0 l0.length l0) (hc0 : l0.length ≤ c0) (h : api_Jnode.f l0 = some r) :
    Calls Tryd.prog 43 #[.slice A0 l0.length c0] w fun e w' => ∃ v0_ : Value, e = .returned v0_ ∧ Kd.R k46 46 w' w.heap.size (fun _ => True) v0_ r ∧ Below w.heap.size w w' := by
  unfold api_Jnode.f at h
  split at h
  · injection h with h
    subst h
    exact clone_calls A0 c0 l0 w hr0 hc0 (by assumption)
  · cases h
end Go.Proofs.YtadfkeipcebmfaaDoor.X

namespace Go.Proofs.YtadfkeipcebmfaaDoor.X
open Go.RowKit Go.Proofs.YtadfkeipcebmfaaDoorW.PrintWords Go.Proofs.YtadfkeipcebmfaaDoorW.PrintLast Go.Proofs.YtadfkeipcebmfaaDoorW.PrintMore
attribute [local go_sem] max2_int min2_int max_two min_two max_three min_three max_four min_four   -- for this text's walks alone
set_option linter.unusedVariables false
set_option linter.unusedSimpArgs false

def jsontext_Sub.f (k : Nat) (l0 : List (S46)) (a1 : Int) : Option ((List (S46))) := (jsontext_Check.f k l0).bind fun t411 => (if t411 = 0 then (if a1 < 0 then (some ([] : List (S46))) else (if a1 ≥ (l0.length : Int) then (some ([] : List (S46))) else (if 0 ≤ a1 then (if a1 < (l0.length : Int) then (if a1 ≤ (wrap64 (a1 + ((rd_T46 l0 a1).f1))) then (if (wrap64 (a1 + ((rd_T46 l0 a1).f1))) ≤ (l0.length : Int) then ((api_Jnode.f ((l0.take ((wrap64 (a1 + ((rd_T46 l0 a1).f1))) : Int).toNat).drop (a1 : Int).toNat)).bind fun t417 => (if 0 < (t417.length : Int) then (some (t417.set (0 : Int).toNat (⟨(rd_T46 t417 0).f0, (rd_T46 t417 0).f1, (rd_T46 t417 0).f2, (⟨#[]⟩ : ByteArray), (rd_T46 t417 0).f4⟩ : S46))) else (none))) else (none)) else (none)) else (none)) else (none)))) else (some ([] : List (S46))))
set_option maxHeartbeats 8000000 in
set_option maxRecDepth 100000 in
theorem jsontext_Sub.calls (k : Nat) (A0 : Option Addr) (c0 : Nat) (l0 : List (S46)) (a1 : Int) (r : List (S46)) (w : World) (hGU8 : GlobU8 w) (hr0 : Kd.C k46 w A0 l0.length l0) (hc0 : l0.length ≤ c0) (h : jsontext_Sub.f k l0 a1 = some r) :
    Calls Tryd.prog 28 #[.slice A0 l0.length c0, .int .i64 a1] w fun e w' => ∃ v0_ : Value, e = .returned (v0_) ∧ Kd.R k46 46 w' w.heap.size (fun _ => True) v0_ r ∧ Below w.heap.size w w' := by
  have HGU8 := Aside0.mk hGU8
  clear hGU8
  have HR0 := Aside0.mk hr0
  have HC0 := Aside0.mk hc0
  clear hr0 hc0
  have HB := Aside0.mk (Below.refl w.heap.size w)
  have H : ((jsontext_Check.f k l0).bind fun t411 => (if t411 = 0 then (if a1 < 0 then (some ([] : List (S46))) else (if a1 ≥ (l0.length : Int) then (some ([] : List (S46))) else (if 0 ≤ a1 then (if a1 < (l0.length : Int) then (if a1 ≤ (wrap64 (a1 + ((rd_T46 l0 a1).f1))) then (if (wrap64 (a1 + ((rd_T46 l0 a1).f1))) ≤ (l0.length : Int) then ((api_Jnode.f ((l0.take ((wrap64 (a1 + ((rd_T46 l0 a1).f1))) : Int).toNat).drop (a1 : Int).toNat)).bind fun t417 => (if 0 < (t417.length : Int) then (some (t417.set (0 : Int).toNat (⟨(rd_T46 t417 0).f0, (rd_T46 t417 0).f1, (rd_T46 t417 0).f2, (⟨#[]⟩ : ByteArray), (rd_T46 t417 0).f4⟩ : S46))) else (none))) else (none)) else (none)) else (none)) else (none)))) else (some ([] : List (S46))))) = some r := h
  clear h
  replace H := Option.bind_eq_some_iff.mp H
  obtain ⟨t411, A30, H⟩ := H
  replace H : (if t411 = 0 then (if a1 < 0 then (some ([] : List (S46))) else (if a1 ≥ (l0.length : Int) then (some ([] : List (S46))) else (if 0 ≤ a1 then (if a1 < (l0.length : Int) then (if a1 ≤ (wrap64 (a1 + ((rd_T46 l0 a1).f1))) then (if (wrap64 (a1 + ((rd_T46 l0 a1).f1))) ≤ (l0.length : Int) then ((api_Jnode.f ((l0.take ((wrap64 (a1 + ((rd_T46 l0 a1).f1))) : Int).toNat).drop (a1 : Int).toNat)).bind fun t417 => (if 0 < (t417.length : Int) then (some (t417.set (0 : Int).toNat (⟨(rd_T46 t417 0).f0, (rd_T46 t417 0).f1, (rd_T46 t417 0).f2, (⟨#[]⟩ : ByteArray), (rd_T46 t417 0).f4⟩ : S46))) else (none))) else (none)) else (none)) else (none)) else (none)))) else (some ([] : List (S46)))) = some r := H
  have A3 := Aside0.mk A30
  clear A30
  by_cases c4 : t411 = 0
  · rw [if_pos c4] at H
    have c4b0 : (t411 == 0) = true := beq_iff_eq.mpr c4
    have c4b1 : (t411 != 0) = false := bne_eq_false_iff_eq.mpr c4
    clear c4
    by_cases c5 : a1 < 0
    · rw [if_pos c5] at H
      have c5b0 : decide (a1 < 0) = true := decide_eq_true c5
      clear c5
      obtain rfl := Option.some.inj H
      go_enter Tryd.func28, Tryd.ntmps28
      go_wp2_with (first | ((with_reducible refine gate_callee (f := 16) rfl ?_); refine goesL_ (some 7) rfl rfl Tryd.func16 (by kernel_rfl) rfl #[.slice A0 l0.length c0] rfl (by (try simp only [List.map_toArray, List.map_cons, List.map_nil]); first | done | rfl | (simp only [List.length_drop, List.length_take]; rfl)) ?_; (with_reducible refine (jsontext_Check.calls k _ _ l0 t411 _ ?side3 ?side1 ?side2 A3.out).mono ?_); (case side1 => repeat (first | exact HR0.out | (with_reducible refine Kd.C_alloc ?_ _) | (with_reducible refine Kd.C_drewN ?_ _) | (with_reducible refine Kd.C_drew ?_))); (case side2 => exact HC0.out); (case side3 => first | exact HGU8.out | exact GlobU8.below HGU8.out (by repeat (first | (with_reducible first | exact HB.out | apply below_alloc | apply pw_below_drewN | apply below_drew1) | exact HB.out)) | exact GlobU8.drawn HGU8.out (by repeat (first | exact Drawn0.refl _ | apply Drawn0.step))); rintro e w6 ⟨rfl, hb⟩; refine ⟨_, rfl, ?_⟩; have n0_ := Aside0.mk (below_step (by repeat (first | (with_reducible first | exact HB.out | apply below_alloc | apply pw_below_drewN | apply below_drew1) | exact HB.out)) hb); clear HB; have HB := n0_; clear n0_; (try clear hb); (try clear hb2); (try clear hk); (try clear hi)))
      go_ret
      exact ⟨_, by first | rfl | (simp [errW_none, errW_some] <;> rfl) | (simp [*, errW_none, errW_some] <;> rfl), by first | exact Kd.R_nil _ _ _ _ _ | exact Kd.N_nil _ _ _ _ _ | exact Kd.V_nil _ _ _ _ _ | exact Kd.Q_nil _ _ _ _ _ | exact Kd.S_nil _ _ _ _ _, by repeat (first | (with_reducible first | exact HB.out | apply below_alloc | apply pw_below_drewN | apply below_drew1) | exact HB.out)⟩
    · rw [if_neg c5] at H
      have c5b0 : decide (a1 < 0) = false := decide_eq_false c5
      clear c5
      by_cases c7 : a1 ≥ (l0.length : Int)
      · rw [if_pos c7] at H
        have c7b0 : decide ((l0.length : Int) ≤ a1) = true := decide_eq_true c7
        clear c7
        obtain rfl := Option.some.inj H
        go_enter Tryd.func28, Tryd.ntmps28
        go_wp2_with (first | ((with_reducible refine gate_callee (f := 16) rfl ?_); refine goesL_ (some 7) rfl rfl Tryd.func16 (by kernel_rfl) rfl #[.slice A0 l0.length c0] rfl (by (try simp only [List.map_toArray, List.map_cons, List.map_nil]); first | done | rfl | (simp only [List.length_drop, List.length_take]; rfl)) ?_; (with_reducible refine (jsontext_Check.calls k _ _ l0 t411 _ ?side3 ?side1 ?side2 A3.out).mono ?_); (case side1 => repeat (first | exact HR0.out | (with_reducible refine Kd.C_alloc ?_ _) | (with_reducible refine Kd.C_drewN ?_ _) | (with_reducible refine Kd.C_drew ?_))); (case side2 => exact HC0.out); (case side3 => first | exact HGU8.out | exact GlobU8.below HGU8.out (by repeat (first | (with_reducible first | exact HB.out | apply below_alloc | apply pw_below_drewN | apply below_drew1) | exact HB.out)) | exact GlobU8.drawn HGU8.out (by repeat (first | exact Drawn0.refl _ | apply Drawn0.step))); rintro e w8 ⟨rfl, hb⟩; refine ⟨_, rfl, ?_⟩; have n0_ := Aside0.mk (below_step (by repeat (first | (with_reducible first | exact HB.out | apply below_alloc | apply pw_below_drewN | apply below_drew1) | exact HB.out)) hb); clear HB; have HB := n0_; clear n0_; (try clear hb); (try clear hb2); (try clear hk); (try clear hi)))
        go_ret
        exact ⟨_, by first | rfl | (simp [errW_none, errW_some] <;> rfl) | (simp [*, errW_none, errW_some] <;> rfl), by first | exact Kd.R_nil _ _ _ _ _ | exact Kd.N_nil _ _ _ _ _ | exact Kd.V_nil _ _ _ _ _ | exact Kd.Q_nil _ _ _ _ _ | exact Kd.S_nil _ _ _ _ _, by repeat (first | (with_reducible first | exact HB.out | apply below_alloc | apply pw_below_drewN | apply below_drew1) | exact HB.out)⟩
      · rw [if_neg c7] at H
        have c7b0 : decide ((l0.length : Int) ≤ a1) = false := decide_eq_false c7
        clear c7
        by_cases c9 : 0 ≤ a1
        · rw [if_pos c9] at H
          have c9b0 : decide (0 ≤ a1) = true := decide_eq_true c9
          clear c9
          by_cases c10 : a1 < (l0.length : Int)
          · rw [if_pos c10] at H
            have c10b0 : decide (a1 < (l0.length : Int)) = true := decide_eq_true c10
            clear c10
            have c11b0 := eq_true (of_decide_eq_true (by first | (with_reducible assumption) | assumption) : 0 ≤ a1)
            by_cases c12 : a1 ≤ (wrap64 (a1 + ((rd_T46 l0 a1).f1)))
            · rw [if_pos c12] at H
              have c12b0 := eq_true c12
              have c12b1 : decide (a1 ≤ (wrap64 (a1 + ((rd_T46 l0 a1).f1)))) = true := decide_eq_true c12
              by_cases c13 : (wrap64 (a1 + ((rd_T46 l0 a1).f1))) ≤ (l0.length : Int)
              · rw [if_pos c13] at H
                have c13b0 := eq_true c13
                have c13b1 : decide ((wrap64 (a1 + ((rd_T46 l0 a1).f1))) ≤ (l0.length : Int)) = true := decide_eq_true c13
                obtain ⟨y413, hy413⟩ : ∃ y_ : List (S46), y_ = ((l0.take ((wrap64 (a1 + ((rd_T46 l0 a1).f1))) : Int).toNat).drop (a1 : Int).toNat) := ⟨_, rfl⟩
                replace H : ((api_Jnode.f y413).bind fun t417 => (if 0 < (t417.length : Int) then (some (t417.set (0 : Int).toNat (⟨(rd_T46 t417 0).f0, (rd_T46 t417 0).f1, (rd_T46 t417 0).f2, (⟨#[]⟩ : ByteArray), (rd_T46 t417 0).f4⟩ : S46))) else (none))) = some r := by first | (rw [hy413]; with_reducible exact H) | (have H2_ := (Option.bind_some _ _).symm.trans H; rw [hy413]; with_reducible exact H2_) | (have H2_ := (Option.bind_some _ _).symm.trans H; with_reducible exact H2_) | with_reducible exact H | (rw [hy413]; exact H) | exact H
                have Ny413 := Aside0.mk hy413
                clear hy413
                replace H := Option.bind_eq_some_iff.mp H
                obtain ⟨t417, A140, H⟩ := H
                replace H : (if 0 < (t417.length : Int) then (some (t417.set (0 : Int).toNat (⟨(rd_T46 t417 0).f0, (rd_T46 t417 0).f1, (rd_T46 t417 0).f2, (⟨#[]⟩ : ByteArray), (rd_T46 t417 0).f4⟩ : S46))) else (none)) = some r := H
                have A14 := Aside0.mk A140
                clear A140
                by_cases c15 : 0 < (t417.length : Int)
                · rw [if_pos c15] at H
                  have c15b0 : decide (0 < (t417.length : Int)) = true := decide_eq_true c15
                  have c15b1 : decide (0 < t417.length) = true := decide_eq_true (by omega)
                  clear c15
                  obtain ⟨y420, hy420⟩ : ∃ y_ : List (S46), y_ = (t417.set (0 : Int).toNat (⟨(rd_T46 t417 0).f0, (rd_T46 t417 0).f1, (rd_T46 t417 0).f2, (⟨#[]⟩ : ByteArray), (rd_T46 t417 0).f4⟩ : S46)) := ⟨_, rfl⟩
                  replace H : (some y420) = some r := by first | (rw [hy420]; with_reducible exact H) | (have H2_ := (Option.bind_some _ _).symm.trans H; rw [hy420]; with_reducible exact H2_) | (have H2_ := (Option.bind_some _ _).symm.trans H; with_reducible exact H2_) | with_reducible exact H | (rw [hy420]; exact H) | exact H
                  have Ny420 := Aside0.mk hy420
                  clear hy420
                  obtain rfl := Option.some.inj H
                  go_enter Tryd.func28, Tryd.ntmps28
                  go_wp2_with (first | ((with_reducible refine gate_callee (f := 16) rfl ?_); refine goesL_ (some 7) rfl rfl Tryd.func16 (by kernel_rfl) rfl #[.slice A0 l0.length c0] rfl (by (try simp only [List.map_toArray, List.map_cons, List.map_nil]); first | done | rfl | (simp only [List.length_drop, List.length_take]; rfl)) ?_; (with_reducible refine (jsontext_Check.calls k _ _ l0 t411 _ ?side3 ?side1 ?side2 A3.out).mono ?_); (case side1 => repeat (first | exact HR0.out | (with_reducible refine Kd.C_alloc ?_ _) | (with_reducible refine Kd.C_drewN ?_ _) | (with_reducible refine Kd.C_drew ?_))); (case side2 => exact HC0.out); (case side3 => first | exact HGU8.out | exact GlobU8.below HGU8.out (by repeat (first | (with_reducible first | exact HB.out | apply below_alloc | apply pw_below_drewN | apply below_drew1) | exact HB.out)) | exact GlobU8.drawn HGU8.out (by repeat (first | exact Drawn0.refl _ | apply Drawn0.step))); rintro e w17 ⟨rfl, hb⟩; refine ⟨_, rfl, ?_⟩; have n0_ := Aside0.mk (below_step (by repeat (first | (with_reducible first | exact HB.out | apply below_alloc | apply pw_below_drewN | apply below_drew1) | exact HB.out)) hb); clear HB; have HB := n0_; clear n0_; (try clear hb); (try clear hb2); (try clear hk); (try clear hi); have p412 : 0 ≤ (a1 : Int) := of_decide_eq_true (by first | (with_reducible assumption) | assumption); have q412 : a1 < (l0.length : Int) := of_decide_eq_true (by first | (with_reducible assumption) | assumption); obtain ⟨ad412, e412, hx412_0, hx412_1, hx412_2, hx412_3, hx412_4⟩ := at_T46 HR0.out a1 p412 q412; cases e412; replace hx412_0 := (HB.out.cell (World.block_lt_of_cell? w _ hx412_0)).trans hx412_0; replace hx412_1 := (HB.out.cell (World.block_lt_of_cell? w _ hx412_1)).trans hx412_1; replace hx412_2 := (HB.out.cell (World.block_lt_of_cell? w _ hx412_2)).trans hx412_2; replace hx412_3 := (HB.out.cell (World.block_lt_of_cell? w _ hx412_3)).trans hx412_3; replace hx412_4 := (HB.out.cell (World.block_lt_of_cell? w _ hx412_4)).trans hx412_4; replace p412 := eq_true p412; replace q412 := eq_true q412; have q18 : ((wrap64 (a1 + ((rd_T46 l0 a1).f1))) : Int) ≤ ((l0.length : Int) : Int) := of_decide_eq_true (by first | (with_reducible assumption) | assumption); obtain ⟨i018, hi018, _, hsz18, _⟩ := info_parts info46; have hroom18 : l0.length ≤ c0 := HC0.out; have hC18 : Kd.C k46 _ (some ad412) l0.length l0 := HR0.out; have ql18 : (a1 : Int) ≤ ((wrap64 (a1 + ((rd_T46 l0 a1).f1))) : Int) := of_decide_eq_true (by first | (with_reducible assumption) | assumption); have q018 : (0 : Int) ≤ (a1 : Int) := of_decide_eq_true (by first | (with_reducible assumption) | assumption); have hcut18 := cut_mid (P := Tryd.prog) 22 46 .i64 .i64 Tryd.underlying22 hi018 5 hsz18 (some ad412) l0.length c0 a1 (wrap64 (a1 + ((rd_T46 l0 a1).f1))) q018 ql18 q18 hroom18; have hr18 := Kd.C_mid (lo := (a1 : Int).toNat) (hi := ((wrap64 (a1 + ((rd_T46 l0 a1).f1))) : Int).toNat) (c := c0) hC18 (by omega) (by omega) hroom18; obtain ⟨A18, hA18⟩ : ∃ A1, A1 = (if c0 = (a1 : Int).toNat then (some ad412) else ((some ad412) : Option Addr).map (·.add ((a1 : Int).toNat * 5))) := ⟨_, rfl⟩; obtain ⟨c18, hc18⟩ : ∃ c1, c1 = c0 - (a1 : Int).toNat := ⟨_, rfl⟩; have hy18 : y413.length = ((wrap64 (a1 + ((rd_T46 l0 a1).f1))) : Int).toNat - (a1 : Int).toNat := (by rw [Ny413.out, List.length_drop, List.length_take] <;> omega); rw [show ((l0).take ((wrap64 (a1 + ((rd_T46 l0 a1).f1))) : Int).toNat).drop (a1 : Int).toNat = y413 from Ny413.out.symm] at hr18; replace hr18 : Kd.C k46 _ A18 y413.length y413 := (by rw [hA18]; exact hr18); rw [← hy18, ← hA18, ← hc18] at hcut18; have HR416 := Aside0.mk hr18; have HC416 := Aside0.mk (show y413.length ≤ c18 from by rw [hy18, hc18]; exact Nat.sub_le_sub_right (Nat.le_trans (by omega) hroom18) _); clear hr18 hC18 hroom18 hi018 hsz18 hc18; have KY18 := Aside0.mk hy18; have KA18 := Aside0.mk hA18; clear hy18 hA18; replace q18 := eq_true q18) | ((with_reducible refine gate_callee (f := 43) rfl ?_); refine goesL_ (some 29) rfl rfl Tryd.func43 (by kernel_rfl) rfl #[.slice A18 y413.length c18] rfl (by (try simp only [List.map_toArray, List.map_cons, List.map_nil]); first | done | rfl | (simp only [List.length_drop, List.length_take]; rfl)) ?_; (with_reducible refine (api_Jnode.calls _ _ y413 t417 _ ?side1 ?side2 A14.out).mono ?_); (case side1 => repeat (first | exact (Kd.C_below HR416.out HB.out) | (with_reducible refine Kd.C_alloc ?_ _) | (with_reducible refine Kd.C_drewN ?_ _) | (with_reducible refine Kd.C_drew ?_))); (case side2 => exact HC416.out); rintro e w19 ⟨v418, rfl, ho0, hb⟩; refine ⟨_, rfl, ?_⟩; have n0_ := Aside0.mk (Kd.R_lower ho0 (below_size (by repeat (first | (with_reducible first | exact HB.out | apply below_alloc | apply pw_below_drewN | apply below_drew1) | exact HB.out)))); have n1_ := Aside0.mk (below_step (by repeat (first | (with_reducible first | exact HB.out | apply below_alloc | apply pw_below_drewN | apply below_drew1) | exact HB.out)) hb); clear HB; have HO419 := n0_; have HB := n1_; clear n0_ n1_; (try clear hb); (try clear hb2); (try clear hk); (try clear hi); (try clear ho0); have p16 : 0 ≤ (0 : Int) := (by omega); have q16 : (0 : Int) < ((t417.length : Int) : Int) := of_decide_eq_true (by first | (with_reducible assumption) | assumption); have qi16 : (0 < t417.length) = True := eq_true (by omega); obtain ⟨go16, co16, eo16, gb16, gl16, cl16, HG16⟩ := Kd.R_form HO419.out (by omega); (first | cases eo16 | (injection eo16 with ea_ en_ ec_; (first | subst ea_ | (injection ea_ with ea_; subst ea_)); subst ec_; clear en_)); have GB16 := Aside0.mk gb16; have GG16 := Aside0.mk HG16; clear gb16 gl16 HG16; obtain ⟨ce16, hcl16, hM16, hcc16, hfr16⟩ := Kd.R_elem HO419.out z46 (0 : Int) p16 q16; obtain rfl := k46_openM hM16; have hx16_0 : w19.cell? ⟨go16, (0 : Int).toNat * 5, none⟩ = some (.int .i64 ((rd_T46 t417 0).f0)) := hcc16 0 _ rfl; have hx16_1 : w19.cell? ⟨go16, (0 : Int).toNat * 5 + 1, none⟩ = some (.int .i64 ((rd_T46 t417 0).f1)) := hcc16 1 _ rfl; have hx16_2 : w19.cell? ⟨go16, (0 : Int).toNat * 5 + 2, none⟩ = some (.int .i64 ((rd_T46 t417 0).f2)) := hcc16 2 _ rfl; have hx16_3 : w19.cell? ⟨go16, (0 : Int).toNat * 5 + 3, none⟩ = some (.string ((rd_T46 t417 0).f3)) := hcc16 3 _ rfl; have hx16_4 : w19.cell? ⟨go16, (0 : Int).toNat * 5 + 4, none⟩ = some (.string ((rd_T46 t417 0).f4)) := hcc16 4 _ rfl; have hf16_0 : w19.frozen? ⟨go16, (0 : Int).toNat * 5, none⟩ = false := hfr16 0; have hf16_1 : w19.frozen? ⟨go16, (0 : Int).toNat * 5 + 1, none⟩ = false := hfr16 1; have hf16_2 : w19.frozen? ⟨go16, (0 : Int).toNat * 5 + 2, none⟩ = false := hfr16 2; have hf16_3 : w19.frozen? ⟨go16, (0 : Int).toNat * 5 + 3, none⟩ = false := hfr16 3; have hf16_4 : w19.frozen? ⟨go16, (0 : Int).toNat * 5 + 4, none⟩ = false := hfr16 4; clear hcl16 hcc16 hfr16 hM16; (try rw [show ((0 : Int)).toNat = 0 from rfl] at hx16_0); (try simp only [Nat.reduceMul, Nat.zero_mul, Nat.zero_add, Nat.reduceAdd] at hx16_0); (try rw [show ((0 : Int)).toNat = 0 from rfl] at hf16_0); (try simp only [Nat.reduceMul, Nat.zero_mul, Nat.zero_add, Nat.reduceAdd] at hf16_0); (try rw [show ((0 : Int)).toNat = 0 from rfl] at hx16_1); (try simp only [Nat.reduceMul, Nat.zero_mul, Nat.zero_add, Nat.reduceAdd] at hx16_1); (try rw [show ((0 : Int)).toNat = 0 from rfl] at hf16_1); (try simp only [Nat.reduceMul, Nat.zero_mul, Nat.zero_add, Nat.reduceAdd] at hf16_1); (try rw [show ((0 : Int)).toNat = 0 from rfl] at hx16_2); (try simp only [Nat.reduceMul, Nat.zero_mul, Nat.zero_add, Nat.reduceAdd] at hx16_2); (try rw [show ((0 : Int)).toNat = 0 from rfl] at hf16_2); (try simp only [Nat.reduceMul, Nat.zero_mul, Nat.zero_add, Nat.reduceAdd] at hf16_2); (try rw [show ((0 : Int)).toNat = 0 from rfl] at hx16_3); (try simp only [Nat.reduceMul, Nat.zero_mul, Nat.zero_add, Nat.reduceAdd] at hx16_3); (try rw [show ((0 : Int)).toNat = 0 from rfl] at hf16_3); (try simp only [Nat.reduceMul, Nat.zero_mul, Nat.zero_add, Nat.reduceAdd] at hf16_3); (try rw [show ((0 : Int)).toNat = 0 from rfl] at hx16_4); (try simp only [Nat.reduceMul, Nat.zero_mul, Nat.zero_add, Nat.reduceAdd] at hx16_4); (try rw [show ((0 : Int)).toNat = 0 from rfl] at hf16_4); (try simp only [Nat.reduceMul, Nat.zero_mul, Nat.zero_add, Nat.reduceAdd] at hf16_4); replace p16 := eq_true p16; replace q16 := eq_true q16; have HX20 := Aside0.mk (show Kd.R k46 46 w19 w.heap.size (fun _ => True) (.slice (some ⟨go16, 0, none⟩) t417.length co16) t417 from (by (with_reducible repeat (first | apply Kd.R_alloc | apply Kd.R_drewN | apply Kd.R_drew)); exact HO419.out)); obtain ⟨ce20, hcl20, hM20, hcc20, hfr20⟩ := Kd.R_elem HX20.out z46 (0 : Int) (by omega) (by have h_ : (0 : Int) < ((t417.length : Int) : Int) := of_decide_eq_true (by first | (with_reducible assumption) | assumption); first | exact h_ | (have e_ := (Kd.R_reads' HO419.out).1; omega) | simpa using h_); obtain rfl := k46_openM hM20; have HP20 := Kd.R_seg HX20.out (0 : Int) (by omega) (by have h_ : (0 : Int) < ((t417.length : Int) : Int) := of_decide_eq_true (by first | (with_reducible assumption) | assumption); first | exact h_ | (have e_ := (Kd.R_reads' HO419.out).1; omega) | simpa using h_) (seg := [.string (⟨#[]⟩ : ByteArray)]) (j := 3) hcl20 hcc20 (show 4 ≤ 5 from by decide) (x' := (⟨(rd_T46 t417 0).f0, (rd_T46 t417 0).f1, (rd_T46 t417 0).f2, (⟨#[]⟩ : ByteArray), (rd_T46 t417 0).f4⟩ : S46)) (k46_mkM _ _ _ (⟨(rd_T46 t417 0).f0, (rd_T46 t417 0).f1, (rd_T46 t417 0).f2, (⟨#[]⟩ : ByteArray), (rd_T46 t417 0).f4⟩ : S46) ) (fun _ hk => hk); have hx20_3 := hcc20 3 _ rfl; (try simp only [show (k46).sz = 5 from rfl, Nat.mul_one, Nat.add_zero] at hx20_3); (try rw [show ((0 : Int)).toNat = 0 from rfl] at hx20_3); (try simp only [Nat.reduceMul, Nat.zero_mul, Nat.zero_add, Nat.reduceAdd] at hx20_3); have hf20_3 := hfr20 3; (try simp only [show (k46).sz = 5 from rfl, Nat.mul_one, Nat.add_zero] at hf20_3); (try rw [show ((0 : Int)).toNat = 0 from rfl] at hf20_3); (try simp only [Nat.reduceMul, Nat.zero_mul, Nat.zero_add, Nat.reduceAdd] at hf20_3); clear hcl20 hcc20 hfr20 hM20) | ((with_reducible refine gate_store (t := 9) (p := 32) rfl ?_); refine store_event (t := 9) (p := 32) (v := ?vo_w21) (w1 := (w19.setCell ⟨go16, 3, none⟩ (.string (⟨#[]⟩ : ByteArray)))) ?hg ?ho ?hn ?hr ?_; (case ho => rfl); (case hg => rfl); (case hn => rfl); (case hr => first | (go_simp; done) | (go_simp; rfl)); intro w21 hw; have hg : w19.grownBy w21 (some go16) := (by rw [hw]; exact HP20.2); have hp_ : Kd.R k46 46 w21 w.heap.size (fun _ => True) (.slice (some ⟨go16, 0, none⟩) t417.length co16) y420 := (by rw [hw, Ny420.out]; exact HP20.1); clear HP20; have n0_ := Aside0.mk (hp_); have n1_ := Aside0.mk ((by rw [hw]; exact below_set (HB.out) GB16.out : Below w.heap.size w w21)); clear HO419; clear HB; have HO419 := n0_; have HB := n1_; clear n0_ n1_; clear hg hw hp_))
                  go_ret
                  exact ⟨_, by first | rfl | (simp [errW_none, errW_some] <;> rfl) | (simp [*, errW_none, errW_some] <;> rfl), by (with_reducible repeat (first | apply Kd.R_alloc | apply Kd.R_drewN | apply Kd.R_drew)); exact HO419.out, by repeat (first | (with_reducible first | exact HB.out | apply below_alloc | apply pw_below_drewN | apply below_drew1) | exact HB.out)⟩
                · rw [if_neg c15] at H
                  exact absurd H (by simp)
              · rw [if_neg c13] at H
                exact absurd H (by simp)
            · rw [if_neg c12] at H
              exact absurd H (by simp)
          · rw [if_neg c10] at H
            exact absurd H (by simp)
        · rw [if_neg c9] at H
          exact absurd H (by simp)
  · rw [if_neg c4] at H
    have c4b0 : (t411 == 0) = false := beq_eq_false_iff_ne.mpr c4
    have c4b1 : (t411 != 0) = true := bne_iff_ne.mpr c4
    obtain rfl := Option.some.inj H
    go_enter Tryd.func28, Tryd.ntmps28
    go_wp2_with (first | ((with_reducible refine gate_callee (f := 16) rfl ?_); refine goesL_ (some 7) rfl rfl Tryd.func16 (by kernel_rfl) rfl #[.slice A0 l0.length c0] rfl (by (try simp only [List.map_toArray, List.map_cons, List.map_nil]); first | done | rfl | (simp only [List.length_drop, List.length_take]; rfl)) ?_; (with_reducible refine (jsontext_Check.calls k _ _ l0 t411 _ ?side3 ?side1 ?side2 A3.out).mono ?_); (case side1 => repeat (first | exact HR0.out | (with_reducible refine Kd.C_alloc ?_ _) | (with_reducible refine Kd.C_drewN ?_ _) | (with_reducible refine Kd.C_drew ?_))); (case side2 => exact HC0.out); (case side3 => first | exact HGU8.out | exact GlobU8.below HGU8.out (by repeat (first | (with_reducible first | exact HB.out | apply below_alloc | apply pw_below_drewN | apply below_drew1) | exact HB.out)) | exact GlobU8.drawn HGU8.out (by repeat (first | exact Drawn0.refl _ | apply Drawn0.step))); rintro e w22 ⟨rfl, hb⟩; refine ⟨_, rfl, ?_⟩; have n0_ := Aside0.mk (below_step (by repeat (first | (with_reducible first | exact HB.out | apply below_alloc | apply pw_below_drewN | apply below_drew1) | exact HB.out)) hb); clear HB; have HB := n0_; clear n0_; (try clear hb); (try clear hb2); (try clear hk); (try clear hi)))
    go_ret
    exact ⟨_, by first | rfl | (simp [errW_none, errW_some] <;> rfl) | (simp [*, errW_none, errW_some] <;> rfl), by first | exact Kd.R_nil _ _ _ _ _ | exact Kd.N_nil _ _ _ _ _ | exact Kd.V_nil _ _ _ _ _ | exact Kd.Q_nil _ _ _ _ _ | exact Kd.S_nil _ _ _ _ _, by repeat (first | (with_reducible first | exact HB.out | apply below_alloc | apply pw_below_drewN | apply below_drew1) | exact HB.out)⟩

end Go.Proofs.YtadfkeipcebmfaaDoor.X

