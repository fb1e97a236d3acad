/-
  What the claim's law rests on, part 5 of 5: printed walks, externals, plain lemmas; conditions: none of its own.
-/
import Derived.Handed
import Derived.HandedShaped
import Derived.Lib.LaidU8T
import Derived.Lib.TrimUEq
import Derived.Test.YtadfkeipcebmfaaDoorCb4
namespace Go.Proofs.YtadfkeipcebmfaaDoor.X
open Go.RowKit Go.Proofs.YtadfkeipcebmfaaDoorW.PrintWords Go.Proofs.YtadfkeipcebmfaaDoorW.PrintLast Go.Proofs.YtadfkeipcebmfaaDoorW.PrintMore
attribute [local go_sem] max2_int min2_int max_two min_two max_three min_three max_four min_four   -- for this text's walks alone
set_option linter.unusedVariables false
set_option linter.unusedSimpArgs false

def racewaylaw25_works.f  : Option (Bool) := (jsontext_Parse.f (⟨#[123, 34, 97, 34, 58, 91, 49, 44, 116, 114, 117, 101, 93, 125]⟩ : ByteArray)).bind fun bt112 => ((jsontext_Print.f bt112.1).bind fun bt117 => ((jsontext_Parse.f (⟨#[91, 49, 44, 93]⟩ : ByteArray)).bind fun bt119 => (if (bt112.1.length : Int) = 4 then (if bt112.2.1 = 0 then (if bt112.2.2 = 0 then (if 1 < (bt112.1.length : Int) then (if ((rd_T46 bt112.1 1).f3).toList = ([97] : List UInt8) then (if 2 < (bt112.1.length : Int) then (if ((rd_T46 bt112.1 2).f4).toList = ([49] : List UInt8) then (if bt117.1.toList = ([123, 34, 97, 34, 58, 91, 49, 44, 116, 114, 117, 101, 93, 125] : List UInt8) then (if bt117.2 = 0 then (if bt119.2.1 = 3 then (some (bt119.2.2 == 5)) else (some false)) else (some false)) else (some false)) else (some false)) else (none)) else (some false)) else (none)) else (some false)) else (some false)) else (some false))))
set_option maxHeartbeats 8000000 in
set_option maxRecDepth 100000 in
theorem racewaylaw25_works.calls  (r : Bool) (w : World) (hGU8 : GlobU8 w) (h : racewaylaw25_works.f  = some r) :
    Calls Tryd.prog 13 #[] w fun e w' => e = .returned (.bool r) ∧ Below w.heap.size w w' := by
  have HGU8 := Aside0.mk hGU8
  clear hGU8
  have HB := Aside0.mk (Below.refl w.heap.size w)
  have H : ((jsontext_Parse.f (⟨#[123, 34, 97, 34, 58, 91, 49, 44, 116, 114, 117, 101, 93, 125]⟩ : ByteArray)).bind fun bt112 => ((jsontext_Print.f bt112.1).bind fun bt117 => ((jsontext_Parse.f (⟨#[91, 49, 44, 93]⟩ : ByteArray)).bind fun bt119 => (if (bt112.1.length : Int) = 4 then (if bt112.2.1 = 0 then (if bt112.2.2 = 0 then (if 1 < (bt112.1.length : Int) then (if ((rd_T46 bt112.1 1).f3).toList = ([97] : List UInt8) then (if 2 < (bt112.1.length : Int) then (if ((rd_T46 bt112.1 2).f4).toList = ([49] : List UInt8) then (if bt117.1.toList = ([123, 34, 97, 34, 58, 91, 49, 44, 116, 114, 117, 101, 93, 125] : List UInt8) then (if bt117.2 = 0 then (if bt119.2.1 = 3 then (some (bt119.2.2 == 5)) else (some false)) else (some false)) else (some false)) else (some false)) else (none)) else (some false)) else (none)) else (some false)) else (some false)) else (some false))))) = some r := h
  clear h
  replace H := Option.bind_eq_some_iff.mp H
  obtain ⟨⟨t112, t113, t114⟩, A10, H⟩ := H
  replace H : ((jsontext_Print.f t112).bind fun bt117 => ((jsontext_Parse.f (⟨#[91, 49, 44, 93]⟩ : ByteArray)).bind fun bt119 => (if (t112.length : Int) = 4 then (if t113 = 0 then (if t114 = 0 then (if 1 < (t112.length : Int) then (if ((rd_T46 t112 1).f3).toList = ([97] : List UInt8) then (if 2 < (t112.length : Int) then (if ((rd_T46 t112 2).f4).toList = ([49] : List UInt8) then (if bt117.1.toList = ([123, 34, 97, 34, 58, 91, 49, 44, 116, 114, 117, 101, 93, 125] : List UInt8) then (if bt117.2 = 0 then (if bt119.2.1 = 3 then (some (bt119.2.2 == 5)) else (some false)) else (some false)) else (some false)) else (some false)) else (none)) else (some false)) else (none)) else (some false)) else (some false)) else (some false)))) = some r := H
  have A1 := Aside0.mk A10
  clear A10
  replace H := Option.bind_eq_some_iff.mp H
  obtain ⟨⟨t117, t118⟩, A20, H⟩ := H
  replace H : ((jsontext_Parse.f (⟨#[91, 49, 44, 93]⟩ : ByteArray)).bind fun bt119 => (if (t112.length : Int) = 4 then (if t113 = 0 then (if t114 = 0 then (if 1 < (t112.length : Int) then (if ((rd_T46 t112 1).f3).toList = ([97] : List UInt8) then (if 2 < (t112.length : Int) then (if ((rd_T46 t112 2).f4).toList = ([49] : List UInt8) then (if t117.toList = ([123, 34, 97, 34, 58, 91, 49, 44, 116, 114, 117, 101, 93, 125] : List UInt8) then (if t118 = 0 then (if bt119.2.1 = 3 then (some (bt119.2.2 == 5)) else (some false)) else (some false)) else (some false)) else (some false)) else (none)) else (some false)) else (none)) else (some false)) else (some false)) else (some false))) = some r := H
  have A2 := Aside0.mk A20
  clear A20
  replace H := Option.bind_eq_some_iff.mp H
  obtain ⟨⟨t119, t120, t121⟩, A30, H⟩ := H
  replace H : (if (t112.length : Int) = 4 then (if t113 = 0 then (if t114 = 0 then (if 1 < (t112.length : Int) then (if ((rd_T46 t112 1).f3).toList = ([97] : List UInt8) then (if 2 < (t112.length : Int) then (if ((rd_T46 t112 2).f4).toList = ([49] : List UInt8) then (if t117.toList = ([123, 34, 97, 34, 58, 91, 49, 44, 116, 114, 117, 101, 93, 125] : List UInt8) then (if t118 = 0 then (if t120 = 3 then (some (t121 == 5)) else (some false)) else (some false)) else (some false)) else (some false)) else (none)) else (some false)) else (none)) else (some false)) else (some false)) else (some false)) = some r := H
  have A3 := Aside0.mk A30
  clear A30
  by_cases c4 : (t112.length : Int) = 4
  · rw [if_pos c4] at H
    have c4b0 : ((t112.length : Int) == 4) = true := beq_iff_eq.mpr c4
    have c4b1 : ((t112.length : Int) != 4) = false := bne_eq_false_iff_eq.mpr c4
    clear c4
    by_cases c5 : t113 = 0
    · rw [if_pos c5] at H
      have c5b0 : (t113 == 0) = true := beq_iff_eq.mpr c5
      have c5b1 : (t113 != 0) = false := bne_eq_false_iff_eq.mpr c5
      clear c5
      by_cases c6 : t114 = 0
      · rw [if_pos c6] at H
        have c6b0 : (t114 == 0) = true := beq_iff_eq.mpr c6
        have c6b1 : (t114 != 0) = false := bne_eq_false_iff_eq.mpr c6
        clear c6
        by_cases c7 : 1 < (t112.length : Int)
        · rw [if_pos c7] at H
          have c7b0 : decide (1 < (t112.length : Int)) = true := decide_eq_true c7
          have c7b1 : decide (1 < t112.length) = true := decide_eq_true (by omega)
          clear c7
          by_cases c8 : ((rd_T46 t112 1).f3).toList = ([97] : List UInt8)
          · rw [if_pos c8] at H
            have c8b0 : (((rd_T46 t112 1).f3).toList == ([97] : List UInt8)) = true := beq_iff_eq.mpr c8
            have c8b1 : (((rd_T46 t112 1).f3).toList != ([97] : List UInt8)) = false := bne_eq_false_iff_eq.mpr c8
            clear c8
            by_cases c9 : 2 < (t112.length : Int)
            · rw [if_pos c9] at H
              have c9b0 : decide (2 < (t112.length : Int)) = true := decide_eq_true c9
              have c9b1 : decide (2 < t112.length) = true := decide_eq_true (by omega)
              clear c9
              by_cases c10 : ((rd_T46 t112 2).f4).toList = ([49] : List UInt8)
              · rw [if_pos c10] at H
                have c10b0 : (((rd_T46 t112 2).f4).toList == ([49] : List UInt8)) = true := beq_iff_eq.mpr c10
                have c10b1 : (((rd_T46 t112 2).f4).toList != ([49] : List UInt8)) = false := bne_eq_false_iff_eq.mpr c10
                clear c10
                by_cases c11 : t117.toList = ([123, 34, 97, 34, 58, 91, 49, 44, 116, 114, 117, 101, 93, 125] : List UInt8)
                · rw [if_pos c11] at H
                  have c11b0 : (t117.toList == ([123, 34, 97, 34, 58, 91, 49, 44, 116, 114, 117, 101, 93, 125] : List UInt8)) = true := beq_iff_eq.mpr c11
                  have c11b1 : (t117.toList != ([123, 34, 97, 34, 58, 91, 49, 44, 116, 114, 117, 101, 93, 125] : List UInt8)) = false := bne_eq_false_iff_eq.mpr c11
                  clear c11
                  by_cases c12 : t118 = 0
                  · rw [if_pos c12] at H
                    have c12b0 : (t118 == 0) = true := beq_iff_eq.mpr c12
                    have c12b1 : (t118 != 0) = false := bne_eq_false_iff_eq.mpr c12
                    clear c12
                    by_cases c13 : t120 = 3
                    · rw [if_pos c13] at H
                      have c13b0 : (t120 == 3) = true := beq_iff_eq.mpr c13
                      have c13b1 : (t120 != 3) = false := bne_eq_false_iff_eq.mpr c13
                      clear c13
                      obtain rfl := Option.some.inj H
                      go_enter Tryd.func13, Tryd.ntmps13
                      go_wp2_with (first | ((with_reducible refine gate_callee (f := 10) rfl ?_); refine goesL_ (some 10) rfl rfl Tryd.func10 (by kernel_rfl) rfl #[.string (⟨#[123, 34, 97, 34, 58, 91, 49, 44, 116, 114, 117, 101, 93, 125]⟩ : ByteArray)] rfl (by (try simp only [List.map_toArray, List.map_cons, List.map_nil]); first | done | rfl | (simp only [List.length_drop, List.length_take]; rfl)) ?_; (with_reducible refine (jsontext_Parse.calls (⟨#[123, 34, 97, 34, 58, 91, 49, 44, 116, 114, 117, 101, 93, 125]⟩ : ByteArray) t112 t113 t114 _ ?side1 A1.out).mono ?_); (case side1 => first | exact HGU8.out | exact GlobU8.below HGU8.out (by repeat (first | (with_reducible first | exact HB.out | apply below_alloc | apply pw_below_drewN | apply below_drew1) | exact HB.out)) | exact GlobU8.drawn HGU8.out (by repeat (first | exact Drawn0.refl _ | apply Drawn0.step))); rintro e w14 ⟨v115, rfl, ho0, hb⟩; refine ⟨_, rfl, ?_⟩; have n0_ := Aside0.mk (Kd.R_lower ho0 (below_size (by repeat (first | (with_reducible first | exact HB.out | apply below_alloc | apply pw_below_drewN | apply below_drew1) | exact HB.out)))); have n1_ := Aside0.mk (below_step (by repeat (first | (with_reducible first | exact HB.out | apply below_alloc | apply pw_below_drewN | apply below_drew1) | exact HB.out)) hb); clear HB; have HO116 := n0_; have HB := n1_; clear n0_ n1_; (try clear hb); (try clear hb2); (try clear hk); (try clear hi); (try clear ho0); obtain ⟨Ao15, co15, eo15⟩ := Kd.R_slice HO116.out; subst eo15) | ((with_reducible refine gate_callee (f := 15) rfl ?_); refine goesL_ (some 16) rfl rfl Tryd.func15 (by kernel_rfl) rfl #[.slice Ao15 t112.length co15] rfl (by (try simp only [List.map_toArray, List.map_cons, List.map_nil]); first | done | rfl | (simp only [List.length_drop, List.length_take]; rfl)) ?_; (with_reducible refine (jsontext_Print.calls _ _ t112 t117 t118 _ ?side3 ?side1 ?side2 A2.out).mono ?_); (case side1 => repeat (first | exact (Kd.R_reads' HO116.out).2.2 | (with_reducible refine Kd.C_alloc ?_ _) | (with_reducible refine Kd.C_drewN ?_ _) | (with_reducible refine Kd.C_drew ?_))); (case side2 => exact (Kd.R_reads' HO116.out).2.1); (case side3 => first | exact HGU8.out | exact GlobU8.below HGU8.out (by repeat (first | (with_reducible first | exact HB.out | apply below_alloc | apply pw_below_drewN | apply below_drew1) | exact HB.out)) | exact GlobU8.drawn HGU8.out (by repeat (first | exact Drawn0.refl _ | apply Drawn0.step))); rintro e w16 ⟨rfl, hb⟩; refine ⟨_, rfl, ?_⟩; have n0_ := Aside0.mk (Kd.R_below (by (with_reducible repeat (first | apply Kd.R_alloc | apply Kd.R_drewN | apply Kd.R_drew)); exact HO116.out) hb); have n1_ := Aside0.mk (below_step (by repeat (first | (with_reducible first | exact HB.out | apply below_alloc | apply pw_below_drewN | apply below_drew1) | exact HB.out)) hb); clear HO116; clear HB; have HO116 := n0_; have HB := n1_; clear n0_ n1_; (try clear hb); (try clear hb2); (try clear hk); (try clear hi)) | ((with_reducible refine gate_callee (f := 10) rfl ?_); refine goesL_ (some 20) rfl rfl Tryd.func10 (by kernel_rfl) rfl #[.string (⟨#[91, 49, 44, 93]⟩ : ByteArray)] rfl (by (try simp only [List.map_toArray, List.map_cons, List.map_nil]); first | done | rfl | (simp only [List.length_drop, List.length_take]; rfl)) ?_; (with_reducible refine (jsontext_Parse.calls (⟨#[91, 49, 44, 93]⟩ : ByteArray) t119 t120 t121 _ ?side1 A3.out).mono ?_); (case side1 => first | exact HGU8.out | exact GlobU8.below HGU8.out (by repeat (first | (with_reducible first | exact HB.out | apply below_alloc | apply pw_below_drewN | apply below_drew1) | exact HB.out)) | exact GlobU8.drawn HGU8.out (by repeat (first | exact Drawn0.refl _ | apply Drawn0.step))); rintro e w17 ⟨v122, rfl, ho0, hb⟩; refine ⟨_, rfl, ?_⟩; have n0_ := Aside0.mk (Kd.R_elder' (by (with_reducible repeat (first | apply Kd.R_alloc | apply Kd.R_drewN | apply Kd.R_drew)); exact HO116.out) (Kd.R_base ho0) hb); have n1_ := Aside0.mk (Kd.R_lower (Kd.R_new' ho0 (Kd.R_lt (by (with_reducible repeat (first | apply Kd.R_alloc | apply Kd.R_drewN | apply Kd.R_drew)); exact HO116.out))) (below_size (by repeat (first | (with_reducible first | exact HB.out | apply below_alloc | apply pw_below_drewN | apply below_drew1) | exact HB.out)))); have n2_ := Aside0.mk (below_step (by repeat (first | (with_reducible first | exact HB.out | apply below_alloc | apply pw_below_drewN | apply below_drew1) | exact HB.out)) hb); clear HO116; clear HB; have HO116 := n0_; have HO123 := n1_; have HB := n2_; clear n0_ n1_ n2_; (try clear hb); (try clear hb2); (try clear hk); (try clear hi); (try clear ho0); have p124 : 0 ≤ (1 : Int) := (by omega); have q124 : 1 < (t112.length : Int) := of_decide_eq_true (by first | (with_reducible assumption) | assumption); obtain ⟨ad124, e124, hx124_0, hx124_1, hx124_2, hx124_3, hx124_4⟩ := at_T46 (Kd.R_reads' HO116.out).2.2 1 p124 q124; cases e124; (try simp only [show (1 : Int).toNat = 1 from rfl, Nat.reduceMul, Nat.reduceEqDiff, Go.Addr.add, ↓reduceIte] at hx124_0); (try simp only [show (1 : Int).toNat = 1 from rfl, Nat.reduceMul, Nat.reduceEqDiff, Go.Addr.add, ↓reduceIte] at hx124_1); (try simp only [show (1 : Int).toNat = 1 from rfl, Nat.reduceMul, Nat.reduceEqDiff, Go.Addr.add, ↓reduceIte] at hx124_2); (try simp only [show (1 : Int).toNat = 1 from rfl, Nat.reduceMul, Nat.reduceEqDiff, Go.Addr.add, ↓reduceIte] at hx124_3); (try simp only [show (1 : Int).toNat = 1 from rfl, Nat.reduceMul, Nat.reduceEqDiff, Go.Addr.add, ↓reduceIte] at hx124_4); have qi124 : (1 < t112.length) = True := eq_true (by omega); (try rw [show ((1 : Int)).toNat = 1 from rfl] at hx124_0); (try rw [show 1 * 5 = 5 from rfl] at hx124_0); (try rw [show ((1 : Int)).toNat = 1 from rfl] at hx124_1); (try rw [show 1 * 5 = 5 from rfl] at hx124_1); (try rw [show ((1 : Int)).toNat = 1 from rfl] at hx124_2); (try rw [show 1 * 5 = 5 from rfl] at hx124_2); (try rw [show ((1 : Int)).toNat = 1 from rfl] at hx124_3); (try rw [show 1 * 5 = 5 from rfl] at hx124_3); (try rw [show ((1 : Int)).toNat = 1 from rfl] at hx124_4); (try rw [show 1 * 5 = 5 from rfl] at hx124_4); replace p124 := eq_true p124; replace q124 := eq_true q124; have p125 : 0 ≤ (2 : Int) := (by omega); have q125 : 2 < (t112.length : Int) := of_decide_eq_true (by first | (with_reducible assumption) | assumption); obtain ⟨ad125, e125, hx125_0, hx125_1, hx125_2, hx125_3, hx125_4⟩ := at_T46 (Kd.R_reads' HO116.out).2.2 2 p125 q125; obtain rfl : ad124 = ad125 := (by injection e125); (try simp only [show (2 : Int).toNat = 2 from rfl, Nat.reduceMul, Nat.reduceEqDiff, Go.Addr.add, ↓reduceIte] at hx125_0); (try simp only [show (2 : Int).toNat = 2 from rfl, Nat.reduceMul, Nat.reduceEqDiff, Go.Addr.add, ↓reduceIte] at hx125_1); (try simp only [show (2 : Int).toNat = 2 from rfl, Nat.reduceMul, Nat.reduceEqDiff, Go.Addr.add, ↓reduceIte] at hx125_2); (try simp only [show (2 : Int).toNat = 2 from rfl, Nat.reduceMul, Nat.reduceEqDiff, Go.Addr.add, ↓reduceIte] at hx125_3); (try simp only [show (2 : Int).toNat = 2 from rfl, Nat.reduceMul, Nat.reduceEqDiff, Go.Addr.add, ↓reduceIte] at hx125_4); have qi125 : (2 < t112.length) = True := eq_true (by omega); (try rw [show ((2 : Int)).toNat = 2 from rfl] at hx125_0); (try rw [show 2 * 5 = 10 from rfl] at hx125_0); (try rw [show ((2 : Int)).toNat = 2 from rfl] at hx125_1); (try rw [show 2 * 5 = 10 from rfl] at hx125_1); (try rw [show ((2 : Int)).toNat = 2 from rfl] at hx125_2); (try rw [show 2 * 5 = 10 from rfl] at hx125_2); (try rw [show ((2 : Int)).toNat = 2 from rfl] at hx125_3); (try rw [show 2 * 5 = 10 from rfl] at hx125_3); (try rw [show ((2 : Int)).toNat = 2 from rfl] at hx125_4); (try rw [show 2 * 5 = 10 from rfl] at hx125_4); replace p125 := eq_true p125; replace q125 := eq_true q125))
                      go_ret
                      exact ⟨by first | rfl | (simp [errW_none, errW_some] <;> rfl) | (simp [*, errW_none, errW_some] <;> rfl), by repeat (first | (with_reducible first | exact HB.out | apply below_alloc | apply pw_below_drewN | apply below_drew1) | exact HB.out)⟩
                    · rw [if_neg c13] at H
                      have c13b0 : (t120 == 3) = false := beq_eq_false_iff_ne.mpr c13
                      have c13b1 : (t120 != 3) = true := bne_iff_ne.mpr c13
                      obtain rfl := Option.some.inj H
                      go_enter Tryd.func13, Tryd.ntmps13
                      go_wp2_with (first | ((with_reducible refine gate_callee (f := 10) rfl ?_); refine goesL_ (some 10) rfl rfl Tryd.func10 (by kernel_rfl) rfl #[.string (⟨#[123, 34, 97, 34, 58, 91, 49, 44, 116, 114, 117, 101, 93, 125]⟩ : ByteArray)] rfl (by (try simp only [List.map_toArray, List.map_cons, List.map_nil]); first | done | rfl | (simp only [List.length_drop, List.length_take]; rfl)) ?_; (with_reducible refine (jsontext_Parse.calls (⟨#[123, 34, 97, 34, 58, 91, 49, 44, 116, 114, 117, 101, 93, 125]⟩ : ByteArray) t112 t113 t114 _ ?side1 A1.out).mono ?_); (case side1 => first | exact HGU8.out | exact GlobU8.below HGU8.out (by repeat (first | (with_reducible first | exact HB.out | apply below_alloc | apply pw_below_drewN | apply below_drew1) | exact HB.out)) | exact GlobU8.drawn HGU8.out (by repeat (first | exact Drawn0.refl _ | apply Drawn0.step))); rintro e w18 ⟨v115, rfl, ho0, hb⟩; refine ⟨_, rfl, ?_⟩; have n0_ := Aside0.mk (Kd.R_lower ho0 (below_size (by repeat (first | (with_reducible first | exact HB.out | apply below_alloc | apply pw_below_drewN | apply below_drew1) | exact HB.out)))); have n1_ := Aside0.mk (below_step (by repeat (first | (with_reducible first | exact HB.out | apply below_alloc | apply pw_below_drewN | apply below_drew1) | exact HB.out)) hb); clear HB; have HO116 := n0_; have HB := n1_; clear n0_ n1_; (try clear hb); (try clear hb2); (try clear hk); (try clear hi); (try clear ho0); obtain ⟨Ao19, co19, eo19⟩ := Kd.R_slice HO116.out; subst eo19) | ((with_reducible refine gate_callee (f := 15) rfl ?_); refine goesL_ (some 16) rfl rfl Tryd.func15 (by kernel_rfl) rfl #[.slice Ao19 t112.length co19] rfl (by (try simp only [List.map_toArray, List.map_cons, List.map_nil]); first | done | rfl | (simp only [List.length_drop, List.length_take]; rfl)) ?_; (with_reducible refine (jsontext_Print.calls _ _ t112 t117 t118 _ ?side3 ?side1 ?side2 A2.out).mono ?_); (case side1 => repeat (first | exact (Kd.R_reads' HO116.out).2.2 | (with_reducible refine Kd.C_alloc ?_ _) | (with_reducible refine Kd.C_drewN ?_ _) | (with_reducible refine Kd.C_drew ?_))); (case side2 => exact (Kd.R_reads' HO116.out).2.1); (case side3 => first | exact HGU8.out | exact GlobU8.below HGU8.out (by repeat (first | (with_reducible first | exact HB.out | apply below_alloc | apply pw_below_drewN | apply below_drew1) | exact HB.out)) | exact GlobU8.drawn HGU8.out (by repeat (first | exact Drawn0.refl _ | apply Drawn0.step))); rintro e w20 ⟨rfl, hb⟩; refine ⟨_, rfl, ?_⟩; have n0_ := Aside0.mk (Kd.R_below (by (with_reducible repeat (first | apply Kd.R_alloc | apply Kd.R_drewN | apply Kd.R_drew)); exact HO116.out) hb); have n1_ := Aside0.mk (below_step (by repeat (first | (with_reducible first | exact HB.out | apply below_alloc | apply pw_below_drewN | apply below_drew1) | exact HB.out)) hb); clear HO116; clear HB; have HO116 := n0_; have HB := n1_; clear n0_ n1_; (try clear hb); (try clear hb2); (try clear hk); (try clear hi)) | ((with_reducible refine gate_callee (f := 10) rfl ?_); refine goesL_ (some 20) rfl rfl Tryd.func10 (by kernel_rfl) rfl #[.string (⟨#[91, 49, 44, 93]⟩ : ByteArray)] rfl (by (try simp only [List.map_toArray, List.map_cons, List.map_nil]); first | done | rfl | (simp only [List.length_drop, List.length_take]; rfl)) ?_; (with_reducible refine (jsontext_Parse.calls (⟨#[91, 49, 44, 93]⟩ : ByteArray) t119 t120 t121 _ ?side1 A3.out).mono ?_); (case side1 => first | exact HGU8.out | exact GlobU8.below HGU8.out (by repeat (first | (with_reducible first | exact HB.out | apply below_alloc | apply pw_below_drewN | apply below_drew1) | exact HB.out)) | exact GlobU8.drawn HGU8.out (by repeat (first | exact Drawn0.refl _ | apply Drawn0.step))); rintro e w21 ⟨v122, rfl, ho0, hb⟩; refine ⟨_, rfl, ?_⟩; have n0_ := Aside0.mk (Kd.R_elder' (by (with_reducible repeat (first | apply Kd.R_alloc | apply Kd.R_drewN | apply Kd.R_drew)); exact HO116.out) (Kd.R_base ho0) hb); have n1_ := Aside0.mk (Kd.R_lower (Kd.R_new' ho0 (Kd.R_lt (by (with_reducible repeat (first | apply Kd.R_alloc | apply Kd.R_drewN | apply Kd.R_drew)); exact HO116.out))) (below_size (by repeat (first | (with_reducible first | exact HB.out | apply below_alloc | apply pw_below_drewN | apply below_drew1) | exact HB.out)))); have n2_ := Aside0.mk (below_step (by repeat (first | (with_reducible first | exact HB.out | apply below_alloc | apply pw_below_drewN | apply below_drew1) | exact HB.out)) hb); clear HO116; clear HB; have HO116 := n0_; have HO123 := n1_; have HB := n2_; clear n0_ n1_ n2_; (try clear hb); (try clear hb2); (try clear hk); (try clear hi); (try clear ho0); have p124 : 0 ≤ (1 : Int) := (by omega); have q124 : 1 < (t112.length : Int) := of_decide_eq_true (by first | (with_reducible assumption) | assumption); obtain ⟨ad124, e124, hx124_0, hx124_1, hx124_2, hx124_3, hx124_4⟩ := at_T46 (Kd.R_reads' HO116.out).2.2 1 p124 q124; cases e124; (try simp only [show (1 : Int).toNat = 1 from rfl, Nat.reduceMul, Nat.reduceEqDiff, Go.Addr.add, ↓reduceIte] at hx124_0); (try simp only [show (1 : Int).toNat = 1 from rfl, Nat.reduceMul, Nat.reduceEqDiff, Go.Addr.add, ↓reduceIte] at hx124_1); (try simp only [show (1 : Int).toNat = 1 from rfl, Nat.reduceMul, Nat.reduceEqDiff, Go.Addr.add, ↓reduceIte] at hx124_2); (try simp only [show (1 : Int).toNat = 1 from rfl, Nat.reduceMul, Nat.reduceEqDiff, Go.Addr.add, ↓reduceIte] at hx124_3); (try simp only [show (1 : Int).toNat = 1 from rfl, Nat.reduceMul, Nat.reduceEqDiff, Go.Addr.add, ↓reduceIte] at hx124_4); have qi124 : (1 < t112.length) = True := eq_true (by omega); (try rw [show ((1 : Int)).toNat = 1 from rfl] at hx124_0); (try rw [show 1 * 5 = 5 from rfl] at hx124_0); (try rw [show ((1 : Int)).toNat = 1 from rfl] at hx124_1); (try rw [show 1 * 5 = 5 from rfl] at hx124_1); (try rw [show ((1 : Int)).toNat = 1 from rfl] at hx124_2); (try rw [show 1 * 5 = 5 from rfl] at hx124_2); (try rw [show ((1 : Int)).toNat = 1 from rfl] at hx124_3); (try rw [show 1 * 5 = 5 from rfl] at hx124_3); (try rw [show ((1 : Int)).toNat = 1 from rfl] at hx124_4); (try rw [show 1 * 5 = 5 from rfl] at hx124_4); replace p124 := eq_true p124; replace q124 := eq_true q124; have p125 : 0 ≤ (2 : Int) := (by omega); have q125 : 2 < (t112.length : Int) := of_decide_eq_true (by first | (with_reducible assumption) | assumption); obtain ⟨ad125, e125, hx125_0, hx125_1, hx125_2, hx125_3, hx125_4⟩ := at_T46 (Kd.R_reads' HO116.out).2.2 2 p125 q125; obtain rfl : ad124 = ad125 := (by injection e125); (try simp only [show (2 : Int).toNat = 2 from rfl, Nat.reduceMul, Nat.reduceEqDiff, Go.Addr.add, ↓reduceIte] at hx125_0); (try simp only [show (2 : Int).toNat = 2 from rfl, Nat.reduceMul, Nat.reduceEqDiff, Go.Addr.add, ↓reduceIte] at hx125_1); (try simp only [show (2 : Int).toNat = 2 from rfl, Nat.reduceMul, Nat.reduceEqDiff, Go.Addr.add, ↓reduceIte] at hx125_2); (try simp only [show (2 : Int).toNat = 2 from rfl, Nat.reduceMul, Nat.reduceEqDiff, Go.Addr.add, ↓reduceIte] at hx125_3); (try simp only [show (2 : Int).toNat = 2 from rfl, Nat.reduceMul, Nat.reduceEqDiff, Go.Addr.add, ↓reduceIte] at hx125_4); have qi125 : (2 < t112.length) = True := eq_true (by omega); (try rw [show ((2 : Int)).toNat = 2 from rfl] at hx125_0); (try rw [show 2 * 5 = 10 from rfl] at hx125_0); (try rw [show ((2 : Int)).toNat = 2 from rfl] at hx125_1); (try rw [show 2 * 5 = 10 from rfl] at hx125_1); (try rw [show ((2 : Int)).toNat = 2 from rfl] at hx125_2); (try rw [show 2 * 5 = 10 from rfl] at hx125_2); (try rw [show ((2 : Int)).toNat = 2 from rfl] at hx125_3); (try rw [show 2 * 5 = 10 from rfl] at hx125_3); (try rw [show ((2 : Int)).toNat = 2 from rfl] at hx125_4); (try rw [show 2 * 5 = 10 from rfl] at hx125_4); replace p125 := eq_true p125; replace q125 := eq_true q125))
                      go_ret
                      exact ⟨by first | rfl | (simp [errW_none, errW_some] <;> rfl) | (simp [*, errW_none, errW_some] <;> rfl), by repeat (first | (with_reducible first | exact HB.out | apply below_alloc | apply pw_below_drewN | apply below_drew1) | exact HB.out)⟩
                  · rw [if_neg c12] at H
                    have c12b0 : (t118 == 0) = false := beq_eq_false_iff_ne.mpr c12
                    have c12b1 : (t118 != 0) = true := bne_iff_ne.mpr c12
                    obtain rfl := Option.some.inj H
                    go_enter Tryd.func13, Tryd.ntmps13
                    go_wp2_with (first | ((with_reducible refine gate_callee (f := 10) rfl ?_); refine goesL_ (some 10) rfl rfl Tryd.func10 (by kernel_rfl) rfl #[.string (⟨#[123, 34, 97, 34, 58, 91, 49, 44, 116, 114, 117, 101, 93, 125]⟩ : ByteArray)] rfl (by (try simp only [List.map_toArray, List.map_cons, List.map_nil]); first | done | rfl | (simp only [List.length_drop, List.length_take]; rfl)) ?_; (with_reducible refine (jsontext_Parse.calls (⟨#[123, 34, 97, 34, 58, 91, 49, 44, 116, 114, 117, 101, 93, 125]⟩ : ByteArray) t112 t113 t114 _ ?side1 A1.out).mono ?_); (case side1 => first | exact HGU8.out | exact GlobU8.below HGU8.out (by repeat (first | (with_reducible first | exact HB.out | apply below_alloc | apply pw_below_drewN | apply below_drew1) | exact HB.out)) | exact GlobU8.drawn HGU8.out (by repeat (first | exact Drawn0.refl _ | apply Drawn0.step))); rintro e w22 ⟨v115, rfl, ho0, hb⟩; refine ⟨_, rfl, ?_⟩; have n0_ := Aside0.mk (Kd.R_lower ho0 (below_size (by repeat (first | (with_reducible first | exact HB.out | apply below_alloc | apply pw_below_drewN | apply below_drew1) | exact HB.out)))); have n1_ := Aside0.mk (below_step (by repeat (first | (with_reducible first | exact HB.out | apply below_alloc | apply pw_below_drewN | apply below_drew1) | exact HB.out)) hb); clear HB; have HO116 := n0_; have HB := n1_; clear n0_ n1_; (try clear hb); (try clear hb2); (try clear hk); (try clear hi); (try clear ho0); obtain ⟨Ao23, co23, eo23⟩ := Kd.R_slice HO116.out; subst eo23) | ((with_reducible refine gate_callee (f := 15) rfl ?_); refine goesL_ (some 16) rfl rfl Tryd.func15 (by kernel_rfl) rfl #[.slice Ao23 t112.length co23] rfl (by (try simp only [List.map_toArray, List.map_cons, List.map_nil]); first | done | rfl | (simp only [List.length_drop, List.length_take]; rfl)) ?_; (with_reducible refine (jsontext_Print.calls _ _ t112 t117 t118 _ ?side3 ?side1 ?side2 A2.out).mono ?_); (case side1 => repeat (first | exact (Kd.R_reads' HO116.out).2.2 | (with_reducible refine Kd.C_alloc ?_ _) | (with_reducible refine Kd.C_drewN ?_ _) | (with_reducible refine Kd.C_drew ?_))); (case side2 => exact (Kd.R_reads' HO116.out).2.1); (case side3 => first | exact HGU8.out | exact GlobU8.below HGU8.out (by repeat (first | (with_reducible first | exact HB.out | apply below_alloc | apply pw_below_drewN | apply below_drew1) | exact HB.out)) | exact GlobU8.drawn HGU8.out (by repeat (first | exact Drawn0.refl _ | apply Drawn0.step))); rintro e w24 ⟨rfl, hb⟩; refine ⟨_, rfl, ?_⟩; have n0_ := Aside0.mk (Kd.R_below (by (with_reducible repeat (first | apply Kd.R_alloc | apply Kd.R_drewN | apply Kd.R_drew)); exact HO116.out) hb); have n1_ := Aside0.mk (below_step (by repeat (first | (with_reducible first | exact HB.out | apply below_alloc | apply pw_below_drewN | apply below_drew1) | exact HB.out)) hb); clear HO116; clear HB; have HO116 := n0_; have HB := n1_; clear n0_ n1_; (try clear hb); (try clear hb2); (try clear hk); (try clear hi)) | ((with_reducible refine gate_callee (f := 10) rfl ?_); refine goesL_ (some 20) rfl rfl Tryd.func10 (by kernel_rfl) rfl #[.string (⟨#[91, 49, 44, 93]⟩ : ByteArray)] rfl (by (try simp only [List.map_toArray, List.map_cons, List.map_nil]); first | done | rfl | (simp only [List.length_drop, List.length_take]; rfl)) ?_; (with_reducible refine (jsontext_Parse.calls (⟨#[91, 49, 44, 93]⟩ : ByteArray) t119 t120 t121 _ ?side1 A3.out).mono ?_); (case side1 => first | exact HGU8.out | exact GlobU8.below HGU8.out (by repeat (first | (with_reducible first | exact HB.out | apply below_alloc | apply pw_below_drewN | apply below_drew1) | exact HB.out)) | exact GlobU8.drawn HGU8.out (by repeat (first | exact Drawn0.refl _ | apply Drawn0.step))); rintro e w25 ⟨v122, rfl, ho0, hb⟩; refine ⟨_, rfl, ?_⟩; have n0_ := Aside0.mk (Kd.R_elder' (by (with_reducible repeat (first | apply Kd.R_alloc | apply Kd.R_drewN | apply Kd.R_drew)); exact HO116.out) (Kd.R_base ho0) hb); have n1_ := Aside0.mk (Kd.R_lower (Kd.R_new' ho0 (Kd.R_lt (by (with_reducible repeat (first | apply Kd.R_alloc | apply Kd.R_drewN | apply Kd.R_drew)); exact HO116.out))) (below_size (by repeat (first | (with_reducible first | exact HB.out | apply below_alloc | apply pw_below_drewN | apply below_drew1) | exact HB.out)))); have n2_ := Aside0.mk (below_step (by repeat (first | (with_reducible first | exact HB.out | apply below_alloc | apply pw_below_drewN | apply below_drew1) | exact HB.out)) hb); clear HO116; clear HB; have HO116 := n0_; have HO123 := n1_; have HB := n2_; clear n0_ n1_ n2_; (try clear hb); (try clear hb2); (try clear hk); (try clear hi); (try clear ho0); have p124 : 0 ≤ (1 : Int) := (by omega); have q124 : 1 < (t112.length : Int) := of_decide_eq_true (by first | (with_reducible assumption) | assumption); obtain ⟨ad124, e124, hx124_0, hx124_1, hx124_2, hx124_3, hx124_4⟩ := at_T46 (Kd.R_reads' HO116.out).2.2 1 p124 q124; cases e124; (try simp only [show (1 : Int).toNat = 1 from rfl, Nat.reduceMul, Nat.reduceEqDiff, Go.Addr.add, ↓reduceIte] at hx124_0); (try simp only [show (1 : Int).toNat = 1 from rfl, Nat.reduceMul, Nat.reduceEqDiff, Go.Addr.add, ↓reduceIte] at hx124_1); (try simp only [show (1 : Int).toNat = 1 from rfl, Nat.reduceMul, Nat.reduceEqDiff, Go.Addr.add, ↓reduceIte] at hx124_2); (try simp only [show (1 : Int).toNat = 1 from rfl, Nat.reduceMul, Nat.reduceEqDiff, Go.Addr.add, ↓reduceIte] at hx124_3); (try simp only [show (1 : Int).toNat = 1 from rfl, Nat.reduceMul, Nat.reduceEqDiff, Go.Addr.add, ↓reduceIte] at hx124_4); have qi124 : (1 < t112.length) = True := eq_true (by omega); (try rw [show ((1 : Int)).toNat = 1 from rfl] at hx124_0); (try rw [show 1 * 5 = 5 from rfl] at hx124_0); (try rw [show ((1 : Int)).toNat = 1 from rfl] at hx124_1); (try rw [show 1 * 5 = 5 from rfl] at hx124_1); (try rw [show ((1 : Int)).toNat = 1 from rfl] at hx124_2); (try rw [show 1 * 5 = 5 from rfl] at hx124_2); (try rw [show ((1 : Int)).toNat = 1 from rfl] at hx124_3); (try rw [show 1 * 5 = 5 from rfl] at hx124_3); (try rw [show ((1 : Int)).toNat = 1 from rfl] at hx124_4); (try rw [show 1 * 5 = 5 from rfl] at hx124_4); replace p124 := eq_true p124; replace q124 := eq_true q124; have p125 : 0 ≤ (2 : Int) := (by omega); have q125 : 2 < (t112.length : Int) := of_decide_eq_true (by first | (with_reducible assumption) | assumption); obtain ⟨ad125, e125, hx125_0, hx125_1, hx125_2, hx125_3, hx125_4⟩ := at_T46 (Kd.R_reads' HO116.out).2.2 2 p125 q125; obtain rfl : ad124 = ad125 := (by injection e125); (try simp only [show (2 : Int).toNat = 2 from rfl, Nat.reduceMul, Nat.reduceEqDiff, Go.Addr.add, ↓reduceIte] at hx125_0); (try simp only [show (2 : Int).toNat = 2 from rfl, Nat.reduceMul, Nat.reduceEqDiff, Go.Addr.add, ↓reduceIte] at hx125_1); (try simp only [show (2 : Int).toNat = 2 from rfl, Nat.reduceMul, Nat.reduceEqDiff, Go.Addr.add, ↓reduceIte] at hx125_2); (try simp only [show (2 : Int).toNat = 2 from rfl, Nat.reduceMul, Nat.reduceEqDiff, Go.Addr.add, ↓reduceIte] at hx125_3); (try simp only [show (2 : Int).toNat = 2 from rfl, Nat.reduceMul, Nat.reduceEqDiff, Go.Addr.add, ↓reduceIte] at hx125_4); have qi125 : (2 < t112.length) = True := eq_true (by omega); (try rw [show ((2 : Int)).toNat = 2 from rfl] at hx125_0); (try rw [show 2 * 5 = 10 from rfl] at hx125_0); (try rw [show ((2 : Int)).toNat = 2 from rfl] at hx125_1); (try rw [show 2 * 5 = 10 from rfl] at hx125_1); (try rw [show ((2 : Int)).toNat = 2 from rfl] at hx125_2); (try rw [show 2 * 5 = 10 from rfl] at hx125_2); (try rw [show ((2 : Int)).toNat = 2 from rfl] at hx125_3); (try rw [show 2 * 5 = 10 from rfl] at hx125_3); (try rw [show ((2 : Int)).toNat = 2 from rfl] at hx125_4); (try rw [show 2 * 5 = 10 from rfl] at hx125_4); replace p125 := eq_true p125; replace q125 := eq_true q125))
                    go_ret
                    exact ⟨by first | rfl | (simp [errW_none, errW_some] <;> rfl) | (simp [*, errW_none, errW_some] <;> rfl), by repeat (first | (with_reducible first | exact HB.out | apply below_alloc | apply pw_below_drewN | apply below_drew1) | exact HB.out)⟩
                · rw [if_neg c11] at H
                  have c11b0 : (t117.toList == ([123, 34, 97, 34, 58, 91, 49, 44, 116, 114, 117, 101, 93, 125] : List UInt8)) = false := beq_eq_false_iff_ne.mpr c11
                  have c11b1 : (t117.toList != ([123, 34, 97, 34, 58, 91, 49, 44, 116, 114, 117, 101, 93, 125] : List UInt8)) = true := bne_iff_ne.mpr c11
                  obtain rfl := Option.some.inj H
                  go_enter Tryd.func13, Tryd.ntmps13
                  go_wp2_with (first | ((with_reducible refine gate_callee (f := 10) rfl ?_); refine goesL_ (some 10) rfl rfl Tryd.func10 (by kernel_rfl) rfl #[.string (⟨#[123, 34, 97, 34, 58, 91, 49, 44, 116, 114, 117, 101, 93, 125]⟩ : ByteArray)] rfl (by (try simp only [List.map_toArray, List.map_cons, List.map_nil]); first | done | rfl | (simp only [List.length_drop, List.length_take]; rfl)) ?_; (with_reducible refine (jsontext_Parse.calls (⟨#[123, 34, 97, 34, 58, 91, 49, 44, 116, 114, 117, 101, 93, 125]⟩ : ByteArray) t112 t113 t114 _ ?side1 A1.out).mono ?_); (case side1 => first | exact HGU8.out | exact GlobU8.below HGU8.out (by repeat (first | (with_reducible first | exact HB.out | apply below_alloc | apply pw_below_drewN | apply below_drew1) | exact HB.out)) | exact GlobU8.drawn HGU8.out (by repeat (first | exact Drawn0.refl _ | apply Drawn0.step))); rintro e w26 ⟨v115, rfl, ho0, hb⟩; refine ⟨_, rfl, ?_⟩; have n0_ := Aside0.mk (Kd.R_lower ho0 (below_size (by repeat (first | (with_reducible first | exact HB.out | apply below_alloc | apply pw_below_drewN | apply below_drew1) | exact HB.out)))); have n1_ := Aside0.mk (below_step (by repeat (first | (with_reducible first | exact HB.out | apply below_alloc | apply pw_below_drewN | apply below_drew1) | exact HB.out)) hb); clear HB; have HO116 := n0_; have HB := n1_; clear n0_ n1_; (try clear hb); (try clear hb2); (try clear hk); (try clear hi); (try clear ho0); obtain ⟨Ao27, co27, eo27⟩ := Kd.R_slice HO116.out; subst eo27) | ((with_reducible refine gate_callee (f := 15) rfl ?_); refine goesL_ (some 16) rfl rfl Tryd.func15 (by kernel_rfl) rfl #[.slice Ao27 t112.length co27] rfl (by (try simp only [List.map_toArray, List.map_cons, List.map_nil]); first | done | rfl | (simp only [List.length_drop, List.length_take]; rfl)) ?_; (with_reducible refine (jsontext_Print.calls _ _ t112 t117 t118 _ ?side3 ?side1 ?side2 A2.out).mono ?_); (case side1 => repeat (first | exact (Kd.R_reads' HO116.out).2.2 | (with_reducible refine Kd.C_alloc ?_ _) | (with_reducible refine Kd.C_drewN ?_ _) | (with_reducible refine Kd.C_drew ?_))); (case side2 => exact (Kd.R_reads' HO116.out).2.1); (case side3 => first | exact HGU8.out | exact GlobU8.below HGU8.out (by repeat (first | (with_reducible first | exact HB.out | apply below_alloc | apply pw_below_drewN | apply below_drew1) | exact HB.out)) | exact GlobU8.drawn HGU8.out (by repeat (first | exact Drawn0.refl _ | apply Drawn0.step))); rintro e w28 ⟨rfl, hb⟩; refine ⟨_, rfl, ?_⟩; have n0_ := Aside0.mk (Kd.R_below (by (with_reducible repeat (first | apply Kd.R_alloc | apply Kd.R_drewN | apply Kd.R_drew)); exact HO116.out) hb); have n1_ := Aside0.mk (below_step (by repeat (first | (with_reducible first | exact HB.out | apply below_alloc | apply pw_below_drewN | apply below_drew1) | exact HB.out)) hb); clear HO116; clear HB; have HO116 := n0_; have HB := n1_; clear n0_ n1_; (try clear hb); (try clear hb2); (try clear hk); (try clear hi)) | ((with_reducible refine gate_callee (f := 10) rfl ?_); refine goesL_ (some 20) rfl rfl Tryd.func10 (by kernel_rfl) rfl #[.string (⟨#[91, 49, 44, 93]⟩ : ByteArray)] rfl (by (try simp only [List.map_toArray, List.map_cons, List.map_nil]); first | done | rfl | (simp only [List.length_drop, List.length_take]; rfl)) ?_; (with_reducible refine (jsontext_Parse.calls (⟨#[91, 49, 44, 93]⟩ : ByteArray) t119 t120 t121 _ ?side1 A3.out).mono ?_); (case side1 => first | exact HGU8.out | exact GlobU8.below HGU8.out (by repeat (first | (with_reducible first | exact HB.out | apply below_alloc | apply pw_below_drewN | apply below_drew1) | exact HB.out)) | exact GlobU8.drawn HGU8.out (by repeat (first | exact Drawn0.refl _ | apply Drawn0.step))); rintro e w29 ⟨v122, rfl, ho0, hb⟩; refine ⟨_, rfl, ?_⟩; have n0_ := Aside0.mk (Kd.R_elder' (by (with_reducible repeat (first | apply Kd.R_alloc | apply Kd.R_drewN | apply Kd.R_drew)); exact HO116.out) (Kd.R_base ho0) hb); have n1_ := Aside0.mk (Kd.R_lower (Kd.R_new' ho0 (Kd.R_lt (by (with_reducible repeat (first | apply Kd.R_alloc | apply Kd.R_drewN | apply Kd.R_drew)); exact HO116.out))) (below_size (by repeat (first | (with_reducible first | exact HB.out | apply below_alloc | apply pw_below_drewN | apply below_drew1) | exact HB.out)))); have n2_ := Aside0.mk (below_step (by repeat (first | (with_reducible first | exact HB.out | apply below_alloc | apply pw_below_drewN | apply below_drew1) | exact HB.out)) hb); clear HO116; clear HB; have HO116 := n0_; have HO123 := n1_; have HB := n2_; clear n0_ n1_ n2_; (try clear hb); (try clear hb2); (try clear hk); (try clear hi); (try clear ho0); have p124 : 0 ≤ (1 : Int) := (by omega); have q124 : 1 < (t112.length : Int) := of_decide_eq_true (by first | (with_reducible assumption) | assumption); obtain ⟨ad124, e124, hx124_0, hx124_1, hx124_2, hx124_3, hx124_4⟩ := at_T46 (Kd.R_reads' HO116.out).2.2 1 p124 q124; cases e124; (try simp only [show (1 : Int).toNat = 1 from rfl, Nat.reduceMul, Nat.reduceEqDiff, Go.Addr.add, ↓reduceIte] at hx124_0); (try simp only [show (1 : Int).toNat = 1 from rfl, Nat.reduceMul, Nat.reduceEqDiff, Go.Addr.add, ↓reduceIte] at hx124_1); (try simp only [show (1 : Int).toNat = 1 from rfl, Nat.reduceMul, Nat.reduceEqDiff, Go.Addr.add, ↓reduceIte] at hx124_2); (try simp only [show (1 : Int).toNat = 1 from rfl, Nat.reduceMul, Nat.reduceEqDiff, Go.Addr.add, ↓reduceIte] at hx124_3); (try simp only [show (1 : Int).toNat = 1 from rfl, Nat.reduceMul, Nat.reduceEqDiff, Go.Addr.add, ↓reduceIte] at hx124_4); have qi124 : (1 < t112.length) = True := eq_true (by omega); (try rw [show ((1 : Int)).toNat = 1 from rfl] at hx124_0); (try rw [show 1 * 5 = 5 from rfl] at hx124_0); (try rw [show ((1 : Int)).toNat = 1 from rfl] at hx124_1); (try rw [show 1 * 5 = 5 from rfl] at hx124_1); (try rw [show ((1 : Int)).toNat = 1 from rfl] at hx124_2); (try rw [show 1 * 5 = 5 from rfl] at hx124_2); (try rw [show ((1 : Int)).toNat = 1 from rfl] at hx124_3); (try rw [show 1 * 5 = 5 from rfl] at hx124_3); (try rw [show ((1 : Int)).toNat = 1 from rfl] at hx124_4); (try rw [show 1 * 5 = 5 from rfl] at hx124_4); replace p124 := eq_true p124; replace q124 := eq_true q124; have p125 : 0 ≤ (2 : Int) := (by omega); have q125 : 2 < (t112.length : Int) := of_decide_eq_true (by first | (with_reducible assumption) | assumption); obtain ⟨ad125, e125, hx125_0, hx125_1, hx125_2, hx125_3, hx125_4⟩ := at_T46 (Kd.R_reads' HO116.out).2.2 2 p125 q125; obtain rfl : ad124 = ad125 := (by injection e125); (try simp only [show (2 : Int).toNat = 2 from rfl, Nat.reduceMul, Nat.reduceEqDiff, Go.Addr.add, ↓reduceIte] at hx125_0); (try simp only [show (2 : Int).toNat = 2 from rfl, Nat.reduceMul, Nat.reduceEqDiff, Go.Addr.add, ↓reduceIte] at hx125_1); (try simp only [show (2 : Int).toNat = 2 from rfl, Nat.reduceMul, Nat.reduceEqDiff, Go.Addr.add, ↓reduceIte] at hx125_2); (try simp only [show (2 : Int).toNat = 2 from rfl, Nat.reduceMul, Nat.reduceEqDiff, Go.Addr.add, ↓reduceIte] at hx125_3); (try simp only [show (2 : Int).toNat = 2 from rfl, Nat.reduceMul, Nat.reduceEqDiff, Go.Addr.add, ↓reduceIte] at hx125_4); have qi125 : (2 < t112.length) = True := eq_true (by omega); (try rw [show ((2 : Int)).toNat = 2 from rfl] at hx125_0); (try rw [show 2 * 5 = 10 from rfl] at hx125_0); (try rw [show ((2 : Int)).toNat = 2 from rfl] at hx125_1); (try rw [show 2 * 5 = 10 from rfl] at hx125_1); (try rw [show ((2 : Int)).toNat = 2 from rfl] at hx125_2); (try rw [show 2 * 5 = 10 from rfl] at hx125_2); (try rw [show ((2 : Int)).toNat = 2 from rfl] at hx125_3); (try rw [show 2 * 5 = 10 from rfl] at hx125_3); (try rw [show ((2 : Int)).toNat = 2 from rfl] at hx125_4); (try rw [show 2 * 5 = 10 from rfl] at hx125_4); replace p125 := eq_true p125; replace q125 := eq_true q125))
                  go_ret
                  exact ⟨by first | rfl | (simp [errW_none, errW_some] <;> rfl) | (simp [*, errW_none, errW_some] <;> rfl), by repeat (first | (with_reducible first | exact HB.out | apply below_alloc | apply pw_below_drewN | apply below_drew1) | exact HB.out)⟩
              · rw [if_neg c10] at H
                have c10b0 : (((rd_T46 t112 2).f4).toList == ([49] : List UInt8)) = false := beq_eq_false_iff_ne.mpr c10
                have c10b1 : (((rd_T46 t112 2).f4).toList != ([49] : List UInt8)) = true := bne_iff_ne.mpr c10
                obtain rfl := Option.some.inj H
                go_enter Tryd.func13, Tryd.ntmps13
                go_wp2_with (first | ((with_reducible refine gate_callee (f := 10) rfl ?_); refine goesL_ (some 10) rfl rfl Tryd.func10 (by kernel_rfl) rfl #[.string (⟨#[123, 34, 97, 34, 58, 91, 49, 44, 116, 114, 117, 101, 93, 125]⟩ : ByteArray)] rfl (by (try simp only [List.map_toArray, List.map_cons, List.map_nil]); first | done | rfl | (simp only [List.length_drop, List.length_take]; rfl)) ?_; (with_reducible refine (jsontext_Parse.calls (⟨#[123, 34, 97, 34, 58, 91, 49, 44, 116, 114, 117, 101, 93, 125]⟩ : ByteArray) t112 t113 t114 _ ?side1 A1.out).mono ?_); (case side1 => first | exact HGU8.out | exact GlobU8.below HGU8.out (by repeat (first | (with_reducible first | exact HB.out | apply below_alloc | apply pw_below_drewN | apply below_drew1) | exact HB.out)) | exact GlobU8.drawn HGU8.out (by repeat (first | exact Drawn0.refl _ | apply Drawn0.step))); rintro e w30 ⟨v115, rfl, ho0, hb⟩; refine ⟨_, rfl, ?_⟩; have n0_ := Aside0.mk (Kd.R_lower ho0 (below_size (by repeat (first | (with_reducible first | exact HB.out | apply below_alloc | apply pw_below_drewN | apply below_drew1) | exact HB.out)))); have n1_ := Aside0.mk (below_step (by repeat (first | (with_reducible first | exact HB.out | apply below_alloc | apply pw_below_drewN | apply below_drew1) | exact HB.out)) hb); clear HB; have HO116 := n0_; have HB := n1_; clear n0_ n1_; (try clear hb); (try clear hb2); (try clear hk); (try clear hi); (try clear ho0); obtain ⟨Ao31, co31, eo31⟩ := Kd.R_slice HO116.out; subst eo31) | ((with_reducible refine gate_callee (f := 15) rfl ?_); refine goesL_ (some 16) rfl rfl Tryd.func15 (by kernel_rfl) rfl #[.slice Ao31 t112.length co31] rfl (by (try simp only [List.map_toArray, List.map_cons, List.map_nil]); first | done | rfl | (simp only [List.length_drop, List.length_take]; rfl)) ?_; (with_reducible refine (jsontext_Print.calls _ _ t112 t117 t118 _ ?side3 ?side1 ?side2 A2.out).mono ?_); (case side1 => repeat (first | exact (Kd.R_reads' HO116.out).2.2 | (with_reducible refine Kd.C_alloc ?_ _) | (with_reducible refine Kd.C_drewN ?_ _) | (with_reducible refine Kd.C_drew ?_))); (case side2 => exact (Kd.R_reads' HO116.out).2.1); (case side3 => first | exact HGU8.out | exact GlobU8.below HGU8.out (by repeat (first | (with_reducible first | exact HB.out | apply below_alloc | apply pw_below_drewN | apply below_drew1) | exact HB.out)) | exact GlobU8.drawn HGU8.out (by repeat (first | exact Drawn0.refl _ | apply Drawn0.step))); rintro e w32 ⟨rfl, hb⟩; refine ⟨_, rfl, ?_⟩; have n0_ := Aside0.mk (Kd.R_below (by (with_reducible repeat (first | apply Kd.R_alloc | apply Kd.R_drewN | apply Kd.R_drew)); exact HO116.out) hb); have n1_ := Aside0.mk (below_step (by repeat (first | (with_reducible first | exact HB.out | apply below_alloc | apply pw_below_drewN | apply below_drew1) | exact HB.out)) hb); clear HO116; clear HB; have HO116 := n0_; have HB := n1_; clear n0_ n1_; (try clear hb); (try clear hb2); (try clear hk); (try clear hi)) | ((with_reducible refine gate_callee (f := 10) rfl ?_); refine goesL_ (some 20) rfl rfl Tryd.func10 (by kernel_rfl) rfl #[.string (⟨#[91, 49, 44, 93]⟩ : ByteArray)] rfl (by (try simp only [List.map_toArray, List.map_cons, List.map_nil]); first | done | rfl | (simp only [List.length_drop, List.length_take]; rfl)) ?_; (with_reducible refine (jsontext_Parse.calls (⟨#[91, 49, 44, 93]⟩ : ByteArray) t119 t120 t121 _ ?side1 A3.out).mono ?_); (case side1 => first | exact HGU8.out | exact GlobU8.below HGU8.out (by repeat (first | (with_reducible first | exact HB.out | apply below_alloc | apply pw_below_drewN | apply below_drew1) | exact HB.out)) | exact GlobU8.drawn HGU8.out (by repeat (first | exact Drawn0.refl _ | apply Drawn0.step))); rintro e w33 ⟨v122, rfl, ho0, hb⟩; refine ⟨_, rfl, ?_⟩; have n0_ := Aside0.mk (Kd.R_elder' (by (with_reducible repeat (first | apply Kd.R_alloc | apply Kd.R_drewN | apply Kd.R_drew)); exact HO116.out) (Kd.R_base ho0) hb); have n1_ := Aside0.mk (Kd.R_lower (Kd.R_new' ho0 (Kd.R_lt (by (with_reducible repeat (first | apply Kd.R_alloc | apply Kd.R_drewN | apply Kd.R_drew)); exact HO116.out))) (below_size (by repeat (first | (with_reducible first | exact HB.out | apply below_alloc | apply pw_below_drewN | apply below_drew1) | exact HB.out)))); have n2_ := Aside0.mk (below_step (by repeat (first | (with_reducible first | exact HB.out | apply below_alloc | apply pw_below_drewN | apply below_drew1) | exact HB.out)) hb); clear HO116; clear HB; have HO116 := n0_; have HO123 := n1_; have HB := n2_; clear n0_ n1_ n2_; (try clear hb); (try clear hb2); (try clear hk); (try clear hi); (try clear ho0); have p124 : 0 ≤ (1 : Int) := (by omega); have q124 : 1 < (t112.length : Int) := of_decide_eq_true (by first | (with_reducible assumption) | assumption); obtain ⟨ad124, e124, hx124_0, hx124_1, hx124_2, hx124_3, hx124_4⟩ := at_T46 (Kd.R_reads' HO116.out).2.2 1 p124 q124; cases e124; (try simp only [show (1 : Int).toNat = 1 from rfl, Nat.reduceMul, Nat.reduceEqDiff, Go.Addr.add, ↓reduceIte] at hx124_0); (try simp only [show (1 : Int).toNat = 1 from rfl, Nat.reduceMul, Nat.reduceEqDiff, Go.Addr.add, ↓reduceIte] at hx124_1); (try simp only [show (1 : Int).toNat = 1 from rfl, Nat.reduceMul, Nat.reduceEqDiff, Go.Addr.add, ↓reduceIte] at hx124_2); (try simp only [show (1 : Int).toNat = 1 from rfl, Nat.reduceMul, Nat.reduceEqDiff, Go.Addr.add, ↓reduceIte] at hx124_3); (try simp only [show (1 : Int).toNat = 1 from rfl, Nat.reduceMul, Nat.reduceEqDiff, Go.Addr.add, ↓reduceIte] at hx124_4); have qi124 : (1 < t112.length) = True := eq_true (by omega); (try rw [show ((1 : Int)).toNat = 1 from rfl] at hx124_0); (try rw [show 1 * 5 = 5 from rfl] at hx124_0); (try rw [show ((1 : Int)).toNat = 1 from rfl] at hx124_1); (try rw [show 1 * 5 = 5 from rfl] at hx124_1); (try rw [show ((1 : Int)).toNat = 1 from rfl] at hx124_2); (try rw [show 1 * 5 = 5 from rfl] at hx124_2); (try rw [show ((1 : Int)).toNat = 1 from rfl] at hx124_3); (try rw [show 1 * 5 = 5 from rfl] at hx124_3); (try rw [show ((1 : Int)).toNat = 1 from rfl] at hx124_4); (try rw [show 1 * 5 = 5 from rfl] at hx124_4); replace p124 := eq_true p124; replace q124 := eq_true q124; have p125 : 0 ≤ (2 : Int) := (by omega); have q125 : 2 < (t112.length : Int) := of_decide_eq_true (by first | (with_reducible assumption) | assumption); obtain ⟨ad125, e125, hx125_0, hx125_1, hx125_2, hx125_3, hx125_4⟩ := at_T46 (Kd.R_reads' HO116.out).2.2 2 p125 q125; obtain rfl : ad124 = ad125 := (by injection e125); (try simp only [show (2 : Int).toNat = 2 from rfl, Nat.reduceMul, Nat.reduceEqDiff, Go.Addr.add, ↓reduceIte] at hx125_0); (try simp only [show (2 : Int).toNat = 2 from rfl, Nat.reduceMul, Nat.reduceEqDiff, Go.Addr.add, ↓reduceIte] at hx125_1); (try simp only [show (2 : Int).toNat = 2 from rfl, Nat.reduceMul, Nat.reduceEqDiff, Go.Addr.add, ↓reduceIte] at hx125_2); (try simp only [show (2 : Int).toNat = 2 from rfl, Nat.reduceMul, Nat.reduceEqDiff, Go.Addr.add, ↓reduceIte] at hx125_3); (try simp only [show (2 : Int).toNat = 2 from rfl, Nat.reduceMul, Nat.reduceEqDiff, Go.Addr.add, ↓reduceIte] at hx125_4); have qi125 : (2 < t112.length) = True := eq_true (by omega); (try rw [show ((2 : Int)).toNat = 2 from rfl] at hx125_0); (try rw [show 2 * 5 = 10 from rfl] at hx125_0); (try rw [show ((2 : Int)).toNat = 2 from rfl] at hx125_1); (try rw [show 2 * 5 = 10 from rfl] at hx125_1); (try rw [show ((2 : Int)).toNat = 2 from rfl] at hx125_2); (try rw [show 2 * 5 = 10 from rfl] at hx125_2); (try rw [show ((2 : Int)).toNat = 2 from rfl] at hx125_3); (try rw [show 2 * 5 = 10 from rfl] at hx125_3); (try rw [show ((2 : Int)).toNat = 2 from rfl] at hx125_4); (try rw [show 2 * 5 = 10 from rfl] at hx125_4); replace p125 := eq_true p125; replace q125 := eq_true q125))
                go_ret
                exact ⟨by first | rfl | (simp [errW_none, errW_some] <;> rfl) | (simp [*, errW_none, errW_some] <;> rfl), by repeat (first | (with_reducible first | exact HB.out | apply below_alloc | apply pw_below_drewN | apply below_drew1) | exact HB.out)⟩
            · rw [if_neg c9] at H
              exact absurd H (by simp)
          · rw [if_neg c8] at H
            have c8b0 : (((rd_T46 t112 1).f3).toList == ([97] : List UInt8)) = false := beq_eq_false_iff_ne.mpr c8
            have c8b1 : (((rd_T46 t112 1).f3).toList != ([97] : List UInt8)) = true := bne_iff_ne.mpr c8
            obtain rfl := Option.some.inj H
            go_enter Tryd.func13, Tryd.ntmps13
            go_wp2_with (first | ((with_reducible refine gate_callee (f := 10) rfl ?_); refine goesL_ (some 10) rfl rfl Tryd.func10 (by kernel_rfl) rfl #[.string (⟨#[123, 34, 97, 34, 58, 91, 49, 44, 116, 114, 117, 101, 93, 125]⟩ : ByteArray)] rfl (by (try simp only [List.map_toArray, List.map_cons, List.map_nil]); first | done | rfl | (simp only [List.length_drop, List.length_take]; rfl)) ?_; (with_reducible refine (jsontext_Parse.calls (⟨#[123, 34, 97, 34, 58, 91, 49, 44, 116, 114, 117, 101, 93, 125]⟩ : ByteArray) t112 t113 t114 _ ?side1 A1.out).mono ?_); (case side1 => first | exact HGU8.out | exact GlobU8.below HGU8.out (by repeat (first | (with_reducible first | exact HB.out | apply below_alloc | apply pw_below_drewN | apply below_drew1) | exact HB.out)) | exact GlobU8.drawn HGU8.out (by repeat (first | exact Drawn0.refl _ | apply Drawn0.step))); rintro e w34 ⟨v115, rfl, ho0, hb⟩; refine ⟨_, rfl, ?_⟩; have n0_ := Aside0.mk (Kd.R_lower ho0 (below_size (by repeat (first | (with_reducible first | exact HB.out | apply below_alloc | apply pw_below_drewN | apply below_drew1) | exact HB.out)))); have n1_ := Aside0.mk (below_step (by repeat (first | (with_reducible first | exact HB.out | apply below_alloc | apply pw_below_drewN | apply below_drew1) | exact HB.out)) hb); clear HB; have HO116 := n0_; have HB := n1_; clear n0_ n1_; (try clear hb); (try clear hb2); (try clear hk); (try clear hi); (try clear ho0); obtain ⟨Ao35, co35, eo35⟩ := Kd.R_slice HO116.out; subst eo35) | ((with_reducible refine gate_callee (f := 15) rfl ?_); refine goesL_ (some 16) rfl rfl Tryd.func15 (by kernel_rfl) rfl #[.slice Ao35 t112.length co35] rfl (by (try simp only [List.map_toArray, List.map_cons, List.map_nil]); first | done | rfl | (simp only [List.length_drop, List.length_take]; rfl)) ?_; (with_reducible refine (jsontext_Print.calls _ _ t112 t117 t118 _ ?side3 ?side1 ?side2 A2.out).mono ?_); (case side1 => repeat (first | exact (Kd.R_reads' HO116.out).2.2 | (with_reducible refine Kd.C_alloc ?_ _) | (with_reducible refine Kd.C_drewN ?_ _) | (with_reducible refine Kd.C_drew ?_))); (case side2 => exact (Kd.R_reads' HO116.out).2.1); (case side3 => first | exact HGU8.out | exact GlobU8.below HGU8.out (by repeat (first | (with_reducible first | exact HB.out | apply below_alloc | apply pw_below_drewN | apply below_drew1) | exact HB.out)) | exact GlobU8.drawn HGU8.out (by repeat (first | exact Drawn0.refl _ | apply Drawn0.step))); rintro e w36 ⟨rfl, hb⟩; refine ⟨_, rfl, ?_⟩; have n0_ := Aside0.mk (Kd.R_below (by (with_reducible repeat (first | apply Kd.R_alloc | apply Kd.R_drewN | apply Kd.R_drew)); exact HO116.out) hb); have n1_ := Aside0.mk (below_step (by repeat (first | (with_reducible first | exact HB.out | apply below_alloc | apply pw_below_drewN | apply below_drew1) | exact HB.out)) hb); clear HO116; clear HB; have HO116 := n0_; have HB := n1_; clear n0_ n1_; (try clear hb); (try clear hb2); (try clear hk); (try clear hi)) | ((with_reducible refine gate_callee (f := 10) rfl ?_); refine goesL_ (some 20) rfl rfl Tryd.func10 (by kernel_rfl) rfl #[.string (⟨#[91, 49, 44, 93]⟩ : ByteArray)] rfl (by (try simp only [List.map_toArray, List.map_cons, List.map_nil]); first | done | rfl | (simp only [List.length_drop, List.length_take]; rfl)) ?_; (with_reducible refine (jsontext_Parse.calls (⟨#[91, 49, 44, 93]⟩ : ByteArray) t119 t120 t121 _ ?side1 A3.out).mono ?_); (case side1 => first | exact HGU8.out | exact GlobU8.below HGU8.out (by repeat (first | (with_reducible first | exact HB.out | apply below_alloc | apply pw_below_drewN | apply below_drew1) | exact HB.out)) | exact GlobU8.drawn HGU8.out (by repeat (first | exact Drawn0.refl _ | apply Drawn0.step))); rintro e w37 ⟨v122, rfl, ho0, hb⟩; refine ⟨_, rfl, ?_⟩; have n0_ := Aside0.mk (Kd.R_elder' (by (with_reducible repeat (first | apply Kd.R_alloc | apply Kd.R_drewN | apply Kd.R_drew)); exact HO116.out) (Kd.R_base ho0) hb); have n1_ := Aside0.mk (Kd.R_lower (Kd.R_new' ho0 (Kd.R_lt (by (with_reducible repeat (first | apply Kd.R_alloc | apply Kd.R_drewN | apply Kd.R_drew)); exact HO116.out))) (below_size (by repeat (first | (with_reducible first | exact HB.out | apply below_alloc | apply pw_below_drewN | apply below_drew1) | exact HB.out)))); have n2_ := Aside0.mk (below_step (by repeat (first | (with_reducible first | exact HB.out | apply below_alloc | apply pw_below_drewN | apply below_drew1) | exact HB.out)) hb); clear HO116; clear HB; have HO116 := n0_; have HO123 := n1_; have HB := n2_; clear n0_ n1_ n2_; (try clear hb); (try clear hb2); (try clear hk); (try clear hi); (try clear ho0); have p124 : 0 ≤ (1 : Int) := (by omega); have q124 : 1 < (t112.length : Int) := of_decide_eq_true (by first | (with_reducible assumption) | assumption); obtain ⟨ad124, e124, hx124_0, hx124_1, hx124_2, hx124_3, hx124_4⟩ := at_T46 (Kd.R_reads' HO116.out).2.2 1 p124 q124; cases e124; (try simp only [show (1 : Int).toNat = 1 from rfl, Nat.reduceMul, Nat.reduceEqDiff, Go.Addr.add, ↓reduceIte] at hx124_0); (try simp only [show (1 : Int).toNat = 1 from rfl, Nat.reduceMul, Nat.reduceEqDiff, Go.Addr.add, ↓reduceIte] at hx124_1); (try simp only [show (1 : Int).toNat = 1 from rfl, Nat.reduceMul, Nat.reduceEqDiff, Go.Addr.add, ↓reduceIte] at hx124_2); (try simp only [show (1 : Int).toNat = 1 from rfl, Nat.reduceMul, Nat.reduceEqDiff, Go.Addr.add, ↓reduceIte] at hx124_3); (try simp only [show (1 : Int).toNat = 1 from rfl, Nat.reduceMul, Nat.reduceEqDiff, Go.Addr.add, ↓reduceIte] at hx124_4); have qi124 : (1 < t112.length) = True := eq_true (by omega); (try rw [show ((1 : Int)).toNat = 1 from rfl] at hx124_0); (try rw [show 1 * 5 = 5 from rfl] at hx124_0); (try rw [show ((1 : Int)).toNat = 1 from rfl] at hx124_1); (try rw [show 1 * 5 = 5 from rfl] at hx124_1); (try rw [show ((1 : Int)).toNat = 1 from rfl] at hx124_2); (try rw [show 1 * 5 = 5 from rfl] at hx124_2); (try rw [show ((1 : Int)).toNat = 1 from rfl] at hx124_3); (try rw [show 1 * 5 = 5 from rfl] at hx124_3); (try rw [show ((1 : Int)).toNat = 1 from rfl] at hx124_4); (try rw [show 1 * 5 = 5 from rfl] at hx124_4); replace p124 := eq_true p124; replace q124 := eq_true q124))
            go_ret
            exact ⟨by first | rfl | (simp [errW_none, errW_some] <;> rfl) | (simp [*, errW_none, errW_some] <;> rfl), by repeat (first | (with_reducible first | exact HB.out | apply below_alloc | apply pw_below_drewN | apply below_drew1) | exact HB.out)⟩
        · rw [if_neg c7] at H
          exact absurd H (by simp)
      · rw [if_neg c6] at H
        have c6b0 : (t114 == 0) = false := beq_eq_false_iff_ne.mpr c6
        have c6b1 : (t114 != 0) = true := bne_iff_ne.mpr c6
        obtain rfl := Option.some.inj H
        go_enter Tryd.func13, Tryd.ntmps13
        go_wp2_with (first | ((with_reducible refine gate_callee (f := 10) rfl ?_); refine goesL_ (some 10) rfl rfl Tryd.func10 (by kernel_rfl) rfl #[.string (⟨#[123, 34, 97, 34, 58, 91, 49, 44, 116, 114, 117, 101, 93, 125]⟩ : ByteArray)] rfl (by (try simp only [List.map_toArray, List.map_cons, List.map_nil]); first | done | rfl | (simp only [List.length_drop, List.length_take]; rfl)) ?_; (with_reducible refine (jsontext_Parse.calls (⟨#[123, 34, 97, 34, 58, 91, 49, 44, 116, 114, 117, 101, 93, 125]⟩ : ByteArray) t112 t113 t114 _ ?side1 A1.out).mono ?_); (case side1 => first | exact HGU8.out | exact GlobU8.below HGU8.out (by repeat (first | (with_reducible first | exact HB.out | apply below_alloc | apply pw_below_drewN | apply below_drew1) | exact HB.out)) | exact GlobU8.drawn HGU8.out (by repeat (first | exact Drawn0.refl _ | apply Drawn0.step))); rintro e w38 ⟨v115, rfl, ho0, hb⟩; refine ⟨_, rfl, ?_⟩; have n0_ := Aside0.mk (Kd.R_lower ho0 (below_size (by repeat (first | (with_reducible first | exact HB.out | apply below_alloc | apply pw_below_drewN | apply below_drew1) | exact HB.out)))); have n1_ := Aside0.mk (below_step (by repeat (first | (with_reducible first | exact HB.out | apply below_alloc | apply pw_below_drewN | apply below_drew1) | exact HB.out)) hb); clear HB; have HO116 := n0_; have HB := n1_; clear n0_ n1_; (try clear hb); (try clear hb2); (try clear hk); (try clear hi); (try clear ho0); obtain ⟨Ao39, co39, eo39⟩ := Kd.R_slice HO116.out; subst eo39) | ((with_reducible refine gate_callee (f := 15) rfl ?_); refine goesL_ (some 16) rfl rfl Tryd.func15 (by kernel_rfl) rfl #[.slice Ao39 t112.length co39] rfl (by (try simp only [List.map_toArray, List.map_cons, List.map_nil]); first | done | rfl | (simp only [List.length_drop, List.length_take]; rfl)) ?_; (with_reducible refine (jsontext_Print.calls _ _ t112 t117 t118 _ ?side3 ?side1 ?side2 A2.out).mono ?_); (case side1 => repeat (first | exact (Kd.R_reads' HO116.out).2.2 | (with_reducible refine Kd.C_alloc ?_ _) | (with_reducible refine Kd.C_drewN ?_ _) | (with_reducible refine Kd.C_drew ?_))); (case side2 => exact (Kd.R_reads' HO116.out).2.1); (case side3 => first | exact HGU8.out | exact GlobU8.below HGU8.out (by repeat (first | (with_reducible first | exact HB.out | apply below_alloc | apply pw_below_drewN | apply below_drew1) | exact HB.out)) | exact GlobU8.drawn HGU8.out (by repeat (first | exact Drawn0.refl _ | apply Drawn0.step))); rintro e w40 ⟨rfl, hb⟩; refine ⟨_, rfl, ?_⟩; have n0_ := Aside0.mk (Kd.R_below (by (with_reducible repeat (first | apply Kd.R_alloc | apply Kd.R_drewN | apply Kd.R_drew)); exact HO116.out) hb); have n1_ := Aside0.mk (below_step (by repeat (first | (with_reducible first | exact HB.out | apply below_alloc | apply pw_below_drewN | apply below_drew1) | exact HB.out)) hb); clear HO116; clear HB; have HO116 := n0_; have HB := n1_; clear n0_ n1_; (try clear hb); (try clear hb2); (try clear hk); (try clear hi)) | ((with_reducible refine gate_callee (f := 10) rfl ?_); refine goesL_ (some 20) rfl rfl Tryd.func10 (by kernel_rfl) rfl #[.string (⟨#[91, 49, 44, 93]⟩ : ByteArray)] rfl (by (try simp only [List.map_toArray, List.map_cons, List.map_nil]); first | done | rfl | (simp only [List.length_drop, List.length_take]; rfl)) ?_; (with_reducible refine (jsontext_Parse.calls (⟨#[91, 49, 44, 93]⟩ : ByteArray) t119 t120 t121 _ ?side1 A3.out).mono ?_); (case side1 => first | exact HGU8.out | exact GlobU8.below HGU8.out (by repeat (first | (with_reducible first | exact HB.out | apply below_alloc | apply pw_below_drewN | apply below_drew1) | exact HB.out)) | exact GlobU8.drawn HGU8.out (by repeat (first | exact Drawn0.refl _ | apply Drawn0.step))); rintro e w41 ⟨v122, rfl, ho0, hb⟩; refine ⟨_, rfl, ?_⟩; have n0_ := Aside0.mk (Kd.R_elder' (by (with_reducible repeat (first | apply Kd.R_alloc | apply Kd.R_drewN | apply Kd.R_drew)); exact HO116.out) (Kd.R_base ho0) hb); have n1_ := Aside0.mk (Kd.R_lower (Kd.R_new' ho0 (Kd.R_lt (by (with_reducible repeat (first | apply Kd.R_alloc | apply Kd.R_drewN | apply Kd.R_drew)); exact HO116.out))) (below_size (by repeat (first | (with_reducible first | exact HB.out | apply below_alloc | apply pw_below_drewN | apply below_drew1) | exact HB.out)))); have n2_ := Aside0.mk (below_step (by repeat (first | (with_reducible first | exact HB.out | apply below_alloc | apply pw_below_drewN | apply below_drew1) | exact HB.out)) hb); clear HO116; clear HB; have HO116 := n0_; have HO123 := n1_; have HB := n2_; clear n0_ n1_ n2_; (try clear hb); (try clear hb2); (try clear hk); (try clear hi); (try clear ho0)))
        go_ret
        exact ⟨by first | rfl | (simp [errW_none, errW_some] <;> rfl) | (simp [*, errW_none, errW_some] <;> rfl), by repeat (first | (with_reducible first | exact HB.out | apply below_alloc | apply pw_below_drewN | apply below_drew1) | exact HB.out)⟩
    · rw [if_neg c5] at H
      have c5b0 : (t113 == 0) = false := beq_eq_false_iff_ne.mpr c5
      have c5b1 : (t113 != 0) = true := bne_iff_ne.mpr c5
      obtain rfl := Option.some.inj H
      go_enter Tryd.func13, Tryd.ntmps13
      go_wp2_with (first | ((with_reducible refine gate_callee (f := 10) rfl ?_); refine goesL_ (some 10) rfl rfl Tryd.func10 (by kernel_rfl) rfl #[.string (⟨#[123, 34, 97, 34, 58, 91, 49, 44, 116, 114, 117, 101, 93, 125]⟩ : ByteArray)] rfl (by (try simp only [List.map_toArray, List.map_cons, List.map_nil]); first | done | rfl | (simp only [List.length_drop, List.length_take]; rfl)) ?_; (with_reducible refine (jsontext_Parse.calls (⟨#[123, 34, 97, 34, 58, 91, 49, 44, 116, 114, 117, 101, 93, 125]⟩ : ByteArray) t112 t113 t114 _ ?side1 A1.out).mono ?_); (case side1 => first | exact HGU8.out | exact GlobU8.below HGU8.out (by repeat (first | (with_reducible first | exact HB.out | apply below_alloc | apply pw_below_drewN | apply below_drew1) | exact HB.out)) | exact GlobU8.drawn HGU8.out (by repeat (first | exact Drawn0.refl _ | apply Drawn0.step))); rintro e w42 ⟨v115, rfl, ho0, hb⟩; refine ⟨_, rfl, ?_⟩; have n0_ := Aside0.mk (Kd.R_lower ho0 (below_size (by repeat (first | (with_reducible first | exact HB.out | apply below_alloc | apply pw_below_drewN | apply below_drew1) | exact HB.out)))); have n1_ := Aside0.mk (below_step (by repeat (first | (with_reducible first | exact HB.out | apply below_alloc | apply pw_below_drewN | apply below_drew1) | exact HB.out)) hb); clear HB; have HO116 := n0_; have HB := n1_; clear n0_ n1_; (try clear hb); (try clear hb2); (try clear hk); (try clear hi); (try clear ho0); obtain ⟨Ao43, co43, eo43⟩ := Kd.R_slice HO116.out; subst eo43) | ((with_reducible refine gate_callee (f := 15) rfl ?_); refine goesL_ (some 16) rfl rfl Tryd.func15 (by kernel_rfl) rfl #[.slice Ao43 t112.length co43] rfl (by (try simp only [List.map_toArray, List.map_cons, List.map_nil]); first | done | rfl | (simp only [List.length_drop, List.length_take]; rfl)) ?_; (with_reducible refine (jsontext_Print.calls _ _ t112 t117 t118 _ ?side3 ?side1 ?side2 A2.out).mono ?_); (case side1 => repeat (first | exact (Kd.R_reads' HO116.out).2.2 | (with_reducible refine Kd.C_alloc ?_ _) | (with_reducible refine Kd.C_drewN ?_ _) | (with_reducible refine Kd.C_drew ?_))); (case side2 => exact (Kd.R_reads' HO116.out).2.1); (case side3 => first | exact HGU8.out | exact GlobU8.below HGU8.out (by repeat (first | (with_reducible first | exact HB.out | apply below_alloc | apply pw_below_drewN | apply below_drew1) | exact HB.out)) | exact GlobU8.drawn HGU8.out (by repeat (first | exact Drawn0.refl _ | apply Drawn0.step))); rintro e w44 ⟨rfl, hb⟩; refine ⟨_, rfl, ?_⟩; have n0_ := Aside0.mk (Kd.R_below (by (with_reducible repeat (first | apply Kd.R_alloc | apply Kd.R_drewN | apply Kd.R_drew)); exact HO116.out) hb); have n1_ := Aside0.mk (below_step (by repeat (first | (with_reducible first | exact HB.out | apply below_alloc | apply pw_below_drewN | apply below_drew1) | exact HB.out)) hb); clear HO116; clear HB; have HO116 := n0_; have HB := n1_; clear n0_ n1_; (try clear hb); (try clear hb2); (try clear hk); (try clear hi)) | ((with_reducible refine gate_callee (f := 10) rfl ?_); refine goesL_ (some 20) rfl rfl Tryd.func10 (by kernel_rfl) rfl #[.string (⟨#[91, 49, 44, 93]⟩ : ByteArray)] rfl (by (try simp only [List.map_toArray, List.map_cons, List.map_nil]); first | done | rfl | (simp only [List.length_drop, List.length_take]; rfl)) ?_; (with_reducible refine (jsontext_Parse.calls (⟨#[91, 49, 44, 93]⟩ : ByteArray) t119 t120 t121 _ ?side1 A3.out).mono ?_); (case side1 => first | exact HGU8.out | exact GlobU8.below HGU8.out (by repeat (first | (with_reducible first | exact HB.out | apply below_alloc | apply pw_below_drewN | apply below_drew1) | exact HB.out)) | exact GlobU8.drawn HGU8.out (by repeat (first | exact Drawn0.refl _ | apply Drawn0.step))); rintro e w45 ⟨v122, rfl, ho0, hb⟩; refine ⟨_, rfl, ?_⟩; have n0_ := Aside0.mk (Kd.R_elder' (by (with_reducible repeat (first | apply Kd.R_alloc | apply Kd.R_drewN | apply Kd.R_drew)); exact HO116.out) (Kd.R_base ho0) hb); have n1_ := Aside0.mk (Kd.R_lower (Kd.R_new' ho0 (Kd.R_lt (by (with_reducible repeat (first | apply Kd.R_alloc | apply Kd.R_drewN | apply Kd.R_drew)); exact HO116.out))) (below_size (by repeat (first | (with_reducible first | exact HB.out | apply below_alloc | apply pw_below_drewN | apply below_drew1) | exact HB.out)))); have n2_ := Aside0.mk (below_step (by repeat (first | (with_reducible first | exact HB.out | apply below_alloc | apply pw_below_drewN | apply below_drew1) | exact HB.out)) hb); clear HO116; clear HB; have HO116 := n0_; have HO123 := n1_; have HB := n2_; clear n0_ n1_ n2_; (try clear hb); (try clear hb2); (try clear hk); (try clear hi); (try clear ho0)))
      go_ret
      exact ⟨by first | rfl | (simp [errW_none, errW_some] <;> rfl) | (simp [*, errW_none, errW_some] <;> rfl), by repeat (first | (with_reducible first | exact HB.out | apply below_alloc | apply pw_below_drewN | apply below_drew1) | exact HB.out)⟩
  · rw [if_neg c4] at H
    have c4b0 : ((t112.length : Int) == 4) = false := beq_eq_false_iff_ne.mpr c4
    have c4b1 : ((t112.length : Int) != 4) = true := bne_iff_ne.mpr c4
    obtain rfl := Option.some.inj H
    go_enter Tryd.func13, Tryd.ntmps13
    go_wp2_with (first | ((with_reducible refine gate_callee (f := 10) rfl ?_); refine goesL_ (some 10) rfl rfl Tryd.func10 (by kernel_rfl) rfl #[.string (⟨#[123, 34, 97, 34, 58, 91, 49, 44, 116, 114, 117, 101, 93, 125]⟩ : ByteArray)] rfl (by (try simp only [List.map_toArray, List.map_cons, List.map_nil]); first | done | rfl | (simp only [List.length_drop, List.length_take]; rfl)) ?_; (with_reducible refine (jsontext_Parse.calls (⟨#[123, 34, 97, 34, 58, 91, 49, 44, 116, 114, 117, 101, 93, 125]⟩ : ByteArray) t112 t113 t114 _ ?side1 A1.out).mono ?_); (case side1 => first | exact HGU8.out | exact GlobU8.below HGU8.out (by repeat (first | (with_reducible first | exact HB.out | apply below_alloc | apply pw_below_drewN | apply below_drew1) | exact HB.out)) | exact GlobU8.drawn HGU8.out (by repeat (first | exact Drawn0.refl _ | apply Drawn0.step))); rintro e w46 ⟨v115, rfl, ho0, hb⟩; refine ⟨_, rfl, ?_⟩; have n0_ := Aside0.mk (Kd.R_lower ho0 (below_size (by repeat (first | (with_reducible first | exact HB.out | apply below_alloc | apply pw_below_drewN | apply below_drew1) | exact HB.out)))); have n1_ := Aside0.mk (below_step (by repeat (first | (with_reducible first | exact HB.out | apply below_alloc | apply pw_below_drewN | apply below_drew1) | exact HB.out)) hb); clear HB; have HO116 := n0_; have HB := n1_; clear n0_ n1_; (try clear hb); (try clear hb2); (try clear hk); (try clear hi); (try clear ho0); obtain ⟨Ao47, co47, eo47⟩ := Kd.R_slice HO116.out; subst eo47) | ((with_reducible refine gate_callee (f := 15) rfl ?_); refine goesL_ (some 16) rfl rfl Tryd.func15 (by kernel_rfl) rfl #[.slice Ao47 t112.length co47] rfl (by (try simp only [List.map_toArray, List.map_cons, List.map_nil]); first | done | rfl | (simp only [List.length_drop, List.length_take]; rfl)) ?_; (with_reducible refine (jsontext_Print.calls _ _ t112 t117 t118 _ ?side3 ?side1 ?side2 A2.out).mono ?_); (case side1 => repeat (first | exact (Kd.R_reads' HO116.out).2.2 | (with_reducible refine Kd.C_alloc ?_ _) | (with_reducible refine Kd.C_drewN ?_ _) | (with_reducible refine Kd.C_drew ?_))); (case side2 => exact (Kd.R_reads' HO116.out).2.1); (case side3 => first | exact HGU8.out | exact GlobU8.below HGU8.out (by repeat (first | (with_reducible first | exact HB.out | apply below_alloc | apply pw_below_drewN | apply below_drew1) | exact HB.out)) | exact GlobU8.drawn HGU8.out (by repeat (first | exact Drawn0.refl _ | apply Drawn0.step))); rintro e w48 ⟨rfl, hb⟩; refine ⟨_, rfl, ?_⟩; have n0_ := Aside0.mk (Kd.R_below (by (with_reducible repeat (first | apply Kd.R_alloc | apply Kd.R_drewN | apply Kd.R_drew)); exact HO116.out) hb); have n1_ := Aside0.mk (below_step (by repeat (first | (with_reducible first | exact HB.out | apply below_alloc | apply pw_below_drewN | apply below_drew1) | exact HB.out)) hb); clear HO116; clear HB; have HO116 := n0_; have HB := n1_; clear n0_ n1_; (try clear hb); (try clear hb2); (try clear hk); (try clear hi)) | ((with_reducible refine gate_callee (f := 10) rfl ?_); refine goesL_ (some 20) rfl rfl Tryd.func10 (by kernel_rfl) rfl #[.string (⟨#[91, 49, 44, 93]⟩ : ByteArray)] rfl (by (try simp only [List.map_toArray, List.map_cons, List.map_nil]); first | done | rfl | (simp only [List.length_drop, List.length_take]; rfl)) ?_; (with_reducible refine (jsontext_Parse.calls (⟨#[91, 49, 44, 93]⟩ : ByteArray) t119 t120 t121 _ ?side1 A3.out).mono ?_); (case side1 => first | exact HGU8.out | exact GlobU8.below HGU8.out (by repeat (first | (with_reducible first | exact HB.out | apply below_alloc | apply pw_below_drewN | apply below_drew1) | exact HB.out)) | exact GlobU8.drawn HGU8.out (by repeat (first | exact Drawn0.refl _ | apply Drawn0.step))); rintro e w49 ⟨v122, rfl, ho0, hb⟩; refine ⟨_, rfl, ?_⟩; have n0_ := Aside0.mk (Kd.R_elder' (by (with_reducible repeat (first | apply Kd.R_alloc | apply Kd.R_drewN | apply Kd.R_drew)); exact HO116.out) (Kd.R_base ho0) hb); have n1_ := Aside0.mk (Kd.R_lower (Kd.R_new' ho0 (Kd.R_lt (by (with_reducible repeat (first | apply Kd.R_alloc | apply Kd.R_drewN | apply Kd.R_drew)); exact HO116.out))) (below_size (by repeat (first | (with_reducible first | exact HB.out | apply below_alloc | apply pw_below_drewN | apply below_drew1) | exact HB.out)))); have n2_ := Aside0.mk (below_step (by repeat (first | (with_reducible first | exact HB.out | apply below_alloc | apply pw_below_drewN | apply below_drew1) | exact HB.out)) hb); clear HO116; clear HB; have HO116 := n0_; have HO123 := n1_; have HB := n2_; clear n0_ n1_ n2_; (try clear hb); (try clear hb2); (try clear hk); (try clear hi); (try clear ho0)))
    go_ret
    exact ⟨by first | rfl | (simp [errW_none, errW_some] <;> rfl) | (simp [*, errW_none, errW_some] <;> rfl), by repeat (first | (with_reducible first | exact HB.out | apply below_alloc | apply pw_below_drewN | apply below_drew1) | exact HB.out)⟩

end Go.Proofs.YtadfkeipcebmfaaDoor.X

namespace Go.Proofs.YtadfkeipcebmfaaDoor.X
open Go.RowKit Go.Proofs.YtadfkeipcebmfaaDoorW.PrintWords Go.Proofs.YtadfkeipcebmfaaDoorW.PrintLast Go.Proofs.YtadfkeipcebmfaaDoorW.PrintMore
attribute [local go_sem] max2_int min2_int max_two min_two max_three min_three max_four min_four   -- for this text's walks alone
set_option linter.unusedVariables false
set_option linter.unusedSimpArgs false

mutual
def racewaylaw25_JsontextBlanks.l0 : Nat → ByteArray → Int → Int → List (S46) → ByteArray → Int → Int → Option (Bool)
  | 0, _, _, _, _, _, _, _ => none
  | k + 1, x0, x1, x2, x7, x10, x42, x43 => if x43 < x42 then (if 0 ≤ (Go.bits .and .i64 x1 3) then (if (Go.bits .and .i64 x1 3) ≤ (wrap64 ((Go.bits .and .i64 x1 3) + 1)) then (if (wrap64 ((Go.bits .and .i64 x1 3) + 1)) ≤ 4 then (if x10.size + ((⟨#[32, 9, 10, 13]⟩ : ByteArray).extract ((Go.bits .and .i64 x1 3) : Int).toNat ((wrap64 ((Go.bits .and .i64 x1 3) + 1)) : Int).toNat).size ≤ 9223372036854775807 then (racewaylaw25_JsontextBlanks.l0 k x0 x1 x2 x7 (x10 ++ ((⟨#[32, 9, 10, 13]⟩ : ByteArray).extract ((Go.bits .and .i64 x1 3) : Int).toNat ((wrap64 ((Go.bits .and .i64 x1 3) + 1)) : Int).toNat)) x42 (wrap64 (x43 + 1))) else (none)) else (none)) else (none)) else (none)) else (if x10.size + x0.size ≤ 9223372036854775807 then (if x10.size + x0.size + x10.size ≤ 9223372036854775807 then ((jsontext_Parse.f ((x10 ++ x0) ++ x10)).bind fun bt198 => (if bt198.2.2 = 0 then ((racewayref25_Same.f k x7 bt198.1).bind fun t203 => (racewaylaw25_JsontextBlanks.j1 k x0 x2 (!t203))) else (racewaylaw25_JsontextBlanks.j1 k x0 x2 true))) else (none)) else (none))
def racewaylaw25_JsontextBlanks.j1 : Nat → ByteArray → Int → Bool → Option (Bool)
  | 0, _, _, _ => none
  | k + 1, x0, x2, x71 => if x71 = true then (some false) else (if x0.size + 2 ≤ 9223372036854775807 then ((jsontext_Parse.f (x0 ++ (⟨#[32, 93]⟩ : ByteArray))).bind fun bt204 => (if x0.size + 1 ≤ 9223372036854775807 then ((some (([x2] : List Int) : List Int)).bind fun y209 => (if x0.size + 1 + (strOfNums y209).size ≤ 9223372036854775807 then ((jsontext_Parse.f ((x0 ++ (⟨#[44]⟩ : ByteArray)) ++ (strOfNums y209))).bind fun bt212 => (if bt204.2.1 = (wrap64 ((x0.size : Int) + 1)) then (if bt204.2.2 = 5 then (if bt212.2.1 = (x0.size : Int) then (if bt212.2.2 = 5 then ((racewaylaw25_works.f).bind fun t217 => (some t217)) else (some false)) else (some false)) else (some false)) else (some false))) else (none))) else (none))) else (none))
end
def racewaylaw25_JsontextBlanks.f (k : Nat) (a0 : ByteArray) (a1 : Int) (a2 : Int) : Option (Bool) := if 0 ≤ (mn (a0.size : Int) 1500) then (if (mn (a0.size : Int) 1500) ≤ (a0.size : Int) then ((jsontext_Parse.f (a0.extract 0 ((mn (a0.size : Int) 1500) : Int).toNat)).bind fun bt192 => (if bt192.2.2 = 0 then (racewaylaw25_JsontextBlanks.l0 k (a0.extract 0 ((mn (a0.size : Int) 1500) : Int).toNat) a1 a2 bt192.1 (⟨#[]⟩ : ByteArray) (Int.tmod (wrap64 ((Int.tmod a1 9) + 9)) 9) 0) else (if (bt192.1.length : Int) = 0 then ((racewaylaw25_works.f).bind fun t197 => (some t197)) else (some false)))) else (none)) else (none)
set_option maxHeartbeats 8000000 in
set_option maxRecDepth 100000 in
theorem racewaylaw25_JsontextBlanks.calls (k : Nat) (a0 : ByteArray) (a1 : Int) (a2 : Int) (r : Bool) (w : World) (hGU8 : GlobU8 w) (h : racewaylaw25_JsontextBlanks.f k a0 a1 a2 = some r) :
    Calls Tryd.prog 5 #[.string a0, .int .i64 a1, .int .u8 a2] w fun e w' => e = .returned (.bool r) ∧ Below w.heap.size w w' := by
  have HGU8 := Aside0.mk hGU8
  clear hGU8
  have HB := Aside0.mk (Below.refl w.heap.size w)
  have H : (if 0 ≤ (mn (a0.size : Int) 1500) then (if (mn (a0.size : Int) 1500) ≤ (a0.size : Int) then ((jsontext_Parse.f (a0.extract 0 ((mn (a0.size : Int) 1500) : Int).toNat)).bind fun bt192 => (if bt192.2.2 = 0 then (racewaylaw25_JsontextBlanks.l0 k (a0.extract 0 ((mn (a0.size : Int) 1500) : Int).toNat) a1 a2 bt192.1 (⟨#[]⟩ : ByteArray) (Int.tmod (wrap64 ((Int.tmod a1 9) + 9)) 9) 0) else (if (bt192.1.length : Int) = 0 then ((racewaylaw25_works.f).bind fun t197 => (some t197)) else (some false)))) else (none)) else (none)) = some r := h
  clear h
  obtain ⟨ji4, hji4⟩ : ∃ j_ : Int, (mn (a0.size : Int) 1500) = j_ := ⟨_, rfl⟩
  replace H : (if 0 ≤ (ji4) then (if (ji4) ≤ (a0.size : Int) then ((jsontext_Parse.f (a0.extract 0 ((ji4) : Int).toNat)).bind fun bt192 => (if bt192.2.2 = 0 then (racewaylaw25_JsontextBlanks.l0 k (a0.extract 0 ((ji4) : Int).toNat) a1 a2 bt192.1 (⟨#[]⟩ : ByteArray) (Int.tmod (wrap64 ((Int.tmod a1 9) + 9)) 9) 0) else (if (bt192.1.length : Int) = 0 then ((racewaylaw25_works.f).bind fun t197 => (some t197)) else (some false)))) else (none)) else (none)) = some r := by first | (rw [hji4] at H; exact H) | (simp only [hji4] at H ⊢; exact H)
  (try (have hji4h : ji4 ≤ 1500 := by (rw [← hji4]; unfold mn; (repeat' split) <;> omega)))
  (try (have hji4g : ji4 ≤ 64 := by omega))
  (try (have hji4l : 0 ≤ ji4 := by (rw [← hji4]; unfold mn; (repeat' split) <;> omega)))
  (try (have hji4m : 0 ≤ ji4 := by omega))
  have hji4_ : (if 1500 < (a0.size : Int) then 1500 else (a0.size : Int)) = ji4 := hji4
  by_cases c5 : 0 ≤ (ji4)
  · rw [if_pos c5] at H
    have c5b0 := eq_true c5
    have c5b1 : decide (0 ≤ (ji4)) = true := decide_eq_true c5
    clear c5
    by_cases c6 : (ji4) ≤ (a0.size : Int)
    · rw [if_pos c6] at H
      have c6b0 := eq_true c6
      have c6b1 : decide ((ji4) ≤ (a0.size : Int)) = true := decide_eq_true c6
      clear c6
      replace H := Option.bind_eq_some_iff.mp H
      obtain ⟨⟨t192, t193, t194⟩, A70, H⟩ := H
      replace H : (if t194 = 0 then (racewaylaw25_JsontextBlanks.l0 k (a0.extract 0 ((ji4) : Int).toNat) a1 a2 t192 (⟨#[]⟩ : ByteArray) (Int.tmod (wrap64 ((Int.tmod a1 9) + 9)) 9) 0) else (if (t192.length : Int) = 0 then ((racewaylaw25_works.f).bind fun t197 => (some t197)) else (some false))) = some r := H
      have A7 := Aside0.mk A70
      clear A70
      by_cases c8 : t194 = 0
      · rw [if_pos c8] at H
        have c8b0 : (t194 == 0) = true := beq_iff_eq.mpr c8
        have c8b1 : (t194 != 0) = false := bne_eq_false_iff_eq.mpr c8
        clear c8
        have H' := Aside0.mk H
        clear H
        go_enter Tryd.func5, Tryd.ntmps5
        go_wp2_with (first | ((with_reducible refine gate_callee (f := 10) rfl ?_); refine goesL_ (some 27) rfl rfl Tryd.func10 (by kernel_rfl) rfl #[.string (a0.extract 0 ((ji4) : Int).toNat)] rfl (by (try simp only [List.map_toArray, List.map_cons, List.map_nil]); first | done | (simp only [hji4]; rfl) | rfl | (simp only [List.length_drop, List.length_take]; rfl)) ?_; (with_reducible refine (jsontext_Parse.calls (a0.extract 0 ((ji4) : Int).toNat) t192 t193 t194 _ ?side1 A7.out).mono ?_); (case side1 => first | exact HGU8.out | exact GlobU8.below HGU8.out (by repeat (first | (with_reducible first | exact HB.out | apply below_alloc | apply pw_below_drewN | apply below_drew1) | exact HB.out)) | exact GlobU8.drawn HGU8.out (by repeat (first | exact Drawn0.refl _ | apply Drawn0.step))); rintro e w9 ⟨v195, rfl, ho0, hb⟩; refine ⟨_, rfl, ?_⟩; have n0_ := Aside0.mk (Kd.R_lower ho0 (below_size (by repeat (first | (with_reducible first | exact HB.out | apply below_alloc | apply pw_below_drewN | apply below_drew1) | exact HB.out)))); have n1_ := Aside0.mk (below_step (by repeat (first | (with_reducible first | exact HB.out | apply below_alloc | apply pw_below_drewN | apply below_drew1) | exact HB.out)) hb); clear HB; have HO196 := n0_; have HB := n1_; clear n0_ n1_; (try clear hb); (try clear hb2); (try clear hk); (try clear hi); (try clear ho0)))
        go_loopg [10, 43] k (fun kq v10 v43 w' => ∃ (x10_1 : ByteArray) (x43_1 : Int), v10 = .string x10_1 ∧ v43 = .int .i64 x43_1 ∧ Aside0 (racewaylaw25_JsontextBlanks.l0 kq (a0.extract 0 ((ji4) : Int).toNat) a1 a2 t192 x10_1 (Int.tmod (wrap64 ((Int.tmod a1 9) + 9)) 9) x43_1 = some r) ∧ Aside0 (kq ≤ k) ∧ Aside0 (Kd.R k46 46 w' w.heap.size (fun _ => True) v195 t192) ∧ Aside0 (Below w.heap.size w w'))
        case atStart => exact ⟨((⟨#[]⟩ : ByteArray)), (0), (by first | rfl | (simp; done) | (simp; decide +kernel) | (simp [*]; done)), (by first | rfl | (simp; done) | (simp; decide +kernel) | (simp [*]; done)), (by first | exact H' | (subst_vars; exact H')), ⟨Nat.le_refl _⟩, ⟨by (with_reducible repeat (first | apply Kd.R_alloc | apply Kd.R_drewN | apply Kd.R_drew)); exact HO196.out⟩, ⟨by repeat (first | (with_reducible first | exact HB.out | apply below_alloc | apply pw_below_drewN | apply below_drew1) | exact HB.out)⟩⟩
        case round =>
          clear H'
          try clear c1
          try clear p2
          try clear c5
          try clear c5b0
          try clear c5b1
          try clear c6
          try clear c6b0
          try clear c6b1
          try clear p6
          try clear c8
          try clear c8b0
          try clear c8b1
          obtain ⟨x10_1, x43_1, rfl, rfl, HA, HK1, HO_7, HB⟩ := hrel
          cases gk with
          | zero => exact absurd HA.out (by simp [racewaylaw25_JsontextBlanks.l0])
          | succ k1 =>
            have H := HA.out
            clear HA
            simp only [racewaylaw25_JsontextBlanks.l0] at H
            by_cases c10 : x43_1 < (Int.tmod (wrap64 ((Int.tmod a1 9) + 9)) 9)
            · rw [if_pos c10] at H
              have c10b0 : decide (x43_1 < (Int.tmod (wrap64 ((Int.tmod a1 9) + 9)) 9)) = true := decide_eq_true c10
              clear c10
              by_cases c11 : 0 ≤ (Go.bits .and .i64 a1 3)
              · rw [if_pos c11] at H
                have c11b0 := eq_true c11
                have c11b1 : decide (0 ≤ (Go.bits .and .i64 a1 3)) = true := decide_eq_true c11
                clear c11
                by_cases c12 : (Go.bits .and .i64 a1 3) ≤ (wrap64 ((Go.bits .and .i64 a1 3) + 1))
                · rw [if_pos c12] at H
                  have c12b0 := eq_true c12
                  have c12b1 : decide ((Go.bits .and .i64 a1 3) ≤ (wrap64 ((Go.bits .and .i64 a1 3) + 1))) = true := decide_eq_true c12
                  by_cases c13 : (wrap64 ((Go.bits .and .i64 a1 3) + 1)) ≤ 4
                  · rw [if_pos c13] at H
                    have c13b0 := eq_true c13
                    have c13b1 : decide ((wrap64 ((Go.bits .and .i64 a1 3) + 1)) ≤ 4) = true := decide_eq_true c13
                    by_cases c14 : x10_1.size + ((⟨#[32, 9, 10, 13]⟩ : ByteArray).extract ((Go.bits .and .i64 a1 3) : Int).toNat ((wrap64 ((Go.bits .and .i64 a1 3) + 1)) : Int).toNat).size ≤ 9223372036854775807
                    · rw [if_pos c14] at H
                      have c14b0 := eq_true c14
                      have c14b1 : decide (x10_1.size + ((⟨#[32, 9, 10, 13]⟩ : ByteArray).extract ((Go.bits .and .i64 a1 3) : Int).toNat ((wrap64 ((Go.bits .and .i64 a1 3) + 1)) : Int).toNat).size ≤ 9223372036854775807) = true := decide_eq_true c14
                      try have c14b2 : (9223372036854775807 < x10_1.size + ((⟨#[32, 9, 10, 13]⟩ : ByteArray).extract ((Go.bits .and .i64 a1 3) : Int).toNat ((wrap64 ((Go.bits .and .i64 a1 3) + 1)) : Int).toNat).size) = False := eq_false (Nat.not_lt.2 c14)
                      have H' := Aside0.mk H
                      clear H
                      go_wp2
                      go_roundg k1
                      case measure => have := HK1.out; omega
                      case rel => exact ⟨(x10_1 ++ ((⟨#[32, 9, 10, 13]⟩ : ByteArray).extract ((Go.bits .and .i64 a1 3) : Int).toNat ((wrap64 ((Go.bits .and .i64 a1 3) + 1)) : Int).toNat)), (wrap64 (x43_1 + 1)), (by first | rfl | (simp; done) | (simp; decide +kernel) | (simp [*]; done)), (by first | rfl | (simp; done) | (simp; decide +kernel) | (simp [*]; done)), (by first | exact H' | (subst_vars; exact H')), ⟨by have := HK1.out; omega⟩, ⟨by (with_reducible repeat (first | apply Kd.R_alloc | apply Kd.R_drewN | apply Kd.R_drew)); exact HO_7.out⟩, ⟨by repeat (first | (with_reducible first | exact HB.out | apply below_alloc | apply pw_below_drewN | apply below_drew1) | exact HB.out)⟩⟩
                    · rw [if_neg c14] at H
                      exact absurd H (by simp)
                  · rw [if_neg c13] at H
                    exact absurd H (by simp)
                · rw [if_neg c12] at H
                  exact absurd H (by simp)
              · rw [if_neg c11] at H
                exact absurd H (by simp)
            · rw [if_neg c10] at H
              have c10b0 : decide (x43_1 < (Int.tmod (wrap64 ((Int.tmod a1 9) + 9)) 9)) = false := decide_eq_false c10
              clear c10
              by_cases c15 : x10_1.size + (a0.extract 0 ((ji4) : Int).toNat).size ≤ 9223372036854775807
              · rw [if_pos c15] at H
                have c15b0 := eq_true c15
                have c15b1 : decide (x10_1.size + (a0.extract 0 ((ji4) : Int).toNat).size ≤ 9223372036854775807) = true := decide_eq_true c15
                try have c15b2 : (9223372036854775807 < x10_1.size + (a0.extract 0 ((ji4) : Int).toNat).size) = False := eq_false (Nat.not_lt.2 c15)
                try have c15b4 := c15b2
                try simp only [ByteArray.size_extract, Nat.sub_zero] at c15b4
                by_cases c16 : x10_1.size + (a0.extract 0 ((ji4) : Int).toNat).size + x10_1.size ≤ 9223372036854775807
                · rw [if_pos c16] at H
                  have c16b0 := eq_true c16
                  have c16b1 : decide (x10_1.size + (a0.extract 0 ((ji4) : Int).toNat).size + x10_1.size ≤ 9223372036854775807) = true := decide_eq_true c16
                  try have c16b2 : (9223372036854775807 < x10_1.size + (a0.extract 0 ((ji4) : Int).toNat).size + x10_1.size) = False := eq_false (Nat.not_lt.2 c16)
                  try have c16b4 := c16b2
                  try simp only [ByteArray.size_extract, Nat.sub_zero] at c16b4
                  replace H := Option.bind_eq_some_iff.mp H
                  obtain ⟨⟨t198, t199, t200⟩, A170, H⟩ := H
                  replace H : (if t200 = 0 then ((racewayref25_Same.f k1 t192 t198).bind fun t203 => (racewaylaw25_JsontextBlanks.j1 k1 (a0.extract 0 ((ji4) : Int).toNat) a2 (!t203))) else (racewaylaw25_JsontextBlanks.j1 k1 (a0.extract 0 ((ji4) : Int).toNat) a2 true)) = some r := H
                  have A17 := Aside0.mk A170
                  clear A170
                  have HC18 := Aside0.mk H
                  clear H
                  go_upto_region 11 with (first | ((with_reducible refine gate_callee (f := 10) rfl ?_); refine goesL_ (some 60) rfl rfl Tryd.func10 (by kernel_rfl) rfl #[.string ((x10_1 ++ (a0.extract 0 ((ji4) : Int).toNat)) ++ x10_1)] rfl (by (try simp only [List.map_toArray, List.map_cons, List.map_nil]); first | done | (simp only [hji4]; rfl) | rfl | (simp only [List.length_drop, List.length_take]; rfl)) ?_; (with_reducible refine (jsontext_Parse.calls ((x10_1 ++ (a0.extract 0 ((ji4) : Int).toNat)) ++ x10_1) t198 t199 t200 _ ?side1 A17.out).mono ?_); (case side1 => first | exact HGU8.out | exact GlobU8.below HGU8.out (by repeat (first | (with_reducible first | exact HB.out | apply below_alloc | apply pw_below_drewN | apply below_drew1) | exact HB.out)) | exact GlobU8.drawn HGU8.out (by repeat (first | exact Drawn0.refl _ | apply Drawn0.step))); rintro e w19 ⟨v201, rfl, ho0, hb⟩; refine ⟨_, rfl, ?_⟩; have n0_ := Aside0.mk (Kd.R_elder' (by (with_reducible repeat (first | apply Kd.R_alloc | apply Kd.R_drewN | apply Kd.R_drew)); exact HO_7.out) (Kd.R_base ho0) hb); have n1_ := Aside0.mk (Kd.R_lower (Kd.R_new' ho0 (Kd.R_lt (by (with_reducible repeat (first | apply Kd.R_alloc | apply Kd.R_drewN | apply Kd.R_drew)); exact HO_7.out))) (below_size (by repeat (first | (with_reducible first | exact HB.out | apply below_alloc | apply pw_below_drewN | apply below_drew1) | exact HB.out)))); have n2_ := Aside0.mk (below_step (by repeat (first | (with_reducible first | exact HB.out | apply below_alloc | apply pw_below_drewN | apply below_drew1) | exact HB.out)) hb); clear HO_7; clear HB; have HO_7 := n0_; have HO202 := n1_; have HB := n2_; clear n0_ n1_ n2_; (try clear hb); (try clear hb2); (try clear hk); (try clear hi); (try clear ho0)))
                  (try simp only [Act.put, List.setIfInBounds_toArray, List.set_cons_zero, List.set_cons_succ])
                  go_cut [71] (fun v71 wc => ∃ (kq : Nat) (x71_17 : Bool), v71 = .bool x71_17 ∧ Aside0 (racewaylaw25_JsontextBlanks.j1 kq (a0.extract 0 ((ji4) : Int).toNat) a2 x71_17 = some r) ∧ Aside0 (kq ≤ k1) ∧ Aside0 (Below w.heap.size w wc))
                  case first =>
                    have H := HC18.out
                    clear HC18
                    by_cases c20 : t200 = 0
                    · rw [if_pos c20] at H
                      have c20b0 : (t200 == 0) = true := beq_iff_eq.mpr c20
                      have c20b1 : (t200 != 0) = false := bne_eq_false_iff_eq.mpr c20
                      clear c20
                      (first | rw [c20b0] | (simp only [i64_w, i32_w]; rw [c20b0]) | skip)
                      replace H := Option.bind_eq_some_iff.mp H
                      obtain ⟨t203, A210, H⟩ := H
                      replace H : (racewaylaw25_JsontextBlanks.j1 k1 (a0.extract 0 ((ji4) : Int).toNat) a2 (!t203)) = some r := H
                      have A21 := Aside0.mk A210
                      clear A210
                      have H' := Aside0.mk H
                      clear H
                      obtain ⟨Ao22, co22, eo22⟩ := Kd.R_slice HO_7.out
                      subst eo22
                      obtain ⟨Ao23, co23, eo23⟩ := Kd.R_slice HO202.out
                      subst eo23
                      go_wp2_with (first | (go_at_call 12; (with_reducible refine (racewayref25_Same.calls k1 _ _ t192 _ _ t198 t203 _ ?side1 ?side2 ?side3 ?side4 A21.out).mono ?_); (case side1 => repeat (first | exact (Kd.R_reads' HO_7.out).2.2 | (with_reducible refine Kd.C_alloc ?_ _) | (with_reducible refine Kd.C_drewN ?_ _) | (with_reducible refine Kd.C_drew ?_))); (case side2 => exact (Kd.R_reads' HO_7.out).2.1); (case side3 => repeat (first | exact (Kd.R_reads' HO202.out).2.2 | (with_reducible refine Kd.C_alloc ?_ _) | (with_reducible refine Kd.C_drewN ?_ _) | (with_reducible refine Kd.C_drew ?_))); (case side4 => exact (Kd.R_reads' HO202.out).2.1); rintro e w' ⟨rfl, ⟨nd, rfl⟩⟩))
                      go_meet
                      case rel => exact ⟨_, (!t203), (by first | rfl | (simp; done) | (simp; decide +kernel) | (simp [*]; done)), (by first | exact H' | (subst_vars; exact H')), ⟨by have := HK1.out; first | omega | exact Nat.le_refl _⟩, ⟨by repeat (first | (with_reducible first | exact HB.out | apply below_alloc | apply pw_below_drewN | apply below_drew1) | exact HB.out)⟩⟩
                    · rw [if_neg c20] at H
                      have c20b0 : (t200 == 0) = false := beq_eq_false_iff_ne.mpr c20
                      have c20b1 : (t200 != 0) = true := bne_iff_ne.mpr c20
                      (first | rw [c20b0] | (simp only [i64_w, i32_w]; rw [c20b0]) | skip)
                      have H' := Aside0.mk H
                      clear H
                      go_wp2
                      go_meet
                      case rel => exact ⟨_, (true), (by first | rfl | (simp; done) | (simp; decide +kernel) | (simp [*]; done)), (by first | exact H' | (subst_vars; exact H')), ⟨by have := HK1.out; first | omega | exact Nat.le_refl _⟩, ⟨by repeat (first | (with_reducible first | exact HB.out | apply below_alloc | apply pw_below_drewN | apply below_drew1) | exact HB.out)⟩⟩
                  case rest =>
                    clear HC18
                    try clear c1
                    try clear c2
                    try clear p2
                    try clear c5
                    try clear c5b0
                    try clear c5b1
                    try clear c6
                    try clear c6b0
                    try clear c6b1
                    try clear p6
                    try clear c8
                    try clear c8b0
                    try clear c8b1
                    try clear c10
                    try clear c10b0
                    try clear c11
                    try clear c11b0
                    try clear c11b1
                    try clear c12
                    try clear c12b0
                    try clear c12b1
                    try clear c13
                    try clear c13b0
                    try clear c13b1
                    try clear c14
                    try clear c14b0
                    try clear c14b1
                    try clear c14b2
                    try clear c15
                    try clear c15b0
                    try clear c15b1
                    try clear c15b2
                    try clear c16
                    try clear c16b0
                    try clear c16b1
                    try clear c16b2
                    try clear c20
                    try clear c20b0
                    try clear c20b1
                    try clear p2
                    try clear p6
                    obtain ⟨kq, x71_17, rfl, HA, HJ17, HB⟩ := hcut
                    cases kq with
                    | zero => exact absurd HA.out (by simp [racewaylaw25_JsontextBlanks.j1])
                    | succ kj17 =>
                      have H := HA.out
                      clear HA
                      simp only [racewaylaw25_JsontextBlanks.j1] at H
                      by_cases c24 : x71_17 = true
                      · subst c24
                        have H1 : (some false) = some r := by rw [if_pos rfl] at H; exact H
                        clear H
                        have H := H1
                        clear H1
                        obtain rfl := Option.some.inj H
                        go_wp2
                        go_ret
                        exact ⟨by first | rfl | (simp [errW_none, errW_some] <;> rfl) | (simp only [← hji4]; first | rfl | (simp [errW_none, errW_some] <;> rfl)) | (simp [*, errW_none, errW_some] <;> rfl), by repeat (first | (with_reducible first | exact HB.out | apply below_alloc | apply pw_below_drewN | apply below_drew1) | exact HB.out)⟩
                      · replace c24 := Bool.eq_false_iff.mpr c24
                        subst c24
                        have H1 : (if (a0.extract 0 ((ji4) : Int).toNat).size + 2 ≤ 9223372036854775807 then ((jsontext_Parse.f ((a0.extract 0 ((ji4) : Int).toNat) ++ (⟨#[32, 93]⟩ : ByteArray))).bind fun bt204 => (if (a0.extract 0 ((ji4) : Int).toNat).size + 1 ≤ 9223372036854775807 then ((some (([a2] : List Int) : List Int)).bind fun y209 => (if (a0.extract 0 ((ji4) : Int).toNat).size + 1 + (strOfNums y209).size ≤ 9223372036854775807 then ((jsontext_Parse.f (((a0.extract 0 ((ji4) : Int).toNat) ++ (⟨#[44]⟩ : ByteArray)) ++ (strOfNums y209))).bind fun bt212 => (if bt204.2.1 = (wrap64 (((a0.extract 0 ((ji4) : Int).toNat).size : Int) + 1)) then (if bt204.2.2 = 5 then (if bt212.2.1 = ((a0.extract 0 ((ji4) : Int).toNat).size : Int) then (if bt212.2.2 = 5 then ((racewaylaw25_works.f).bind fun t217 => (some t217)) else (some false)) else (some false)) else (some false)) else (some false))) else (none))) else (none))) else (none)) = some r := by rw [if_neg (show ¬ (false = true) by decide)] at H; exact H
                        clear H
                        have H := H1
                        clear H1
                        by_cases c25 : (a0.extract 0 ((ji4) : Int).toNat).size + 2 ≤ 9223372036854775807
                        · rw [if_pos c25] at H
                          have c25b0 := eq_true c25
                          have c25b1 : decide ((a0.extract 0 ((ji4) : Int).toNat).size + 2 ≤ 9223372036854775807) = true := decide_eq_true c25
                          try have c25b2 : (9223372036854775807 < (a0.extract 0 ((ji4) : Int).toNat).size + 2) = False := eq_false (Nat.not_lt.2 c25)
                          try have c25b4 := c25b2
                          try simp only [ByteArray.size_extract, Nat.sub_zero] at c25b4
                          replace H := Option.bind_eq_some_iff.mp H
                          obtain ⟨⟨t204, t205, t206⟩, A260, H⟩ := H
                          replace H : (if (a0.extract 0 ((ji4) : Int).toNat).size + 1 ≤ 9223372036854775807 then ((some (([a2] : List Int) : List Int)).bind fun y209 => (if (a0.extract 0 ((ji4) : Int).toNat).size + 1 + (strOfNums y209).size ≤ 9223372036854775807 then ((jsontext_Parse.f (((a0.extract 0 ((ji4) : Int).toNat) ++ (⟨#[44]⟩ : ByteArray)) ++ (strOfNums y209))).bind fun bt212 => (if t205 = (wrap64 (((a0.extract 0 ((ji4) : Int).toNat).size : Int) + 1)) then (if t206 = 5 then (if bt212.2.1 = ((a0.extract 0 ((ji4) : Int).toNat).size : Int) then (if bt212.2.2 = 5 then ((racewaylaw25_works.f).bind fun t217 => (some t217)) else (some false)) else (some false)) else (some false)) else (some false))) else (none))) else (none)) = some r := H
                          have A26 := Aside0.mk A260
                          clear A260
                          by_cases c27 : (a0.extract 0 ((ji4) : Int).toNat).size + 1 ≤ 9223372036854775807
                          · rw [if_pos c27] at H
                            have c27b0 := eq_true c27
                            have c27b1 : decide ((a0.extract 0 ((ji4) : Int).toNat).size + 1 ≤ 9223372036854775807) = true := decide_eq_true c27
                            try have c27b2 : (9223372036854775807 < (a0.extract 0 ((ji4) : Int).toNat).size + 1) = False := eq_false (Nat.not_lt.2 c27)
                            try have c27b4 := c27b2
                            try simp only [ByteArray.size_extract, Nat.sub_zero] at c27b4
                            obtain ⟨y209, hy209⟩ : ∃ y_ : List Int, y_ = (([a2] : List Int)) := ⟨_, rfl⟩
                            replace H : (if (a0.extract 0 ((ji4) : Int).toNat).size + 1 + (strOfNums y209).size ≤ 9223372036854775807 then ((jsontext_Parse.f (((a0.extract 0 ((ji4) : Int).toNat) ++ (⟨#[44]⟩ : ByteArray)) ++ (strOfNums y209))).bind fun bt212 => (if t205 = (wrap64 (((a0.extract 0 ((ji4) : Int).toNat).size : Int) + 1)) then (if t206 = 5 then (if bt212.2.1 = ((a0.extract 0 ((ji4) : Int).toNat).size : Int) then (if bt212.2.2 = 5 then ((racewaylaw25_works.f).bind fun t217 => (some t217)) else (some false)) else (some false)) else (some false)) else (some false))) else (none)) = some r := by first | (rw [hy209]; with_reducible exact H) | (have H2_ := (Option.bind_some _ _).symm.trans H; rw [hy209]; with_reducible exact H2_) | (have H2_ := (Option.bind_some _ _).symm.trans H; with_reducible exact H2_) | with_reducible exact H | (rw [hy209]; exact H) | exact H
                            have Ny209 := Aside0.mk hy209
                            clear hy209
                            by_cases c28 : (a0.extract 0 ((ji4) : Int).toNat).size + 1 + (strOfNums y209).size ≤ 9223372036854775807
                            · rw [if_pos c28] at H
                              have c28b0 := eq_true c28
                              have c28b1 : decide ((a0.extract 0 ((ji4) : Int).toNat).size + 1 + (strOfNums y209).size ≤ 9223372036854775807) = true := decide_eq_true c28
                              try have c28b2 : (9223372036854775807 < (a0.extract 0 ((ji4) : Int).toNat).size + 1 + (strOfNums y209).size) = False := eq_false (Nat.not_lt.2 c28)
                              try have c28b4 := c28b2
                              try simp only [ByteArray.size_extract, Nat.sub_zero] at c28b4
                              replace H := Option.bind_eq_some_iff.mp H
                              obtain ⟨⟨t212, t213, t214⟩, A290, H⟩ := H
                              replace H : (if t205 = (wrap64 (((a0.extract 0 ((ji4) : Int).toNat).size : Int) + 1)) then (if t206 = 5 then (if t213 = ((a0.extract 0 ((ji4) : Int).toNat).size : Int) then (if t214 = 5 then ((racewaylaw25_works.f).bind fun t217 => (some t217)) else (some false)) else (some false)) else (some false)) else (some false)) = some r := H
                              have A29 := Aside0.mk A290
                              clear A290
                              by_cases c30 : t205 = (wrap64 (((a0.extract 0 ((ji4) : Int).toNat).size : Int) + 1))
                              · rw [if_pos c30] at H
                                have c30b0 : (t205 == (wrap64 (((a0.extract 0 ((ji4) : Int).toNat).size : Int) + 1))) = true := beq_iff_eq.mpr c30
                                have c30b5 : (t205 == (((min ji4.toNat a0.size : Nat) : Int) + 1)) = true := by rw [← (show (wrap64 (((a0.extract 0 ((ji4) : Int).toNat).size : Int) + 1)) = (((min ji4.toNat a0.size : Nat) : Int) + 1) by simp only [ByteArray.size_extract, Nat.sub_zero]; try (unfold wrap64; omega))]; exact c30b0
                                have c30b1 : (t205 != (wrap64 (((a0.extract 0 ((ji4) : Int).toNat).size : Int) + 1))) = false := bne_eq_false_iff_eq.mpr c30
                                have c30b6 : (t205 != (((min ji4.toNat a0.size : Nat) : Int) + 1)) = false := by rw [← (show (wrap64 (((a0.extract 0 ((ji4) : Int).toNat).size : Int) + 1)) = (((min ji4.toNat a0.size : Nat) : Int) + 1) by simp only [ByteArray.size_extract, Nat.sub_zero]; try (unfold wrap64; omega))]; exact c30b1
                                clear c30
                                by_cases c31 : t206 = 5
                                · rw [if_pos c31] at H
                                  have c31b0 : (t206 == 5) = true := beq_iff_eq.mpr c31
                                  have c31b1 : (t206 != 5) = false := bne_eq_false_iff_eq.mpr c31
                                  clear c31
                                  by_cases c32 : t213 = ((a0.extract 0 ((ji4) : Int).toNat).size : Int)
                                  · rw [if_pos c32] at H
                                    have c32b0 : (t213 == ((a0.extract 0 ((ji4) : Int).toNat).size : Int)) = true := beq_iff_eq.mpr c32
                                    have c32b5 : (t213 == ((min ji4.toNat a0.size : Nat) : Int)) = true := by rw [← (show ((a0.extract 0 ((ji4) : Int).toNat).size : Int) = ((min ji4.toNat a0.size : Nat) : Int) by simp only [ByteArray.size_extract, Nat.sub_zero]; try (unfold wrap64; omega))]; exact c32b0
                                    have c32b1 : (t213 != ((a0.extract 0 ((ji4) : Int).toNat).size : Int)) = false := bne_eq_false_iff_eq.mpr c32
                                    have c32b6 : (t213 != ((min ji4.toNat a0.size : Nat) : Int)) = false := by rw [← (show ((a0.extract 0 ((ji4) : Int).toNat).size : Int) = ((min ji4.toNat a0.size : Nat) : Int) by simp only [ByteArray.size_extract, Nat.sub_zero]; try (unfold wrap64; omega))]; exact c32b1
                                    clear c32
                                    by_cases c33 : t214 = 5
                                    · rw [if_pos c33] at H
                                      have c33b0 : (t214 == 5) = true := beq_iff_eq.mpr c33
                                      have c33b1 : (t214 != 5) = false := bne_eq_false_iff_eq.mpr c33
                                      clear c33
                                      replace H := Option.bind_eq_some_iff.mp H
                                      obtain ⟨t217, A340, H⟩ := H
                                      replace H : (some t217) = some r := H
                                      have A34 := Aside0.mk A340
                                      clear A340
                                      obtain rfl := Option.some.inj H
                                      go_wp2_with (first | ((with_reducible refine gate_callee (f := 10) rfl ?_); refine goesL_ (some 75) rfl rfl Tryd.func10 (by kernel_rfl) rfl #[.string ((a0.extract 0 ((ji4) : Int).toNat) ++ (⟨#[32, 93]⟩ : ByteArray))] rfl (by (try simp only [List.map_toArray, List.map_cons, List.map_nil]); first | done | (simp only [hji4]; rfl) | rfl | (simp only [List.length_drop, List.length_take]; rfl)) ?_; (with_reducible refine (jsontext_Parse.calls ((a0.extract 0 ((ji4) : Int).toNat) ++ (⟨#[32, 93]⟩ : ByteArray)) t204 t205 t206 _ ?side1 A26.out).mono ?_); (case side1 => first | exact HGU8.out | exact GlobU8.below HGU8.out (by repeat (first | (with_reducible first | exact HB.out | apply below_alloc | apply pw_below_drewN | apply below_drew1) | exact HB.out)) | exact GlobU8.drawn HGU8.out (by repeat (first | exact Drawn0.refl _ | apply Drawn0.step))); rintro e w35 ⟨v207, rfl, ho0, hb⟩; refine ⟨_, rfl, ?_⟩; have n0_ := Aside0.mk (Kd.R_lower ho0 (below_size (by repeat (first | (with_reducible first | exact HB.out | apply below_alloc | apply pw_below_drewN | apply below_drew1) | exact HB.out)))); have n1_ := Aside0.mk (below_step (by repeat (first | (with_reducible first | exact HB.out | apply below_alloc | apply pw_below_drewN | apply below_drew1) | exact HB.out)) hb); clear HB; have HO208 := n0_; have HB := n1_; clear n0_ n1_; (try clear hb); (try clear hb2); (try clear hk); (try clear hi); (try clear ho0)) | ((with_reducible refine gate_dst (N := 83) rfl ?_); (try (refine gate_guard (by rfl) ?_; dsimp only)); refine Kd.R_lit (Kd.int .u8) _ 5 ?hg (N := 83) ?hd (xs := ([a2] : List Int)) (inner := [.int .u8 a2]) (ok := fun _ => True) (okp := fun _ => True) ?hr ?hp (fun _ hk => hk) trivial (Below.refl _ _) (Nat.le_refl _) (by simp) ?_; (case hd => rfl); (case hg => rfl); (case hr => first | (go_simp; done) | (go_simp; rfl)); (case hp => exact (Reps.one (show Kd.M (Kd.int .u8) _ _ _ a2 [.int .u8 a2] from rfl) (Reps.none _ _))); intro v210 w36 ho37 hb hg_ hnew_; clear hg_ hnew_; (first | rw [← Ny209.out] at ho37 | (simp only [Int.reduceToNat] at ho37; rw [← Ny209.out] at ho37)); have n0_ := Aside0.mk (Kd.R_below (by (with_reducible repeat (first | apply Kd.R_alloc | apply Kd.R_drewN | apply Kd.R_drew)); exact HO208.out) hb); have n1_ := Aside0.mk (Kd.R_lower ho37 (below_size (by repeat (first | (with_reducible first | exact HB.out | apply below_alloc | apply pw_below_drewN | apply below_drew1) | exact HB.out)))); have n2_ := Aside0.mk (below_step (by repeat (first | (with_reducible first | exact HB.out | apply below_alloc | apply pw_below_drewN | apply below_drew1) | exact HB.out)) hb); clear HO208; clear HB; have HO208 := n0_; have HO211 := n1_; have HB := n2_; clear n0_ n1_ n2_; clear hb ho37; have hcv38 := own_string (P := Tryd.prog) Tryd.underlying36 Tryd.underlying5 Tryd.underlying9 (Kd.own_of_R HO211.out)) | ((with_reducible refine gate_callee (f := 10) rfl ?_); refine goesL_ (some 86) rfl rfl Tryd.func10 (by kernel_rfl) rfl #[.string (((a0.extract 0 ((ji4) : Int).toNat) ++ (⟨#[44]⟩ : ByteArray)) ++ (strOfNums y209))] rfl (by (try simp only [List.map_toArray, List.map_cons, List.map_nil]); first | done | (simp only [hji4]; rfl) | rfl | (simp only [List.length_drop, List.length_take]; rfl)) ?_; (with_reducible refine (jsontext_Parse.calls (((a0.extract 0 ((ji4) : Int).toNat) ++ (⟨#[44]⟩ : ByteArray)) ++ (strOfNums y209)) t212 t213 t214 _ ?side1 A29.out).mono ?_); (case side1 => first | exact HGU8.out | exact GlobU8.below HGU8.out (by repeat (first | (with_reducible first | exact HB.out | apply below_alloc | apply pw_below_drewN | apply below_drew1) | exact HB.out)) | exact GlobU8.drawn HGU8.out (by repeat (first | exact Drawn0.refl _ | apply Drawn0.step))); rintro e w39 ⟨v215, rfl, ho0, hb⟩; refine ⟨_, rfl, ?_⟩; have n0_ := Aside0.mk (Kd.R_elder' (by (with_reducible repeat (first | apply Kd.R_alloc | apply Kd.R_drewN | apply Kd.R_drew)); exact HO208.out) (Kd.R_base ho0) hb); have n1_ := Aside0.mk (Kd.R_below (by (with_reducible repeat (first | apply Kd.R_alloc | apply Kd.R_drewN | apply Kd.R_drew)); exact HO211.out) hb); have n2_ := Aside0.mk (Kd.R_lower (Kd.R_new' ho0 (Kd.R_lt (by (with_reducible repeat (first | apply Kd.R_alloc | apply Kd.R_drewN | apply Kd.R_drew)); exact HO208.out))) (below_size (by repeat (first | (with_reducible first | exact HB.out | apply below_alloc | apply pw_below_drewN | apply below_drew1) | exact HB.out)))); have n3_ := Aside0.mk (below_step (by repeat (first | (with_reducible first | exact HB.out | apply below_alloc | apply pw_below_drewN | apply below_drew1) | exact HB.out)) hb); clear HO208; clear HO211; clear HB; have HO208 := n0_; have HO211 := n1_; have HO216 := n2_; have HB := n3_; clear n0_ n1_ n2_ n3_; (try clear hb); (try clear hb2); (try clear hk); (try clear hi); (try clear ho0)) | (go_at_call 13; (with_reducible refine (racewaylaw25_works.calls  t217 _ ?side1 A34.out).mono ?_); (case side1 => first | exact HGU8.out | exact GlobU8.below HGU8.out (by repeat (first | (with_reducible first | exact HB.out | apply below_alloc | apply pw_below_drewN | apply below_drew1) | exact HB.out)) | exact GlobU8.drawn HGU8.out (by repeat (first | exact Drawn0.refl _ | apply Drawn0.step))); rintro e w40 ⟨rfl, hb⟩; have n0_ := Aside0.mk (Kd.R_below (by (with_reducible repeat (first | apply Kd.R_alloc | apply Kd.R_drewN | apply Kd.R_drew)); exact HO208.out) hb); have n1_ := Aside0.mk (Kd.R_below (by (with_reducible repeat (first | apply Kd.R_alloc | apply Kd.R_drewN | apply Kd.R_drew)); exact HO211.out) hb); have n2_ := Aside0.mk (Kd.R_below (by (with_reducible repeat (first | apply Kd.R_alloc | apply Kd.R_drewN | apply Kd.R_drew)); exact HO216.out) hb); have n3_ := Aside0.mk (below_step (by repeat (first | (with_reducible first | exact HB.out | apply below_alloc | apply pw_below_drewN | apply below_drew1) | exact HB.out)) hb); clear HO208; clear HO211; clear HO216; clear HB; have HO208 := n0_; have HO211 := n1_; have HO216 := n2_; have HB := n3_; clear n0_ n1_ n2_ n3_; (try clear hb); (try clear hb2); (try clear hk); (try clear hi)))
                                      go_ret
                                      exact ⟨by first | rfl | (simp [errW_none, errW_some] <;> rfl) | (simp only [← hji4]; first | rfl | (simp [errW_none, errW_some] <;> rfl)) | (simp [*, errW_none, errW_some] <;> rfl), by repeat (first | (with_reducible first | exact HB.out | apply below_alloc | apply pw_below_drewN | apply below_drew1) | exact HB.out)⟩
                                    · rw [if_neg c33] at H
                                      have c33b0 : (t214 == 5) = false := beq_eq_false_iff_ne.mpr c33
                                      have c33b1 : (t214 != 5) = true := bne_iff_ne.mpr c33
                                      obtain rfl := Option.some.inj H
                                      go_wp2_with (first | ((with_reducible refine gate_callee (f := 10) rfl ?_); refine goesL_ (some 75) rfl rfl Tryd.func10 (by kernel_rfl) rfl #[.string ((a0.extract 0 ((ji4) : Int).toNat) ++ (⟨#[32, 93]⟩ : ByteArray))] rfl (by (try simp only [List.map_toArray, List.map_cons, List.map_nil]); first | done | (simp only [hji4]; rfl) | rfl | (simp only [List.length_drop, List.length_take]; rfl)) ?_; (with_reducible refine (jsontext_Parse.calls ((a0.extract 0 ((ji4) : Int).toNat) ++ (⟨#[32, 93]⟩ : ByteArray)) t204 t205 t206 _ ?side1 A26.out).mono ?_); (case side1 => first | exact HGU8.out | exact GlobU8.below HGU8.out (by repeat (first | (with_reducible first | exact HB.out | apply below_alloc | apply pw_below_drewN | apply below_drew1) | exact HB.out)) | exact GlobU8.drawn HGU8.out (by repeat (first | exact Drawn0.refl _ | apply Drawn0.step))); rintro e w41 ⟨v207, rfl, ho0, hb⟩; refine ⟨_, rfl, ?_⟩; have n0_ := Aside0.mk (Kd.R_lower ho0 (below_size (by repeat (first | (with_reducible first | exact HB.out | apply below_alloc | apply pw_below_drewN | apply below_drew1) | exact HB.out)))); have n1_ := Aside0.mk (below_step (by repeat (first | (with_reducible first | exact HB.out | apply below_alloc | apply pw_below_drewN | apply below_drew1) | exact HB.out)) hb); clear HB; have HO208 := n0_; have HB := n1_; clear n0_ n1_; (try clear hb); (try clear hb2); (try clear hk); (try clear hi); (try clear ho0)) | ((with_reducible refine gate_dst (N := 83) rfl ?_); (try (refine gate_guard (by rfl) ?_; dsimp only)); refine Kd.R_lit (Kd.int .u8) _ 5 ?hg (N := 83) ?hd (xs := ([a2] : List Int)) (inner := [.int .u8 a2]) (ok := fun _ => True) (okp := fun _ => True) ?hr ?hp (fun _ hk => hk) trivial (Below.refl _ _) (Nat.le_refl _) (by simp) ?_; (case hd => rfl); (case hg => rfl); (case hr => first | (go_simp; done) | (go_simp; rfl)); (case hp => exact (Reps.one (show Kd.M (Kd.int .u8) _ _ _ a2 [.int .u8 a2] from rfl) (Reps.none _ _))); intro v210 w42 ho43 hb hg_ hnew_; clear hg_ hnew_; (first | rw [← Ny209.out] at ho43 | (simp only [Int.reduceToNat] at ho43; rw [← Ny209.out] at ho43)); have n0_ := Aside0.mk (Kd.R_below (by (with_reducible repeat (first | apply Kd.R_alloc | apply Kd.R_drewN | apply Kd.R_drew)); exact HO208.out) hb); have n1_ := Aside0.mk (Kd.R_lower ho43 (below_size (by repeat (first | (with_reducible first | exact HB.out | apply below_alloc | apply pw_below_drewN | apply below_drew1) | exact HB.out)))); have n2_ := Aside0.mk (below_step (by repeat (first | (with_reducible first | exact HB.out | apply below_alloc | apply pw_below_drewN | apply below_drew1) | exact HB.out)) hb); clear HO208; clear HB; have HO208 := n0_; have HO211 := n1_; have HB := n2_; clear n0_ n1_ n2_; clear hb ho43; have hcv44 := own_string (P := Tryd.prog) Tryd.underlying36 Tryd.underlying5 Tryd.underlying9 (Kd.own_of_R HO211.out)) | ((with_reducible refine gate_callee (f := 10) rfl ?_); refine goesL_ (some 86) rfl rfl Tryd.func10 (by kernel_rfl) rfl #[.string (((a0.extract 0 ((ji4) : Int).toNat) ++ (⟨#[44]⟩ : ByteArray)) ++ (strOfNums y209))] rfl (by (try simp only [List.map_toArray, List.map_cons, List.map_nil]); first | done | (simp only [hji4]; rfl) | rfl | (simp only [List.length_drop, List.length_take]; rfl)) ?_; (with_reducible refine (jsontext_Parse.calls (((a0.extract 0 ((ji4) : Int).toNat) ++ (⟨#[44]⟩ : ByteArray)) ++ (strOfNums y209)) t212 t213 t214 _ ?side1 A29.out).mono ?_); (case side1 => first | exact HGU8.out | exact GlobU8.below HGU8.out (by repeat (first | (with_reducible first | exact HB.out | apply below_alloc | apply pw_below_drewN | apply below_drew1) | exact HB.out)) | exact GlobU8.drawn HGU8.out (by repeat (first | exact Drawn0.refl _ | apply Drawn0.step))); rintro e w45 ⟨v215, rfl, ho0, hb⟩; refine ⟨_, rfl, ?_⟩; have n0_ := Aside0.mk (Kd.R_elder' (by (with_reducible repeat (first | apply Kd.R_alloc | apply Kd.R_drewN | apply Kd.R_drew)); exact HO208.out) (Kd.R_base ho0) hb); have n1_ := Aside0.mk (Kd.R_below (by (with_reducible repeat (first | apply Kd.R_alloc | apply Kd.R_drewN | apply Kd.R_drew)); exact HO211.out) hb); have n2_ := Aside0.mk (Kd.R_lower (Kd.R_new' ho0 (Kd.R_lt (by (with_reducible repeat (first | apply Kd.R_alloc | apply Kd.R_drewN | apply Kd.R_drew)); exact HO208.out))) (below_size (by repeat (first | (with_reducible first | exact HB.out | apply below_alloc | apply pw_below_drewN | apply below_drew1) | exact HB.out)))); have n3_ := Aside0.mk (below_step (by repeat (first | (with_reducible first | exact HB.out | apply below_alloc | apply pw_below_drewN | apply below_drew1) | exact HB.out)) hb); clear HO208; clear HO211; clear HB; have HO208 := n0_; have HO211 := n1_; have HO216 := n2_; have HB := n3_; clear n0_ n1_ n2_ n3_; (try clear hb); (try clear hb2); (try clear hk); (try clear hi); (try clear ho0)))
                                      go_ret
                                      exact ⟨by first | rfl | (simp [errW_none, errW_some] <;> rfl) | (simp only [← hji4]; first | rfl | (simp [errW_none, errW_some] <;> rfl)) | (simp [*, errW_none, errW_some] <;> rfl), by repeat (first | (with_reducible first | exact HB.out | apply below_alloc | apply pw_below_drewN | apply below_drew1) | exact HB.out)⟩
                                  · rw [if_neg c32] at H
                                    have c32b0 : (t213 == ((a0.extract 0 ((ji4) : Int).toNat).size : Int)) = false := beq_eq_false_iff_ne.mpr c32
                                    have c32b5 : (t213 == ((min ji4.toNat a0.size : Nat) : Int)) = false := by rw [← (show ((a0.extract 0 ((ji4) : Int).toNat).size : Int) = ((min ji4.toNat a0.size : Nat) : Int) by simp only [ByteArray.size_extract, Nat.sub_zero]; try (unfold wrap64; omega))]; exact c32b0
                                    have c32b1 : (t213 != ((a0.extract 0 ((ji4) : Int).toNat).size : Int)) = true := bne_iff_ne.mpr c32
                                    have c32b6 : (t213 != ((min ji4.toNat a0.size : Nat) : Int)) = true := by rw [← (show ((a0.extract 0 ((ji4) : Int).toNat).size : Int) = ((min ji4.toNat a0.size : Nat) : Int) by simp only [ByteArray.size_extract, Nat.sub_zero]; try (unfold wrap64; omega))]; exact c32b1
                                    obtain rfl := Option.some.inj H
                                    go_wp2_with (first | ((with_reducible refine gate_callee (f := 10) rfl ?_); refine goesL_ (some 75) rfl rfl Tryd.func10 (by kernel_rfl) rfl #[.string ((a0.extract 0 ((ji4) : Int).toNat) ++ (⟨#[32, 93]⟩ : ByteArray))] rfl (by (try simp only [List.map_toArray, List.map_cons, List.map_nil]); first | done | (simp only [hji4]; rfl) | rfl | (simp only [List.length_drop, List.length_take]; rfl)) ?_; (with_reducible refine (jsontext_Parse.calls ((a0.extract 0 ((ji4) : Int).toNat) ++ (⟨#[32, 93]⟩ : ByteArray)) t204 t205 t206 _ ?side1 A26.out).mono ?_); (case side1 => first | exact HGU8.out | exact GlobU8.below HGU8.out (by repeat (first | (with_reducible first | exact HB.out | apply below_alloc | apply pw_below_drewN | apply below_drew1) | exact HB.out)) | exact GlobU8.drawn HGU8.out (by repeat (first | exact Drawn0.refl _ | apply Drawn0.step))); rintro e w46 ⟨v207, rfl, ho0, hb⟩; refine ⟨_, rfl, ?_⟩; have n0_ := Aside0.mk (Kd.R_lower ho0 (below_size (by repeat (first | (with_reducible first | exact HB.out | apply below_alloc | apply pw_below_drewN | apply below_drew1) | exact HB.out)))); have n1_ := Aside0.mk (below_step (by repeat (first | (with_reducible first | exact HB.out | apply below_alloc | apply pw_below_drewN | apply below_drew1) | exact HB.out)) hb); clear HB; have HO208 := n0_; have HB := n1_; clear n0_ n1_; (try clear hb); (try clear hb2); (try clear hk); (try clear hi); (try clear ho0)) | ((with_reducible refine gate_dst (N := 83) rfl ?_); (try (refine gate_guard (by rfl) ?_; dsimp only)); refine Kd.R_lit (Kd.int .u8) _ 5 ?hg (N := 83) ?hd (xs := ([a2] : List Int)) (inner := [.int .u8 a2]) (ok := fun _ => True) (okp := fun _ => True) ?hr ?hp (fun _ hk => hk) trivial (Below.refl _ _) (Nat.le_refl _) (by simp) ?_; (case hd => rfl); (case hg => rfl); (case hr => first | (go_simp; done) | (go_simp; rfl)); (case hp => exact (Reps.one (show Kd.M (Kd.int .u8) _ _ _ a2 [.int .u8 a2] from rfl) (Reps.none _ _))); intro v210 w47 ho48 hb hg_ hnew_; clear hg_ hnew_; (first | rw [← Ny209.out] at ho48 | (simp only [Int.reduceToNat] at ho48; rw [← Ny209.out] at ho48)); have n0_ := Aside0.mk (Kd.R_below (by (with_reducible repeat (first | apply Kd.R_alloc | apply Kd.R_drewN | apply Kd.R_drew)); exact HO208.out) hb); have n1_ := Aside0.mk (Kd.R_lower ho48 (below_size (by repeat (first | (with_reducible first | exact HB.out | apply below_alloc | apply pw_below_drewN | apply below_drew1) | exact HB.out)))); have n2_ := Aside0.mk (below_step (by repeat (first | (with_reducible first | exact HB.out | apply below_alloc | apply pw_below_drewN | apply below_drew1) | exact HB.out)) hb); clear HO208; clear HB; have HO208 := n0_; have HO211 := n1_; have HB := n2_; clear n0_ n1_ n2_; clear hb ho48; have hcv49 := own_string (P := Tryd.prog) Tryd.underlying36 Tryd.underlying5 Tryd.underlying9 (Kd.own_of_R HO211.out)) | ((with_reducible refine gate_callee (f := 10) rfl ?_); refine goesL_ (some 86) rfl rfl Tryd.func10 (by kernel_rfl) rfl #[.string (((a0.extract 0 ((ji4) : Int).toNat) ++ (⟨#[44]⟩ : ByteArray)) ++ (strOfNums y209))] rfl (by (try simp only [List.map_toArray, List.map_cons, List.map_nil]); first | done | (simp only [hji4]; rfl) | rfl | (simp only [List.length_drop, List.length_take]; rfl)) ?_; (with_reducible refine (jsontext_Parse.calls (((a0.extract 0 ((ji4) : Int).toNat) ++ (⟨#[44]⟩ : ByteArray)) ++ (strOfNums y209)) t212 t213 t214 _ ?side1 A29.out).mono ?_); (case side1 => first | exact HGU8.out | exact GlobU8.below HGU8.out (by repeat (first | (with_reducible first | exact HB.out | apply below_alloc | apply pw_below_drewN | apply below_drew1) | exact HB.out)) | exact GlobU8.drawn HGU8.out (by repeat (first | exact Drawn0.refl _ | apply Drawn0.step))); rintro e w50 ⟨v215, rfl, ho0, hb⟩; refine ⟨_, rfl, ?_⟩; have n0_ := Aside0.mk (Kd.R_elder' (by (with_reducible repeat (first | apply Kd.R_alloc | apply Kd.R_drewN | apply Kd.R_drew)); exact HO208.out) (Kd.R_base ho0) hb); have n1_ := Aside0.mk (Kd.R_below (by (with_reducible repeat (first | apply Kd.R_alloc | apply Kd.R_drewN | apply Kd.R_drew)); exact HO211.out) hb); have n2_ := Aside0.mk (Kd.R_lower (Kd.R_new' ho0 (Kd.R_lt (by (with_reducible repeat (first | apply Kd.R_alloc | apply Kd.R_drewN | apply Kd.R_drew)); exact HO208.out))) (below_size (by repeat (first | (with_reducible first | exact HB.out | apply below_alloc | apply pw_below_drewN | apply below_drew1) | exact HB.out)))); have n3_ := Aside0.mk (below_step (by repeat (first | (with_reducible first | exact HB.out | apply below_alloc | apply pw_below_drewN | apply below_drew1) | exact HB.out)) hb); clear HO208; clear HO211; clear HB; have HO208 := n0_; have HO211 := n1_; have HO216 := n2_; have HB := n3_; clear n0_ n1_ n2_ n3_; (try clear hb); (try clear hb2); (try clear hk); (try clear hi); (try clear ho0)))
                                    go_ret
                                    exact ⟨by first | rfl | (simp [errW_none, errW_some] <;> rfl) | (simp only [← hji4]; first | rfl | (simp [errW_none, errW_some] <;> rfl)) | (simp [*, errW_none, errW_some] <;> rfl), by repeat (first | (with_reducible first | exact HB.out | apply below_alloc | apply pw_below_drewN | apply below_drew1) | exact HB.out)⟩
                                · rw [if_neg c31] at H
                                  have c31b0 : (t206 == 5) = false := beq_eq_false_iff_ne.mpr c31
                                  have c31b1 : (t206 != 5) = true := bne_iff_ne.mpr c31
                                  obtain rfl := Option.some.inj H
                                  go_wp2_with (first | ((with_reducible refine gate_callee (f := 10) rfl ?_); refine goesL_ (some 75) rfl rfl Tryd.func10 (by kernel_rfl) rfl #[.string ((a0.extract 0 ((ji4) : Int).toNat) ++ (⟨#[32, 93]⟩ : ByteArray))] rfl (by (try simp only [List.map_toArray, List.map_cons, List.map_nil]); first | done | (simp only [hji4]; rfl) | rfl | (simp only [List.length_drop, List.length_take]; rfl)) ?_; (with_reducible refine (jsontext_Parse.calls ((a0.extract 0 ((ji4) : Int).toNat) ++ (⟨#[32, 93]⟩ : ByteArray)) t204 t205 t206 _ ?side1 A26.out).mono ?_); (case side1 => first | exact HGU8.out | exact GlobU8.below HGU8.out (by repeat (first | (with_reducible first | exact HB.out | apply below_alloc | apply pw_below_drewN | apply below_drew1) | exact HB.out)) | exact GlobU8.drawn HGU8.out (by repeat (first | exact Drawn0.refl _ | apply Drawn0.step))); rintro e w51 ⟨v207, rfl, ho0, hb⟩; refine ⟨_, rfl, ?_⟩; have n0_ := Aside0.mk (Kd.R_lower ho0 (below_size (by repeat (first | (with_reducible first | exact HB.out | apply below_alloc | apply pw_below_drewN | apply below_drew1) | exact HB.out)))); have n1_ := Aside0.mk (below_step (by repeat (first | (with_reducible first | exact HB.out | apply below_alloc | apply pw_below_drewN | apply below_drew1) | exact HB.out)) hb); clear HB; have HO208 := n0_; have HB := n1_; clear n0_ n1_; (try clear hb); (try clear hb2); (try clear hk); (try clear hi); (try clear ho0)) | ((with_reducible refine gate_dst (N := 83) rfl ?_); (try (refine gate_guard (by rfl) ?_; dsimp only)); refine Kd.R_lit (Kd.int .u8) _ 5 ?hg (N := 83) ?hd (xs := ([a2] : List Int)) (inner := [.int .u8 a2]) (ok := fun _ => True) (okp := fun _ => True) ?hr ?hp (fun _ hk => hk) trivial (Below.refl _ _) (Nat.le_refl _) (by simp) ?_; (case hd => rfl); (case hg => rfl); (case hr => first | (go_simp; done) | (go_simp; rfl)); (case hp => exact (Reps.one (show Kd.M (Kd.int .u8) _ _ _ a2 [.int .u8 a2] from rfl) (Reps.none _ _))); intro v210 w52 ho53 hb hg_ hnew_; clear hg_ hnew_; (first | rw [← Ny209.out] at ho53 | (simp only [Int.reduceToNat] at ho53; rw [← Ny209.out] at ho53)); have n0_ := Aside0.mk (Kd.R_below (by (with_reducible repeat (first | apply Kd.R_alloc | apply Kd.R_drewN | apply Kd.R_drew)); exact HO208.out) hb); have n1_ := Aside0.mk (Kd.R_lower ho53 (below_size (by repeat (first | (with_reducible first | exact HB.out | apply below_alloc | apply pw_below_drewN | apply below_drew1) | exact HB.out)))); have n2_ := Aside0.mk (below_step (by repeat (first | (with_reducible first | exact HB.out | apply below_alloc | apply pw_below_drewN | apply below_drew1) | exact HB.out)) hb); clear HO208; clear HB; have HO208 := n0_; have HO211 := n1_; have HB := n2_; clear n0_ n1_ n2_; clear hb ho53; have hcv54 := own_string (P := Tryd.prog) Tryd.underlying36 Tryd.underlying5 Tryd.underlying9 (Kd.own_of_R HO211.out)) | ((with_reducible refine gate_callee (f := 10) rfl ?_); refine goesL_ (some 86) rfl rfl Tryd.func10 (by kernel_rfl) rfl #[.string (((a0.extract 0 ((ji4) : Int).toNat) ++ (⟨#[44]⟩ : ByteArray)) ++ (strOfNums y209))] rfl (by (try simp only [List.map_toArray, List.map_cons, List.map_nil]); first | done | (simp only [hji4]; rfl) | rfl | (simp only [List.length_drop, List.length_take]; rfl)) ?_; (with_reducible refine (jsontext_Parse.calls (((a0.extract 0 ((ji4) : Int).toNat) ++ (⟨#[44]⟩ : ByteArray)) ++ (strOfNums y209)) t212 t213 t214 _ ?side1 A29.out).mono ?_); (case side1 => first | exact HGU8.out | exact GlobU8.below HGU8.out (by repeat (first | (with_reducible first | exact HB.out | apply below_alloc | apply pw_below_drewN | apply below_drew1) | exact HB.out)) | exact GlobU8.drawn HGU8.out (by repeat (first | exact Drawn0.refl _ | apply Drawn0.step))); rintro e w55 ⟨v215, rfl, ho0, hb⟩; refine ⟨_, rfl, ?_⟩; have n0_ := Aside0.mk (Kd.R_elder' (by (with_reducible repeat (first | apply Kd.R_alloc | apply Kd.R_drewN | apply Kd.R_drew)); exact HO208.out) (Kd.R_base ho0) hb); have n1_ := Aside0.mk (Kd.R_below (by (with_reducible repeat (first | apply Kd.R_alloc | apply Kd.R_drewN | apply Kd.R_drew)); exact HO211.out) hb); have n2_ := Aside0.mk (Kd.R_lower (Kd.R_new' ho0 (Kd.R_lt (by (with_reducible repeat (first | apply Kd.R_alloc | apply Kd.R_drewN | apply Kd.R_drew)); exact HO208.out))) (below_size (by repeat (first | (with_reducible first | exact HB.out | apply below_alloc | apply pw_below_drewN | apply below_drew1) | exact HB.out)))); have n3_ := Aside0.mk (below_step (by repeat (first | (with_reducible first | exact HB.out | apply below_alloc | apply pw_below_drewN | apply below_drew1) | exact HB.out)) hb); clear HO208; clear HO211; clear HB; have HO208 := n0_; have HO211 := n1_; have HO216 := n2_; have HB := n3_; clear n0_ n1_ n2_ n3_; (try clear hb); (try clear hb2); (try clear hk); (try clear hi); (try clear ho0)))
                                  go_ret
                                  exact ⟨by first | rfl | (simp [errW_none, errW_some] <;> rfl) | (simp only [← hji4]; first | rfl | (simp [errW_none, errW_some] <;> rfl)) | (simp [*, errW_none, errW_some] <;> rfl), by repeat (first | (with_reducible first | exact HB.out | apply below_alloc | apply pw_below_drewN | apply below_drew1) | exact HB.out)⟩
                              · rw [if_neg c30] at H
                                have c30b0 : (t205 == (wrap64 (((a0.extract 0 ((ji4) : Int).toNat).size : Int) + 1))) = false := beq_eq_false_iff_ne.mpr c30
                                have c30b5 : (t205 == (((min ji4.toNat a0.size : Nat) : Int) + 1)) = false := by rw [← (show (wrap64 (((a0.extract 0 ((ji4) : Int).toNat).size : Int) + 1)) = (((min ji4.toNat a0.size : Nat) : Int) + 1) by simp only [ByteArray.size_extract, Nat.sub_zero]; try (unfold wrap64; omega))]; exact c30b0
                                have c30b1 : (t205 != (wrap64 (((a0.extract 0 ((ji4) : Int).toNat).size : Int) + 1))) = true := bne_iff_ne.mpr c30
                                have c30b6 : (t205 != (((min ji4.toNat a0.size : Nat) : Int) + 1)) = true := by rw [← (show (wrap64 (((a0.extract 0 ((ji4) : Int).toNat).size : Int) + 1)) = (((min ji4.toNat a0.size : Nat) : Int) + 1) by simp only [ByteArray.size_extract, Nat.sub_zero]; try (unfold wrap64; omega))]; exact c30b1
                                obtain rfl := Option.some.inj H
                                go_wp2_with (first | ((with_reducible refine gate_callee (f := 10) rfl ?_); refine goesL_ (some 75) rfl rfl Tryd.func10 (by kernel_rfl) rfl #[.string ((a0.extract 0 ((ji4) : Int).toNat) ++ (⟨#[32, 93]⟩ : ByteArray))] rfl (by (try simp only [List.map_toArray, List.map_cons, List.map_nil]); first | done | (simp only [hji4]; rfl) | rfl | (simp only [List.length_drop, List.length_take]; rfl)) ?_; (with_reducible refine (jsontext_Parse.calls ((a0.extract 0 ((ji4) : Int).toNat) ++ (⟨#[32, 93]⟩ : ByteArray)) t204 t205 t206 _ ?side1 A26.out).mono ?_); (case side1 => first | exact HGU8.out | exact GlobU8.below HGU8.out (by repeat (first | (with_reducible first | exact HB.out | apply below_alloc | apply pw_below_drewN | apply below_drew1) | exact HB.out)) | exact GlobU8.drawn HGU8.out (by repeat (first | exact Drawn0.refl _ | apply Drawn0.step))); rintro e w56 ⟨v207, rfl, ho0, hb⟩; refine ⟨_, rfl, ?_⟩; have n0_ := Aside0.mk (Kd.R_lower ho0 (below_size (by repeat (first | (with_reducible first | exact HB.out | apply below_alloc | apply pw_below_drewN | apply below_drew1) | exact HB.out)))); have n1_ := Aside0.mk (below_step (by repeat (first | (with_reducible first | exact HB.out | apply below_alloc | apply pw_below_drewN | apply below_drew1) | exact HB.out)) hb); clear HB; have HO208 := n0_; have HB := n1_; clear n0_ n1_; (try clear hb); (try clear hb2); (try clear hk); (try clear hi); (try clear ho0)) | ((with_reducible refine gate_dst (N := 83) rfl ?_); (try (refine gate_guard (by rfl) ?_; dsimp only)); refine Kd.R_lit (Kd.int .u8) _ 5 ?hg (N := 83) ?hd (xs := ([a2] : List Int)) (inner := [.int .u8 a2]) (ok := fun _ => True) (okp := fun _ => True) ?hr ?hp (fun _ hk => hk) trivial (Below.refl _ _) (Nat.le_refl _) (by simp) ?_; (case hd => rfl); (case hg => rfl); (case hr => first | (go_simp; done) | (go_simp; rfl)); (case hp => exact (Reps.one (show Kd.M (Kd.int .u8) _ _ _ a2 [.int .u8 a2] from rfl) (Reps.none _ _))); intro v210 w57 ho58 hb hg_ hnew_; clear hg_ hnew_; (first | rw [← Ny209.out] at ho58 | (simp only [Int.reduceToNat] at ho58; rw [← Ny209.out] at ho58)); have n0_ := Aside0.mk (Kd.R_below (by (with_reducible repeat (first | apply Kd.R_alloc | apply Kd.R_drewN | apply Kd.R_drew)); exact HO208.out) hb); have n1_ := Aside0.mk (Kd.R_lower ho58 (below_size (by repeat (first | (with_reducible first | exact HB.out | apply below_alloc | apply pw_below_drewN | apply below_drew1) | exact HB.out)))); have n2_ := Aside0.mk (below_step (by repeat (first | (with_reducible first | exact HB.out | apply below_alloc | apply pw_below_drewN | apply below_drew1) | exact HB.out)) hb); clear HO208; clear HB; have HO208 := n0_; have HO211 := n1_; have HB := n2_; clear n0_ n1_ n2_; clear hb ho58; have hcv59 := own_string (P := Tryd.prog) Tryd.underlying36 Tryd.underlying5 Tryd.underlying9 (Kd.own_of_R HO211.out)) | ((with_reducible refine gate_callee (f := 10) rfl ?_); refine goesL_ (some 86) rfl rfl Tryd.func10 (by kernel_rfl) rfl #[.string (((a0.extract 0 ((ji4) : Int).toNat) ++ (⟨#[44]⟩ : ByteArray)) ++ (strOfNums y209))] rfl (by (try simp only [List.map_toArray, List.map_cons, List.map_nil]); first | done | (simp only [hji4]; rfl) | rfl | (simp only [List.length_drop, List.length_take]; rfl)) ?_; (with_reducible refine (jsontext_Parse.calls (((a0.extract 0 ((ji4) : Int).toNat) ++ (⟨#[44]⟩ : ByteArray)) ++ (strOfNums y209)) t212 t213 t214 _ ?side1 A29.out).mono ?_); (case side1 => first | exact HGU8.out | exact GlobU8.below HGU8.out (by repeat (first | (with_reducible first | exact HB.out | apply below_alloc | apply pw_below_drewN | apply below_drew1) | exact HB.out)) | exact GlobU8.drawn HGU8.out (by repeat (first | exact Drawn0.refl _ | apply Drawn0.step))); rintro e w60 ⟨v215, rfl, ho0, hb⟩; refine ⟨_, rfl, ?_⟩; have n0_ := Aside0.mk (Kd.R_elder' (by (with_reducible repeat (first | apply Kd.R_alloc | apply Kd.R_drewN | apply Kd.R_drew)); exact HO208.out) (Kd.R_base ho0) hb); have n1_ := Aside0.mk (Kd.R_below (by (with_reducible repeat (first | apply Kd.R_alloc | apply Kd.R_drewN | apply Kd.R_drew)); exact HO211.out) hb); have n2_ := Aside0.mk (Kd.R_lower (Kd.R_new' ho0 (Kd.R_lt (by (with_reducible repeat (first | apply Kd.R_alloc | apply Kd.R_drewN | apply Kd.R_drew)); exact HO208.out))) (below_size (by repeat (first | (with_reducible first | exact HB.out | apply below_alloc | apply pw_below_drewN | apply below_drew1) | exact HB.out)))); have n3_ := Aside0.mk (below_step (by repeat (first | (with_reducible first | exact HB.out | apply below_alloc | apply pw_below_drewN | apply below_drew1) | exact HB.out)) hb); clear HO208; clear HO211; clear HB; have HO208 := n0_; have HO211 := n1_; have HO216 := n2_; have HB := n3_; clear n0_ n1_ n2_ n3_; (try clear hb); (try clear hb2); (try clear hk); (try clear hi); (try clear ho0)))
                                go_ret
                                exact ⟨by first | rfl | (simp [errW_none, errW_some] <;> rfl) | (simp only [← hji4]; first | rfl | (simp [errW_none, errW_some] <;> rfl)) | (simp [*, errW_none, errW_some] <;> rfl), by repeat (first | (with_reducible first | exact HB.out | apply below_alloc | apply pw_below_drewN | apply below_drew1) | exact HB.out)⟩
                            · rw [if_neg c28] at H
                              exact absurd H (by simp)
                          · rw [if_neg c27] at H
                            exact absurd H (by simp)
                        · rw [if_neg c25] at H
                          exact absurd H (by simp)
                · rw [if_neg c16] at H
                  exact absurd H (by simp)
              · rw [if_neg c15] at H
                exact absurd H (by simp)
      · rw [if_neg c8] at H
        have c8b0 : (t194 == 0) = false := beq_eq_false_iff_ne.mpr c8
        have c8b1 : (t194 != 0) = true := bne_iff_ne.mpr c8
        by_cases c61 : (t192.length : Int) = 0
        · rw [if_pos c61] at H
          have c61b0 : ((t192.length : Int) == 0) = true := beq_iff_eq.mpr c61
          have c61b1 : ((t192.length : Int) != 0) = false := bne_eq_false_iff_eq.mpr c61
          clear c61
          replace H := Option.bind_eq_some_iff.mp H
          obtain ⟨t197, A620, H⟩ := H
          replace H : (some t197) = some r := H
          have A62 := Aside0.mk A620
          clear A620
          obtain rfl := Option.some.inj H
          go_enter Tryd.func5, Tryd.ntmps5
          go_wp2_with (first | ((with_reducible refine gate_callee (f := 10) rfl ?_); refine goesL_ (some 27) rfl rfl Tryd.func10 (by kernel_rfl) rfl #[.string (a0.extract 0 ((ji4) : Int).toNat)] rfl (by (try simp only [List.map_toArray, List.map_cons, List.map_nil]); first | done | (simp only [hji4]; rfl) | rfl | (simp only [List.length_drop, List.length_take]; rfl)) ?_; (with_reducible refine (jsontext_Parse.calls (a0.extract 0 ((ji4) : Int).toNat) t192 t193 t194 _ ?side1 A7.out).mono ?_); (case side1 => first | exact HGU8.out | exact GlobU8.below HGU8.out (by repeat (first | (with_reducible first | exact HB.out | apply below_alloc | apply pw_below_drewN | apply below_drew1) | exact HB.out)) | exact GlobU8.drawn HGU8.out (by repeat (first | exact Drawn0.refl _ | apply Drawn0.step))); rintro e w63 ⟨v195, rfl, ho0, hb⟩; refine ⟨_, rfl, ?_⟩; have n0_ := Aside0.mk (Kd.R_lower ho0 (below_size (by repeat (first | (with_reducible first | exact HB.out | apply below_alloc | apply pw_below_drewN | apply below_drew1) | exact HB.out)))); have n1_ := Aside0.mk (below_step (by repeat (first | (with_reducible first | exact HB.out | apply below_alloc | apply pw_below_drewN | apply below_drew1) | exact HB.out)) hb); clear HB; have HO196 := n0_; have HB := n1_; clear n0_ n1_; (try clear hb); (try clear hb2); (try clear hk); (try clear hi); (try clear ho0); obtain ⟨Ao64, co64, eo64⟩ := Kd.R_slice HO196.out; subst eo64) | (go_at_call 13; (with_reducible refine (racewaylaw25_works.calls  t197 _ ?side1 A62.out).mono ?_); (case side1 => first | exact HGU8.out | exact GlobU8.below HGU8.out (by repeat (first | (with_reducible first | exact HB.out | apply below_alloc | apply pw_below_drewN | apply below_drew1) | exact HB.out)) | exact GlobU8.drawn HGU8.out (by repeat (first | exact Drawn0.refl _ | apply Drawn0.step))); rintro e w65 ⟨rfl, hb⟩; have n0_ := Aside0.mk (Kd.R_below (by (with_reducible repeat (first | apply Kd.R_alloc | apply Kd.R_drewN | apply Kd.R_drew)); exact HO196.out) hb); have n1_ := Aside0.mk (below_step (by repeat (first | (with_reducible first | exact HB.out | apply below_alloc | apply pw_below_drewN | apply below_drew1) | exact HB.out)) hb); clear HO196; clear HB; have HO196 := n0_; have HB := n1_; clear n0_ n1_; (try clear hb); (try clear hb2); (try clear hk); (try clear hi)))
          go_ret
          exact ⟨by first | rfl | (simp [errW_none, errW_some] <;> rfl) | (simp only [← hji4]; first | rfl | (simp [errW_none, errW_some] <;> rfl)) | (simp [*, errW_none, errW_some] <;> rfl), by repeat (first | (with_reducible first | exact HB.out | apply below_alloc | apply pw_below_drewN | apply below_drew1) | exact HB.out)⟩
        · rw [if_neg c61] at H
          have c61b0 : ((t192.length : Int) == 0) = false := beq_eq_false_iff_ne.mpr c61
          have c61b1 : ((t192.length : Int) != 0) = true := bne_iff_ne.mpr c61
          have c61b2 : ¬ (t192 = []) := fun h_ => c61 (by rw [h_]; rfl)
          obtain rfl := Option.some.inj H
          go_enter Tryd.func5, Tryd.ntmps5
          go_wp2_with (first | ((with_reducible refine gate_callee (f := 10) rfl ?_); refine goesL_ (some 27) rfl rfl Tryd.func10 (by kernel_rfl) rfl #[.string (a0.extract 0 ((ji4) : Int).toNat)] rfl (by (try simp only [List.map_toArray, List.map_cons, List.map_nil]); first | done | (simp only [hji4]; rfl) | rfl | (simp only [List.length_drop, List.length_take]; rfl)) ?_; (with_reducible refine (jsontext_Parse.calls (a0.extract 0 ((ji4) : Int).toNat) t192 t193 t194 _ ?side1 A7.out).mono ?_); (case side1 => first | exact HGU8.out | exact GlobU8.below HGU8.out (by repeat (first | (with_reducible first | exact HB.out | apply below_alloc | apply pw_below_drewN | apply below_drew1) | exact HB.out)) | exact GlobU8.drawn HGU8.out (by repeat (first | exact Drawn0.refl _ | apply Drawn0.step))); rintro e w66 ⟨v195, rfl, ho0, hb⟩; refine ⟨_, rfl, ?_⟩; have n0_ := Aside0.mk (Kd.R_lower ho0 (below_size (by repeat (first | (with_reducible first | exact HB.out | apply below_alloc | apply pw_below_drewN | apply below_drew1) | exact HB.out)))); have n1_ := Aside0.mk (below_step (by repeat (first | (with_reducible first | exact HB.out | apply below_alloc | apply pw_below_drewN | apply below_drew1) | exact HB.out)) hb); clear HB; have HO196 := n0_; have HB := n1_; clear n0_ n1_; (try clear hb); (try clear hb2); (try clear hk); (try clear hi); (try clear ho0); obtain ⟨Ao67, co67, eo67⟩ := Kd.R_slice HO196.out; subst eo67))
          go_ret
          exact ⟨by first | rfl | (simp [errW_none, errW_some] <;> rfl) | (simp only [← hji4]; first | rfl | (simp [errW_none, errW_some] <;> rfl)) | (simp [*, errW_none, errW_some] <;> rfl), by repeat (first | (with_reducible first | exact HB.out | apply below_alloc | apply pw_below_drewN | apply below_drew1) | exact HB.out)⟩
    · rw [if_neg c6] at H
      exact absurd H (by simp)
  · rw [if_neg c5] at H
    exact absurd H (by simp)

/-- THE ONE PURE STATEMENT of racewaylaw25_JsontextBlanks: yours. -/
def racewaylaw25_JsontextBlanks.Pure : Prop := ∀ (a0 : ByteArray) (a1 : Int) (a2 : Int), a0.size ≤ 140737488351232 → (Lit.int .i64 a1).wf = true → (Lit.int .u8 a2).wf = true → ∃ k, racewaylaw25_JsontextBlanks.f k a0 a1 a2 = some true
theorem racewaylaw25_JsontextBlanks.walk (P : racewaylaw25_JsontextBlanks.Pure) (a0 : ByteArray) (a1 : Int) (a2 : Int) (w : World) (w0 : a0.size ≤ 140737488351232) (w1 : (Lit.int .i64 a1).wf = true) (w2 : (Lit.int .u8 a2).wf = true) (hGU8 : GlobU8 w) :
    Calls Tryd.prog 5 #[.string a0, .int .i64 a1, .int .u8 a2] w fun e w' => e = .returned (.bool true) ∧ Below w.heap.size w w' := by
  obtain ⟨k, h⟩ := P a0 a1 a2 w0 w1 w2
  refine (racewaylaw25_JsontextBlanks.calls k a0 a1 a2 true w hGU8 h).mono ?_
  rintro e w' ⟨rfl, hd⟩
  exact ⟨rfl, hd⟩

end Go.Proofs.YtadfkeipcebmfaaDoor.X

namespace Go.Proofs.YtadfkeipcebmfaaDoor.Pure
open Go.Proofs.YtadfkeipcebmfaaDoor.X
set_option linter.unusedVariables false
set_option linter.unusedSimpArgs false
theorem decN_ext (n n' b0 b1 b2 b3 c1 c2 c3 : Nat) (hn : n ≤ n') (h1 : 1 < n → b1 = c1) (h2 : 2 < n → b2 = c2) (h3 : 3 < n → b3 = c3) (h : (Lib.decodeN n b0 b1 b2 b3).2 ≠ 1) : Lib.decodeN n' b0 c1 c2 c3 = Lib.decodeN n b0 b1 b2 b3 := by
  unfold Lib.decodeN at *
  by_cases a0 : b0 < 128
  · rw [if_pos a0, if_pos a0]
  · rw [if_neg a0] at h ⊢
    rw [if_neg a0]
    by_cases a1 : b0 / 32 = 6 ∧ (1 < n ∧ b1 / 64 = 2)
    · obtain rfl := h1 a1.2.1
      rw [if_pos a1, if_pos ⟨a1.1, by omega, a1.2.2⟩]
    · rw [if_neg a1] at h ⊢
      by_cases a2 : b0 / 16 = 14 ∧ (1 < n ∧ b1 / 64 = 2) ∧ (2 < n ∧ b2 / 64 = 2)
      · obtain rfl := h1 a2.2.1.1
        obtain rfl := h2 a2.2.2.1
        rw [if_neg (by omega), if_pos a2, if_pos ⟨a2.1, ⟨by omega, a2.2.1.2⟩, by omega, a2.2.2.2⟩]
      · rw [if_neg a2] at h ⊢
        by_cases a3 : b0 / 8 = 30 ∧ (1 < n ∧ b1 / 64 = 2) ∧ (2 < n ∧ b2 / 64 = 2) ∧ (3 < n ∧ b3 / 64 = 2)
        · obtain rfl := h1 a3.2.1.1
          obtain rfl := h2 a3.2.2.1.1
          obtain rfl := h3 a3.2.2.2.1
          rw [if_neg (by omega), if_neg (by omega), if_pos a3, if_pos ⟨a3.1, ⟨by omega, a3.2.1.2⟩, ⟨by omega, a3.2.2.1.2⟩, by omega, a3.2.2.2.2⟩]
        · rw [if_neg a3] at h
          exact absurd rfl h
theorem getD_app (l x : Bs) (i : Nat) (h : i < l.length) : l.getD i 0 = (l ++ x).getD i 0 := by
  simp [List.getD_eq_getElem?_getD, List.getElem?_append_left h]
theorem sgn_ext (l x : Bs) (h : sgn l ≠ 0) : sgn (l ++ x) = sgn l := by
  cases l with
  | nil => exact absurd rfl h
  | cons c r =>
    simp only [sgn, List.cons_append] at h ⊢
    by_cases hc : c.toNat < 128
    · rw [if_pos hc, if_pos hc]
    · rw [if_neg hc] at h ⊢
      rw [if_neg hc]
      have h1 : (Lib.decodeL (c :: r)).2 ≠ 1 := fun e => h (by rw [if_pos e])
      have e : Lib.decodeL (c :: (r ++ x)) = Lib.decodeL (c :: r) := by
        rw [Lib.decodeL_N] at h1 ⊢
        rw [Lib.decodeL_N]
        have e0 : (c :: (r ++ x)) = (c :: r) ++ x := rfl
        have := decN_ext (c :: r).length ((c :: r) ++ x).length _ _ _ _ (((c :: r) ++ x).getD 1 0).toNat (((c :: r) ++ x).getD 2 0).toNat (((c :: r) ++ x).getD 3 0).toNat (by simp) (fun hh => by rw [getD_app _ x 1 hh]) (fun hh => by rw [getD_app _ x 2 hh]) (fun hh => by rw [getD_app _ x 3 hh]) h1
        rw [e0]
        exact this
      rw [e]
/-- What may stand behind a number. -/
def stops : Bs → Bool
  | [] => true
  | c :: _ => !isDig c && c != 46 && c != 101 && c != 69
theorem skip_ext (x : Bs) (hx : stops x = true) : ∀ l : Bs, skipDig (l ++ x) = skipDig l ++ x
  | [] => by
    cases x with
    | nil => rfl
    | cons c x =>
      simp only [stops, Bool.and_eq_true, Bool.not_eq_true'] at hx
      simp [skipDig, hx.1.1.1]
  | c :: l => by
    simp only [List.cons_append, skipDig]
    split
    · exact skip_ext x hx l
    · rfl
theorem digits_ext (x : Bs) (hx : stops x = true) (l r : Bs) (u : Unit) (h : digits l = .ok r u) : digits (l ++ x) = .ok (r ++ x) () := by
  cases l with
  | nil => cases h
  | cons c l =>
    simp only [digits, List.cons_append] at h ⊢
    split at h
    · rename_i hc
      injection h with h1 _
      rw [if_pos hc, skip_ext x hx, h1]
    · cases h
theorem isC_app (c : UInt8) (l x : Bs) (hx : ∀ d y, x = d :: y → (d == c) = false) : isC c (l ++ x) = isC c l := by
  cases l with
  | nil =>
    cases x with
    | nil => rfl
    | cons d y => exact hx d y rfl
  | cons a l => rfl
theorem isC_app' (c : UInt8) (l x : Bs) (h : l ≠ []) : isC c (l ++ x) = isC c l := by
  cases l with
  | nil => exact absurd rfl h
  | cons a l => rfl
theorem drop_app' (l x : Bs) (n : Nat) (h : n ≤ l.length) : (l ++ x).drop n = l.drop n ++ x := by
  rw [List.drop_append_of_le_length h]
theorem ne_digits {l r : Bs} {u : Unit} (h : digits l = .ok r u) : l ≠ [] := by
  rintro rfl
  cases h
theorem num1_ext (x : Bs) (hx : stops x = true) (l r : Bs) (u : Unit) (h : num1 l = .ok r u) : num1 (l ++ x) = .ok (r ++ x) () := by
  unfold num1 at h ⊢
  by_cases h0 : isC 48 l = true
  · rw [if_pos h0] at h
    injection h with h1 _
    have hne : l ≠ [] := by rintro rfl; cases h0
    rw [isC_app' _ _ _ hne, if_pos h0, drop_app' _ _ _ (by cases l with | nil => exact absurd rfl hne | cons => simp), h1]
  · rw [if_neg h0] at h
    rw [isC_app' _ _ _ (ne_digits h), if_neg h0]
    exact digits_ext x hx _ _ _ h
theorem len1 {l : Bs} {c : UInt8} (h : isC c l = true) : 1 ≤ l.length := by
  cases l with
  | nil => cases h
  | cons => simp
theorem num2_ext (x : Bs) (hx : stops x = true) (l r : Bs) (u : Unit) (h : num2 l = .ok r u) : num2 (l ++ x) = .ok (r ++ x) () := by
  unfold num2 at h ⊢
  rw [isC_app _ _ _ (fun d y e => by subst e; simp only [stops, Bool.and_eq_true, Bool.not_eq_true', bne_iff_ne, ne_eq] at hx; simp only [beq_eq_false_iff_ne, ne_eq]; exact hx.1.1.2)]
  by_cases h0 : isC 46 l = true
  · rw [if_pos h0] at h ⊢
    rw [drop_app' _ _ _ (len1 h0)]
    exact digits_ext x hx _ _ _ h
  · rw [if_neg h0] at h ⊢
    injection h with h1 _
    rw [h1]
theorem num3_ext (x : Bs) (hx : stops x = true) (l r : Bs) (u : Unit) (h : num3 l = .ok r u) : num3 (l ++ x) = .ok (r ++ x) () := by
  unfold num3 at h ⊢
  have hx2 := hx
  rw [isC_app 101 _ _ (fun d y e => by subst e; simp only [stops, Bool.and_eq_true, Bool.not_eq_true', bne_iff_ne, ne_eq] at hx; simp only [beq_eq_false_iff_ne, ne_eq]; exact hx.1.2),
    isC_app 69 _ _ (fun d y e => by subst e; simp only [stops, Bool.and_eq_true, Bool.not_eq_true', bne_iff_ne, ne_eq] at hx; simp only [beq_eq_false_iff_ne, ne_eq]; exact hx.2)]
  by_cases h0 : (isC 101 l || isC 69 l) = true
  · rw [if_pos h0] at h ⊢
    have hl : 1 ≤ l.length := by
      simp only [Bool.or_eq_true] at h0
      rcases h0 with h0 | h0 <;> exact len1 h0
    have hne : l.drop 1 ≠ [] := by
      intro e
      rw [e] at h
      simp only [isC, Bool.or_self, Bool.false_eq_true, if_false] at h
      exact ne_digits h rfl
    rw [drop_app' _ _ _ hl, isC_app' _ _ _ hne, isC_app' _ _ _ hne]
    by_cases h1 : (isC 43 (l.drop 1) || isC 45 (l.drop 1)) = true
    · rw [if_pos h1] at h ⊢
      have hl2 : 2 ≤ l.length := by
        have := List.length_pos_iff.2 hne
        simp at this
        omega
      rw [drop_app' _ _ _ hl2]
      exact digits_ext x hx _ _ _ h
    · rw [if_neg h1] at h ⊢
      exact digits_ext x hx _ _ _ h
  · rw [if_neg h0] at h ⊢
    injection h with h1 _
    rw [h1]
theorem num_ext (x : Bs) (hx : stops x = true) (l r : Bs) (u : Unit) (h : num l = .ok r u) : num (l ++ x) = .ok (r ++ x) () := by
  unfold num at h ⊢
  have hne : l ≠ [] := by rintro rfl; cases h
  rw [isC_app' _ _ _ hne]
  have e : (if isC 45 l = true then (l ++ x).drop 1 else l ++ x) = (if isC 45 l = true then l.drop 1 else l) ++ x := by
    split
    · rename_i h0
      rw [drop_app' _ _ _ (len1 h0)]
    · rfl
  rw [e]
  cases h1 : num1 (if isC 45 l = true then l.drop 1 else l) with
  | bad a b => rw [h1] at h; cases h
  | ok a b =>
    rw [h1] at h
    rw [num1_ext x hx _ _ _ h1]
    simp only at h ⊢
    cases h2 : num2 a with
    | bad a b => rw [h2] at h; cases h
    | ok a2 b2 =>
      rw [h2] at h
      rw [num2_ext x hx _ _ _ h2]
      simp only at h ⊢
      exact num3_ext x hx _ _ _ h
theorem number_ext (x : Bs) (hx : stops x = true) (l r t : Bs) (h : number l = .ok r t) : number (l ++ x) = .ok (r ++ x) t := by
  unfold number at h ⊢
  cases h1 : num l with
  | bad a b => rw [h1] at h; cases h
  | ok a b =>
    rw [h1] at h
    simp only at h
    injection h with h2 h3
    rw [num_ext x hx _ _ _ h1]
    simp only
    rw [← h2, ← h3]
    have := num_len _ _ _ h1
    have e : (l ++ x).length - (a ++ x).length = l.length - a.length := by simp; omega
    rw [e, List.take_append_of_le_length (by omega)]
theorem word_ext (x : Bs) : ∀ (w l r : Bs) (u : Unit), word w l = .ok r u → word w (l ++ x) = .ok (r ++ x) ()
  | [], l, r, u, h => by injection h with h1 _; rw [word, h1]
  | c :: w, [], r, u, h => by cases h
  | c :: w, d :: l, r, u, h => by
    simp only [word, List.cons_append] at h ⊢
    split at h
    · rename_i hd
      rw [if_pos hd]
      exact word_ext x w l r u h
    · cases h
theorem four_ext (x l : Bs) (v : Nat) (h : four l = some v) : four (l ++ x) = some v := by
  match l, h with
  | a :: b :: c :: d :: l, h => exact h
theorem ok_inj {α : Type} {a c : Bs} {b d : α} (h : Rs.ok a b = Rs.ok c d) : a = c ∧ b = d := by
  cases h
  exact ⟨rfl, rfl⟩
theorem uni_ext (x l r r5 t5 : Bs) (h : uni l r = .ok r5 t5) : uni (l ++ x) (r ++ x) = .ok (r5 ++ x) t5 := by
  unfold uni at h ⊢
  cases hf : four r with
  | none => rw [hf] at h; cases h
  | some v =>
    obtain ⟨hl, _⟩ := four_len r v hf
    rw [hf] at h
    rw [four_ext x r v hf]
    simp only at h ⊢
    rw [drop_app' _ _ _ hl]
    split at h
    · cases h
    · rename_i n1
      rw [if_neg n1]
      split at h
      · rename_i n2
        rw [if_pos n2]
        obtain ⟨h1, h2⟩ := ok_inj h
        rw [h1, h2]
      · rename_i n2
        rw [if_neg n2]
        split at h
        · rename_i c1 c2 r2 hr
          rw [hr]
          simp only [List.cons_append]
          split at h
          · rename_i n3
            rw [if_pos n3]
            cases hf2 : four r2 with
            | none => rw [hf2] at h; cases h
            | some y =>
              obtain ⟨hl2, _⟩ := four_len r2 y hf2
              rw [hf2] at h
              rw [four_ext x r2 y hf2]
              simp only at h ⊢
              split at h
              · rename_i n4
                rw [if_pos n4]
                obtain ⟨h1, h2⟩ := ok_inj h
                rw [drop_app' _ _ _ hl2, h1, h2]
              · cases h
          · cases h
        · cases h
theorem escape_ext (x l r5 t5 : Bs) (h : escape l = .ok r5 t5) : escape (l ++ x) = .ok (r5 ++ x) t5 := by
  match l, h with
  | a :: c :: r, h =>
    simp only [escape, List.cons_append] at h ⊢
    cases hu : unmark c with
    | some m =>
      rw [hu] at h
      injection h with h1 h2
      rw [h1]
      simp only
      rw [h2]
    | none =>
      rw [hu] at h
      simp only at h ⊢
      split at h
      · rename_i hc
        rw [if_pos hc]
        exact uni_ext x _ _ _ _ h
      · cases h
theorem chars_ext (x : Bs) : ∀ (n m : Nat) (l acc r t : Bs), n ≤ m → chars n l acc = .ok r t → chars m (l ++ x) acc = .ok (r ++ x) t
  | 0, m, l, acc, r, t, hm, h => by cases h
  | n + 1, 0, l, acc, r, t, hm, h => by omega
  | n + 1, m + 1, [], acc, r, t, hm, h => by cases h
  | n + 1, m + 1, c :: l, acc, r, t, hm, h => by
    simp only [chars, List.cons_append] at h ⊢
    split at h
    · rename_i h1
      rw [if_pos h1]
      injection h with e1 e2
      rw [e1, e2]
    · rename_i h1
      rw [if_neg h1]
      split at h
      · cases h
      · rename_i h2
        rw [if_neg h2]
        split at h
        · rename_i h3
          rw [if_pos h3]
          cases he : escape (c :: l) with
          | bad a b => rw [he] at h; cases h
          | ok a b =>
            rw [he] at h
            have := escape_ext x _ _ _ he
            rw [List.cons_append] at this
            rw [this]
            simp only at h ⊢
            exact chars_ext x n m a _ r t (by omega) h
        · rename_i h3
          rw [if_neg h3]
          split at h
          · cases h
          · rename_i h4
            have e := sgn_ext (c :: l) x h4
            have hle := sgn_le (c :: l)
            rw [List.cons_append] at e
            rw [e, if_neg h4]
            have e1 : (c :: (l ++ x)).drop (sgn (c :: l)) = (c :: l).drop (sgn (c :: l)) ++ x := drop_app' (c :: l) x _ hle
            have e2 : (c :: (l ++ x)).take (sgn (c :: l)) = (c :: l).take (sgn (c :: l)) := List.take_append_of_le_length (l₁ := c :: l) (l₂ := x) hle
            rw [e1, e2]
            exact chars_ext x n m _ _ r t (by omega) h
theorem text_ext (x l r t : Bs) (h : text l = .ok r t) : text (l ++ x) = .ok (r ++ x) t := by
  cases l with
  | nil => cases h
  | cons c l =>
    simp only [text, List.cons_append] at h ⊢
    split at h
    · rename_i hc
      rw [if_pos hc]
      exact chars_ext x _ _ _ _ _ _ (by simp) h
    · cases h
theorem blanks_ext (x : Bs) : ∀ l : Bs, blanks l ≠ [] → blanks (l ++ x) = blanks l ++ x
  | [], h => absurd rfl h
  | c :: l, h => by
    simp only [blanks, List.cons_append] at h ⊢
    split
    · rename_i hc
      rw [if_pos hc] at h
      exact blanks_ext x l h
    · rfl
theorem blanks_none (x : Bs) : ∀ l : Bs, blanks l = [] → blanks (l ++ x) = blanks x
  | [], h => rfl
  | c :: l, h => by
    simp only [blanks, List.cons_append] at h ⊢
    split
    · rename_i hc
      rw [if_pos hc] at h
      exact blanks_none x l h
    · rename_i hc
      rw [if_neg hc] at h
      cases h
theorem ne_isC {c : UInt8} {l : Bs} (h : isC c l = true) : l ≠ [] := by
  rintro rfl
  cases h
/-- What reads a value does not care what is behind it. -/
def VExt (x : Bs) (v : Bs → Bs → Rs F) : Prop := ∀ key l r f, v key l = .ok r f → v key (l ++ x) = .ok (r ++ x) f
def VNe (v : Bs → Bs → Rs F) : Prop := ∀ key r f, v key [] ≠ .ok r f
theorem member_ext (x : Bs) (ob : Bool) (l r k : Bs) (h : member ob l = .ok r k) (hr : r ≠ []) : member ob (l ++ x) = .ok (r ++ x) k := by
  unfold member at h ⊢
  cases ob with
  | false =>
    simp only [Bool.false_eq_true, if_false] at h ⊢
    injection h with h1 h2
    rw [h1, h2]
  | true =>
    simp only [if_true] at h ⊢
    cases ht : text l with
    | bad a b => rw [ht] at h; cases h
    | ok a b =>
      rw [ht] at h
      rw [text_ext x _ _ _ ht]
      simp only at h ⊢
      split at h
      · rename_i hc
        injection h with h1 h2
        have hne := ne_isC hc
        rw [blanks_ext x a hne, isC_app' _ _ _ hne, if_pos hc, drop_app' _ _ _ (len1 hc), blanks_ext x _ (by rw [h1]; exact hr), h1, h2]
      · cases h
theorem items_ne {v : Bs → Bs → Rs F} (hv : VNe v) (ob : Bool) (close : UInt8) (n : Nat) (r : Bs) (f : F) : items v ob close n [] ≠ .ok r f := by
  cases n with
  | zero => intro h; cases h
  | succ n =>
    intro h
    simp only [items] at h
    cases ob with
    | true => simp [member, text] at h
    | false =>
      simp only [member, Bool.false_eq_true, if_false] at h
      split at h
      · cases h
      · rename_i h2
        exact hv _ _ _ h2
theorem map_ok {f : F → F} {x : Rs F} {r : Bs} {g : F} (h : x.map f = .ok r g) : ∃ g0, x = .ok r g0 ∧ f g0 = g := by
  cases x with
  | bad a b => cases h
  | ok a b =>
    injection h with h1 h2
    exact ⟨b, by rw [h1], h2⟩
theorem items_ext (x : Bs) {v : Bs → Bs → Rs F} (hv : VExt x v) (hn : VNe v) (ob : Bool) (close : UInt8) : ∀ (n m : Nat) (l r : Bs) (f : F), n ≤ m → items v ob close n l = .ok r f → items v ob close m (l ++ x) = .ok (r ++ x) f
  | 0, m, l, r, f, hm, h => by cases h
  | n + 1, 0, l, r, f, hm, h => by omega
  | n + 1, m + 1, l, r, f, hm, h => by
    simp only [items] at h ⊢
    cases h1 : member ob l with
    | bad a b => rw [h1] at h; cases h
    | ok l1 key =>
      rw [h1] at h
      simp only at h
      cases h2 : v key l1 with
      | bad a b => rw [h2] at h; cases h
      | ok l2 t =>
        rw [h2] at h
        have hl1 : l1 ≠ [] := by
          rintro rfl
          exact hn _ _ _ h2
        rw [member_ext x ob _ _ _ h1 hl1]
        simp only
        rw [hv _ _ _ _ h2]
        simp only at h ⊢
        by_cases hc : isC close (blanks l2) = true
        · rw [if_pos hc] at h
          have hne := ne_isC hc
          injection h with e1 e2
          rw [blanks_ext x _ hne, isC_app' _ _ _ hne, if_pos hc, drop_app' _ _ _ (len1 hc), e1, e2]
        · rw [if_neg hc] at h
          by_cases h4 : isC 44 (blanks l2) = true
          · rw [if_pos h4] at h
            have hne := ne_isC h4
            obtain ⟨g, hg, rfl⟩ := map_ok h
            have hne2 : blanks ((blanks l2).drop 1) ≠ [] := by
              intro e
              rw [e] at hg
              exact items_ne hn _ _ _ _ _ hg
            rw [blanks_ext x _ hne, isC_app' _ _ _ hne, if_neg hc, isC_app' _ _ _ hne, if_pos h4, drop_app' _ _ _ (len1 h4), blanks_ext x _ hne2, items_ext x hv hn ob close n m _ _ _ (by omega) hg]
            rfl
          · rw [if_neg h4] at h
            cases h
theorem many_ext (x : Bs) {v : Bs → Bs → Rs F} (hv : VExt x v) (hn : VNe v) (ob : Bool) (key l r : Bs) (f : F) (h : many v ob key l = .ok r f) : many v ob key (l ++ x) = .ok (r ++ x) f := by
  unfold many at h ⊢
  simp only at h ⊢
  by_cases hc : isC (if ob = true then 125 else 93) (blanks l) = true
  · rw [if_pos hc] at h
    have hne := ne_isC hc
    injection h with e1 e2
    rw [blanks_ext x _ hne, isC_app' _ _ _ hne, if_pos hc, drop_app' _ _ _ (len1 hc), e1, e2]
  · rw [if_neg hc] at h
    obtain ⟨g, hg, rfl⟩ := map_ok h
    have hne : blanks l ≠ [] := by
      intro e
      rw [e] at hg
      exact items_ne hn _ _ _ _ _ hg
    rw [blanks_ext x _ hne, isC_app' _ _ _ hne, if_neg hc, items_ext x hv hn _ _ _ ((l ++ x).length + 1) _ _ _ (by simp) hg]
    rfl
theorem rmap_ok {α β : Type} {f : α → β} {x : Rs α} {r : Bs} {g : β} (h : x.map f = .ok r g) : ∃ g0, x = .ok r g0 ∧ f g0 = g := by
  cases x with
  | bad a b => cases h
  | ok a b =>
    injection h with h1 h2
    exact ⟨b, by rw [h1], h2⟩
theorem value_ne (d : Nat) : VNe (value d) := by
  intro key r f h
  cases d <;> cases h
theorem value_ext (x : Bs) (hx : stops x = true) : ∀ d : Nat, VExt x (value d)
  | 0, key, [], r, f, h => by cases h
  | 0, key, c :: l, r, f, h => by
    simp only [value] at h
    split at h <;> cases h
  | d + 1, key, [], r, f, h => by cases h
  | d + 1, key, c :: l, r, f, h => by
    have ih := value_ext x hx d
    simp only [value, List.cons_append] at h ⊢
    split at h
    · cases h
    · rename_i hb
      rw [if_neg hb]
      split at h
      · rename_i h1
        rw [if_pos h1]
        exact many_ext x ih (value_ne d) _ _ _ _ _ h
      · rename_i h1
        rw [if_neg h1]
        split at h
        · rename_i h2
          rw [if_pos h2]
          exact many_ext x ih (value_ne d) _ _ _ _ _ h
        · rename_i h2
          rw [if_neg h2]
          split at h
          · rename_i h3
            rw [if_pos h3]
            obtain ⟨g, hg, rfl⟩ := rmap_ok h
            have := text_ext x _ _ _ hg
            rw [List.cons_append] at this
            rw [this]
            rfl
          · rename_i h3
            rw [if_neg h3]
            split at h
            · rename_i h4
              rw [if_pos h4]
              obtain ⟨g, hg, rfl⟩ := rmap_ok h
              have := word_ext x _ _ _ _ hg
              rw [List.cons_append] at this
              rw [this]
              rfl
            · rename_i h4
              rw [if_neg h4]
              split at h
              · rename_i h5
                rw [if_pos h5]
                obtain ⟨g, hg, rfl⟩ := rmap_ok h
                have := word_ext x _ _ _ _ hg
                rw [List.cons_append] at this
                rw [this]
                rfl
              · rename_i h5
                rw [if_neg h5]
                split at h
                · rename_i h6
                  rw [if_pos h6]
                  obtain ⟨g, hg, rfl⟩ := rmap_ok h
                  have := word_ext x _ _ _ _ hg
                  rw [List.cons_append] at this
                  rw [this]
                  rfl
                · rename_i h6
                  rw [if_neg h6]
                  obtain ⟨g, hg, rfl⟩ := rmap_ok h
                  have := number_ext x hx _ _ _ hg
                  rw [List.cons_append] at this
                  rw [this]
                  rfl
end Go.Proofs.YtadfkeipcebmfaaDoor.Pure

namespace Go.Proofs.YtadfkeipcebmfaaDoor.X
open Go.RowKit Go.Proofs.YtadfkeipcebmfaaDoorW.PrintWords
set_option linter.unusedVariables false
set_option linter.unusedSimpArgs false
set_option maxRecDepth 100000 in
theorem u8x : Go.Proofs.U8Extra Tryd.prog vren := ⟨by kernel_rfl, by kernel_rfl, by kernel_rfl, by kernel_rfl, by kernel_rfl, by kernel_rfl, by kernel_rfl⟩
theorem u8t : Go.Proofs.U8Types Tryd.prog vren := Go.Proofs.U8Types.of196 vlays
theorem GlobU8.laid {W : World} {l : List (String × DataW Unit)} (hL : laidMet Tryd.prog l W) (h1 : ("unicode/utf8.first", Go.Lib.firstData) ∈ l) (h2 : ("unicode/utf8.acceptRanges", Go.Lib.acceptData) ∈ l) : GlobU8 W :=
  GlobU8.of (Go.Proofs.utf8Tabs_of_readsT u8t u8x (Go.Lib.laidMet.reads hL h1) (Go.Lib.laidMet.reads hL h2))
theorem GlobU8.laid2 {W : World} {l : List (String × DataW Unit)} (hL : laidMet Tryd.prog l W) {d1 d2 : DataW Unit} (h1 : ("unicode/utf8.first", d1) ∈ l) (e1 : d1 = Go.Lib.firstData) (h2 : ("unicode/utf8.acceptRanges", d2) ∈ l) (e2 : d2 = Go.Lib.acceptData) : GlobU8 W :=
  GlobU8.laid hL (e1 ▸ h1) (e2 ▸ h2)
end Go.Proofs.YtadfkeipcebmfaaDoor.X

namespace Go.Proofs.YtadfkeipcebmfaaDoor.X
open Go
set_option linter.unusedVariables false
section
variable {H : Type} {enc : TypeId × Value → H}
theorem handed_laid_shaped {a : Assume} {C : Checked} {os : Os} {f : FuncId} {fn : Func} {s : ChangeSpec} {conds : List PathCond} {apart fresh handsOn again : Bool} {X : World → Array Value → Prop}
    (hX : ∀ (w w' : World) (args : Array Value), w.heap = w'.heap → X w args → X w' args)
    (own : ownKnob C.prog.godebug = none) (started : os.Started) (noInit : C.prog.inits.idxOf? f = none) (hfn : C.prog.funcs[f]? = some fn)
    (witness : ∃ (w : World) (tape : Tape) (i : Input), w.os = os ∧ (w.forCall tape i).Shaped C.prog ∧ i.vars = [] ∧ Input.okWide C.prog (w.forCall tape i) .any w.heap.size f i ∧
      ((s.pre enc C.prog fn conds apart (w.forCall tape i).memory i.args ∧ X (w.forCall tape i).memory i.args) ∧ sizedMet enc C.prog fn (OpenSpec.ofChange s) apart (w.forCall tape i).memory i.args) ∧ a.holds C.prog (lone (Frame.enter C.prog f i.args .normal) [] (w.forCall tape i)))
    (contract : ∀ (W : World) (base : Nat) (args : Array Value) (ds gs : List (DataW H)) (before : List MemPlace),
      (∀ (j : Nat) t v, fn.params[j]? = some t → args[j]? = some v → Value.okWide C.prog W .any base t v) →
      DataW.Whole enc C.prog fn.params.toList s.vars apart W args.toList ds gs before →
      conds.all (PathCond.test C.prog ⟨fn.params.toList, ds, s.plain.varTypes C.prog, gs⟩) = true →
      (DataW.weightsEach C.prog (fn.params.toList ++ s.plain.varTypes C.prog) (ds ++ gs)).all (· ≤ reachBytes) = true → X W args → W.ShapedOpen C.prog →
      a.holds C.prog (lone (Frame.enter C.prog f args .normal) [] W) →
      Calls C.prog f args W fun e W' => ∃ v, e = .returned v ∧ s.post enc C.prog fn apart fresh handsOn again W args v W') :
    ReturnsInHanded a C os f .any (fun w args => (s.pre enc C.prog fn conds apart w args ∧ X w args) ∧ sizedMet enc C.prog fn (OpenSpec.ofChange s) apart w args) (s.post enc C.prog fn apart fresh handsOn again) := by
  refine returnsInHanded_of_calls own started noInit witness ?_
  intro w tape i _ hsh _ hok hpre hholds
  obtain ⟨_, _, _, fn', hfn', _, _, _, _, hval⟩ := hok
  have e : fn' = fn := Option.some.inj (hfn'.symm.trans hfn)
  subst e
  obtain ⟨⟨⟨ds, gs, before, hw, hc⟩, hx⟩, hz⟩ := hpre
  have hw' := DataW.Whole.of_heap (w' := w.forCall tape i) (by rfl) hw
  refine (contract (w.forCall tape i) w.heap.size i.args ds gs before hval hw' hc (hz.weights hw) (hX _ _ _ (by rfl) hx) hsh hholds).mono fun e W' ⟨v, he, hp⟩ => ?_
  subst he
  exact ChangeSpec.post_blind hp
end
end Go.Proofs.YtadfkeipcebmfaaDoor.X

namespace Go.Proofs.YtadfkeipcebmfaaDoor.Pure
open Go.RowKit Go.Proofs.YtadfkeipcebmfaaDoor.X Go.Proofs.YtadfkeipcebmfaaDoorW.PrintWords
set_option linter.unusedVariables false
set_option maxRecDepth 100000 in
theorem works_true : racewaylaw25_works.f = some true := by decide +kernel
end Go.Proofs.YtadfkeipcebmfaaDoor.Pure

namespace Go.Proofs.YtadfkeipcebmfaaDoor.Pure
open Go.Proofs.YtadfkeipcebmfaaDoor.X Go.RowKit Go.Proofs.YtadfkeipcebmfaaDoorW.PrintWords
set_option linter.unusedVariables false
set_option linter.unusedSimpArgs false
/-- What may be told of a text. -/
def E57 {α : Type} (x : Rs α) : Prop := ∀ r e, x = .bad r e → e = 5 ∨ e = 7
theorem E57.map {α β : Type} {f : α → β} {x : Rs α} (h : E57 x) : E57 (x.map f) := by
  intro r e h'
  cases x with
  | bad a b =>
    injection h' with _ h2
    exact h2 ▸ h a b rfl
  | ok a b => cases h'
theorem bad_inj {α : Type} {a c : Bs} {b d : Int} (h : (Rs.bad a b : Rs α) = Rs.bad c d) : a = c ∧ b = d := by
  cases h
  exact ⟨rfl, rfl⟩
theorem e57_5 {α : Type} (l : Bs) : E57 (.bad l 5 : Rs α) := fun r e h => .inl (bad_inj h).2.symm
theorem e57_ok {α : Type} (l : Bs) (a : α) : E57 (.ok l a : Rs α) := fun r e h => by cases h
theorem digits_e (l : Bs) : E57 (digits l) := by
  unfold digits
  split
  · split
    · exact e57_ok _ _
    · exact e57_5 _
  · exact e57_5 _
theorem num_e (l : Bs) : E57 (num l) := by
  have h1 : ∀ l, E57 (num1 l) := fun l => by
    unfold num1
    split
    · exact e57_ok _ _
    · exact digits_e _
  have h2 : ∀ l, E57 (num2 l) := fun l => by
    unfold num2
    split
    · exact digits_e _
    · exact e57_ok _ _
  have h3 : ∀ l, E57 (num3 l) := fun l => by
    unfold num3
    split
    · split <;> exact digits_e _
    · exact e57_ok _ _
  unfold num
  split
  · rename_i r e hh
    intro r' e' h'
    rw [← (bad_inj h').2]
    exact h1 _ _ _ hh
  · split
    · rename_i r e hh
      intro r' e' h'
      rw [← (bad_inj h').2]
      exact h2 _ _ _ hh
    · exact h3 _
theorem number_e (l : Bs) : E57 (number l) := by
  unfold number
  split
  · rename_i r e hh
    intro r' e' h'
    rw [← (bad_inj h').2]
    exact num_e _ _ _ hh
  · exact e57_ok _ _
theorem word_e : ∀ (w l : Bs), E57 (word w l)
  | [], l => e57_ok _ _
  | c :: w, [] => e57_5 _
  | c :: w, d :: l => by
    simp only [word]
    split
    · exact word_e w l
    · exact e57_5 _
theorem uni_e (l r : Bs) : E57 (uni l r) := by
  unfold uni
  split
  · exact e57_5 _
  · split
    · exact e57_5 _
    · split
      · exact e57_ok _ _
      · split
        · split
          · split
            · split
              · exact e57_ok _ _
              · exact e57_5 _
            · exact e57_5 _
          · exact e57_5 _
        · exact e57_5 _
theorem escape_e (l : Bs) : E57 (escape l) := by
  unfold escape
  split
  · split
    · exact e57_ok _ _
    · split
      · exact uni_e _ _
      · exact e57_5 _
  · exact e57_5 _
theorem chars_e : ∀ (n : Nat) (l acc : Bs), E57 (chars n l acc)
  | 0, l, acc => e57_5 _
  | n + 1, [], acc => e57_5 _
  | n + 1, c :: l, acc => by
    simp only [chars]
    split
    · exact e57_ok _ _
    · split
      · exact e57_5 _
      · split
        · split
          · exact chars_e n _ _
          · rename_i hh
            intro r' e' h'
            rw [← (bad_inj h').2]
            exact escape_e _ _ _ hh
        · split
          · exact e57_5 _
          · exact chars_e n _ _
theorem text_e (l : Bs) : E57 (text l) := by
  unfold text
  split
  · split
    · exact chars_e _ _ _
    · exact e57_5 _
  · exact e57_5 _
theorem member_e (ob : Bool) (l : Bs) : E57 (member ob l) := by
  unfold member
  split
  · split
    · rename_i hh
      intro r' e' h'
      rw [← (bad_inj h').2]
      exact text_e _ _ _ hh
    · split
      · exact e57_ok _ _
      · exact e57_5 _
  · exact e57_ok _ _
theorem items_e {v : Bs → Bs → Rs F} (hv : ∀ k l, E57 (v k l)) (ob : Bool) (close : UInt8) : ∀ (n : Nat) (l : Bs), E57 (items v ob close n l)
  | 0, l => e57_5 _
  | n + 1, l => by
    simp only [items]
    split
    · rename_i hh
      intro r' e' h'
      rw [← (bad_inj h').2]
      exact member_e _ _ _ _ hh
    · split
      · rename_i hh
        intro r' e' h'
        rw [← (bad_inj h').2]
        exact hv _ _ _ _ hh
      · split
        · exact e57_ok _ _
        · split
          · exact (items_e hv ob close n _).map
          · exact e57_5 _
theorem many_e {v : Bs → Bs → Rs F} (hv : ∀ k l, E57 (v k l)) (ob : Bool) (key l : Bs) : E57 (many v ob key l) := by
  unfold many
  simp only
  split <;> split <;> first | exact e57_ok _ _ | exact (items_e hv _ _ _ _).map
theorem value_e : ∀ (d : Nat) (key l : Bs), E57 (value d key l)
  | 0, key, [] => e57_5 _
  | 0, key, c :: l => by
    simp only [value]
    split
    · exact e57_5 _
    · exact fun r e h => .inr (bad_inj h).2.symm
  | d + 1, key, [] => e57_5 _
  | d + 1, key, c :: l => by
    have ih := value_e d
    simp only [value]
    split
    · exact e57_5 _
    · split
      · exact many_e ih _ _ _
      · split
        · exact many_e ih _ _ _
        · split
          · exact (text_e _).map
          · split
            · exact (word_e _ _).map
            · split
              · exact (word_e _ _).map
              · split
                · exact (word_e _ _).map
                · exact (number_e _).map
theorem same_self (l : List (S46)) (hl : l.length ≤ 1099511627776) (k : Nat) (hk : l.length + 1 ≤ k) : racewayref25_Same.f k l l = some true := by
  rw [racewayref25_Same.f, if_pos rfl]
  have : ∀ (n i k : Nat), i + n = l.length → n + 1 ≤ k → racewayref25_Same.l0 k l l (i : Int) = some true := by
    intro n
    induction n with
    | zero =>
      intro i k hi hk
      obtain ⟨k, rfl⟩ : ∃ k', k = k' + 1 := ⟨k - 1, by omega⟩
      rw [racewayref25_Same.l0, if_neg (by omega)]
    | succ n ih =>
      intro i k hi hk
      obtain ⟨k, rfl⟩ : ∃ k', k = k' + 1 := ⟨k - 1, by omega⟩
      rw [racewayref25_Same.l0, if_pos (by omega), if_pos (by omega), if_pos (by omega), if_neg (by simp)]
      have e : wrap64 ((i : Int) + 1) = ((i + 1 : Nat) : Int) := by unfold wrap64; omega
      rw [e]
      exact ih (i + 1) k (by omega) (by omega)
  exact this l.length 0 k (by omega) hk
end Go.Proofs.YtadfkeipcebmfaaDoor.Pure

namespace Go.Proofs.YtadfkeipcebmfaaDoor.Pure
open Go.RowKit Go.Proofs.YtadfkeipcebmfaaDoor.X Go.Proofs.YtadfkeipcebmfaaDoorW.PrintWords Go.Proofs.YtadfkeipcebmfaaDoorW.PrintMore
set_option linter.unusedVariables false
set_option linter.unusedSimpArgs false
theorem and3 (x : Int) : ∃ j : Nat, j < 4 ∧ bits .and .i64 x 3 = (j : Int) := by
  unfold bits
  simp only
  have h : (BitVec.ofInt IntKind.i64.bits x &&& BitVec.ofInt IntKind.i64.bits 3).toNat < 4 := by
    rw [BitVec.toNat_and]
    have e : (BitVec.ofInt IntKind.i64.bits 3).toNat = 3 := by decide
    rw [e]
    exact Nat.lt_of_le_of_lt Nat.and_le_right (by decide)
  refine ⟨_, h, ?_⟩
  rw [IntKind.wrap_i64]
  omega
theorem w64p {x : Int} (h0 : -9223372036854775808 ≤ x) (h1 : x ≤ 9223372036854775807) : wrap64 x = x := by unfold wrap64; omega
theorem mn_cut (s : ByteArray) : 0 ≤ mn (s.size : Int) 1500 ∧ mn (s.size : Int) 1500 ≤ (s.size : Int) ∧ mn (s.size : Int) 1500 ≤ 1500 := by
  unfold mn
  split <;> omega
theorem parse_ok {s : Bs} {f : F} {p : Int} (h : parse s = (f, p, 0)) : s.length ≤ 65536 ∧ ∃ r, value 32 [] (blanks s) = .ok r f ∧ blanks r = [] := by
  unfold parse at h
  split at h
  · cases h
  · rename_i hl
    refine ⟨by omega, ?_⟩
    split at h
    · rename_i r e hv
      have := value_e 32 [] (blanks s) r e hv
      simp only [Prod.mk.injEq] at h
      omega
    · rename_i r g hv
      split at h
      · rename_i hb
        simp only [Prod.mk.injEq] at h
        exact ⟨r, h.1 ▸ hv, hb⟩
      · simp only [Prod.mk.injEq] at h
        omega
theorem parse_bad {s : Bs} {f : F} {p e : Int} (h : parse s = (f, p, e)) (he : e ≠ 0) : f = .nil := by
  unfold parse at h
  split at h
  · simp only [Prod.mk.injEq] at h
    exact h.1.symm
  · split at h
    · simp only [Prod.mk.injEq] at h
      exact h.1.symm
    · split at h
      · simp only [Prod.mk.injEq] at h
        exact absurd h.2.2.symm he
      · simp only [Prod.mk.injEq] at h
        exact h.1.symm
theorem blanks_ahead : ∀ (b y : Bs), (∀ c ∈ b, isBlank c = true) → blanks (b ++ y) = blanks y
  | [], y, h => rfl
  | c :: b, y, h => by
    rw [List.cons_append, blanks, if_pos (h c (by simp))]
    exact blanks_ahead b y (fun d hd => h d (by simp [hd]))
theorem blanks_all (b : Bs) (h : ∀ c ∈ b, isBlank c = true) : blanks b = [] := by
  have := blanks_ahead b [] h
  simpa [blanks] using this
/-- A text with blanks ahead and something behind. -/
theorem parse_more {s : Bs} {f : F} (h : parse s = (f, 0, 0)) (b x : Bs) (hb : ∀ c ∈ b, isBlank c = true) (hx : stops x = true) (hl : b.length + s.length + x.length ≤ 65536) :
    parse (b ++ s ++ x) = match blanks x with
      | [] => (f, 0, 0)
      | c :: r' => (.nil, ((b.length + s.length + x.length - (r'.length + 1) : Nat) : Int), 5) := by
  obtain ⟨_, r, hv, hr⟩ := parse_ok h
  have hne : blanks s ≠ [] := by
    intro e
    rw [e] at hv
    exact value_ne _ _ _ _ hv
  have h1 : blanks (b ++ s ++ x) = blanks s ++ x := by
    rw [List.append_assoc, blanks_ahead _ _ hb, blanks_ext x _ hne]
  have h2 := value_ext x hx 32 [] _ _ _ hv
  have h3 : blanks (r ++ x) = blanks x := blanks_none x r hr
  unfold parse
  rw [if_neg (by simp; omega), h1, h2]
  simp only
  rw [h3]
  cases blanks x with
  | nil => rfl
  | cons c r' => simp [Nat.add_assoc]
theorem parse_at {s : Bs} {f : F} {p : Int} (h : parse s = (f, p, 0)) : p = 0 := by
  unfold parse at h
  split at h
  · cases h
  · split at h
    · rename_i r e hv
      have := value_e 32 [] (blanks s) r e hv
      simp only [Prod.mk.injEq] at h
      omega
    · split at h
      · simp only [Prod.mk.injEq] at h
        exact h.2.1.symm
      · simp only [Prod.mk.injEq] at h
        omega
theorem data_app (a b : ByteArray) : (a ++ b).data.toList = a.data.toList ++ b.data.toList := by simp
theorem Pf (a : ByteArray) : jsontext_Parse.f a = some ((parse a.data.toList).1.flat, (parse a.data.toList).2.1, (parse a.data.toList).2.2) := rfl
theorem ar_value : ∀ (d : Nat) (key l r : Bs) (f : F), value d key l = .ok r f → f.flat.length ≤ l.length := fun d key l r f h => by
  have := (value_owes d key l r f h).2
  omega
theorem flat_len {s : Bs} {f : F} (h : parse s = (f, 0, 0)) : f.flat.length ≤ 65536 := by
  obtain ⟨h1, r, hv, _⟩ := parse_ok h
  have := ar_value _ _ _ _ _ hv
  have := blanks_len s
  omega
theorem tail_1 (s : ByteArray) (f : F) (h : parse s.data.toList = (f, 0, 0)) (hs : s.size ≤ 1500) : jsontext_Parse.f (s ++ (⟨#[32, 93]⟩ : ByteArray)) = some ([], (s.size : Int) + 1, 5) := by
  have hlen : s.data.toList.length = s.size := by simp
  have hp := parse_more h [] [32, 93] (by simp) (by decide) (by simp; omega)
  rw [List.nil_append] at hp
  have hb : blanks ([32, 93] : Bs) = [93] := by decide
  rw [hb] at hp
  simp only [List.length_nil, List.length_cons, hlen] at hp
  have hd : (s ++ (⟨#[32, 93]⟩ : ByteArray)).data.toList = s.data.toList ++ [32, 93] := data_app _ _
  rw [Pf, hd, hp]
  have e : ((0 + s.size + (0 + 1 + 1) - (0 + 1) : Nat) : Int) = (s.size : Int) + 1 := by omega
  rw [e]
  rfl
theorem tail_2 (s : ByteArray) (f : F) (h : parse s.data.toList = (f, 0, 0)) (hs : s.size ≤ 1500) (c : Int) : jsontext_Parse.f ((s ++ (⟨#[44]⟩ : ByteArray)) ++ (strOfNums [c])) = some ([], (s.size : Int), 5) := by
  have hlen : s.data.toList.length = s.size := by simp
  generalize hC : UInt8.ofNat c.toNat = C
  have hp := parse_more h [] [44, C] (by simp) (by simp only [stops]; decide) (by simp; omega)
  rw [List.nil_append] at hp
  have h44 : isBlank 44 = false := by decide
  have hb : blanks ([44, C] : Bs) = [44, C] := by rw [blanks, h44]; rfl
  rw [hb] at hp
  simp only [List.length_nil, List.length_cons, hlen] at hp
  have hd : ((s ++ (⟨#[44]⟩ : ByteArray)) ++ (strOfNums [c])).data.toList = s.data.toList ++ [44, C] := by
    rw [data_app, data_app, List.append_assoc, ← hC]
    rfl
  rw [Pf, hd, hp]
  have e : ((0 + s.size + (0 + 1 + 1) - (0 + 1 + 1) : Nat) : Int) = (s.size : Int) := by omega
  rw [e]
  rfl
theorem j1_true (s : ByteArray) (f : F) (h : parse s.data.toList = (f, 0, 0)) (hs : s.size ≤ 1500) (c : Int) (k : Nat) : racewaylaw25_JsontextBlanks.j1 (k + 1) s c false = some true := by
  have e1 := tail_1 s f h hs
  have e2 := tail_2 s f h hs c
  have hsz : (strOfNums [c]).size = 1 := rfl
  have w1 : wrap64 ((s.size : Int) + 1) = (s.size : Int) + 1 := w64p (by omega) (by omega)
  have b1 : s.size + 2 ≤ 9223372036854775807 := by omega
  have b2 : s.size + 1 ≤ 9223372036854775807 := by omega
  have b3 : s.size + 1 + 1 ≤ 9223372036854775807 := by omega
  rw [racewaylaw25_JsontextBlanks.j1, if_neg (by decide), if_pos b1, e1, Option.bind_some, if_pos b2, Option.bind_some, hsz, if_pos b3, e2, Option.bind_some, w1, if_pos (show ((([] : List (S46)), (s.size : Int) + 1, (5 : Int)).2.1 = (s.size : Int) + 1) from rfl), if_pos (show (([] : List (S46)), (s.size : Int) + 1, (5 : Int)).2.2 = 5 from rfl), if_pos (show (([] : List (S46)), (s.size : Int), (5 : Int)).2.1 = (s.size : Int) from rfl), if_pos (show (([] : List (S46)), (s.size : Int), (5 : Int)).2.2 = 5 from rfl), works_true, Option.bind_some]
theorem blk_one (j : Nat) (hj : j < 4) : ∃ c, ((⟨#[32, 9, 10, 13]⟩ : ByteArray).extract j (j + 1)).data.toList = [c] ∧ isBlank c = true := by
  match j, hj with
  | 0, _ => exact ⟨32, by decide, by decide⟩
  | 1, _ => exact ⟨9, by decide, by decide⟩
  | 2, _ => exact ⟨10, by decide, by decide⟩
  | 3, _ => exact ⟨13, by decide, by decide⟩
theorem l0_true (s : ByteArray) (f : F) (h : parse s.data.toList = (f, 0, 0)) (hs : s.size ≤ 1500) (n c : Int) (m : Nat) (hm : m ≤ 9) : ∀ (d i : Nat) (b : ByteArray) (k : Nat), i + d = m → b.size = i → (∀ c ∈ b.data.toList, isBlank c = true) → d + 70000 ≤ k →
    racewaylaw25_JsontextBlanks.l0 k s n c f.flat b (m : Int) (i : Int) = some true := by
  intro d
  induction d with
  | zero =>
    intro i b k hi hbs hb hk
    obtain ⟨k, rfl⟩ : ∃ k', k = k' + 1 := ⟨k - 1, by omega⟩
    have hlen : s.data.toList.length = s.size := by simp
    have hblen : b.data.toList.length = b.size := by simp
    have hfl := flat_len h
    have e1 : jsontext_Parse.f ((b ++ s) ++ b) = some (f.flat, 0, 0) := by
      have hst : stops b.data.toList = true := by
        cases hl : b.data.toList with
        | nil => rfl
        | cons c l =>
          have hc := hb c (by rw [hl]; simp)
          have := all_bytes (p := fun c => !isBlank c || (!isDig c && c != 46 && c != 101 && c != 69)) (by decide +kernel) c
          simp only [hc, Bool.not_true, Bool.false_or] at this
          exact this
      have hp := parse_more h b.data.toList b.data.toList hb hst (by omega)
      rw [blanks_all _ hb] at hp
      rw [Pf, data_app, data_app, hp]
    rw [racewaylaw25_JsontextBlanks.l0, if_neg (by omega), if_pos (by omega), if_pos (by omega), e1]
    simp only [Option.bind_some]
    rw [same_self _ (by omega) k (by omega)]
    simp only [Option.bind_some, Bool.not_true, if_true]
    obtain ⟨k, rfl⟩ : ∃ k', k = k' + 1 := ⟨k - 1, by omega⟩
    exact j1_true s f h hs c k
  | succ d ih =>
    intro i b k hi hbs hb hk
    obtain ⟨k, rfl⟩ : ∃ k', k = k' + 1 := ⟨k - 1, by omega⟩
    obtain ⟨j, hj, ej⟩ := and3 n
    obtain ⟨bc, eb, hbc⟩ := blk_one j hj
    rw [racewaylaw25_JsontextBlanks.l0, ej, if_pos (by omega), if_pos (by omega), w64p (by omega) (by omega), if_pos (by omega), if_pos (by omega)]
    have e3 : ((j : Int) + 1).toNat = j + 1 := by omega
    rw [e3, Int.toNat_natCast]
    have hsz : ((⟨#[32, 9, 10, 13]⟩ : ByteArray).extract j (j + 1)).size = 1 := by
      have hd : ∀ (x : ByteArray) (c : UInt8), x.data.toList = [c] → x.size = 1 := fun x c h => by
        have := congrArg List.length h
        simpa using this
      exact hd _ _ eb
    rw [hsz, if_pos (by omega), w64p (by omega) (by omega)]
    rw [show ((i : Int) + 1) = ((i + 1 : Nat) : Int) by omega]
    refine ih (i + 1) _ k (by omega) ?_ ?_ (by omega)
    · have : (b ++ (⟨#[32, 9, 10, 13]⟩ : ByteArray).extract j (j + 1)).size = b.size + ((⟨#[32, 9, 10, 13]⟩ : ByteArray).extract j (j + 1)).size := ByteArray.size_append
      rw [this, hsz, hbs]
    · intro c' hc'
      rw [data_app, eb] at hc'
      simp only [List.mem_append, List.mem_singleton] at hc'
      rcases hc' with hc' | rfl
      · exact hb _ hc'
      · exact hbc
theorem JsontextBlanks : racewaylaw25_JsontextBlanks.Pure := by
  intro a0 a1 a2 h0 h1 h2
  refine ⟨80000, ?_⟩
  obtain ⟨m0, m1, m2⟩ := mn_cut a0
  generalize hX : a0.extract 0 ((mn (a0.size : Int) 1500) : Int).toNat = X
  have hXs : X.size ≤ 1500 := by rw [← hX, ByteArray.size_extract]; omega
  unfold racewaylaw25_JsontextBlanks.f
  rw [if_pos m0, if_pos m1, hX, Pf]
  simp only [Option.bind_some]
  cases hp : parse X.data.toList with
  | mk f pe =>
    obtain ⟨p, e⟩ := pe
    simp only
    by_cases he : e = 0
    · subst he
      obtain rfl := parse_at hp
      rw [if_pos rfl]
      have hr : ∃ m : Nat, m < 9 ∧ Int.tmod (wrap64 ((Int.tmod a1 9) + 9)) 9 = (m : Int) := by
        have h1 := Int.tmod_lt_of_pos a1 (show (0 : Int) < 9 by decide)
        have h2 : -9 < Int.tmod a1 9 := by
          have := Int.lt_tmod_of_pos a1 (show (0 : Int) < 9 by decide)
          simpa using this
        have h3 : wrap64 ((Int.tmod a1 9) + 9) = (Int.tmod a1 9) + 9 := by unfold wrap64; omega
        rw [h3]
        have h4 : 0 ≤ Int.tmod a1 9 + 9 := by omega
        refine ⟨(Int.tmod (Int.tmod a1 9 + 9) 9).toNat, ?_, ?_⟩
        · have := Int.tmod_lt_of_pos (Int.tmod a1 9 + 9) (show (0 : Int) < 9 by decide)
          have := Int.tmod_nonneg 9 h4
          omega
        · have := Int.tmod_nonneg 9 h4
          omega
      obtain ⟨m, hm, em⟩ := hr
      rw [em]
      exact l0_true X f hp hXs a1 a2 m (by omega) m 0 ⟨#[]⟩ 80000 (by omega) rfl (by simp) (by omega)
    · rw [if_neg he]
      have := parse_bad hp he
      subst this
      rw [if_pos (by rfl), works_true]
      rfl
end Go.Proofs.YtadfkeipcebmfaaDoor.Pure

