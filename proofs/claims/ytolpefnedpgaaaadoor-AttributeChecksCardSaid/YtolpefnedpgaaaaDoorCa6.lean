/-
  What the claim's law rests on, part 6 of 6: printed walks, externals, plain lemmas; conditions: none of its own.
-/
import Derived.ChangeSame
import Derived.Deep.Slices
import Derived.Handed
import Derived.HandedShaped
import Derived.LaidSub
import Derived.Lib.IndexBytes
import Derived.Lib.IndexMore
import Derived.Lib.LaidTab
import Derived.Lib.Replace
import Derived.ShapedOpen
import Derived.SliceStrings
import Derived.Test.YtolpefnedpgaaaaDoorCa5
namespace Go.Proofs.YtolpefnedpgaaaaDoor.X
open Go.RowKit Go.Proofs.YtolpefnedpgaaaaDoorW.PrintWords Go.Proofs.YtolpefnedpgaaaaDoorW.PrintLast Go.Proofs.YtolpefnedpgaaaaDoorW.PrintMore
attribute [local go_sem] max2_int min2_int max_two min_two max_three min_three max_four min_four   -- for this text's walks alone
set_option linter.unusedVariables false
set_option linter.unusedSimpArgs false

def racewaylaw24_AttributeChecks.f (k : Nat) (l0 : List (S33)) : Option (Bool) := (racewaylaw24_few.f k l0).bind fun t247 => ((attribute_Check.f k t247).bind fun bt250 => ((racewayref24_Check.f k t247).bind fun bt252 => (if bt250.1 = bt252.1 then (if bt250.2 = bt252.2 then ((attribute_Size.f k t247).bind fun t254 => ((racewayref24_Size.f k t247).bind fun t255 => (if t254 = t255 then ((racewaylaw24_works.f k).bind fun t256 => (some t256)) else (some false)))) else (some false)) else (some false))))
set_option maxHeartbeats 8000000 in
set_option maxRecDepth 100000 in
theorem racewaylaw24_AttributeChecks.calls (k : Nat) (A0 : Option Addr) (c0 : Nat) (l0 : List (S33)) (r : Bool) (w : World) (hGFp : GlobFp w) (hGMax : GlobMax w) (hr0 : Kd.C k33 w A0 l0.length l0) (hc0 : l0.length ≤ c0) (h : racewaylaw24_AttributeChecks.f k l0 = some r) :
    Calls Tryd.prog 9 #[.slice A0 l0.length c0] w fun e w' => e = .returned (.bool r) ∧ Below w.heap.size w w' := by
  have HGFp := Aside0.mk hGFp
  clear hGFp
  have HGMax := Aside0.mk hGMax
  clear hGMax
  have HR0 := Aside0.mk hr0
  have HC0 := Aside0.mk hc0
  clear hr0 hc0
  have HB := Aside0.mk (Below.refl w.heap.size w)
  have H : ((racewaylaw24_few.f k l0).bind fun t247 => ((attribute_Check.f k t247).bind fun bt250 => ((racewayref24_Check.f k t247).bind fun bt252 => (if bt250.1 = bt252.1 then (if bt250.2 = bt252.2 then ((attribute_Size.f k t247).bind fun t254 => ((racewayref24_Size.f k t247).bind fun t255 => (if t254 = t255 then ((racewaylaw24_works.f k).bind fun t256 => (some t256)) else (some false)))) else (some false)) else (some false))))) = some r := h
  clear h
  replace H := Option.bind_eq_some_iff.mp H
  obtain ⟨t247, A20, H⟩ := H
  replace H : ((attribute_Check.f k t247).bind fun bt250 => ((racewayref24_Check.f k t247).bind fun bt252 => (if bt250.1 = bt252.1 then (if bt250.2 = bt252.2 then ((attribute_Size.f k t247).bind fun t254 => ((racewayref24_Size.f k t247).bind fun t255 => (if t254 = t255 then ((racewaylaw24_works.f k).bind fun t256 => (some t256)) else (some false)))) else (some false)) else (some false)))) = some r := H
  have A2 := Aside0.mk A20
  clear A20
  replace H := Option.bind_eq_some_iff.mp H
  obtain ⟨⟨t250, t251⟩, A30, H⟩ := H
  replace H : ((racewayref24_Check.f k t247).bind fun bt252 => (if t250 = bt252.1 then (if t251 = bt252.2 then ((attribute_Size.f k t247).bind fun t254 => ((racewayref24_Size.f k t247).bind fun t255 => (if t254 = t255 then ((racewaylaw24_works.f k).bind fun t256 => (some t256)) else (some false)))) else (some false)) else (some false))) = some r := H
  have A3 := Aside0.mk A30
  clear A30
  replace H := Option.bind_eq_some_iff.mp H
  obtain ⟨⟨t252, t253⟩, A40, H⟩ := H
  replace H : (if t250 = t252 then (if t251 = t253 then ((attribute_Size.f k t247).bind fun t254 => ((racewayref24_Size.f k t247).bind fun t255 => (if t254 = t255 then ((racewaylaw24_works.f k).bind fun t256 => (some t256)) else (some false)))) else (some false)) else (some false)) = some r := H
  have A4 := Aside0.mk A40
  clear A40
  by_cases c5 : t250 = t252
  · rw [if_pos c5] at H
    have c5b0 : (t250 == t252) = true := beq_iff_eq.mpr c5
    have c5b1 : (t250 != t252) = false := bne_eq_false_iff_eq.mpr c5
    clear c5
    by_cases c6 : t251 = t253
    · rw [if_pos c6] at H
      have c6b0 : (t251 == t253) = true := beq_iff_eq.mpr c6
      have c6b1 : (t251 != t253) = false := bne_eq_false_iff_eq.mpr c6
      clear c6
      replace H := Option.bind_eq_some_iff.mp H
      obtain ⟨t254, A70, H⟩ := H
      replace H : ((racewayref24_Size.f k t247).bind fun t255 => (if t254 = t255 then ((racewaylaw24_works.f k).bind fun t256 => (some t256)) else (some false))) = some r := H
      have A7 := Aside0.mk A70
      clear A70
      replace H := Option.bind_eq_some_iff.mp H
      obtain ⟨t255, A80, H⟩ := H
      replace H : (if t254 = t255 then ((racewaylaw24_works.f k).bind fun t256 => (some t256)) else (some false)) = some r := H
      have A8 := Aside0.mk A80
      clear A80
      by_cases c9 : t254 = t255
      · rw [if_pos c9] at H
        have c9b0 : (t254 == t255) = true := beq_iff_eq.mpr c9
        have c9b1 : (t254 != t255) = false := bne_eq_false_iff_eq.mpr c9
        clear c9
        replace H := Option.bind_eq_some_iff.mp H
        obtain ⟨t256, A100, H⟩ := H
        replace H : (some t256) = some r := H
        have A10 := Aside0.mk A100
        clear A100
        obtain rfl := Option.some.inj H
        go_enter Tryd.func9, Tryd.ntmps9
        go_wp2_with (first | ((with_reducible refine gate_callee (f := 17) rfl ?_); refine goesL_ (some 8) rfl rfl Tryd.func17 (by kernel_rfl) rfl #[.slice A0 l0.length c0] rfl (by (try simp only [List.map_toArray, List.map_cons, List.map_nil]); first | done | rfl | (simp only [List.length_drop, List.length_take]; rfl)) ?_; (with_reducible refine (racewaylaw24_few.calls k _ _ l0 t247 _ ?side1 ?side2 A2.out).mono ?_); (case side1 => repeat (first | exact HR0.out | (with_reducible refine Kd.C_alloc ?_ _) | (with_reducible refine Kd.C_drewN ?_ _) | (with_reducible refine Kd.C_drew ?_))); (case side2 => exact HC0.out); rintro e w11 ⟨v248, rfl, ho0, hb⟩; refine ⟨_, rfl, ?_⟩; have n0_ := Aside0.mk (Kd.R_lower ho0 (below_size (by repeat (first | (with_reducible first | exact HB.out | apply below_alloc | apply pw_below_drewN | apply below_drew1) | exact HB.out)))); have n1_ := Aside0.mk (below_step (by repeat (first | (with_reducible first | exact HB.out | apply below_alloc | apply pw_below_drewN | apply below_drew1) | exact HB.out)) hb); clear HB; have HO249 := n0_; have HB := n1_; clear n0_ n1_; (try clear hb); (try clear hb2); (try clear hk); (try clear hi); (try clear ho0); obtain ⟨Ao12, co12, eo12⟩ := Kd.R_slice HO249.out; subst eo12) | ((with_reducible refine gate_callee (f := 23) rfl ?_); refine goesL_ (some 11) rfl rfl Tryd.func23 (by kernel_rfl) rfl #[.slice Ao12 t247.length co12] rfl (by (try simp only [List.map_toArray, List.map_cons, List.map_nil]); first | done | rfl | (simp only [List.length_drop, List.length_take]; rfl)) ?_; (with_reducible refine (attribute_Check.calls k _ _ t247 t250 t251 _ ?side3 ?side1 ?side2 A3.out).mono ?_); (case side1 => repeat (first | exact (Kd.R_reads' HO249.out).2.2 | (with_reducible refine Kd.C_alloc ?_ _) | (with_reducible refine Kd.C_drewN ?_ _) | (with_reducible refine Kd.C_drew ?_))); (case side2 => exact (Kd.R_reads' HO249.out).2.1); (case side3 => first | exact HGMax.out | exact GlobMax.below HGMax.out (by repeat (first | (with_reducible first | exact HB.out | apply below_alloc | apply pw_below_drewN | apply below_drew1) | exact HB.out)) | exact GlobMax.drawn HGMax.out (by repeat (first | exact Drawn0.refl _ | apply Drawn0.step))); rintro e w13 ⟨rfl, hb⟩; refine ⟨_, rfl, ?_⟩; have n0_ := Aside0.mk (Kd.R_below (by (with_reducible repeat (first | apply Kd.R_alloc | apply Kd.R_drewN | apply Kd.R_drew)); exact HO249.out) hb); have n1_ := Aside0.mk (below_step (by repeat (first | (with_reducible first | exact HB.out | apply below_alloc | apply pw_below_drewN | apply below_drew1) | exact HB.out)) hb); clear HO249; clear HB; have HO249 := n0_; have HB := n1_; clear n0_ n1_; (try clear hb); (try clear hb2); (try clear hk); (try clear hi)) | ((with_reducible refine gate_callee (f := 26) rfl ?_); refine goesL_ (some 16) rfl rfl Tryd.func26 (by kernel_rfl) rfl #[.slice Ao12 t247.length co12] rfl (by (try simp only [List.map_toArray, List.map_cons, List.map_nil]); first | done | rfl | (simp only [List.length_drop, List.length_take]; rfl)) ?_; (with_reducible refine (racewayref24_Check.calls k _ _ t247 t252 t253 _ ?side1 ?side2 A4.out).mono ?_); (case side1 => repeat (first | exact (Kd.R_reads' HO249.out).2.2 | (with_reducible refine Kd.C_alloc ?_ _) | (with_reducible refine Kd.C_drewN ?_ _) | (with_reducible refine Kd.C_drew ?_))); (case side2 => exact (Kd.R_reads' HO249.out).2.1); rintro e w14 ⟨rfl, hb⟩; refine ⟨_, rfl, ?_⟩; have n0_ := Aside0.mk (Kd.R_below (by (with_reducible repeat (first | apply Kd.R_alloc | apply Kd.R_drewN | apply Kd.R_drew)); exact HO249.out) hb); have n1_ := Aside0.mk (below_step (by repeat (first | (with_reducible first | exact HB.out | apply below_alloc | apply pw_below_drewN | apply below_drew1) | exact HB.out)) hb); clear HO249; clear HB; have HO249 := n0_; have HB := n1_; clear n0_ n1_; (try clear hb); (try clear hb2); (try clear hk); (try clear hi)) | (go_at_call 27; (with_reducible refine (attribute_Size.calls k _ _ t247 t254 _ ?side1 ?side2 A7.out).mono ?_); (case side1 => repeat (first | exact (Kd.R_reads' HO249.out).2.2 | (with_reducible refine Kd.C_alloc ?_ _) | (with_reducible refine Kd.C_drewN ?_ _) | (with_reducible refine Kd.C_drew ?_))); (case side2 => exact (Kd.R_reads' HO249.out).2.1); rintro e w15 ⟨rfl, hb⟩; have n0_ := Aside0.mk (Kd.R_below (by (with_reducible repeat (first | apply Kd.R_alloc | apply Kd.R_drewN | apply Kd.R_drew)); exact HO249.out) hb); have n1_ := Aside0.mk (below_step (by repeat (first | (with_reducible first | exact HB.out | apply below_alloc | apply pw_below_drewN | apply below_drew1) | exact HB.out)) hb); clear HO249; clear HB; have HO249 := n0_; have HB := n1_; clear n0_ n1_; (try clear hb); (try clear hb2); (try clear hk); (try clear hi)) | (go_at_call 28; (with_reducible refine (racewayref24_Size.calls k _ _ t247 t255 _ ?side1 ?side2 A8.out).mono ?_); (case side1 => repeat (first | exact (Kd.R_reads' HO249.out).2.2 | (with_reducible refine Kd.C_alloc ?_ _) | (with_reducible refine Kd.C_drewN ?_ _) | (with_reducible refine Kd.C_drew ?_))); (case side2 => exact (Kd.R_reads' HO249.out).2.1); rintro e w' ⟨rfl, ⟨nd, rfl⟩⟩) | (go_at_call 16; (with_reducible refine (racewaylaw24_works.calls k  t256 _ ?side1 ?side2 A10.out).mono ?_); (case side1 => first | exact HGFp.out | exact GlobFp.below HGFp.out (by repeat (first | (with_reducible first | exact HB.out | apply below_alloc | apply pw_below_drewN | apply below_drew1) | exact HB.out)) | exact GlobFp.drawn HGFp.out (by repeat (first | exact Drawn0.refl _ | apply Drawn0.step))); (case side2 => first | exact HGMax.out | exact GlobMax.below HGMax.out (by repeat (first | (with_reducible first | exact HB.out | apply below_alloc | apply pw_below_drewN | apply below_drew1) | exact HB.out)) | exact GlobMax.drawn HGMax.out (by repeat (first | exact Drawn0.refl _ | apply Drawn0.step))); rintro e w16 ⟨rfl, hb⟩; have n0_ := Aside0.mk (Kd.R_below (by (with_reducible repeat (first | apply Kd.R_alloc | apply Kd.R_drewN | apply Kd.R_drew)); exact HO249.out) hb); have n1_ := Aside0.mk (below_step (by repeat (first | (with_reducible first | exact HB.out | apply below_alloc | apply pw_below_drewN | apply below_drew1) | exact HB.out)) hb); clear HO249; clear HB; have HO249 := n0_; have HB := n1_; clear n0_ n1_; (try clear hb); (try clear hb2); (try clear hk); (try clear hi)))
        go_ret
        exact ⟨by first | rfl | (simp [errW_none, errW_some] <;> rfl) | (simp [*, errW_none, errW_some] <;> rfl), by repeat (first | (with_reducible first | exact HB.out | apply below_alloc | apply pw_below_drewN | apply below_drew1) | exact HB.out)⟩
      · rw [if_neg c9] at H
        have c9b0 : (t254 == t255) = false := beq_eq_false_iff_ne.mpr c9
        have c9b1 : (t254 != t255) = true := bne_iff_ne.mpr c9
        obtain rfl := Option.some.inj H
        go_enter Tryd.func9, Tryd.ntmps9
        go_wp2_with (first | ((with_reducible refine gate_callee (f := 17) rfl ?_); refine goesL_ (some 8) rfl rfl Tryd.func17 (by kernel_rfl) rfl #[.slice A0 l0.length c0] rfl (by (try simp only [List.map_toArray, List.map_cons, List.map_nil]); first | done | rfl | (simp only [List.length_drop, List.length_take]; rfl)) ?_; (with_reducible refine (racewaylaw24_few.calls k _ _ l0 t247 _ ?side1 ?side2 A2.out).mono ?_); (case side1 => repeat (first | exact HR0.out | (with_reducible refine Kd.C_alloc ?_ _) | (with_reducible refine Kd.C_drewN ?_ _) | (with_reducible refine Kd.C_drew ?_))); (case side2 => exact HC0.out); rintro e w17 ⟨v248, rfl, ho0, hb⟩; refine ⟨_, rfl, ?_⟩; have n0_ := Aside0.mk (Kd.R_lower ho0 (below_size (by repeat (first | (with_reducible first | exact HB.out | apply below_alloc | apply pw_below_drewN | apply below_drew1) | exact HB.out)))); have n1_ := Aside0.mk (below_step (by repeat (first | (with_reducible first | exact HB.out | apply below_alloc | apply pw_below_drewN | apply below_drew1) | exact HB.out)) hb); clear HB; have HO249 := n0_; have HB := n1_; clear n0_ n1_; (try clear hb); (try clear hb2); (try clear hk); (try clear hi); (try clear ho0); obtain ⟨Ao18, co18, eo18⟩ := Kd.R_slice HO249.out; subst eo18) | ((with_reducible refine gate_callee (f := 23) rfl ?_); refine goesL_ (some 11) rfl rfl Tryd.func23 (by kernel_rfl) rfl #[.slice Ao18 t247.length co18] rfl (by (try simp only [List.map_toArray, List.map_cons, List.map_nil]); first | done | rfl | (simp only [List.length_drop, List.length_take]; rfl)) ?_; (with_reducible refine (attribute_Check.calls k _ _ t247 t250 t251 _ ?side3 ?side1 ?side2 A3.out).mono ?_); (case side1 => repeat (first | exact (Kd.R_reads' HO249.out).2.2 | (with_reducible refine Kd.C_alloc ?_ _) | (with_reducible refine Kd.C_drewN ?_ _) | (with_reducible refine Kd.C_drew ?_))); (case side2 => exact (Kd.R_reads' HO249.out).2.1); (case side3 => first | exact HGMax.out | exact GlobMax.below HGMax.out (by repeat (first | (with_reducible first | exact HB.out | apply below_alloc | apply pw_below_drewN | apply below_drew1) | exact HB.out)) | exact GlobMax.drawn HGMax.out (by repeat (first | exact Drawn0.refl _ | apply Drawn0.step))); rintro e w19 ⟨rfl, hb⟩; refine ⟨_, rfl, ?_⟩; have n0_ := Aside0.mk (Kd.R_below (by (with_reducible repeat (first | apply Kd.R_alloc | apply Kd.R_drewN | apply Kd.R_drew)); exact HO249.out) hb); have n1_ := Aside0.mk (below_step (by repeat (first | (with_reducible first | exact HB.out | apply below_alloc | apply pw_below_drewN | apply below_drew1) | exact HB.out)) hb); clear HO249; clear HB; have HO249 := n0_; have HB := n1_; clear n0_ n1_; (try clear hb); (try clear hb2); (try clear hk); (try clear hi)) | ((with_reducible refine gate_callee (f := 26) rfl ?_); refine goesL_ (some 16) rfl rfl Tryd.func26 (by kernel_rfl) rfl #[.slice Ao18 t247.length co18] rfl (by (try simp only [List.map_toArray, List.map_cons, List.map_nil]); first | done | rfl | (simp only [List.length_drop, List.length_take]; rfl)) ?_; (with_reducible refine (racewayref24_Check.calls k _ _ t247 t252 t253 _ ?side1 ?side2 A4.out).mono ?_); (case side1 => repeat (first | exact (Kd.R_reads' HO249.out).2.2 | (with_reducible refine Kd.C_alloc ?_ _) | (with_reducible refine Kd.C_drewN ?_ _) | (with_reducible refine Kd.C_drew ?_))); (case side2 => exact (Kd.R_reads' HO249.out).2.1); rintro e w20 ⟨rfl, hb⟩; refine ⟨_, rfl, ?_⟩; have n0_ := Aside0.mk (Kd.R_below (by (with_reducible repeat (first | apply Kd.R_alloc | apply Kd.R_drewN | apply Kd.R_drew)); exact HO249.out) hb); have n1_ := Aside0.mk (below_step (by repeat (first | (with_reducible first | exact HB.out | apply below_alloc | apply pw_below_drewN | apply below_drew1) | exact HB.out)) hb); clear HO249; clear HB; have HO249 := n0_; have HB := n1_; clear n0_ n1_; (try clear hb); (try clear hb2); (try clear hk); (try clear hi)) | (go_at_call 27; (with_reducible refine (attribute_Size.calls k _ _ t247 t254 _ ?side1 ?side2 A7.out).mono ?_); (case side1 => repeat (first | exact (Kd.R_reads' HO249.out).2.2 | (with_reducible refine Kd.C_alloc ?_ _) | (with_reducible refine Kd.C_drewN ?_ _) | (with_reducible refine Kd.C_drew ?_))); (case side2 => exact (Kd.R_reads' HO249.out).2.1); rintro e w21 ⟨rfl, hb⟩; have n0_ := Aside0.mk (Kd.R_below (by (with_reducible repeat (first | apply Kd.R_alloc | apply Kd.R_drewN | apply Kd.R_drew)); exact HO249.out) hb); have n1_ := Aside0.mk (below_step (by repeat (first | (with_reducible first | exact HB.out | apply below_alloc | apply pw_below_drewN | apply below_drew1) | exact HB.out)) hb); clear HO249; clear HB; have HO249 := n0_; have HB := n1_; clear n0_ n1_; (try clear hb); (try clear hb2); (try clear hk); (try clear hi)) | (go_at_call 28; (with_reducible refine (racewayref24_Size.calls k _ _ t247 t255 _ ?side1 ?side2 A8.out).mono ?_); (case side1 => repeat (first | exact (Kd.R_reads' HO249.out).2.2 | (with_reducible refine Kd.C_alloc ?_ _) | (with_reducible refine Kd.C_drewN ?_ _) | (with_reducible refine Kd.C_drew ?_))); (case side2 => exact (Kd.R_reads' HO249.out).2.1); rintro e w' ⟨rfl, ⟨nd, rfl⟩⟩))
        go_ret
        exact ⟨by first | rfl | (simp [errW_none, errW_some] <;> rfl) | (simp [*, errW_none, errW_some] <;> rfl), by repeat (first | (with_reducible first | exact HB.out | apply below_alloc | apply pw_below_drewN | apply below_drew1) | exact HB.out)⟩
    · rw [if_neg c6] at H
      have c6b0 : (t251 == t253) = false := beq_eq_false_iff_ne.mpr c6
      have c6b1 : (t251 != t253) = true := bne_iff_ne.mpr c6
      obtain rfl := Option.some.inj H
      go_enter Tryd.func9, Tryd.ntmps9
      go_wp2_with (first | ((with_reducible refine gate_callee (f := 17) rfl ?_); refine goesL_ (some 8) rfl rfl Tryd.func17 (by kernel_rfl) rfl #[.slice A0 l0.length c0] rfl (by (try simp only [List.map_toArray, List.map_cons, List.map_nil]); first | done | rfl | (simp only [List.length_drop, List.length_take]; rfl)) ?_; (with_reducible refine (racewaylaw24_few.calls k _ _ l0 t247 _ ?side1 ?side2 A2.out).mono ?_); (case side1 => repeat (first | exact HR0.out | (with_reducible refine Kd.C_alloc ?_ _) | (with_reducible refine Kd.C_drewN ?_ _) | (with_reducible refine Kd.C_drew ?_))); (case side2 => exact HC0.out); rintro e w22 ⟨v248, rfl, ho0, hb⟩; refine ⟨_, rfl, ?_⟩; have n0_ := Aside0.mk (Kd.R_lower ho0 (below_size (by repeat (first | (with_reducible first | exact HB.out | apply below_alloc | apply pw_below_drewN | apply below_drew1) | exact HB.out)))); have n1_ := Aside0.mk (below_step (by repeat (first | (with_reducible first | exact HB.out | apply below_alloc | apply pw_below_drewN | apply below_drew1) | exact HB.out)) hb); clear HB; have HO249 := n0_; have HB := n1_; clear n0_ n1_; (try clear hb); (try clear hb2); (try clear hk); (try clear hi); (try clear ho0); obtain ⟨Ao23, co23, eo23⟩ := Kd.R_slice HO249.out; subst eo23) | ((with_reducible refine gate_callee (f := 23) rfl ?_); refine goesL_ (some 11) rfl rfl Tryd.func23 (by kernel_rfl) rfl #[.slice Ao23 t247.length co23] rfl (by (try simp only [List.map_toArray, List.map_cons, List.map_nil]); first | done | rfl | (simp only [List.length_drop, List.length_take]; rfl)) ?_; (with_reducible refine (attribute_Check.calls k _ _ t247 t250 t251 _ ?side3 ?side1 ?side2 A3.out).mono ?_); (case side1 => repeat (first | exact (Kd.R_reads' HO249.out).2.2 | (with_reducible refine Kd.C_alloc ?_ _) | (with_reducible refine Kd.C_drewN ?_ _) | (with_reducible refine Kd.C_drew ?_))); (case side2 => exact (Kd.R_reads' HO249.out).2.1); (case side3 => first | exact HGMax.out | exact GlobMax.below HGMax.out (by repeat (first | (with_reducible first | exact HB.out | apply below_alloc | apply pw_below_drewN | apply below_drew1) | exact HB.out)) | exact GlobMax.drawn HGMax.out (by repeat (first | exact Drawn0.refl _ | apply Drawn0.step))); rintro e w24 ⟨rfl, hb⟩; refine ⟨_, rfl, ?_⟩; have n0_ := Aside0.mk (Kd.R_below (by (with_reducible repeat (first | apply Kd.R_alloc | apply Kd.R_drewN | apply Kd.R_drew)); exact HO249.out) hb); have n1_ := Aside0.mk (below_step (by repeat (first | (with_reducible first | exact HB.out | apply below_alloc | apply pw_below_drewN | apply below_drew1) | exact HB.out)) hb); clear HO249; clear HB; have HO249 := n0_; have HB := n1_; clear n0_ n1_; (try clear hb); (try clear hb2); (try clear hk); (try clear hi)) | ((with_reducible refine gate_callee (f := 26) rfl ?_); refine goesL_ (some 16) rfl rfl Tryd.func26 (by kernel_rfl) rfl #[.slice Ao23 t247.length co23] rfl (by (try simp only [List.map_toArray, List.map_cons, List.map_nil]); first | done | rfl | (simp only [List.length_drop, List.length_take]; rfl)) ?_; (with_reducible refine (racewayref24_Check.calls k _ _ t247 t252 t253 _ ?side1 ?side2 A4.out).mono ?_); (case side1 => repeat (first | exact (Kd.R_reads' HO249.out).2.2 | (with_reducible refine Kd.C_alloc ?_ _) | (with_reducible refine Kd.C_drewN ?_ _) | (with_reducible refine Kd.C_drew ?_))); (case side2 => exact (Kd.R_reads' HO249.out).2.1); rintro e w25 ⟨rfl, hb⟩; refine ⟨_, rfl, ?_⟩; have n0_ := Aside0.mk (Kd.R_below (by (with_reducible repeat (first | apply Kd.R_alloc | apply Kd.R_drewN | apply Kd.R_drew)); exact HO249.out) hb); have n1_ := Aside0.mk (below_step (by repeat (first | (with_reducible first | exact HB.out | apply below_alloc | apply pw_below_drewN | apply below_drew1) | exact HB.out)) hb); clear HO249; clear HB; have HO249 := n0_; have HB := n1_; clear n0_ n1_; (try clear hb); (try clear hb2); (try clear hk); (try clear hi)))
      go_ret
      exact ⟨by first | rfl | (simp [errW_none, errW_some] <;> rfl) | (simp [*, errW_none, errW_some] <;> rfl), by repeat (first | (with_reducible first | exact HB.out | apply below_alloc | apply pw_below_drewN | apply below_drew1) | exact HB.out)⟩
  · rw [if_neg c5] at H
    have c5b0 : (t250 == t252) = false := beq_eq_false_iff_ne.mpr c5
    have c5b1 : (t250 != t252) = true := bne_iff_ne.mpr c5
    obtain rfl := Option.some.inj H
    go_enter Tryd.func9, Tryd.ntmps9
    go_wp2_with (first | ((with_reducible refine gate_callee (f := 17) rfl ?_); refine goesL_ (some 8) rfl rfl Tryd.func17 (by kernel_rfl) rfl #[.slice A0 l0.length c0] rfl (by (try simp only [List.map_toArray, List.map_cons, List.map_nil]); first | done | rfl | (simp only [List.length_drop, List.length_take]; rfl)) ?_; (with_reducible refine (racewaylaw24_few.calls k _ _ l0 t247 _ ?side1 ?side2 A2.out).mono ?_); (case side1 => repeat (first | exact HR0.out | (with_reducible refine Kd.C_alloc ?_ _) | (with_reducible refine Kd.C_drewN ?_ _) | (with_reducible refine Kd.C_drew ?_))); (case side2 => exact HC0.out); rintro e w26 ⟨v248, rfl, ho0, hb⟩; refine ⟨_, rfl, ?_⟩; have n0_ := Aside0.mk (Kd.R_lower ho0 (below_size (by repeat (first | (with_reducible first | exact HB.out | apply below_alloc | apply pw_below_drewN | apply below_drew1) | exact HB.out)))); have n1_ := Aside0.mk (below_step (by repeat (first | (with_reducible first | exact HB.out | apply below_alloc | apply pw_below_drewN | apply below_drew1) | exact HB.out)) hb); clear HB; have HO249 := n0_; have HB := n1_; clear n0_ n1_; (try clear hb); (try clear hb2); (try clear hk); (try clear hi); (try clear ho0); obtain ⟨Ao27, co27, eo27⟩ := Kd.R_slice HO249.out; subst eo27) | ((with_reducible refine gate_callee (f := 23) rfl ?_); refine goesL_ (some 11) rfl rfl Tryd.func23 (by kernel_rfl) rfl #[.slice Ao27 t247.length co27] rfl (by (try simp only [List.map_toArray, List.map_cons, List.map_nil]); first | done | rfl | (simp only [List.length_drop, List.length_take]; rfl)) ?_; (with_reducible refine (attribute_Check.calls k _ _ t247 t250 t251 _ ?side3 ?side1 ?side2 A3.out).mono ?_); (case side1 => repeat (first | exact (Kd.R_reads' HO249.out).2.2 | (with_reducible refine Kd.C_alloc ?_ _) | (with_reducible refine Kd.C_drewN ?_ _) | (with_reducible refine Kd.C_drew ?_))); (case side2 => exact (Kd.R_reads' HO249.out).2.1); (case side3 => first | exact HGMax.out | exact GlobMax.below HGMax.out (by repeat (first | (with_reducible first | exact HB.out | apply below_alloc | apply pw_below_drewN | apply below_drew1) | exact HB.out)) | exact GlobMax.drawn HGMax.out (by repeat (first | exact Drawn0.refl _ | apply Drawn0.step))); rintro e w28 ⟨rfl, hb⟩; refine ⟨_, rfl, ?_⟩; have n0_ := Aside0.mk (Kd.R_below (by (with_reducible repeat (first | apply Kd.R_alloc | apply Kd.R_drewN | apply Kd.R_drew)); exact HO249.out) hb); have n1_ := Aside0.mk (below_step (by repeat (first | (with_reducible first | exact HB.out | apply below_alloc | apply pw_below_drewN | apply below_drew1) | exact HB.out)) hb); clear HO249; clear HB; have HO249 := n0_; have HB := n1_; clear n0_ n1_; (try clear hb); (try clear hb2); (try clear hk); (try clear hi)) | ((with_reducible refine gate_callee (f := 26) rfl ?_); refine goesL_ (some 16) rfl rfl Tryd.func26 (by kernel_rfl) rfl #[.slice Ao27 t247.length co27] rfl (by (try simp only [List.map_toArray, List.map_cons, List.map_nil]); first | done | rfl | (simp only [List.length_drop, List.length_take]; rfl)) ?_; (with_reducible refine (racewayref24_Check.calls k _ _ t247 t252 t253 _ ?side1 ?side2 A4.out).mono ?_); (case side1 => repeat (first | exact (Kd.R_reads' HO249.out).2.2 | (with_reducible refine Kd.C_alloc ?_ _) | (with_reducible refine Kd.C_drewN ?_ _) | (with_reducible refine Kd.C_drew ?_))); (case side2 => exact (Kd.R_reads' HO249.out).2.1); rintro e w29 ⟨rfl, hb⟩; refine ⟨_, rfl, ?_⟩; have n0_ := Aside0.mk (Kd.R_below (by (with_reducible repeat (first | apply Kd.R_alloc | apply Kd.R_drewN | apply Kd.R_drew)); exact HO249.out) hb); have n1_ := Aside0.mk (below_step (by repeat (first | (with_reducible first | exact HB.out | apply below_alloc | apply pw_below_drewN | apply below_drew1) | exact HB.out)) hb); clear HO249; clear HB; have HO249 := n0_; have HB := n1_; clear n0_ n1_; (try clear hb); (try clear hb2); (try clear hk); (try clear hi)))
    go_ret
    exact ⟨by first | rfl | (simp [errW_none, errW_some] <;> rfl) | (simp [*, errW_none, errW_some] <;> rfl), by repeat (first | (with_reducible first | exact HB.out | apply below_alloc | apply pw_below_drewN | apply below_drew1) | exact HB.out)⟩

end Go.Proofs.YtolpefnedpgaaaaDoor.X

namespace Go.Proofs.YtolpefnedpgaaaaDoor.X
open Go.RowKit Go.Proofs.YtolpefnedpgaaaaDoorW.PrintWords Go.Proofs.YtolpefnedpgaaaaDoorW.PrintMore
set_option linter.unusedVariables false
set_option linter.unusedSimpArgs false
def dig (c : UInt8) : Bool := decide (48 ≤ c.toNat) && decide (c.toNat ≤ 57)
def dp (c : UInt8) : Bool := c == 46 || dig c
theorem dig_46 : dig 46 = false := by decide
theorem dig_ne {c : UInt8} (h : dig c = true) : c ≠ 46 ∧ c ≠ 69 ∧ c ≠ 101 ∧ c ≠ 43 ∧ c ≠ 45 := by
  refine ⟨?_, ?_, ?_, ?_, ?_⟩ <;> (rintro rfl; revert h; decide)
def unsign : List UInt8 → List UInt8
  | [] => []
  | c :: l => if c = 43 ∨ c = 45 then l else c :: l
def mostOf : List UInt8 → Nat
  | [] => 126
  | c :: _ => if c = 45 then 128 else 126
def expoL (most : Nat) : List UInt8 → Nat → Nat → Bool
  | [], k, v => decide (1 ≤ k) && decide (k ≤ 3) && decide (v ≤ most)
  | c :: l, k, v => if dig c = true ∧ k < 4 then expoL most l (k + 1) (10 * v + (c.toNat - 48)) else false
def tailR (r : List UInt8) (n p : Nat) : Bool :=
  if n < 1 ∨ 38 < n ∨ 1 < p then false else match r with
    | [] => true
    | c :: r' => if c = 101 ∨ c = 69 then expoL (mostOf r') (unsign r') 0 0 else false
def scanR : List UInt8 → Nat → Nat → Bool
  | [], n, p => tailR [] n p
  | c :: l, n, p => if c = 46 then scanR l n (p + 1) else if dig c = true then scanR l (n + 1) p else tailR (c :: l) n p
/-- The document's number. -/
def numR (l : List UInt8) : Bool := scanR (unsign l) 0 0
def digs (m : Nat) (l : List UInt8) : Bool := decide (1 ≤ l.length) && decide (l.length ≤ m) && l.all dig
def atoiL (l : List UInt8) : Int := (atoiT (Lib.hasPrefix l [45]) (Lib.trimPrefix l [45])).1
def trim0 (l : List UInt8) : List UInt8 := l.dropWhile (· == 48)
def valA (x : List UInt8) : Int := atoiL (trim0 (x.take (x.length - 1)) ++ x.drop (x.length - 1))
/-- The code's number. -/
def numA (l : List UInt8) : Bool :=
  let c := Lib.cut (Lib.replace l [69] [101] 1) [101]
  let d := Lib.cut (unsign c.1) [46]
  if digs 38 (d.1 ++ d.2.1) = true then
    if c.2.2 = true then
      if digs 3 (unsign c.2.1) = true then decide (valA (unsign c.2.1) ≤ (mostOf c.2.1 : Int)) else false
    else true
  else false
def cut1 (c : UInt8) : List UInt8 → List UInt8 × List UInt8 × Bool
  | [] => ([], [], false)
  | b :: l => if b = c then ([], l, true) else (b :: (cut1 c l).1, (cut1 c l).2.1, (cut1 c l).2.2)
theorem cut_one (c : UInt8) : ∀ l, Lib.cut l [c] = cut1 c l
  | [] => by simp [Lib.cut, Lib.index, cut1]
  | b :: l => by
    have ih := cut_one c l
    unfold Lib.cut at ih ⊢
    rw [Lib.index_one] at ih ⊢
    unfold Lib.indexByte
    unfold cut1
    by_cases h : b = c
    · simp [h]
    · have h' : (b == c) = false := by simpa using h
      rw [h', if_neg h]
      simp only [Bool.false_eq_true, if_false]
      have hge := Lib.indexByte_ge l c
      by_cases h2 : Lib.indexByte l c = -1
      · rw [h2] at ih ⊢
        simp at ih ⊢
        rw [← ih]
        simp
      · have h3 : (Lib.indexByte l c == -1) = false := by simpa using h2
        rw [h3]
        simp only [Bool.false_eq_true, if_false]
        rw [if_pos (by omega)] at ih
        rw [if_pos (by omega), ← ih]
        have e : (Lib.indexByte l c + 1).toNat = (Lib.indexByte l c).toNat + 1 := by omega
        rw [e]
        simp [Nat.add_right_comm]
def rep1 : List UInt8 → List UInt8
  | [] => []
  | b :: l => if b = 69 then 101 :: l else b :: rep1 l
theorem rep1_index : ∀ l, rep1 l = if Lib.indexByte l 69 = -1 then l else l.take (Lib.indexByte l 69).toNat ++ [101] ++ l.drop ((Lib.indexByte l 69).toNat + 1)
  | [] => by simp [rep1, Lib.indexByte]
  | b :: l => by
    have ih := rep1_index l
    unfold rep1 Lib.indexByte
    by_cases h : b = 69
    · simp [h]
    · have h' : (b == 69) = false := by simpa using h
      rw [h', if_neg h]
      simp only [Bool.false_eq_true, if_false]
      have hge := Lib.indexByte_ge l 69
      by_cases h2 : Lib.indexByte l 69 = -1
      · rw [ih, h2]; simp
      · have h3 : (Lib.indexByte l 69 == -1) = false := by simpa using h2
        rw [h3]
        simp only [Bool.false_eq_true, if_false]
        rw [if_neg (by omega), ih, if_neg h2]
        have e : (Lib.indexByte l 69 + 1).toNat = (Lib.indexByte l 69).toNat + 1 := by omega
        rw [e]
        simp
theorem replace_one (l : List UInt8) : Lib.replace l [69] [101] 1 = rep1 l := by
  unfold Lib.replace
  rw [if_neg (by decide), rep1_index]
  have hge := Lib.indexByte_ge l 69
  have hi := Lib.index_one l 69
  unfold Lib.replaceNum Lib.count Lib.countFrom
  rw [hi]
  by_cases h : Lib.indexByte l 69 = -1
  · rw [h]
    simp [Lib.replaceK]
  · have h3 : (Lib.indexByte l 69 == -1) = false := by simpa using h
    rw [h3, if_neg h]
    simp only [Bool.false_eq_true, if_false]
    rw [if_neg (by omega)]
    show Lib.replaceK [69] [101] 1 l = _
    unfold Lib.replaceK
    rw [hi, h3]
    simp only [Bool.false_eq_true, if_false, Lib.replaceK]
    rfl
def es : List UInt8 → List UInt8 × Option (List UInt8)
  | [] => ([], none)
  | c :: l => if c = 101 ∨ c = 69 then ([], some l) else (c :: (es l).1, (es l).2)
theorem cut_rep : ∀ l, ∃ q, cut1 101 (rep1 l) = ((es l).1, q, (es l).2.isSome) ∧ ∀ r, (es l).2 = some r → q = r ∨ q = rep1 r
  | [] => ⟨[], rfl, fun r h => by simp [es] at h⟩
  | c :: l => by
    obtain ⟨q, h1, h2⟩ := cut_rep l
    rw [show rep1 (c :: l) = if c = 69 then 101 :: l else c :: rep1 l from rfl, show es (c :: l) = if c = 101 ∨ c = 69 then ([], some l) else (c :: (es l).1, (es l).2) from rfl]
    by_cases h : c = 69
    · subst h
      exact ⟨l, by simp [cut1], fun r hr => by simp at hr; exact .inl hr⟩
    · rw [if_neg h]
      by_cases h' : c = 101
      · subst h'
        exact ⟨rep1 l, by simp [cut1], fun r hr => by simp at hr; exact .inr (by rw [hr])⟩
      · rw [if_neg (by simp [h, h'])]
        refine ⟨q, ?_, h2⟩
        unfold cut1
        rw [if_neg h', h1]
theorem es_unsign (l : List UInt8) : es (unsign l) = (unsign (es l).1, (es l).2) := by
  cases l with
  | nil => rfl
  | cons c l =>
    by_cases h : c = 43 ∨ c = 45
    · have e : es (c :: l) = (c :: (es l).1, (es l).2) := by
        rw [es, if_neg]
        rcases h with rfl | rfl <;> decide
      rw [e]
      simp only [unsign, if_pos h]
    · simp only [unsign, if_neg h]
      by_cases h2 : c = 101 ∨ c = 69
      · rw [es, if_pos h2]
      · rw [es, if_neg h2]
        simp only [unsign, if_neg h]
def tailN (n p : Nat) (o : Option (List UInt8)) : Bool :=
  if n < 1 ∨ 38 < n ∨ 1 < p then false else match o with
    | none => true
    | some r => expoL (mostOf r) (unsign r) 0 0
theorem scanR_eq : ∀ l n p, scanR l n p = if (es l).1.all dp = true then tailN (n + (es l).1.countP dig) (p + (es l).1.count 46) (es l).2 else false
  | [], n, p => by simp [scanR, es, tailR, tailN]
  | c :: l, n, p => by
    unfold scanR
    by_cases h : c = 46
    · subst h
      rw [if_pos rfl, scanR_eq l]
      have e : es (46 :: l) = (46 :: (es l).1, (es l).2) := by rw [es, if_neg (by decide)]
      rw [e]
      simp only [List.all_cons, List.countP_cons, List.count_cons, dig_46, show dp 46 = true by decide, Bool.true_and]
      simp only [Bool.false_eq_true, if_false, Nat.add_zero, beq_self_eq_true, if_true]
      rw [show p + 1 + (es l).1.count 46 = p + ((es l).1.count 46 + 1) by omega]
    · rw [if_neg h]
      by_cases hd : dig c = true
      · have hne := dig_ne hd
        rw [if_pos hd, scanR_eq l]
        have e : es (c :: l) = (c :: (es l).1, (es l).2) := by rw [es, if_neg (by simp [hne])]
        have hdp : dp c = true := by unfold dp; rw [hd]; simp
        have hcb : (c == 46) = false := by simpa using h
        rw [e]
        simp only [List.all_cons, List.countP_cons, List.count_cons, hd, hdp, hcb, Bool.true_and]
        simp only [Bool.false_eq_true, if_false, Nat.add_zero, if_true]
        rw [show n + 1 + (es l).1.countP dig = n + ((es l).1.countP dig + 1) by omega]
      · rw [if_neg hd]
        unfold tailR
        by_cases he : c = 101 ∨ c = 69
        · have e : es (c :: l) = ([], some l) := by rw [es, if_pos he]
          rw [e]
          simp only [List.all_nil, if_true, List.countP_nil, List.count_nil, Nat.add_zero, tailN, if_pos he]
          rfl
        · have e : es (c :: l) = (c :: (es l).1, (es l).2) := by rw [es, if_neg he]
          rw [e]
          have hdp : dp c = false := by
            unfold dp
            rw [Bool.or_eq_false_iff]
            exact ⟨by simpa using h, by simpa using hd⟩
          simp only [List.all_cons, hdp, Bool.false_and, Bool.false_eq_true, if_false, if_neg he]
          simp
def erase1 : List UInt8 → List UInt8
  | [] => []
  | c :: l => if c = 46 then l else c :: erase1 l
theorem cut_erase : ∀ l, (cut1 46 l).1 ++ (cut1 46 l).2.1 = erase1 l
  | [] => rfl
  | c :: l => by
    unfold cut1 erase1
    by_cases h : c = 46
    · rw [if_pos h, if_pos h]; rfl
    · rw [if_neg h, if_neg h]; simp [cut_erase l]
theorem all_dig_iff : ∀ l : List UInt8, l.all dig = (l.all dp && decide (l.count 46 = 0))
  | [] => rfl
  | c :: l => by
    have ih := all_dig_iff l
    simp only [List.all_cons, List.count_cons, ih]
    by_cases h : c = 46
    · subst h; simp [dig_46]
    · have hcb : (c == 46) = false := by simpa using h
      simp [hcb, dp, h]
      cases dig c <;> cases l.all dp <;> simp
theorem erase_all : ∀ l : List UInt8, (erase1 l).all dig = (l.all dp && decide (l.count 46 ≤ 1))
  | [] => rfl
  | c :: l => by
    unfold erase1
    by_cases h : c = 46
    · subst h
      rw [if_pos rfl, all_dig_iff]
      simp only [List.all_cons, List.count_cons, show dp 46 = true by decide, Bool.true_and, beq_self_eq_true, if_true]
      congr 1
      rw [decide_eq_decide]; omega
    · have ih := erase_all l
      have hcb : (c == 46) = false := by simpa using h
      rw [if_neg h]
      simp only [List.all_cons, List.count_cons, ih, hcb, Bool.false_eq_true, if_false, Nat.add_zero]
      have : dp c = dig c := by unfold dp; rw [hcb]; rfl
      rw [this]
      cases dig c <;> simp
theorem erase_count : ∀ l : List UInt8, (erase1 l).countP dig = l.countP dig
  | [] => rfl
  | c :: l => by
    unfold erase1
    by_cases h : c = 46
    · subst h; rw [if_pos rfl, List.countP_cons, dig_46]; simp
    · rw [if_neg h, List.countP_cons, List.countP_cons, erase_count l]
theorem digs_erase (m : List UInt8) : digs 38 (erase1 m) = (m.all dp && decide (m.count 46 ≤ 1) && decide (1 ≤ m.countP dig) && decide (m.countP dig ≤ 38)) := by
  unfold digs
  rw [erase_all]
  by_cases h : (m.all dp && decide (m.count 46 ≤ 1)) = true
  · have h2 : (erase1 m).all dig = true := by rw [erase_all]; exact h
    have h3 : (erase1 m).length = m.countP dig := by
      rw [← erase_count, eq_comm, List.countP_eq_length]
      intro a ha
      exact List.all_eq_true.1 h2 a ha
    rw [h3, h]
    simp
  · rw [Bool.not_eq_true] at h
    rw [h]
    simp
def val (v : Nat) (l : List UInt8) : Nat := l.foldl (fun u c => 10 * u + (c.toNat - 48)) v
theorem expoL_eq (M : Nat) : ∀ (x : List UInt8) (k v : Nat), k ≤ 4 → expoL M x k v = (x.all dig && decide (1 ≤ k + x.length) && decide (k + x.length ≤ 3) && decide (val v x ≤ M))
  | [], k, v, h => by simp only [expoL, val, List.all_nil, List.length_nil, Nat.add_zero, Bool.true_and, List.foldl_nil]; rfl
  | c :: l, k, v, h => by
    unfold expoL
    by_cases hd : dig c = true ∧ k < 4
    · rw [if_pos hd, expoL_eq M l (k + 1) _ (by omega)]
      simp only [List.all_cons, List.length_cons, hd.1, Bool.true_and]
      rw [show k + 1 + l.length = k + (l.length + 1) by omega]
      rfl
    · rw [if_neg hd]
      by_cases h2 : dig c = true
      · have h3 : ¬ k < 4 := fun h' => hd ⟨h2, h'⟩
        have : ¬ (k + (c :: l).length ≤ 3) := by simp only [List.length_cons]; omega
        rw [decide_eq_false this]; simp
      · rw [Bool.not_eq_true] at h2
        simp [h2]
theorem digVal_val : ∀ (l : List UInt8) (v : Nat), l.all dig = true → digVal v l = some (val v l)
  | [], v, _ => rfl
  | c :: l, v, h => by
    simp only [List.all_cons, Bool.and_eq_true] at h
    have hc : 48 ≤ c.toNat ∧ c.toNat ≤ 57 := by
      have := h.1
      unfold dig at this
      rw [Bool.and_eq_true, decide_eq_true_iff, decide_eq_true_iff] at this
      exact this
    unfold digVal
    rw [if_pos hc, digVal_val l _ h.2]
    rfl
theorem val_trim0 (m : List UInt8) : ∀ l : List UInt8, val 0 (trim0 l ++ m) = val 0 (l ++ m)
  | [] => rfl
  | c :: l => by
    unfold trim0
    rw [List.dropWhile_cons]
    by_cases h : c = 48
    · subst h
      simp only [beq_self_eq_true, if_true]
      rw [show (l.dropWhile (· == 48)) = trim0 l from rfl, val_trim0 m l]
      rfl
    · have : (c == 48) = false := by simpa using h
      rw [this]
      rfl
theorem trim0_head (l : List UInt8) : ∀ c r, trim0 l = c :: r → c ≠ 48 := by
  induction l with
  | nil => intro c r h; simp [trim0] at h
  | cons a l ih =>
    intro c r h
    unfold trim0 at h
    rw [List.dropWhile_cons] at h
    split at h
    · exact ih c r h
    · rename_i hh
      simp only [List.cons.injEq] at h
      rintro rfl
      exact hh (by simp [h.1])
theorem val_lt (l : List UInt8) (h : l.all dig = true) : val 0 l < 10 ^ l.length := by
  have := digVal_lt l 0 _ (digVal_val l 0 h)
  simpa using this
theorem atoiL_dig (l : List UInt8) (h : l.all dig = true) (h1 : 1 ≤ l.length) (h2 : l.length ≤ 18) (h3 : 1 < l.length → l.headD 0 ≠ 48) : atoiL l = (val 0 l : Int) := by
  have hp : Lib.hasPrefix l [45] = false := by
    cases l with
    | nil => rfl
    | cons c l =>
      simp only [List.all_cons, Bool.and_eq_true] at h
      have := (dig_ne h.1).2.2.2.2
      simp [Lib.hasPrefix, List.isPrefixOf, Ne.symm this]
  unfold atoiL
  have ht : Lib.trimPrefix l [45] = l := by unfold Lib.trimPrefix; rw [hp]; simp
  rw [hp, ht]
  unfold atoiT
  rw [if_neg, digVal_val l 0 h]
  · simp only [Bool.false_eq_true, if_false]
    rw [if_pos]
    have h4 := val_lt l h
    have : 10 ^ l.length ≤ 10 ^ 18 := Nat.pow_le_pow_right (by omega) h2
    have : (10 : Nat) ^ 18 = 1000000000000000000 := by decide
    omega
  · rintro (h4 | h4 | ⟨h4, h5⟩)
    · rw [h4] at h1; simp at h1
    · omega
    · rcases h5 with h5 | h5
      · exact h3 h5 h4
      · exact absurd h5 (by simp)
theorem valA_eq (x : List UInt8) (h : x.all dig = true) (h1 : 1 ≤ x.length) (h2 : x.length ≤ 3) : valA x = (val 0 x : Int) := by
  have hd : (x.drop (x.length - 1)).length = 1 := by simp; omega
  have hsub : ∀ c ∈ trim0 (x.take (x.length - 1)), c ∈ x := fun c hc => List.mem_of_mem_take ((List.dropWhile_sublist _).subset hc)
  have hlen : (trim0 (x.take (x.length - 1))).length ≤ x.length - 1 := by
    have := (List.dropWhile_sublist (l := x.take (x.length - 1)) (· == (48 : UInt8))).length_le
    unfold trim0
    simp at this ⊢
    omega
  unfold valA
  rw [atoiL_dig]
  · rw [val_trim0, List.take_append_drop]
  · rw [List.all_append, Bool.and_eq_true]
    exact ⟨List.all_eq_true.2 fun c hc => List.all_eq_true.1 h c (hsub c hc), List.all_eq_true.2 fun c hc => List.all_eq_true.1 h c (List.mem_of_mem_drop hc)⟩
  · simp; omega
  · simp only [List.length_append, hd]; omega
  · intro hgt
    cases ht : trim0 (x.take (x.length - 1)) with
    | nil => rw [ht] at hgt; simp only [List.nil_append, hd] at hgt; omega
    | cons c r => exact trim0_head _ c r ht
theorem expo_same (M : Nat) (x : List UInt8) : expoL M x 0 0 = if digs 3 x = true then decide (valA x ≤ (M : Int)) else false := by
  rw [expoL_eq M x 0 0 (by omega)]
  unfold digs
  simp only [Nat.zero_add]
  by_cases h : (decide (1 ≤ x.length) && decide (x.length ≤ 3) && x.all dig) = true
  · rw [if_pos h]
    simp only [Bool.and_eq_true, decide_eq_true_iff] at h
    rw [valA_eq x h.2 h.1.1 h.1.2, h.2, decide_eq_true h.1.1, decide_eq_true h.1.2]
    simp only [Bool.true_and]
    rw [decide_eq_decide]; omega
  · rw [if_neg h]
    rw [Bool.not_eq_true] at h
    have : (x.all dig && decide (1 ≤ x.length) && decide (x.length ≤ 3)) = false := by rw [← h, Bool.and_assoc, Bool.and_comm]
    rw [this]; rfl
theorem rep1_same : ∀ l : List UInt8, (69 : UInt8) ∉ l → rep1 l = l
  | [], _ => rfl
  | c :: l, h => by
    simp only [List.mem_cons, not_or] at h
    unfold rep1
    rw [if_neg (fun e => h.1 e.symm), rep1_same l h.2]
theorem digs_mem {m : Nat} {l : List UInt8} {c : UInt8} (hc : c ∈ l) (hd : dig c = false) : digs m l = false := by
  unfold digs
  rw [Bool.and_eq_false_iff]
  right
  rw [Bool.eq_false_iff]
  intro h
  rw [List.all_eq_true.1 h c hc] at hd
  exact absurd hd (by simp)
theorem mem_unsign {c : UInt8} (h1 : c ≠ 43) (h2 : c ≠ 45) (l : List UInt8) (h : c ∈ l) : c ∈ unsign l := by
  cases l with
  | nil => exact h
  | cons b l =>
    rw [show unsign (b :: l) = if b = 43 ∨ b = 45 then l else b :: l from rfl]
    by_cases hb : b = 43 ∨ b = 45
    · rw [if_pos hb]
      rcases List.mem_cons.1 h with rfl | h
      · rcases hb with hb | hb
        · exact absurd hb h1
        · exact absurd hb h2
      · exact h
    · rw [if_neg hb]
      exact h
theorem mem_rep1 : ∀ l : List UInt8, (69 : UInt8) ∈ l → (101 : UInt8) ∈ rep1 l
  | [], h => by simp at h
  | b :: l, h => by
    unfold rep1
    split
    · simp
    · rename_i hb
      rcases List.mem_cons.1 h with h | h
      · exact absurd h.symm hb
      · exact List.mem_cons_of_mem _ (mem_rep1 l h)
theorem expo_rep (q r : List UInt8) (h : q = r ∨ q = rep1 r) : (if digs 3 (unsign q) = true then decide (valA (unsign q) ≤ (mostOf q : Int)) else false) = expoL (mostOf r) (unsign r) 0 0 := by
  rw [expo_same]
  rcases h with rfl | rfl
  · rfl
  · by_cases h : (69 : UInt8) ∈ r
    · rw [digs_mem (mem_unsign (by decide) (by decide) _ (mem_rep1 r h)) (by decide), digs_mem (mem_unsign (by decide) (by decide) _ h) (by decide)]
      rfl
    · rw [rep1_same r h]
/-- Both numbers are one. -/
theorem numA_eq (l : List UInt8) : numA l = numR l := by
  unfold numA numR
  rw [replace_one, cut_one, scanR_eq, es_unsign]
  obtain ⟨q, h1, h2⟩ := cut_rep l
  rw [h1]
  simp only
  rw [cut_one, cut_erase, digs_erase]
  simp only [Nat.zero_add]
  by_cases ha : (unsign (es l).1).all dp = true
  · rw [ha, if_pos rfl]
    simp only [Bool.true_and]
    unfold tailN
    by_cases hb : (unsign (es l).1).countP dig < 1 ∨ 38 < (unsign (es l).1).countP dig ∨ 1 < (unsign (es l).1).count 46
    · rw [if_pos hb, if_neg]
      simp only [Bool.and_eq_true, decide_eq_true_iff]
      omega
    · rw [if_neg hb, if_pos (by simp only [Bool.and_eq_true, decide_eq_true_iff]; omega)]
      cases ho : (es l).2 with
      | none => rfl
      | some r => exact expo_rep q r (h2 r ho)
  · rw [Bool.not_eq_true] at ha
    rw [ha]
    simp
/-- Two points, one behind the other. -/
def dd : List UInt8 → Bool
  | a :: b :: l => (a == 46 && b == 46) || dd (b :: l)
  | _ => false
theorem contains_dd : ∀ l : List UInt8, Lib.contains l [46, 46] = dd l
  | [] => by simp [Lib.contains, Lib.index, dd]
  | [a] => by simp [Lib.contains, Lib.index, dd, List.isPrefixOf]
  | a :: b :: l => by
    have ih := contains_dd (b :: l)
    unfold Lib.contains at ih ⊢
    unfold dd
    rw [← ih, Lib.index]
    have hge := Lib.index_ge (b :: l) [46, 46]
    generalize Lib.index (b :: l) [46, 46] = x at *
    by_cases h : a = 46 ∧ b = 46
    · rw [h.1, h.2]; simp [List.isPrefixOf]
    · have e : (a == 46 && b == 46) = false := by
        rw [Bool.and_eq_false_iff, beq_eq_false_iff_ne, beq_eq_false_iff_ne]
        by_cases h1 : a = 46
        · exact .inr fun h2 => h ⟨h1, h2⟩
        · exact .inl h1
      rw [e, Bool.false_or]
      have e2 : List.isPrefixOf [46, 46] (a :: b :: l) = false := by
        simp only [List.isPrefixOf, Bool.and_true]
        rw [← e, Bool.beq_comm (a := a), Bool.beq_comm (a := b)]
      rw [e2]
      simp only [Bool.false_eq_true, if_false]
      rw [decide_eq_decide]
      split
      · rename_i hx
        have := beq_iff_eq.1 hx
        omega
      · rename_i hx
        have : x ≠ -1 := fun e => hx (by rw [e]; rfl)
        omega
end Go.Proofs.YtolpefnedpgaaaaDoor.X

namespace Go.Proofs.YtolpefnedpgaaaaDoor.X
open Go.RowKit Go.Proofs.YtolpefnedpgaaaaDoorW.PrintWords Go.Proofs.YtolpefnedpgaaaaDoorW.PrintMore
set_option linter.unusedVariables false
set_option linter.unusedSimpArgs false
def inB (l : ByteArray) (c : Int) : Bool := decide (0 ≤ Lib.indexByte l.data.toList c.toNat.toUInt8)
def digitI (c : Int) : Bool := decide (48 ≤ c) && decide (c ≤ 57)
def letterI (c : Int) : Bool := digitI c || (decide (97 ≤ c) && decide (c ≤ 122)) || (decide (65 ≤ c) && decide (c ≤ 90)) || decide (c = 95) || decide (c = 45) || decide (c = 46)
theorem at_drop (s : ByteArray) (i : Nat) (h : i < s.size) : ∃ c : UInt8, s.data.toList.drop i = c :: s.data.toList.drop (i + 1) ∧ bt s (i : Int) = (c.toNat : Int) :=
  ⟨s[i]'h, List.drop_eq_getElem_cons (by simpa using h), q_bt s i h⟩
theorem drop_all (s : ByteArray) (i : Nat) (h : s.size ≤ i) : s.data.toList.drop i = [] := by rw [List.drop_eq_nil_iff]; simpa using h
theorem allD_list (p : Int → Bool) (s : ByteArray) : ∀ (d i : Nat), i + d = s.size → allD p s d i = (s.data.toList.drop i).all fun c => p (c.toNat : Int)
  | 0, i, h => by rw [drop_all s i (by omega)]; rfl
  | d + 1, i, h => by
    obtain ⟨c, hc, hb⟩ := at_drop s i (by omega)
    rw [hc, allD, hb, List.all_cons, allD_list p s d (i + 1) (by omega)]
theorem all_l0 (s x1 : ByteArray) (hs : s.size ≤ 1000000) : ∀ (d k i : Nat), i + d = s.size → d < k → attribute_all.l0 k s x1 (s.size : Int) (i : Int) = some (allD (inB x1) s d i) := by
  intro d
  induction d with
  | zero =>
    intro k i h hk
    obtain ⟨k, rfl⟩ : ∃ m, k = m + 1 := ⟨k - 1, by omega⟩
    simp only [attribute_all.l0, allD]
    rw [if_neg (by omega)]
  | succ d ih =>
    intro k i h hk
    obtain ⟨k, rfl⟩ : ∃ m, k = m + 1 := ⟨k - 1, by omega⟩
    simp only [attribute_all.l0, allD, strings_IndexByte.f, Option.bind_some]
    rw [if_pos (by omega), if_pos (by omega), if_pos (by omega), w64 (by omega) (by omega), show ((i : Int) + 1) = ((i + 1 : Nat) : Int) by omega, ih k (i + 1) (by omega) (by omega)]
    unfold inB
    by_cases hb : Lib.indexByte x1.data.toList (bt s (i : Int)).toNat.toUInt8 < 0
    · rw [if_pos hb, decide_eq_false (by omega)]; rfl
    · rw [if_neg hb, decide_eq_true (by omega)]; rfl
theorem all_eq (s l : ByteArray) (m : Nat) (hs : s.size ≤ 1000000) (k : Nat) (hk : s.size + 2 < k) :
    attribute_all.f k s l (m : Int) = some (decide (1 ≤ s.size) && decide (s.size ≤ m) && allD (inB l) s s.size 0) := by
  unfold attribute_all.f
  obtain ⟨k, rfl⟩ : ∃ m, k = m + 1 := ⟨k - 1, by omega⟩
  by_cases h1 : (s.size : Int) < 1
  · rw [if_pos h1, decide_eq_false (p := 1 ≤ s.size) (by omega)]; simp [attribute_all.j0]
  · rw [if_neg h1, decide_eq_true (p := 1 ≤ s.size) (by omega)]
    by_cases h2 : (s.size : Int) > m
    · rw [decide_eq_true (p := (s.size : Int) > m) h2, decide_eq_false (p := s.size ≤ m) (by omega)]; simp [attribute_all.j0]
    · rw [decide_eq_false (p := (s.size : Int) > m) h2, decide_eq_true (p := s.size ≤ m) (by omega)]
      simp only [attribute_all.j0, Bool.false_eq_true, if_false, Bool.true_and]
      exact all_l0 s l hs s.size k 0 (by omega) (by omega)
abbrev lettersB : ByteArray := ⟨#[65, 66, 67, 68, 69, 70, 71, 72, 73, 74, 75, 76, 77, 78, 79, 80, 81, 82, 83, 84, 85, 86, 87, 88, 89, 90, 97, 98, 99, 100, 101, 102, 103, 104, 105, 106, 107, 108, 109, 110, 111, 112, 113, 114, 115, 116, 117, 118, 119, 120, 121, 122, 48, 49, 50, 51, 52, 53, 54, 55, 56, 57, 95, 45, 46]⟩
abbrev digitsB : ByteArray := ⟨#[48, 49, 50, 51, 52, 53, 54, 55, 56, 57]⟩
theorem letters_in (c : Int) (h0 : 0 ≤ c) (h1 : c < 256) : inB lettersB c = letterI c := byte_eq (by decide +kernel) c h0 h1
theorem digits_in (c : Int) (h0 : 0 ≤ c) (h1 : c < 256) : inB digitsB c = digitI c := byte_eq (by decide +kernel) c h0 h1
theorem digitI_dig (c : UInt8) : digitI (c.toNat : Int) = dig c := by
  unfold digitI dig
  congr 1 <;> (rw [decide_eq_decide]; omega)
theorem digits_eq (s : ByteArray) (m : Nat) (hs : s.size ≤ 1000000) (k : Nat) (hk : s.size + 2 < k) : attribute_all.f k s ⟨#[48, 49, 50, 51, 52, 53, 54, 55, 56, 57]⟩ (m : Int) = some (digs m s.data.toList) := by
  rw [all_eq s _ m hs k hk, allD_congr digits_in, allD_list _ _ _ _ (by omega)]
  unfold digs
  simp only [List.drop_zero, digitI_dig]
  have : s.data.toList.length = s.size := by simp
  rw [this]
def letter8 (c : UInt8) : Bool := letterI (c.toNat : Int)
theorem letters_eq (s : ByteArray) (m : Nat) (hs : s.size ≤ 1000000) (k : Nat) (hk : s.size + 2 < k) : attribute_all.f k s lettersB (m : Int) = some (decide (1 ≤ s.data.toList.length) && decide (s.data.toList.length ≤ m) && s.data.toList.all letter8) := by
  rw [all_eq s _ m hs k hk, allD_congr letters_in, allD_list _ _ _ _ (by omega)]
  have : s.data.toList.length = s.size := by simp
  rw [this]
  rfl
theorem digit_eq (c : Int) : racewayref24_digit.f c = some (digitI c) := by
  unfold racewayref24_digit.f digitI
  split
  · rename_i h; rw [decide_eq_true (p := 48 ≤ c) (by omega)]; rfl
  · rename_i h; rw [decide_eq_false (p := 48 ≤ c) (by omega)]; rfl
theorem byte_opt {p : Int → Option Bool} {q : Int → Bool} (h : ∀ n : Fin 256, p (n.val : Int) = some (q (n.val : Int))) (c : Int) (h0 : 0 ≤ c) (h1 : c < 256) : p c = some (q c) := by
  obtain ⟨n, rfl⟩ := Int.eq_ofNat_of_zero_le h0
  exact h ⟨n, by omega⟩
theorem letter_eq (c : Int) (h0 : 0 ≤ c) (h1 : c < 256) : racewayref24_letter.f c = some (letterI c) := byte_opt (by decide +kernel) c h0 h1
theorem letter_bt (s : ByteArray) (i : Int) : racewayref24_letter.f (bt s i) = some (letterI (bt s i)) := letter_eq _ (bt_range s i).1 (bt_range s i).2
theorem digit_bt (s : ByteArray) (i : Int) : racewayref24_digit.f (bt s i) = some (digitI (bt s i)) := digit_eq _
def smallI (c : Int) : Int := if c ≥ 65 then (if c ≤ 90 then (c + 32) % 256 else c) else c
def begD (s p : ByteArray) : Nat → Nat → Bool
  | 0, _ => true
  | d + 1, i => decide (smallI (bt s (i : Int)) = bt p (i : Int)) && begD s p d (i + 1)
def begB (s p : ByteArray) : Bool := decide (p.size ≤ s.size) && begD s p p.size 0
theorem begins_l0 (s p : ByteArray) (hp : p.size ≤ s.size) (hs : s.size ≤ 1000000) : ∀ (d k i : Nat), i + d = p.size → 2 * d + 1 < k → attribute_begins.l0 k s p (p.size : Int) (i : Int) = some (begD s p d i) := by
  intro d
  induction d with
  | zero =>
    intro k i h hk
    obtain ⟨k, rfl⟩ : ∃ m, k = m + 1 := ⟨k - 1, by omega⟩
    simp only [attribute_begins.l0, begD]
    rw [if_neg (by omega)]
  | succ d ih =>
    intro k i h hk
    obtain ⟨k, rfl⟩ : ∃ m, k = m + 2 := ⟨k - 2, by omega⟩
    simp only [attribute_begins.l0, begD]
    rw [if_pos (by omega), if_pos (by omega), if_pos (by omega)]
    have e : ∀ b, attribute_begins.j1 (k + 1) s p (i : Int) (bt s i) (p.size : Int) (i : Int) b = some (decide ((if b = true then (bt s i + 32) % 256 else bt s i) = bt p (i : Int)) && begD s p d (i + 1)) := by
      intro b
      simp only [attribute_begins.j1]
      cases b
      · simp only [Bool.false_eq_true, if_false]
        rw [if_pos (show (0 : Int) ≤ (i : Int) by omega), if_pos (show (i : Int) < (p.size : Int) by omega), w64 (by omega) (by omega), show ((i : Int) + 1) = ((i + 1 : Nat) : Int) by omega, ih k (i + 1) (by omega) (by omega)]
        by_cases hq : bt s (i : Int) = bt p (i : Int)
        · rw [if_pos hq, decide_eq_true hq]; rfl
        · rw [if_neg hq, decide_eq_false hq]; rfl
      · simp only [if_true]
        rw [if_pos (show (0 : Int) ≤ (i : Int) by omega), if_pos (show (i : Int) < (p.size : Int) by omega), w64 (by omega) (by omega), show ((i : Int) + 1) = ((i + 1 : Nat) : Int) by omega, ih k (i + 1) (by omega) (by omega)]
        by_cases hq : (bt s (i : Int) + 32) % 256 = bt p (i : Int)
        · rw [if_pos hq, decide_eq_true hq]; rfl
        · rw [if_neg hq, decide_eq_false hq]; rfl
    rw [e, e]
    unfold smallI
    by_cases h1 : bt s (i : Int) ≥ 65
    · rw [if_pos h1, if_pos h1]
      by_cases h2 : bt s (i : Int) ≤ 90
      · rw [decide_eq_true h2, if_pos h2]; rfl
      · rw [decide_eq_false h2, if_neg h2]; rfl
    · rw [if_neg h1, if_neg h1]; rfl
theorem begins_eq (s p : ByteArray) (hs : s.size ≤ 1000000) (k : Nat) (hk : 2 * p.size + 1 < k) : attribute_begins.f k s p = some (begB s p) := by
  unfold attribute_begins.f begB
  by_cases h : p.size ≤ s.size
  · rw [if_neg (by omega), decide_eq_true h, Bool.true_and]
    exact begins_l0 s p h hs p.size k 0 (by omega) hk
  · rw [if_pos (by omega), decide_eq_false h]; rfl
theorem small_eq (c : Int) : racewayref24_small.f c = some (smallI c) := by
  unfold racewayref24_small.f smallI
  split
  · split <;> rfl
  · rfl
theorem ref_begins_l0 (s p : ByteArray) (hp : p.size ≤ s.size) (hs : s.size ≤ 1000000) : ∀ (d k i : Nat), i + d = p.size → d < k → racewayref24_begins.l0 k s p (i : Int) = some (begD s p d i) := by
  intro d
  induction d with
  | zero =>
    intro k i h hk
    obtain ⟨k, rfl⟩ : ∃ m, k = m + 1 := ⟨k - 1, by omega⟩
    simp only [racewayref24_begins.l0, begD]
    rw [if_neg (by omega)]
  | succ d ih =>
    intro k i h hk
    obtain ⟨k, rfl⟩ : ∃ m, k = m + 1 := ⟨k - 1, by omega⟩
    simp only [racewayref24_begins.l0, begD, small_eq, Option.bind_some]
    rw [if_pos (by omega), if_pos (by omega), if_pos (by omega), w64 (by omega) (by omega), show ((i : Int) + 1) = ((i + 1 : Nat) : Int) by omega, ih k (i + 1) (by omega) (by omega)]
    by_cases hq : smallI (bt s (i : Int)) = bt p (i : Int)
    · rw [if_pos hq, decide_eq_true hq]; rfl
    · rw [if_neg hq, decide_eq_false hq]; rfl
theorem ref_begins_eq (s p : ByteArray) (hs : s.size ≤ 1000000) (k : Nat) (hk : p.size + 1 < k) : racewayref24_begins.f k s p = some (begB s p) := by
  unfold racewayref24_begins.f begB
  by_cases h : p.size ≤ s.size
  · rw [if_neg (by omega), decide_eq_true h, Bool.true_and]
    exact ref_begins_l0 s p h hs p.size k 0 (by omega) (by omega)
  · rw [if_pos (by omega), decide_eq_false h]; rfl
def nameB (s : ByteArray) : Bool :=
  decide (1 ≤ s.size) && decide (s.size ≤ 64) && s.data.toList.all letter8 && !decide (bt s 0 = 46) && !decide (bt s ((s.size - 1 : Nat) : Int) = 46) && !dd s.data.toList && !begB s ⟨#[97, 119, 115, 46]⟩ && !begB s ⟨#[97, 109, 97, 122, 111, 110, 46]⟩
theorem Name_eq (s : ByteArray) (hs : s.size ≤ 1000000) (k : Nat) (hk : s.size + 20 < k) : attribute_Name.f k s = some (nameB s) := by
  unfold attribute_Name.f nameB
  have h64 := letters_eq s 64 hs k (by omega)
  have hl : s.data.toList.length = s.size := by simp
  rw [hl] at h64
  rw [show ((64 : Nat) : Int) = 64 from rfl] at h64
  rw [h64, begins_eq s _ hs k (by show 2 * 4 + 1 < k; omega), begins_eq s _ hs k (by show 2 * 7 + 1 < k; omega)]
  simp only [Option.bind_some]
  by_cases h : (decide (1 ≤ s.size) && decide (s.size ≤ 64) && s.data.toList.all letter8) = true
  · rw [h]
    rw [Bool.and_eq_true, Bool.and_eq_true, decide_eq_true_iff, decide_eq_true_iff] at h
    rw [if_pos rfl, if_pos (by omega), w64 (by omega) (by omega), show ((s.size : Int) - 1) = ((s.size - 1 : Nat) : Int) by omega, if_pos (show (0 : Int) ≤ ((s.size - 1 : Nat) : Int) by omega), if_pos (show ((s.size - 1 : Nat) : Int) < (s.size : Int) by omega)]
    simp only [Bool.true_and]
    by_cases h1 : bt s 0 = 46
    · rw [if_pos h1, decide_eq_true h1]; rfl
    · rw [if_neg h1, decide_eq_false h1]
      by_cases h2 : bt s ((s.size - 1 : Nat) : Int) = 46
      · rw [if_pos h2, decide_eq_true h2]; rfl
      · rw [if_neg h2, decide_eq_false h2]
        unfold strings_Contains.f
        rw [if_pos (by omega)]
        simp only [Option.bind_some]
        rw [contains_dd]
        cases dd s.data.toList <;> cases begB s ⟨#[97, 119, 115, 46]⟩ <;> cases begB s ⟨#[97, 109, 97, 122, 111, 110, 46]⟩ <;> rfl
  · rw [Bool.not_eq_true] at h
    rw [h]
    simp only [Bool.false_eq_true, if_false, Bool.false_and]
def nameD (s : ByteArray) : Nat → Nat → Bool
  | 0, _ => true
  | d + 1, i => letterI (bt s (i : Int)) && !(decide (0 < i) && decide (bt s (i : Int) = 46) && decide (bt s ((i - 1 : Nat) : Int) = 46)) && nameD s d (i + 1)
theorem nameD_list (s : ByteArray) : ∀ (d i : Nat), i + 1 + d = s.size → nameD s d (i + 1) = ((s.data.toList.drop (i + 1)).all letter8 && !dd (s.data.toList.drop i))
  | 0, i, h => by
    obtain ⟨c, hc, hb⟩ := at_drop s i (by omega)
    rw [hc, drop_all s (i + 1) (by omega)]; rfl
  | d + 1, i, h => by
    obtain ⟨c, hc, hb⟩ := at_drop s i (by omega)
    obtain ⟨c', hc', hb'⟩ := at_drop s (i + 1) (by omega)
    rw [nameD, nameD_list s d (i + 1) (by omega), hc, hc', hb', show (i + 1 - 1 : Nat) = i by omega, hb, List.all_cons]
    rw [show dd (c :: c' :: s.data.toList.drop (i + 1 + 1)) = ((c == 46 && c' == 46) || dd (c' :: s.data.toList.drop (i + 1 + 1))) from rfl]
    have e : ∀ x : UInt8, decide ((x.toNat : Int) = 46) = (x == 46) := by
      intro x
      by_cases hx : x = 46
      · subst hx; rfl
      · rw [decide_eq_false, eq_comm, beq_eq_false_iff_ne]
        · exact hx
        · intro he
          apply hx
          apply UInt8.toNat.inj
          show x.toNat = 46
          omega
    rw [e, e, decide_eq_true (show 0 < i + 1 by omega)]
    unfold letter8
    cases letterI (c'.toNat : Int) <;> cases (c == 46) <;> cases (c' == 46) <;> simp
theorem ref_name_l0 (s : ByteArray) (hs : s.size ≤ 1000000) : ∀ (d k i : Nat), i + d = s.size → d < k → racewayref24_Name.l0 k s (i : Int) = some (nameD s d i) := by
  intro d
  induction d with
  | zero =>
    intro k i h hk
    obtain ⟨k, rfl⟩ : ∃ m, k = m + 1 := ⟨k - 1, by omega⟩
    simp only [racewayref24_Name.l0, nameD]
    rw [if_neg (by omega)]
  | succ d ih =>
    intro k i h hk
    obtain ⟨k, rfl⟩ : ∃ m, k = m + 1 := ⟨k - 1, by omega⟩
    simp only [racewayref24_Name.l0, nameD, letter_bt, Option.bind_some]
    rw [if_pos (by omega), if_pos (by omega), w64 (x := (i : Int) + 1) (by omega) (by omega), show ((i : Int) + 1) = ((i + 1 : Nat) : Int) by omega, ih k (i + 1) (by omega) (by omega)]
    cases hl : letterI (bt s (i : Int))
    · simp
    · simp only [if_true, Bool.true_and]
      by_cases h0 : 0 < i
      · rw [if_pos (by omega), decide_eq_true h0, w64 (by omega) (by omega), show ((i : Int) - 1) = ((i - 1 : Nat) : Int) by omega, if_pos (show (0 : Int) ≤ ((i - 1 : Nat) : Int) by omega), if_pos (show ((i - 1 : Nat) : Int) < (s.size : Int) by omega)]
        by_cases h1 : bt s (i : Int) = 46
        · rw [if_pos h1, decide_eq_true h1]
          by_cases h2 : bt s ((i - 1 : Nat) : Int) = 46
          · rw [if_pos h2, decide_eq_true h2]; rfl
          · rw [if_neg h2, decide_eq_false h2]; simp
        · rw [if_neg h1, decide_eq_false h1]; simp
      · rw [if_neg (by omega), decide_eq_false h0]; simp
theorem ref_Name_eq (s : ByteArray) (hs : s.size ≤ 1000000) (k : Nat) (hk : s.size + 20 < k) : racewayref24_Name.f k s = some (nameB s) := by
  unfold racewayref24_Name.f nameB
  obtain ⟨k, rfl⟩ : ∃ m, k = m + 1 := ⟨k - 1, by omega⟩
  have hj : ∀ b, racewayref24_Name.j0 (k + 1) s b = some (if b = true then false else nameD s s.size 0) := by
    intro b
    simp only [racewayref24_Name.j0]
    rw [show (0 : Int) = ((0 : Nat) : Int) from rfl, ref_name_l0 s hs s.size k 0 (by omega) (by omega)]
    cases b <;> rfl
  simp only [hj]
  by_cases h0 : s.size = 0
  · rw [if_pos (by omega), decide_eq_false (p := 1 ≤ s.size) (by omega)]; rfl
  · rw [if_neg (by omega), decide_eq_true (p := 1 ≤ s.size) (by omega)]
    by_cases h64 : s.size ≤ 64
    · rw [if_neg (by omega), decide_eq_true h64, if_pos (by omega), w64 (by omega) (by omega), show ((s.size : Int) - 1) = ((s.size - 1 : Nat) : Int) by omega, if_pos (show (0 : Int) ≤ ((s.size - 1 : Nat) : Int) by omega), if_pos (show ((s.size - 1 : Nat) : Int) < (s.size : Int) by omega)]
      rw [ref_begins_eq s _ hs (k + 1) (by show 4 + 1 < k + 1; omega), ref_begins_eq s _ hs (k + 1) (by show 7 + 1 < k + 1; omega)]
      obtain ⟨n, hn⟩ : ∃ n, s.size = n + 1 := ⟨s.size - 1, by omega⟩
      have hD : nameD s s.size 0 = (s.data.toList.all letter8 && !dd s.data.toList) := by
        obtain ⟨c, hc, hb⟩ := at_drop s 0 (by omega)
        have hz := nameD_list s n 0 (by omega)
        rw [hn, nameD, hz, hb]
        rw [List.drop_zero] at hc ⊢
        have ha : s.data.toList.all letter8 = (letterI (c.toNat : Int) && (s.data.toList.drop (0 + 1)).all letter8) := by
          conv => lhs; rw [hc]
          rfl
        rw [ha]
        simp [Bool.and_assoc]
      rw [hD]
      simp only [Option.bind_some, Bool.true_and]
      by_cases h1 : bt s 0 = 46
      · rw [if_pos h1, decide_eq_true h1]; simp
      · rw [if_neg h1, decide_eq_false h1]
        by_cases h2 : bt s ((s.size - 1 : Nat) : Int) = 46
        · rw [if_pos h2, decide_eq_true h2]; simp
        · rw [if_neg h2, decide_eq_false h2]
          cases s.data.toList.all letter8 <;> cases dd s.data.toList <;> cases begB s ⟨#[97, 119, 115, 46]⟩ <;> cases begB s ⟨#[97, 109, 97, 122, 111, 110, 46]⟩ <;> rfl
    · rw [if_pos (by omega), decide_eq_false h64]; simp
end Go.Proofs.YtolpefnedpgaaaaDoor.X

namespace Go.Proofs.YtolpefnedpgaaaaDoor.X
open Go.RowKit Go.Proofs.YtolpefnedpgaaaaDoorW.PrintWords Go.Proofs.YtolpefnedpgaaaaDoorW.PrintMore
set_option linter.unusedVariables false
set_option linter.unusedSimpArgs false
theorem bsize (l : List UInt8) : (⟨l.toArray⟩ : ByteArray).size = l.length := by show l.toArray.size = _; simp
theorem bext {a b : ByteArray} (h : a.data.toList = b.data.toList) : a = b := by
  cases a; cases b; congr 1; exact Array.toList_inj.1 h
theorem data_ext (s : ByteArray) (a b : Nat) : (s.extract a b).data.toList = (s.data.toList.drop a).take (b - a) := by
  rw [← Lib.extract_toList]; exact (ByteArray.toList_eq _).symm
theorem ext_drop (s : ByteArray) (n : Nat) : s.extract n s.size = ⟨(s.data.toList.drop n).toArray⟩ := by
  apply bext
  rw [data_ext]
  show _ = (s.data.toList.drop n).toArray.toList
  rw [List.take_of_length_le (by simp)]
theorem ext_take (s : ByteArray) (n : Nat) : s.extract 0 n = ⟨(s.data.toList.take n).toArray⟩ := by
  apply bext
  rw [data_ext]
  rfl
theorem bapp (a b : List UInt8) : (⟨a.toArray⟩ : ByteArray) ++ ⟨b.toArray⟩ = ⟨(a ++ b).toArray⟩ := by
  apply bext
  show (ByteArray.append _ _).data.toList = _
  simp
theorem bt_zero (t : ByteArray) (c : UInt8) (r : List UInt8) (h : t.data.toList = c :: r) : 0 < t.size ∧ bt t 0 = (c.toNat : Int) := by
  have hz : 0 < t.size := by
    have : t.data.toList.length = t.size := by simp
    rw [h] at this; simp at this; omega
  obtain ⟨c', h1, h2⟩ := at_drop t 0 hz
  rw [List.drop_zero, h] at h1
  simp only [List.cons.injEq] at h1
  refine ⟨hz, ?_⟩
  rw [h1.1]; exact h2
def hasP (s p : ByteArray) : Bool := decide (p.size ≤ s.size) && ((s.extract 0 p.size).toList == p.toList)
theorem hasPrefix_eq (s p : ByteArray) : stringslite_HasPrefix.f s p = some (hasP s p) := by
  unfold stringslite_HasPrefix.f hasP
  by_cases h : p.size ≤ s.size
  · rw [if_pos (by omega), if_pos (by omega), if_pos (by omega), decide_eq_true h, Int.toNat_natCast]; rfl
  · rw [if_neg (by omega), decide_eq_false h]; rfl
theorem cutPrefix_eq (s p : ByteArray) : strings_CutPrefix.f s p = some (if hasP s p = true then (s.extract p.size s.size, true) else (s, false)) := by
  unfold strings_CutPrefix.f stringslite_CutPrefix.f
  rw [hasPrefix_eq]
  simp only [Option.bind_some]
  by_cases h : hasP s p = true
  · have h' := h
    unfold hasP at h'
    rw [Bool.and_eq_true, decide_eq_true_iff] at h'
    rw [if_pos h, if_pos h, if_pos (by omega), if_pos (by omega), Int.toNat_natCast]; rfl
  · rw [if_neg h, if_neg h]; rfl
def typeR : List UInt8 → Bool
  | [] => true
  | c :: r => c == 46 && decide (1 ≤ r.length) && decide (r.length ≤ 32) && r.all letter8
def typeOne (s p : ByteArray) : Bool := hasP s p && typeR (s.data.toList.drop p.size)
def typeF (s : ByteArray) (L : List ByteArray) : Nat → Nat → Int × Bool
  | 0, _ => (0, false)
  | d + 1, i => if typeOne s (rdOf ByteArray.empty L (i : Int)) = true then (((i + 1 : Nat) : Int), true) else typeF s L d (i + 1)
theorem c46 (c : UInt8) : ((c.toNat : Int) = 46) ↔ c = 46 := by
  constructor
  · intro h
    apply UInt8.toNat.inj
    show c.toNat = 46
    omega
  · rintro rfl; rfl
theorem type_l0 (s : ByteArray) (L : List ByteArray) (hs : s.size ≤ 1000000) (hL : L.length = 3) : ∀ (d k i : Nat), i + d = 3 → s.size + 10 + d < k → attribute_Type.l0 k s L 3 (i : Int) = some (typeF s L d i) := by
  intro d
  induction d with
  | zero =>
    intro k i h hk
    obtain ⟨k, rfl⟩ : ∃ m, k = m + 1 := ⟨k - 1, by omega⟩
    simp only [attribute_Type.l0, typeF]
    rw [if_neg (by omega)]
  | succ d ih =>
    intro k i h hk
    obtain ⟨k, rfl⟩ : ∃ m, k = m + 1 := ⟨k - 1, by omega⟩
    simp only [attribute_Type.l0, typeF]
    rw [if_pos (by omega), if_pos (by omega), if_pos (by omega), cutPrefix_eq, w64 (x := (i : Int) + 1) (by omega) (by omega), show ((i : Int) + 1) = ((i + 1 : Nat) : Int) by omega, ih k (i + 1) (by omega) (by omega)]
    generalize rdOf ByteArray.empty L (i : Int) = p
    simp only [Option.bind_some]
    unfold typeOne
    by_cases hp : hasP s p = true
    · rw [if_pos hp, hp, ext_drop]
      simp only [if_true, Bool.true_and]
      have ht : (⟨(s.data.toList.drop p.size).toArray⟩ : ByteArray).toList = s.data.toList.drop p.size := by rw [ByteArray.toList_eq]
      rw [ht]
      have hlen : (s.data.toList.drop p.size).length ≤ s.size := by simp
      cases hd : s.data.toList.drop p.size with
      | nil => simp [typeR]
      | cons c r =>
        rw [hd] at hlen
        obtain ⟨h0, hb⟩ := bt_zero ⟨(c :: r).toArray⟩ c r rfl
        rw [if_neg (by simp), if_pos (by omega), hb]
        by_cases hc : c = 46
        · rw [if_pos ((c46 c).2 hc), if_pos (by omega), ext_drop]
          have hl := letters_eq ⟨(((⟨(c :: r).toArray⟩ : ByteArray).data.toList).drop 1).toArray⟩ 32 (by rw [bsize]; simp only [List.length_cons] at hlen; show r.length ≤ 1000000; omega) k (by rw [bsize]; simp only [List.length_cons] at hlen; show r.length + 2 < k; omega)
          rw [show ((32 : Nat) : Int) = 32 from rfl] at hl
          rw [hl]
          simp only [Option.bind_some]
          have e : typeR (c :: r) = (decide (1 ≤ r.length) && decide (r.length ≤ 32) && r.all letter8) := by simp [typeR, hc]
          rw [e]
          show (if (decide (1 ≤ r.length) && decide (r.length ≤ 32) && r.all letter8) = true then _ else _) = _
          split <;> rfl
        · rw [if_neg (fun h => hc ((c46 c).1 h))]
          have e : typeR (c :: r) = false := by simp [typeR, hc]
          rw [e]; rfl
    · rw [if_neg hp]
      rw [Bool.not_eq_true] at hp
      rw [hp]
      simp
abbrev kindsL : List ByteArray := [⟨#[83, 116, 114, 105, 110, 103]⟩, ⟨#[78, 117, 109, 98, 101, 114]⟩, ⟨#[66, 105, 110, 97, 114, 121]⟩]
theorem Type_eq (s : ByteArray) (hs : s.size ≤ 1000000) (k : Nat) (hk : s.size + 13 < k) : attribute_Type.f k s = some (typeF s kindsL 3 0) := by
  unfold attribute_Type.f
  simp only [Option.bind_some]
  exact type_l0 s kindsL hs rfl 3 k 0 (by omega) (by omega)
theorem ref_type_l1 (s : ByteArray) (L : List ByteArray) (i K : Nat) (hi : i < 3) (v : Int × Bool) (hs : s.size ≤ 1000000)
    (hn : ∀ k, K < k → racewayref24_Type.l0 k s L ((i + 1 : Nat) : Int) = some v) : ∀ (d k j : Nat) (g : Bool), j + d = s.size → K + d + 1 < k →
    racewayref24_Type.l1 k s L (i : Int) g (j : Int) = some (if (g && (s.data.toList.drop j).all letter8) = true then (((i + 1 : Nat) : Int), true) else v) := by
  intro d
  induction d with
  | zero =>
    intro k j g h hk
    obtain ⟨k, rfl⟩ : ∃ m, k = m + 1 := ⟨k - 1, by omega⟩
    simp only [racewayref24_Type.l1]
    rw [if_neg (by omega), drop_all s j (by omega), w64 (by omega) (by omega), show ((i : Int) + 1) = ((i + 1 : Nat) : Int) by omega, hn k (by omega)]
    cases g <;> rfl
  | succ d ih =>
    intro k j g h hk
    obtain ⟨k, rfl⟩ : ∃ m, k = m + 1 := ⟨k - 1, by omega⟩
    simp only [racewayref24_Type.l1, letter_bt, Option.bind_some]
    obtain ⟨c, hc, hb⟩ := at_drop s j (by omega)
    rw [if_pos (by omega), if_pos (show (0 : Int) ≤ (j : Int) by omega), w64 (by omega) (by omega), show ((j : Int) + 1) = ((j + 1 : Nat) : Int) by omega, ih k (j + 1) _ (by omega) (by omega), ih k (j + 1) _ (by omega) (by omega), hc, hb]
    cases g
    · simp
    · simp only [if_true, List.all_cons, Bool.true_and]
      rfl
theorem ref_type_l0 (s : ByteArray) (L : List ByteArray) (hs : s.size ≤ 1000000) (hL : L.length = 3) (hp : ∀ i : Nat, i < 3 → (rdOf ByteArray.empty L (i : Int)).size ≤ 100) :
    ∀ (d k i : Nat), i + d = 3 → (s.size + 10) * (d + 1) < k → racewayref24_Type.l0 k s L (i : Int) = some (typeF s L d i) := by
  intro d
  induction d with
  | zero =>
    intro k i h hk
    obtain ⟨k, rfl⟩ : ∃ m, k = m + 1 := ⟨k - 1, by omega⟩
    simp only [racewayref24_Type.l0, typeF]
    rw [if_neg (by omega)]
  | succ d ih =>
    intro k i h hk
    rw [show (s.size + 10) * (d + 1 + 1) = (s.size + 10) * (d + 1) + (s.size + 10) by rw [Nat.mul_succ]] at hk
    generalize hK : (s.size + 10) * (d + 1) = K at hk ih
    obtain ⟨k, rfl⟩ : ∃ m, k = m + 3 := ⟨k - 3, by omega⟩
    have hn : ∀ k, K < k → racewayref24_Type.l0 k s L ((i + 1 : Nat) : Int) = some (typeF s L d (i + 1)) := fun k hk => ih k (i + 1) (by omega) hk
    have hpi := hp i (by omega)
    have h3 : ((i : Int) + 1) = ((i + 1 : Nat) : Int) := by omega
    simp only [racewayref24_Type.l0, typeF]
    rw [if_pos (by omega), if_pos (by omega), if_pos (by omega)]
    generalize rdOf ByteArray.empty L (i : Int) = p at hpi ⊢
    have hj : ∀ b, (b = false → p.size ≤ s.size) → racewayref24_Type.j1 (k + 2) s L (i : Int) (p.size : Int) b = some (if ((!b) && typeR (s.data.toList.drop p.size)) = true then (((i + 1 : Nat) : Int), true) else typeF s L d (i + 1)) := by
      intro b hle
      simp only [racewayref24_Type.j1]
      rw [w64 (x := (i : Int) + 1) (by omega) (by omega), h3, hn (k + 1) (by omega)]
      cases b
      · simp only [Bool.false_eq_true, if_false, Bool.not_false, Bool.true_and]
        have hle := hle rfl
        by_cases he : s.size = p.size
        · rw [if_pos (by omega), drop_all s p.size (by omega)]; rfl
        · rw [if_neg (by omega), if_pos (by omega), if_pos (by omega)]
          obtain ⟨c, hc, hb⟩ := at_drop s p.size (by omega)
          have hl2 : (s.data.toList.drop (p.size + 1)).length = s.size - (p.size + 1) := by simp
          rw [hc, hb, w64 (by omega) (by omega), w64 (by omega) (by omega)]
          have hj2 : ∀ g, racewayref24_Type.j2 (k + 1) s L (i : Int) (p.size : Int) g = some (if (g && (s.data.toList.drop (p.size + 1)).all letter8) = true then (((i + 1 : Nat) : Int), true) else typeF s L d (i + 1)) := by
            intro g
            simp only [racewayref24_Type.j2]
            rw [w64 (by omega) (by omega), show ((p.size : Int) + 1) = ((p.size + 1 : Nat) : Int) by omega]
            exact ref_type_l1 s L i K (by omega) _ hs hn (s.size - (p.size + 1)) k (p.size + 1) g (by omega) (by omega)
          rw [hj2, hj2]
          by_cases h46 : c = 46
          · rw [if_pos ((c46 c).2 h46)]
            have e : typeR (c :: s.data.toList.drop (p.size + 1)) = (decide (1 ≤ (s.data.toList.drop (p.size + 1)).length) && decide ((s.data.toList.drop (p.size + 1)).length ≤ 32) && (s.data.toList.drop (p.size + 1)).all letter8) := by simp [typeR, h46]
            rw [e, hl2]
            by_cases h1 : (s.size : Int) > (p.size : Int) + 1
            · rw [if_pos h1, decide_eq_true (p := 1 ≤ s.size - (p.size + 1)) (by omega), Bool.true_and]
              have e2 : decide ((s.size : Int) ≤ (p.size : Int) + 33) = decide (s.size - (p.size + 1) ≤ 32) := by rw [decide_eq_decide]; omega
              rw [e2]
            · rw [if_neg h1, decide_eq_false (p := 1 ≤ s.size - (p.size + 1)) (by omega)]; rfl
          · rw [if_neg (fun h => h46 ((c46 c).1 h))]
            have e : typeR (c :: s.data.toList.drop (p.size + 1)) = false := by simp [typeR, h46]
            rw [e]; rfl
      · simp
    have e : typeOne s p = (hasP s p && typeR (s.data.toList.drop p.size)) := rfl
    rw [e]
    unfold hasP
    by_cases hle : p.size ≤ s.size
    · rw [if_neg (by omega), if_pos (by omega), if_pos (by omega), Int.toNat_natCast, hj _ (fun _ => hle), decide_eq_true hle]
      simp only [bne, Bool.not_not, Bool.true_and]
    · rw [if_pos (by omega), hj _ (fun h => by simp at h), decide_eq_false hle]
      simp
theorem ref_Type_eq (s : ByteArray) (hs : s.size ≤ 1000000) (k : Nat) (hk : (s.size + 10) * 4 < k) : racewayref24_Type.f k s = some (typeF s kindsL 3 0) := by
  unfold racewayref24_Type.f
  exact ref_type_l0 s kindsL hs rfl (fun i hi => by
    match i, hi with
    | 0, _ => decide +kernel
    | 1, _ => decide +kernel
    | 2, _ => decide +kernel) 3 k 0 (by omega) hk
theorem hasP_one (s : ByteArray) (c : UInt8) : hasP s ⟨#[c]⟩ = match s.data.toList with | [] => false | b :: _ => b == c := by
  unfold hasP
  rw [Lib.extract_toList, show (⟨#[c]⟩ : ByteArray).toList = [c] by rw [ByteArray.toList_eq]]
  have hl : s.data.toList.length = s.size := by simp
  cases hd : s.data.toList with
  | nil =>
    rw [hd] at hl
    rw [decide_eq_false]
    · rfl
    · show ¬ (1 ≤ s.size); simp at hl; omega
  | cons b r =>
    rw [hd] at hl
    rw [decide_eq_true]
    · show ([b] == [c]) = _
      simp
    · show 1 ≤ s.size; simp at hl; omega
theorem strings_HasPrefix_eq (s p : ByteArray) : strings_HasPrefix.f s p = some (hasP s p) := by
  unfold strings_HasPrefix.f
  rw [hasPrefix_eq]; rfl
theorem sign_eq (l : List UInt8) (h : l.length ≤ 1000000) : attribute_sign.f ⟨l.toArray⟩ = some ⟨(unsign l).toArray⟩ := by
  unfold attribute_sign.f
  rw [strings_HasPrefix_eq, strings_HasPrefix_eq, hasP_one, hasP_one]
  have e : ∀ r : List UInt8, ∀ c, (⟨(c :: r).toArray⟩ : ByteArray).extract 1 (⟨(c :: r).toArray⟩ : ByteArray).size = ⟨r.toArray⟩ := fun r c => ext_drop ⟨(c :: r).toArray⟩ 1
  simp only [Option.bind_some]
  cases l with
  | nil => rfl
  | cons c r =>
    rw [e, bsize, show unsign (c :: r) = if c = 43 ∨ c = 45 then r else c :: r from rfl]
    have hl : (1 : Int) ≤ ((c :: r).length : Int) := by simp only [List.length_cons]; omega
    show (if (c == 43) = true then _ else if (c == 45) = true then _ else _) = _
    by_cases h1 : c = 43
    · rw [if_pos (beq_iff_eq.2 h1), if_pos hl, if_pos (.inl h1)]
    · rw [if_neg (fun h => h1 (beq_iff_eq.1 h))]
      by_cases h2 : c = 45
      · rw [if_pos (beq_iff_eq.2 h2), if_pos hl, if_pos (.inr h2)]
      · rw [if_neg (fun h => h2 (beq_iff_eq.1 h)), if_neg (by simp [h1, h2])]
theorem cut1_len (c : UInt8) : ∀ l, (cut1 c l).1.length + (cut1 c l).2.1.length ≤ l.length
  | [] => by simp [cut1]
  | b :: l => by
    have := cut1_len c l
    unfold cut1
    split
    · simp
    · simp; omega
theorem rep1_len : ∀ l, (rep1 l).length = l.length
  | [] => rfl
  | b :: l => by
    have := rep1_len l
    unfold rep1
    split <;> simp [this]
theorem unsign_len (l : List UInt8) : (unsign l).length ≤ l.length := by
  cases l with
  | nil => simp [unsign]
  | cons c l => rw [show unsign (c :: l) = if c = 43 ∨ c = 45 then l else c :: l from rfl]; split <;> simp
theorem cut_eq (l : List UInt8) (c : UInt8) (h : l.length ≤ 1000000) : strings_Cut.f ⟨l.toArray⟩ ⟨#[c]⟩ = some (⟨(cut1 c l).1.toArray⟩, ⟨(cut1 c l).2.1.toArray⟩, (cut1 c l).2.2) := by
  unfold strings_Cut.f
  rw [if_pos (by rw [bsize]; omega)]
  show some (_, _, _) = _
  rw [show (⟨#[c]⟩ : ByteArray).data.toList = [c] from rfl, show (⟨l.toArray⟩ : ByteArray).data.toList = l from rfl, cut_one]
theorem digits_l (l : List UInt8) (m : Nat) (h : l.length ≤ 100000) (k : Nat) (hk : l.length + 2 < k) : attribute_all.f k ⟨l.toArray⟩ ⟨#[48, 49, 50, 51, 52, 53, 54, 55, 56, 57]⟩ (m : Int) = some (digs m l) :=
  digits_eq ⟨l.toArray⟩ m (by rw [bsize]; omega) k (by rw [bsize]; omega)
theorem most_eq (q : List UInt8) (v : Int) : (if hasP ⟨q.toArray⟩ ⟨#[45]⟩ = true then some (decide (v ≤ 128)) else some (decide (v ≤ 126))) = some (decide (v ≤ (mostOf q : Int))) := by
  cases q with
  | nil => rw [hasP_one]; rfl
  | cons c r =>
    rw [show hasP ⟨(c :: r).toArray⟩ ⟨#[45]⟩ = (c == 45) from hasP_one _ _, show mostOf (c :: r) = if c = 45 then 128 else 126 from rfl]
    by_cases h : c = 45
    · rw [if_pos (beq_iff_eq.2 h), if_pos h]; rfl
    · rw [if_neg (fun h' => h (beq_iff_eq.1 h')), if_neg h]; rfl
theorem numA_of (l a b : List UInt8) (has : Bool) (x y : List UInt8) (z : Bool) (h1 : cut1 101 (rep1 l) = (a, b, has)) (h2 : cut1 46 (unsign a) = (x, y, z)) :
    numA l = if digs 38 (x ++ y) = true then if has = true then if digs 3 (unsign b) = true then decide (valA (unsign b) ≤ (mostOf b : Int)) else false else true else false := by
  unfold numA
  rw [replace_one, cut_one, h1]
  simp only
  rw [cut_one, h2]
theorem Number_eq (s : ByteArray) (hs : s.size ≤ 1000) (k : Nat) (hk : 2000 < k) : attribute_Number.f k s = some (numA s.data.toList) := by
  have hl : s.data.toList.length = s.size := by simp
  unfold attribute_Number.f strings_Replace.f
  generalize s.data.toList = l at hl ⊢
  rw [if_pos ⟨by omega, by decide, by decide⟩]
  simp only [Option.bind_some]
  rw [show Lib.replace l (⟨#[69]⟩ : ByteArray).data.toList (⟨#[101]⟩ : ByteArray).data.toList 1 = rep1 l from replace_one l, cut_eq _ _ (by rw [rep1_len]; omega)]
  have h1 := cut1_len 101 (rep1 l)
  rw [rep1_len] at h1
  simp only [Option.bind_some]
  obtain ⟨a, b, has, hc⟩ : ∃ a b has, cut1 101 (rep1 l) = (a, b, has) := ⟨_, _, _, rfl⟩
  rw [hc] at h1 ⊢
  simp only at h1 ⊢
  rw [sign_eq _ (by omega)]
  simp only [Option.bind_some]
  have h2 := unsign_len a
  rw [cut_eq _ _ (by omega)]
  have h3 := cut1_len 46 (unsign a)
  simp only [Option.bind_some]
  obtain ⟨x, y, z, hd2⟩ : ∃ x y z, cut1 46 (unsign a) = (x, y, z) := ⟨_, _, _, rfl⟩
  rw [hd2] at h3 ⊢
  rw [numA_of l a b has x y z hc hd2]
  simp only at h3 ⊢
  rw [bsize, bsize, if_pos (by omega), bapp]
  have hd := digits_l (x ++ y) 38 (by simp; omega) k (by simp; omega)
  rw [show ((38 : Nat) : Int) = 38 from rfl] at hd
  rw [hd]
  simp only [Option.bind_some]
  cases digs 38 (x ++ y)
  · simp only [Bool.false_eq_true, if_false]
  · simp only [if_true]
    cases has
    · simp only [Bool.false_eq_true, if_false]
    · simp only [if_true]
      rw [sign_eq _ (by omega)]
      have h4 := unsign_len b
      have hd := digits_l (unsign b) 3 (by omega) k (by omega)
      rw [show ((3 : Nat) : Int) = 3 from rfl] at hd
      simp only [Option.bind_some]
      rw [hd]
      simp only [Option.bind_some]
      cases hg : digs 3 (unsign b)
      · simp only [Bool.false_eq_true, if_false]
      · simp only [if_true]
        have hu : 1 ≤ (unsign b).length := by
          unfold digs at hg
          rw [Bool.and_eq_true, Bool.and_eq_true, decide_eq_true_iff] at hg
          exact hg.1.1
        generalize unsign b = u at h4 hu ⊢
        rw [bsize, w64 (by omega) (by omega), if_pos (by omega), if_pos (by omega), show ((u.length : Int) - 1).toNat = u.length - 1 by omega, ext_take]
        have e1 : (⟨u.toArray⟩ : ByteArray).extract (u.length - 1) u.length = ⟨(u.drop (u.length - 1)).toArray⟩ := by
          have := ext_drop ⟨u.toArray⟩ (u.length - 1)
          rw [bsize] at this
          exact this
        rw [e1]
        have e2 : strings_TrimLeft.f ⟨(List.take (u.length - 1) (⟨u.toArray⟩ : ByteArray).data.toList).toArray⟩ ⟨#[48]⟩ = some ⟨(trim0 (u.take (u.length - 1))).toArray⟩ := rfl
        rw [e2]
        simp only [Option.bind_some, bsize]
        have h5 : (trim0 (u.take (u.length - 1))).length ≤ u.length := by
          have := (List.dropWhile_sublist (l := u.take (u.length - 1)) (· == (48 : UInt8))).length_le
          unfold trim0
          simp at this ⊢
          omega
        rw [if_pos (by simp; omega), bapp, strings_HasPrefix_eq]
        show Option.bind (some (atoiB _)) _ = _
        simp only [Option.bind_some]
        have e3 : (atoiB ⟨(trim0 (List.take (u.length - 1) u) ++ List.drop (u.length - 1) u).toArray⟩).1 = valA u := rfl
        rw [e3]
        exact most_eq b (valA u)
theorem ref_l1 (s : ByteArray) (hs : s.size ≤ 1000) (M : Nat) : ∀ (d k i n v : Nat), i + d = s.size → d < k → n ≤ 4 → v < 10 ^ n → racewayref24_Number.l1 k s (i : Int) (M : Int) (n : Int) (v : Int) = some (expoL M (s.data.toList.drop i) n v) := by
  intro d
  induction d with
  | zero =>
    intro k i n v h hk hn hv
    obtain ⟨k, rfl⟩ : ∃ m, k = m + 1 := ⟨k - 1, by omega⟩
    simp only [racewayref24_Number.l1]
    rw [if_neg (by omega), drop_all s i (by omega), if_pos (by omega), expoL]
    by_cases h1 : 1 ≤ n
    · rw [if_pos (by omega), decide_eq_true h1]
      by_cases h2 : n ≤ 3
      · rw [if_pos (by omega), decide_eq_true h2]
        simp only [Bool.true_and]
        congr 1
        rw [decide_eq_decide]; omega
      · rw [if_neg (by omega), decide_eq_false h2]; rfl
    · rw [if_neg (by omega), decide_eq_false h1]; rfl
  | succ d ih =>
    intro k i n v h hk hn hv
    obtain ⟨k, rfl⟩ : ∃ m, k = m + 1 := ⟨k - 1, by omega⟩
    obtain ⟨c, hc, hb⟩ := at_drop s i (by omega)
    simp only [racewayref24_Number.l1, digit_bt, Option.bind_some]
    rw [if_pos (by omega), if_pos (show (0 : Int) ≤ (i : Int) by omega), hc, hb, digitI_dig, if_neg (show ¬ ((i : Int) = (s.size : Int)) by omega)]
    unfold expoL
    by_cases hd : dig c = true
    · rw [if_pos hd]
      by_cases h4 : n < 4
      · have hc2 : 48 ≤ c.toNat ∧ c.toNat ≤ 57 := by
          have := hd
          unfold dig at this
          rw [Bool.and_eq_true, decide_eq_true_iff, decide_eq_true_iff] at this
          exact this
        have h10 : 10 ^ n ≤ 10 ^ 3 := Nat.pow_le_pow_right (by omega) (by omega)
        have h103 : (10 : Nat) ^ 3 = 1000 := by decide
        have hv2 : 10 * v + (c.toNat - 48) < 10 ^ (n + 1) := by rw [Nat.pow_succ]; omega
        rw [if_pos (by omega), if_pos ⟨hd, h4⟩, w64 (x := (i : Int) + 1) (by omega) (by omega), w64 (x := (n : Int) + 1) (by omega) (by omega), w64 (x := 10 * (v : Int)) (by omega) (by omega), w64 (by omega) (by omega)]
        have := ih k (i + 1) (n + 1) (10 * v + (c.toNat - 48)) (by omega) (by omega) (by omega) hv2
        rw [show (((i + 1 : Nat)) : Int) = (i : Int) + 1 by omega, show (((n + 1 : Nat)) : Int) = (n : Int) + 1 by omega, show (((10 * v + (c.toNat - 48) : Nat)) : Int) = 10 * (v : Int) + ((c.toNat : Int) - 48) % 256 by omega] at this
        exact this
      · rw [if_neg (by omega), if_neg (fun h => h4 h.2)]
    · rw [if_neg hd, if_neg (fun h => hd h.1)]
theorem c101 (c : UInt8) : ((c.toNat : Int) = 101) ↔ c = 101 := by
  constructor
  · intro h
    apply UInt8.toNat.inj
    show c.toNat = 101
    omega
  · rintro rfl; rfl
theorem c69 (c : UInt8) : ((c.toNat : Int) = 69) ↔ c = 69 := by
  constructor
  · intro h
    apply UInt8.toNat.inj
    show c.toNat = 69
    omega
  · rintro rfl; rfl
theorem c43 (c : UInt8) : ((c.toNat : Int) = 43) ↔ c = 43 := by
  constructor
  · intro h
    apply UInt8.toNat.inj
    show c.toNat = 43
    omega
  · rintro rfl; rfl
theorem c45 (c : UInt8) : ((c.toNat : Int) = 45) ↔ c = 45 := by
  constructor
  · intro h
    apply UInt8.toNat.inj
    show c.toNat = 45
    omega
  · rintro rfl; rfl
theorem ref_j5 (s : ByteArray) (hs : s.size ≤ 1000) (k i : Nat) (hi : i < s.size) (hk : s.size + 10 < k) (b : Bool) :
    racewayref24_Number.j5 k s (i : Int) b = some (if b = true then false else expoL (mostOf (s.data.toList.drop (i + 1))) (unsign (s.data.toList.drop (i + 1))) 0 0) := by
  obtain ⟨k, rfl⟩ : ∃ m, k = m + 3 := ⟨k - 3, by omega⟩
  have hj7 : ∀ (j M : Nat), j ≤ s.size → racewayref24_Number.j7 (k + 1) s (j : Int) (M : Int) = some (expoL M (s.data.toList.drop j) 0 0) := by
    intro j M hj
    simp only [racewayref24_Number.j7]
    exact ref_l1 s hs M (s.size - j) k j 0 0 (by omega) (by omega) (by omega) (by decide)
  simp only [racewayref24_Number.j5]
  cases b
  · simp only [Bool.false_eq_true, if_false]
    rw [w64 (by omega) (by omega), show ((i : Int) + 1) = ((i + 1 : Nat) : Int) by omega]
    have hj6f : racewayref24_Number.j6 (k + 2) s ((i + 1 : Nat) : Int) 126 false = some (expoL 126 (s.data.toList.drop (i + 1)) 0 0) := by
      simp only [racewayref24_Number.j6, Bool.false_eq_true, if_false]
      exact hj7 (i + 1) 126 (by omega)
    by_cases h1 : i + 1 < s.size
    · rw [if_pos (by omega), if_pos (by omega)]
      obtain ⟨c, hc, hb⟩ := at_drop s (i + 1) h1
      have hj6t : racewayref24_Number.j6 (k + 2) s ((i + 1 : Nat) : Int) 126 true = some (if c = 45 then expoL 128 (s.data.toList.drop (i + 2)) 0 0 else expoL 126 (s.data.toList.drop (i + 2)) 0 0) := by
        simp only [racewayref24_Number.j6, if_true]
        rw [if_pos (by omega), if_pos (by omega), hb, w64 (by omega) (by omega), show (((i + 1 : Nat) : Int) + 1) = ((i + 2 : Nat) : Int) by omega]
        have ha := hj7 (i + 2) 128 (by omega)
        have hb := hj7 (i + 2) 126 (by omega)
        rw [show ((128 : Nat) : Int) = 128 from rfl] at ha
        rw [show ((126 : Nat) : Int) = 126 from rfl] at hb
        rw [ha, hb]
        by_cases h45 : c = 45
        · rw [if_pos ((c45 c).2 h45), if_pos h45]
        · rw [if_neg (fun h => h45 ((c45 c).1 h)), if_neg h45]
      rw [hb, hc, unsign, mostOf]
      by_cases h43 : c = 43
      · have h45 : ¬ c = 45 := by rw [h43]; decide
        rw [if_pos ((c43 c).2 h43), hj6t, if_neg h45, if_neg h45, if_pos (show c = 43 ∨ c = 45 from .inl h43)]
      · rw [if_neg (fun h => h43 ((c43 c).1 h))]
        by_cases h45 : c = 45
        · have : ((c.toNat : Int) == 45) = true := by rw [beq_iff_eq]; exact (c45 c).2 h45
          rw [this, hj6t, if_pos h45, if_pos h45, if_pos (show c = 43 ∨ c = 45 from .inr h45)]
        · have : ((c.toNat : Int) == 45) = false := by rw [beq_eq_false_iff_ne]; exact fun h => h45 ((c45 c).1 h)
          rw [this, hj6f, if_neg h45, if_neg (show ¬ (c = 43 ∨ c = 45) by simp [h43, h45]), hc]
    · rw [if_neg (by omega), hj6f, drop_all s (i + 1) (by omega)]
      rfl
  · rfl
theorem ref_j4 (s : ByteArray) (hs : s.size ≤ 1000) (k i n p : Nat) (hi : i ≤ s.size) (hk : s.size + 20 < k) (b : Bool) (hb : (b = true) ↔ (n < 1 ∨ 38 < n ∨ 1 < p)) :
    racewayref24_Number.j4 k s (i : Int) b = some (tailR (s.data.toList.drop i) n p) := by
  obtain ⟨k, rfl⟩ : ∃ m, k = m + 1 := ⟨k - 1, by omega⟩
  simp only [racewayref24_Number.j4]
  unfold tailR
  by_cases h : b = true
  · rw [if_pos h, if_pos (hb.1 h)]
  · rw [if_neg h, if_neg (fun h' => h (hb.2 h'))]
    by_cases he : i = s.size
    · rw [if_pos (by omega), drop_all s i (by omega)]
    · rw [if_neg (by omega), if_pos (by omega), if_pos (by omega)]
      obtain ⟨c, hc, hbt⟩ := at_drop s i (by omega)
      rw [hbt, hc, ref_j5 s hs k i (by omega) (by omega), ref_j5 s hs k i (by omega) (by omega)]
      simp only []
      by_cases h1 : c = 101
      · rw [if_pos ((c101 c).2 h1), if_pos (show c = 101 ∨ c = 69 from .inl h1)]; rfl
      · rw [if_neg (fun h => h1 ((c101 c).1 h))]
        by_cases h2 : c = 69
        · have : ((c.toNat : Int) != 69) = false := by rw [bne_eq_false_iff_eq]; exact (c69 c).2 h2
          rw [this, if_pos (show c = 101 ∨ c = 69 from .inr h2)]; rfl
        · have : ((c.toNat : Int) != 69) = true := by rw [bne_iff_ne]; exact fun h => h2 ((c69 c).1 h)
          rw [this, if_neg (show ¬ (c = 101 ∨ c = 69) by simp [h1, h2])]; rfl
theorem ref_l0 (s : ByteArray) (hs : s.size ≤ 1000) : ∀ (d k i n p : Nat), i + d = s.size → n ≤ i → p ≤ i → 2 * d + s.size + 30 < k →
    racewayref24_Number.l0 k s (i : Int) (n : Int) (p : Int) = some (scanR (s.data.toList.drop i) n p) := by
  have hj3 : ∀ (k i n p : Nat), i ≤ s.size → s.size + 25 < k → racewayref24_Number.j3 k s (i : Int) (n : Int) (p : Int) false = some (tailR (s.data.toList.drop i) n p) := by
    intro k i n p hi hk
    obtain ⟨k, rfl⟩ : ∃ m, k = m + 1 := ⟨k - 1, by omega⟩
    simp only [racewayref24_Number.j3, Bool.false_eq_true, if_false]
    by_cases h1 : n < 1
    · rw [if_pos (by omega)]
      exact ref_j4 s hs k i n p hi (by omega) true (by simp [h1])
    · rw [if_neg (by omega)]
      by_cases h2 : 38 < n
      · rw [if_pos (by omega)]
        exact ref_j4 s hs k i n p hi (by omega) true (by simp [h2])
      · rw [if_neg (by omega)]
        exact ref_j4 s hs k i n p hi (by omega) _ (by rw [decide_eq_true_iff]; omega)
  intro d
  induction d with
  | zero =>
    intro k i n p h hn hp hk
    obtain ⟨k, rfl⟩ : ∃ m, k = m + 1 := ⟨k - 1, by omega⟩
    simp only [racewayref24_Number.l0]
    rw [if_neg (by omega), hj3 k i n p (by omega) (by omega), drop_all s i (by omega)]
    rfl
  | succ d ih =>
    intro k i n p h hn hp hk
    obtain ⟨k, rfl⟩ : ∃ m, k = m + 2 := ⟨k - 2, by omega⟩
    obtain ⟨c, hc, hb⟩ := at_drop s i (by omega)
    simp only [racewayref24_Number.l0, digit_bt, Option.bind_some]
    rw [if_pos (by omega), if_pos (show (0 : Int) ≤ (i : Int) by omega), hb, digitI_dig]
    have hj3t : racewayref24_Number.j3 (k + 1) s (i : Int) (n : Int) (p : Int) true = if c = 46 then some (scanR (s.data.toList.drop (i + 1)) n (p + 1)) else some (scanR (s.data.toList.drop (i + 1)) (n + 1) p) := by
      simp only [racewayref24_Number.j3, if_true]
      rw [if_pos (by omega), if_pos (by omega), hb, w64 (x := (i : Int) + 1) (by omega) (by omega), w64 (x := (p : Int) + 1) (by omega) (by omega), w64 (x := (n : Int) + 1) (by omega) (by omega)]
      have ha := ih k (i + 1) n (p + 1) (by omega) (by omega) (by omega) (by omega)
      have hb2 := ih k (i + 1) (n + 1) p (by omega) (by omega) (by omega) (by omega)
      rw [show (((i + 1 : Nat)) : Int) = (i : Int) + 1 by omega, show (((p + 1 : Nat)) : Int) = (p : Int) + 1 by omega] at ha
      rw [show (((i + 1 : Nat)) : Int) = (i : Int) + 1 by omega, show (((n + 1 : Nat)) : Int) = (n : Int) + 1 by omega] at hb2
      rw [ha, hb2]
      by_cases h46 : c = 46
      · rw [if_pos ((c46 c).2 h46), if_pos h46]
      · rw [if_neg (fun h => h46 ((c46 c).1 h)), if_neg h46]
    rw [hj3t]
    have hf := hj3 (k + 1) i n p (by omega) (by omega)
    rw [hc] at hf ⊢
    rw [show scanR (c :: s.data.toList.drop (i + 1)) n p = if c = 46 then scanR (s.data.toList.drop (i + 1)) n (p + 1) else if dig c = true then scanR (s.data.toList.drop (i + 1)) (n + 1) p else tailR (c :: s.data.toList.drop (i + 1)) n p from rfl]
    by_cases h46 : c = 46
    · have e : ((c.toNat : Int) == 46) = true := by rw [beq_iff_eq]; exact (c46 c).2 h46
      have hd : dig c = false := by rw [h46]; exact dig_46
      rw [e, hj3t, hd, if_pos h46, if_pos h46]; rfl
    · have e : ((c.toNat : Int) == 46) = false := by rw [beq_eq_false_iff_ne]; exact fun h => h46 ((c46 c).1 h)
      rw [e, hf, if_neg h46, if_neg h46]
      cases dig c <;> rfl
theorem ref_Number_eq (s : ByteArray) (hs : s.size ≤ 1000) (k : Nat) (hk : 4000 < k) : racewayref24_Number.f k s = some (numR s.data.toList) := by
  unfold racewayref24_Number.f numR
  obtain ⟨k, rfl⟩ : ∃ m, k = m + 2 := ⟨k - 2, by omega⟩
  have hj0f : racewayref24_Number.j0 (k + 2) s 0 false = some (scanR s.data.toList 0 0) := by
    simp only [racewayref24_Number.j0, racewayref24_Number.j1, Bool.false_eq_true, if_false]
    exact ref_l0 s hs s.size k 0 0 0 (by omega) (by omega) (by omega) (by omega)
  by_cases h0 : 0 < s.size
  · rw [if_pos (by omega)]
    obtain ⟨c, hc, hb⟩ := at_drop s 0 h0
    rw [List.drop_zero] at hc
    have hj0t : racewayref24_Number.j0 (k + 2) s 0 true = some (scanR (s.data.toList.drop 1) 0 0) := by
      simp only [racewayref24_Number.j0, racewayref24_Number.j1, if_true]
      rw [w64 (by omega) (by omega)]
      exact ref_l0 s hs (s.size - 1) k 1 0 0 (by omega) (by omega) (by omega) (by omega)
    rw [show (0 : Int) = ((0 : Nat) : Int) from rfl, hb, show ((0 : Nat) : Int) = (0 : Int) from rfl]
    by_cases h43 : c = 43
    · rw [if_pos ((c43 c).2 h43), hj0t]
      conv => rhs; rw [hc, unsign, if_pos (.inl h43)]
    · rw [if_neg (fun h => h43 ((c43 c).1 h))]
      by_cases h45 : c = 45
      · have : ((c.toNat : Int) == 45) = true := by rw [beq_iff_eq]; exact (c45 c).2 h45
        rw [this, hj0t]
        conv => rhs; rw [hc, unsign, if_pos (.inr h45)]
      · have : ((c.toNat : Int) == 45) = false := by rw [beq_eq_false_iff_ne]; exact fun h => h45 ((c45 c).1 h)
        rw [this, hj0f]
        conv => rhs; rw [hc, unsign, if_neg (by simp [h43, h45]), ← hc]
  · rw [if_neg (by omega), hj0f]
    have := drop_all s 0 (by omega)
    rw [List.drop_zero] at this
    rw [this]; rfl
end Go.Proofs.YtolpefnedpgaaaaDoor.X

namespace Go.Proofs.YtolpefnedpgaaaaDoor.X
open Go.RowKit Go.Proofs.YtolpefnedpgaaaaDoorW.PrintWords Go.Proofs.YtolpefnedpgaaaaDoorW.PrintMore
set_option linter.unusedVariables false
set_option linter.unusedSimpArgs false
theorem hexL_length : ∀ l : List Int, (hexL l).length = 2 * l.length
  | [] => rfl
  | x :: l => by
    have := hexL_length l
    unfold hexL at this ⊢
    simp only [List.flatMap_cons, List.length_append, this, List.length_cons, List.length_nil]
    omega
theorem outL_length : ∀ l : List Int, (outL l).length = 4 * l.length
  | [] => rfl
  | x :: l => by
    have := outL_length l
    unfold outL at this ⊢
    simp only [List.flatMap_cons, List.length_append, this, List.length_cons, List.length_nil]
    omega
theorem sum_length {s : Fp} (h : s.Ok) : s.sum.length = 16 := by
  unfold Fp.sum
  rw [outL_length]
  have : s.fin.Ok := by unfold Fp.fin; exact Fp.bytes_ok (Fp.bytes_ok (Fp.byte_ok h _) _) _
  rw [this.1]
theorem strOfNums_size (l : List Int) : (strOfNums l).size = l.length := by
  unfold strOfNums
  show Array.size _ = _
  simp
theorem sum_one (k : Nat) (x : S33) (hx : small33 x) (hk : x.f1.size + 13 < k) : ∃ r, attribute_Sum.f k [x] = some r ∧ r.size = 32 := by
  unfold attribute_Sum.f
  rw [if_neg (by simp), if_pos (by simp), show sortA [x] = [x] from rfl]
  unfold sumAll sumStep
  rw [if_pos hx, Type_eq x.f1 (by have := hx.2.1; omega) k hk]
  refine ⟨_, rfl, ?_⟩
  rw [strOfNums_size, hexL_length, sum_length]
  exact Fp.text_ok (Fp.bytes_ok (Fp.text_ok (Fp.text_ok fp0_ok _) _) _) _
theorem works_eq (k : Nat) (hk : 4000 < k) : racewaylaw24_works.f k = some true := by
  unfold racewaylaw24_works.f
  rw [Type_eq _ (by decide) k (by show 10 + 13 < k; omega), Name_eq _ (by decide) k (by show 3 + 20 < k; omega), Name_eq _ (by decide) k (by show 4 + 20 < k; omega), Name_eq _ (by decide) k (by show 5 + 20 < k; omega), Number_eq _ (by decide) k (by omega)]
  obtain ⟨r, h1, h2⟩ := sum_one k ⟨⟨#[97]⟩, ⟨#[83, 116, 114, 105, 110, 103]⟩, ⟨#[120]⟩⟩ (by decide) (by show 6 + 13 < k; omega)
  rw [h1]
  rw [show typeF ⟨#[78, 117, 109, 98, 101, 114, 46, 105, 110, 116]⟩ kindsL 3 0 = (2, true) by decide +kernel]
  rw [show nameB ⟨#[97, 46, 98]⟩ = true by decide +kernel, show nameB ⟨#[97, 46, 46, 98]⟩ = false by decide +kernel, show nameB ⟨#[65, 87, 83, 46, 120]⟩ = false by decide +kernel]
  rw [show numA (⟨#[45, 49, 46, 53, 101, 51]⟩ : ByteArray).data.toList = true by decide +kernel]
  simp only [Option.bind_some, if_true, Bool.false_eq_true, if_false]
  rw [h2]
  rfl
end Go.Proofs.YtolpefnedpgaaaaDoor.X

namespace Go.Proofs.YtolpefnedpgaaaaDoor.X
open Go.RowKit Go.Proofs.YtolpefnedpgaaaaDoorW.PrintWords Go.Proofs.YtolpefnedpgaaaaDoorW.PrintMore
set_option linter.unusedVariables false
set_option linter.unusedSimpArgs false
def cutS (x : S33) : S33 :=
  ⟨x.f0.extract 0 ((mn (x.f0.size : Int) 100) : Int).toNat, x.f1.extract 0 ((mn (x.f1.size : Int) 100) : Int).toNat, x.f2.extract 0 ((mn (x.f2.size : Int) 200) : Int).toNat⟩
def fewB (l : List S33) : List S33 := (l.take 14).map cutS
theorem cutB_le (s : ByteArray) (n : Nat) : (s.extract 0 ((mn (s.size : Int) (n : Int)) : Int).toNat).size ≤ n := by
  have := cutB_size s n
  unfold cutB at this
  omega
theorem cutS_size (x : S33) : (cutS x).f0.size ≤ 100 ∧ (cutS x).f1.size ≤ 100 ∧ (cutS x).f2.size ≤ 200 := ⟨cutB_le _ 100, cutB_le _ 100, cutB_le _ 200⟩
theorem fewB_length (l : List S33) : (fewB l).length = min 14 l.length := by simp [fewB]
def small (L : List S33) : Prop := L.length ≤ 14 ∧ ∀ x ∈ L, x.f0.size ≤ 100 ∧ x.f1.size ≤ 100 ∧ x.f2.size ≤ 200
theorem fewB_small (l : List S33) : small (fewB l) := by
  refine ⟨by rw [fewB_length]; omega, fun x hx => ?_⟩
  unfold fewB at hx
  obtain ⟨y, _, rfl⟩ := List.mem_map.1 hx
  exact cutS_size y
theorem small_at {L : List S33} (h : small L) (i : Nat) (hi : i < L.length) : (L.getD i z33).f0.size ≤ 100 ∧ (L.getD i z33).f1.size ≤ 100 ∧ (L.getD i z33).f2.size ≤ 200 := by
  apply h.2
  simp only [List.getD, List.getElem?_eq_getElem hi, Option.getD_some]
  exact List.getElem_mem hi
theorem rd33 (l : List S33) (i : Nat) : rd_T33 l (i : Int) = l.getD i z33 := by unfold rd_T33; rw [Int.toNat_natCast]
theorem fewB_at (l : List S33) (i : Nat) (h1 : i < l.length) (h2 : i < 14) : (fewB l).take (i + 1) = (fewB l).take i ++ [cutS (l.getD i z33)] := by
  rw [List.take_succ_eq_append_getElem (by rw [fewB_length]; omega)]
  congr 2
  unfold fewB
  simp [List.getD, h1]
theorem few_l0 (l : List S33) : ∀ (d k i : Nat), i + d = min 14 l.length → d < k → racewaylaw24_few.l0 k l ((fewB l).take i) (i : Int) = some (fewB l) := by
  intro d
  induction d with
  | zero =>
    intro k i h hk
    obtain ⟨k, rfl⟩ : ∃ m, k = m + 1 := ⟨k - 1, by omega⟩
    simp only [racewaylaw24_few.l0]
    rw [List.take_of_length_le (by rw [fewB_length]; omega)]
    by_cases h1 : (i : Int) < (l.length : Int)
    · rw [if_pos h1, if_neg (by omega)]
    · rw [if_neg h1]
  | succ d ih =>
    intro k i h hk
    obtain ⟨k, rfl⟩ : ∃ m, k = m + 1 := ⟨k - 1, by omega⟩
    simp only [racewaylaw24_few.l0]
    have hm : ∀ (s : ByteArray) (n : Nat), 0 ≤ mn (s.size : Int) (n : Int) ∧ mn (s.size : Int) (n : Int) ≤ (s.size : Int) := by
      intro s n
      refine ⟨?_, mn_le_left _ _⟩
      rcases mn_cases (s.size : Int) (n : Int) with h | h <;> rw [h] <;> omega
    have ha := fun s => hm s 100
    have hb := fun s => hm s 200
    rw [show ((100 : Nat) : Int) = 100 from rfl] at ha
    rw [show ((200 : Nat) : Int) = 200 from rfl] at hb
    rw [if_pos (by omega), if_pos (by omega), if_pos (by omega), rd33, if_pos (ha _).1, if_pos (ha _).2, if_pos (ha _).1, if_pos (ha _).2, if_pos (hb _).1, if_pos (hb _).2, if_pos (by rw [List.length_take, fewB_length]; omega)]
    have e := fewB_at l i (by omega) (by omega)
    unfold cutS at e
    rw [← e, w64 (by omega) (by omega), show ((i : Int) + 1) = ((i + 1 : Nat) : Int) by omega]
    exact ih k (i + 1) (by omega) (by omega)
theorem few_eq (l : List S33) (k : Nat) (hk : 20 < k) : racewaylaw24_few.f k l = some (fewB l) := by
  unfold racewaylaw24_few.f
  have := few_l0 l (min 14 l.length) k 0 (by omega) (by omega)
  rw [List.take_zero] at this
  exact this
end Go.Proofs.YtolpefnedpgaaaaDoor.X

namespace Go.Proofs.YtolpefnedpgaaaaDoor.X
open Go.RowKit Go.Proofs.YtolpefnedpgaaaaDoorW.PrintWords Go.Proofs.YtolpefnedpgaaaaDoorW.PrintMore
set_option linter.unusedVariables false
set_option linter.unusedSimpArgs false
def whyB (L : List S33) (i : Nat) : Int :=
  if nameB (L.getD i z33).f0 = false then 2 else if (L.take i).any (named (L.getD i z33).f0) = true then 2 else if (typeF (L.getD i z33).f1 kindsL 3 0).2 = false then 5
  else if ((L.getD i z33).f2.size : Int) < 1 then 3 else if 128 < ((L.getD i z33).f2.size : Int) then 3
  else if (typeF (L.getD i z33).f1 kindsL 3 0).1 = 2 then (if numR (L.getD i z33).f2.data.toList = true then 0 else 18) else 0
theorem why_eq (L : List S33) (hL : small L) (i : Nat) (hi : i < L.length) (k : Nat) (hk : 2100 < k) : attribute_why.f k L (i : Int) = some (whyB L i) := by
  have hs := small_at hL i hi
  have h14 := hL.1
  unfold attribute_why.f whyAt whyB
  rw [if_pos ⟨by omega, by omega, by omega⟩, rd33, Int.toNat_natCast]
  generalize L.getD i z33 = x at hs ⊢
  rw [Type_eq x.f1 (by omega) k (by omega), Name_eq x.f0 (by omega) k (by omega), Number_eq x.f2 (by omega) k (by omega), numA_eq]
  simp only [Option.bind_some]
  repeat (split <;> rename_i h <;> first | rfl | (rw [if_pos h]) | (rw [if_neg h]) | skip)
  all_goals (first | rfl | (split <;> rfl) | skip)
def chkD (L : List S33) : Nat → Nat → Int × Int
  | 0, _ => (0, 0)
  | d + 1, i => if whyB L i = 0 then chkD L d (i + 1) else ((i : Int), whyB L i)
def chkB (L : List S33) : Int × Int := if L.length > 10 then (0, 7) else chkD L L.length 0
theorem check_l0 (L : List S33) (hL : small L) : ∀ (d k i : Nat), i + d = L.length → d + 2200 < k → attribute_Check.l0 k L (L.length : Int) (i : Int) = some (chkD L d i) := by
  have h14 := hL.1
  intro d
  induction d with
  | zero =>
    intro k i h hk
    obtain ⟨k, rfl⟩ : ∃ m, k = m + 1 := ⟨k - 1, by omega⟩
    simp only [attribute_Check.l0, chkD]
    rw [if_neg (by omega)]
  | succ d ih =>
    intro k i h hk
    obtain ⟨k, rfl⟩ : ∃ m, k = m + 1 := ⟨k - 1, by omega⟩
    simp only [attribute_Check.l0, chkD]
    rw [if_pos (by omega), why_eq L hL i (by omega) k (by omega), w64 (by omega) (by omega), show ((i : Int) + 1) = ((i + 1 : Nat) : Int) by omega, ih k (i + 1) (by omega) (by omega)]
    simp only [Option.bind_some]
    split <;> rfl
theorem Check_eq (L : List S33) (hL : small L) (k : Nat) (hk : 3000 < k) : attribute_Check.f k L = some (chkB L) := by
  have h14 := hL.1
  unfold attribute_Check.f chkB
  by_cases h : L.length > 10
  · rw [if_pos (by omega), if_pos h]
  · rw [if_neg (by omega), if_neg h]
    exact check_l0 L hL L.length k 0 (by omega) (by omega)
theorem ref_check_l0 (L : List S33) (hL : small L) : ∀ (d k i : Nat), i + d = L.length → d * 100 + 4200 < k → racewayref24_Check.l0 k L (i : Int) = some (chkD L d i) := by
  have h14 := hL.1
  intro d
  induction d with
  | zero =>
    intro k i h hk
    obtain ⟨k, rfl⟩ : ∃ m, k = m + 1 := ⟨k - 1, by omega⟩
    simp only [racewayref24_Check.l0, chkD]
    rw [if_neg (by omega)]
  | succ d ih =>
    intro k i h hk
    obtain ⟨k, rfl⟩ : ∃ m, k = m + 1 := ⟨k - 1, by omega⟩
    have hi : i < L.length := by omega
    have hs := small_at hL i hi
    have hj2 : ∀ k, d * 100 + 4210 < k → ∀ (t : Int) (b : Bool), racewayref24_Check.j2 k L (i : Int) t b = some (if b = true then ((i : Int), 3) else if t = 2 then (if numR (L.getD i z33).f2.data.toList = true then chkD L d (i + 1) else ((i : Int), 18)) else chkD L d (i + 1)) := by
      intro k hk t b
      obtain ⟨k, rfl⟩ : ∃ m, k = m + 1 := ⟨k - 1, by omega⟩
      simp only [racewayref24_Check.j2]
      rw [rd33, ref_Number_eq _ (by omega) k (by omega), w64 (by omega) (by omega), show ((i : Int) + 1) = ((i + 1 : Nat) : Int) by omega, ih k (i + 1) (by omega) (by omega)]
      simp only [Option.bind_some]
      cases b
      · simp only [Bool.false_eq_true, if_false]
        by_cases ht : t = 2
        · rw [if_pos ht, if_pos ht, if_pos (by omega), if_pos (by omega)]
          split <;> rfl
        · rw [if_neg ht, if_neg ht]
      · rfl
    have hl1 : ∀ (e k j : Nat), j + e = i → d * 100 + 4230 + e < k → (L.take j).any (named (L.getD i z33).f0) = false → racewayref24_Check.l1 k L (i : Int) (j : Int) = some (if (L.take i).any (named (L.getD i z33).f0) = true then ((i : Int), 2) else if (typeF (L.getD i z33).f1 kindsL 3 0).2 = true then (if ((L.getD i z33).f2.size : Int) = 0 then ((i : Int), 3) else if ((L.getD i z33).f2.size : Int) > 128 then ((i : Int), 3) else if (typeF (L.getD i z33).f1 kindsL 3 0).1 = 2 then (if numR (L.getD i z33).f2.data.toList = true then chkD L d (i + 1) else ((i : Int), 18)) else chkD L d (i + 1)) else ((i : Int), 5)) := by
      intro e
      induction e with
      | zero =>
        intro k j hj hk hany
        obtain ⟨k, rfl⟩ : ∃ m, k = m + 1 := ⟨k - 1, by omega⟩
        obtain rfl : j = i := by omega
        simp only [racewayref24_Check.l1]
        rw [if_neg (show ¬ ((j : Int) < (j : Int)) by omega), if_pos (show (0 : Int) ≤ (j : Int) by omega), if_pos (show (j : Int) < (L.length : Int) by omega), rd33, ref_Type_eq _ (by omega) k (by omega), hany]
        simp only [Option.bind_some, Bool.false_eq_true, if_false]
        rw [hj2 k (by omega), hj2 k (by omega)]
        by_cases h2 : (typeF (L.getD j z33).f1 kindsL 3 0).2 = true
        · rw [if_pos h2, if_pos h2]
          by_cases h0 : ((L.getD j z33).f2.size : Int) = 0
          · rw [if_pos h0, if_pos h0]; rfl
          · rw [if_neg h0, if_neg h0]
            by_cases h128 : ((L.getD j z33).f2.size : Int) > 128
            · rw [decide_eq_true h128, if_pos h128]; rfl
            · rw [decide_eq_false h128, if_neg h128]; rfl
        · rw [if_neg h2, if_neg h2]
      | succ e ihe =>
        intro k j hj hk hany
        obtain ⟨k, rfl⟩ : ∃ m, k = m + 1 := ⟨k - 1, by omega⟩
        simp only [racewayref24_Check.l1]
        rw [if_pos (by omega), if_pos (by omega), if_pos (by omega), if_pos (by omega), if_pos (by omega), rd33, rd33, w64 (by omega) (by omega), show ((j : Int) + 1) = ((j + 1 : Nat) : Int) by omega]
        by_cases hq : (L.getD j z33).f0.toList = (L.getD i z33).f0.toList
        · rw [if_pos hq, any_take_true (named (L.getD i z33).f0) L j i (by omega) (by omega) (by unfold named; rw [hq]; simp)]; rfl
        · rw [if_neg hq]
          exact ihe k (j + 1) (by omega) (by omega) (by rw [any_take_succ _ _ _ (by omega), hany]; unfold named; simpa using hq)
    simp only [racewayref24_Check.l0, chkD]
    rw [if_pos (by omega), if_pos (by omega), rd33, ref_Name_eq _ (by omega) k (by omega)]
    simp only [Option.bind_some]
    have hl := hl1 i k 0 (by omega) (by omega) (by rw [List.take_zero]; rfl)
    rw [show ((0 : Nat) : Int) = 0 from rfl] at hl
    rw [hl]
    unfold whyB
    cases nameB (L.getD i z33).f0
    · rfl
    · simp only [if_true, Bool.true_eq_false, if_false]
      by_cases hd : (L.take i).any (named (L.getD i z33).f0) = true
      · rw [if_pos hd, if_pos hd]; rfl
      · rw [if_neg hd, if_neg hd]
        cases ht : (typeF (L.getD i z33).f1 kindsL 3 0).2
        · rfl
        · simp only [if_true, Bool.true_eq_false, if_false]
          by_cases h0 : ((L.getD i z33).f2.size : Int) = 0
          · rw [if_pos h0, if_pos (show ((L.getD i z33).f2.size : Int) < 1 by omega)]; rfl
          · rw [if_neg h0, if_neg (show ¬ ((L.getD i z33).f2.size : Int) < 1 by omega)]
            by_cases h128 : ((L.getD i z33).f2.size : Int) > 128
            · rw [if_pos h128, if_pos (show 128 < ((L.getD i z33).f2.size : Int) by omega)]; rfl
            · rw [if_neg h128, if_neg (show ¬ 128 < ((L.getD i z33).f2.size : Int) by omega)]
              by_cases h2 : (typeF (L.getD i z33).f1 kindsL 3 0).1 = 2
              · rw [if_pos h2, if_pos h2]
                cases numR (L.getD i z33).f2.data.toList <;> rfl
              · rw [if_neg h2, if_neg h2]; rfl
theorem ref_Check_eq (L : List S33) (hL : small L) (k : Nat) (hk : 6000 < k) : racewayref24_Check.f k L = some (chkB L) := by
  have h14 := hL.1
  unfold racewayref24_Check.f chkB
  by_cases h : L.length > 10
  · rw [if_pos (by omega), if_pos h]
  · rw [if_neg (by omega), if_neg h]
    exact ref_check_l0 L hL L.length k 0 (by omega) (by omega)
def sizeD (L : List S33) : Nat → Nat → Nat → Nat
  | 0, _, n => n
  | d + 1, i, n => sizeD L d (i + 1) (n + ((L.getD i z33).f0.size + (L.getD i z33).f1.size + (L.getD i z33).f2.size))
theorem Size_eq (L : List S33) (hL : small L) (k : Nat) (hk : 20 < k) : attribute_Size.f k L = some (sizeD L L.length 0 0 : Int) := by
  have h14 := hL.1
  have : ∀ (d k i n : Nat), i + d = L.length → d < k → n ≤ 400 * i → attribute_Size.l0 k (n : Int) L (L.length : Int) (i : Int) = some (sizeD L d i n : Int) := by
    intro d
    induction d with
    | zero =>
      intro k i n h hk hn
      obtain ⟨k, rfl⟩ : ∃ m, k = m + 1 := ⟨k - 1, by omega⟩
      simp only [attribute_Size.l0, sizeD]
      rw [if_neg (by omega)]
    | succ d ih =>
      intro k i n h hk hn
      obtain ⟨k, rfl⟩ : ∃ m, k = m + 1 := ⟨k - 1, by omega⟩
      have hs := small_at hL i (by omega)
      simp only [attribute_Size.l0, sizeD]
      rw [if_pos (by omega), if_pos (by omega), if_pos (by omega), rd33]
      generalize L.getD i z33 = x at hs ⊢
      rw [w64 (x := (i : Int) + 1) (by omega) (by omega), w64 (x := (x.f0.size : Int) + x.f1.size) (by omega) (by omega), w64 (x := (x.f0.size : Int) + x.f1.size + x.f2.size) (by omega) (by omega), w64 (by omega) (by omega)]
      have := ih k (i + 1) (n + (x.f0.size + x.f1.size + x.f2.size)) (by omega) (by omega) (by omega)
      rw [show (((i + 1 : Nat)) : Int) = (i : Int) + 1 by omega, show (((n + (x.f0.size + x.f1.size + x.f2.size) : Nat)) : Int) = (n : Int) + ((x.f0.size : Int) + x.f1.size + x.f2.size) by omega] at this
      exact this
  exact this L.length k 0 0 (by omega) (by omega) (by omega)
theorem ref_Size_eq (L : List S33) (hL : small L) (k : Nat) (hk : 20 < k) : racewayref24_Size.f k L = some (sizeD L L.length 0 0 : Int) := by
  have h14 := hL.1
  have : ∀ (d k i n : Nat), i + d = L.length → d < k → n ≤ 400 * i → racewayref24_Size.l0 k L (n : Int) (i : Int) = some (sizeD L d i n : Int) := by
    intro d
    induction d with
    | zero =>
      intro k i n h hk hn
      obtain ⟨k, rfl⟩ : ∃ m, k = m + 1 := ⟨k - 1, by omega⟩
      simp only [racewayref24_Size.l0, sizeD]
      rw [if_neg (by omega)]
    | succ d ih =>
      intro k i n h hk hn
      obtain ⟨k, rfl⟩ : ∃ m, k = m + 1 := ⟨k - 1, by omega⟩
      have hs := small_at hL i (by omega)
      simp only [racewayref24_Size.l0, sizeD]
      rw [if_pos (by omega), if_pos (by omega), rd33]
      generalize L.getD i z33 = x at hs ⊢
      rw [if_pos (by omega), if_pos (by omega), size_append, size_append, w64 (x := (i : Int) + 1) (by omega) (by omega), w64 (by omega) (by omega)]
      have := ih k (i + 1) (n + (x.f0.size + x.f1.size + x.f2.size)) (by omega) (by omega) (by omega)
      rw [show (((i + 1 : Nat)) : Int) = (i : Int) + 1 by omega, show (((n + (x.f0.size + x.f1.size + x.f2.size) : Nat)) : Int) = (n : Int) + ((x.f0.size + x.f1.size + x.f2.size : Nat) : Int) by omega] at this
      exact this
  exact this L.length k 0 0 (by omega) (by omega) (by omega)
end Go.Proofs.YtolpefnedpgaaaaDoor.X

namespace Go.Proofs.YtolpefnedpgaaaaDoor.Pure
open Go.RowKit Go.Proofs.YtolpefnedpgaaaaDoor.X Go.Proofs.YtolpefnedpgaaaaDoorW.PrintWords Go.Proofs.YtolpefnedpgaaaaDoorW.PrintLast
set_option linter.unusedVariables false
set_option linter.unusedSimpArgs false
theorem AttributeChecks : ∀ l : List S33, l.length ≤ maxLen → ∃ k, racewaylaw24_AttributeChecks.f k l = some true := by
  intro l _
  refine ⟨7001, ?_⟩
  unfold racewaylaw24_AttributeChecks.f
  have hs := fewB_small l
  rw [few_eq l 7001 (by omega)]
  simp only [Option.bind_some]
  rw [Check_eq _ hs 7001 (by omega), ref_Check_eq _ hs 7001 (by omega), Size_eq _ hs 7001 (by omega), ref_Size_eq _ hs 7001 (by omega), works_eq 7001 (by omega)]
  simp only [Option.bind_some, if_true]
end Go.Proofs.YtolpefnedpgaaaaDoor.Pure

namespace Go.Proofs.YtolpefnedpgaaaaDoor.X
open Go
set_option linter.unusedVariables false
section
variable {H : Type} {enc : TypeId × Value → H}
theorem handed_laid_shaped {a : Assume} {C : Checked} {os : Os} {f : FuncId} {fn : Func} {s : ChangeSpec} {conds : List PathCond} {apart fresh handsOn again : Bool} {X : World → Array Value → Prop}
    (hX : ∀ (w w' : World) (args : Array Value), w.heap = w'.heap → X w args → X w' args)
    (own : ownKnob C.prog.godebug = none) (started : os.Started) (noInit : C.prog.inits.idxOf? f = none) (hfn : C.prog.funcs[f]? = some fn)
    (witness : ∃ (w : World) (tape : Tape) (i : Input), w.os = os ∧ (w.forCall tape i).Shaped C.prog ∧ i.vars = [] ∧ Input.okWide C.prog (w.forCall tape i) .any w.heap.size f i ∧
      ((s.pre enc C.prog fn conds apart (w.forCall tape i).memory i.args ∧ X (w.forCall tape i).memory i.args) ∧ sizedMet enc C.prog fn (OpenSpec.ofChange s) apart (w.forCall tape i).memory i.args) ∧ a.holds C.prog (lone (Frame.enter C.prog f i.args .normal) [] (w.forCall tape i)))
    (contract : ∀ (W : World) (base : Nat) (args : Array Value) (ds gs : List (DataW H)) (before : List MemPlace),
      (∀ (j : Nat) t v, fn.params[j]? = some t → args[j]? = some v → Value.okWide C.prog W .any base t v) →
      DataW.Whole enc C.prog fn.params.toList s.vars apart W args.toList ds gs before →
      conds.all (PathCond.test C.prog ⟨fn.params.toList, ds, s.plain.varTypes C.prog, gs⟩) = true →
      (DataW.weightsEach C.prog (fn.params.toList ++ s.plain.varTypes C.prog) (ds ++ gs)).all (· ≤ reachBytes) = true → X W args → W.ShapedOpen C.prog →
      a.holds C.prog (lone (Frame.enter C.prog f args .normal) [] W) →
      Calls C.prog f args W fun e W' => ∃ v, e = .returned v ∧ s.post enc C.prog fn apart fresh handsOn again W args v W') :
    ReturnsInHanded a C os f .any (fun w args => (s.pre enc C.prog fn conds apart w args ∧ X w args) ∧ sizedMet enc C.prog fn (OpenSpec.ofChange s) apart w args) (s.post enc C.prog fn apart fresh handsOn again) := by
  refine returnsInHanded_of_calls own started noInit witness ?_
  intro w tape i _ hsh _ hok hpre hholds
  obtain ⟨_, _, _, fn', hfn', _, _, _, _, hval⟩ := hok
  have e : fn' = fn := Option.some.inj (hfn'.symm.trans hfn)
  subst e
  obtain ⟨⟨⟨ds, gs, before, hw, hc⟩, hx⟩, hz⟩ := hpre
  have hw' := DataW.Whole.of_heap (w' := w.forCall tape i) (by rfl) hw
  refine (contract (w.forCall tape i) w.heap.size i.args ds gs before hval hw' hc (hz.weights hw) (hX _ _ _ (by rfl) hx) hsh hholds).mono fun e W' ⟨v, he, hp⟩ => ?_
  subst he
  exact ChangeSpec.post_blind hp
end
end Go.Proofs.YtolpefnedpgaaaaDoor.X

namespace Go.Proofs.YtolpefnedpgaaaaDoor.X
open Go.RowKit Go.Proofs.YtolpefnedpgaaaaDoorW.PrintWords Go.Proofs.YtolpefnedpgaaaaDoorW.PrintLast Go.Proofs.YtolpefnedpgaaaaDoorW.PrintMore
open Go.Deep Go.ChangeShapes Go.WideShapes
set_option linter.unusedVariables false
set_option linter.unusedSimpArgs false
theorem cells9 : Tryd.prog.cellsOf 9 = 1 := by kernel_rfl
theorem cells33 : Tryd.prog.cellsOf 33 = 3 := by kernel_rfl
instance : Inhabited S33 := ⟨z33⟩
set_option maxRecDepth 100000 in
theorem open_attrs {H : Type} {enc : TypeId × Value → H} {W : World} {A : Option Addr} {len cap : Nat} {d : DataW H} {p : List MemPlace} (h : DataW.Trod enc Tryd.prog W 0 (fun _ => true) true 26 (.slice A len cap) d p) :
    ∃ l : List S33, l.length = len ∧ Kd.C k33 W A l.length l ∧ l.length ≤ cap ∧ l.length ≤ maxLen := by
  obtain ⟨fuel, hf⟩ := h
  rcases open_slice Tryd.underlying26 hf with ⟨hcs, _⟩ | ⟨a, l, c, m, n, D, Pl, hcs, _, hl, hm, hmm, _, hx⟩
  · simp [Value.cells] at hcs
    obtain ⟨rfl, rfl, rfl⟩ := hcs
    exact ⟨[], rfl, ⟨rfl, by simp, fun h => absurd h (by simp)⟩, Nat.le_refl _, Nat.zero_le _⟩
  · simp [Value.cells] at hcs
    obtain ⟨rfl, rfl, rfl⟩ := hcs
    simp only [if_true] at hmm
    have each : ∀ i, i < len → ∃ x : S33, W.cell? (a.add (i * 3)) = some (.string x.f0) ∧ W.cell? (a.add (i * 3 + 1)) = some (.string x.f1) ∧ W.cell? (a.add (i * 3 + 2)) = some (.string x.f2) := by
      intro i hi
      obtain ⟨cs', h1, h2⟩ := hx i (by omega)
      rw [cells33] at h1
      obtain ⟨_, hlen, hcell⟩ := World.cells?_some h1
      obtain ⟨xs, k, hk, hxy, _, hxl, hf⟩ := DataW.trod_struct Tryd.underlying33 h2
      match xs, hxl, cs', hlen with
      | [y0, y1, y2], _, [v0, v1, v2], _ =>
        have g0 := hf 0 _ rfl
        have g1 := hf 1 _ rfl
        have g2 := hf 2 _ rfl
        simp [cells9] at g0 g1 g2
        obtain ⟨s0, e0, _, _⟩ := DataW.trod_string Tryd.underlying9 g0
        obtain ⟨s1, e1, _, _⟩ := DataW.trod_string Tryd.underlying9 g1
        obtain ⟨s2, e2, _, _⟩ := DataW.trod_string Tryd.underlying9 g2
        have c0 := hcell 0 (by omega)
        have c1 := hcell 1 (by omega)
        have c2 := hcell 2 (by omega)
        rw [Go.Deep.add_add] at c0 c1 c2
        simp at e0 e1 e2 c0 c1 c2
        subst e0 e1 e2
        exact ⟨⟨s0, s1, s2⟩, c0, c1, c2⟩
    obtain ⟨q, hq⟩ := choose_lt each
    have hlen : ((List.range len).map q).length = len := by simp
    refine ⟨(List.range len).map q, hlen, ⟨rfl, ?_, fun _ => ⟨a, rfl, fun j x hj => ?_⟩⟩, by omega, by omega⟩
    · rw [hlen]; have : cap ≤ maxLen := hm; unfold maxLen at this; omega
    · have hjl : j < len := by
        have := (List.getElem?_eq_some_iff.1 hj).1
        simpa using this
      have hx : q j = x := by
        rw [List.getElem?_map, List.getElem?_range hjl] at hj
        simpa using hj
      subst hx
      obtain ⟨c0, c1, c2⟩ := hq j hjl
      refine ⟨[.string (q j).f0, .string (q j).f1, .string (q j).f2], rfl, k33_mk W (q j), fun i u hu => ?_⟩
      match i, hu with
      | 0, hu => simp at hu; subst hu; exact c0
      | 1, hu => simp at hu; subst hu; exact c1
      | 2, hu => simp at hu; subst hu; exact c2
end Go.Proofs.YtolpefnedpgaaaaDoor.X

namespace Go.Proofs.YtolpefnedpgaaaaDoor.X
open Go.RowKit Go.Proofs.YtolpefnedpgaaaaDoorW.PrintWords
set_option linter.unusedVariables false
set_option linter.unusedSimpArgs false
theorem heap_of_var {P : Program} {W : World} {name : String} {g : Nat} {zero : Array Value} {t : TypeId} {arr : Array Value} (hsh : W.ShapedOpen P) (hlt : g < P.globals.size)
    (hrow : (((begin P (fun _ _ => 0) default).world).heap[g]?).bind Obj.row? = some (zero, t)) (hg : P.globalNamed name = some g) (hv : W.var? P name = some arr) : W.heap[g]? = some (.cells arr t (0, 0)) := by
  obtain ⟨hs, _⟩ := hsh
  obtain ⟨cs', h1, _, _⟩ := hs g zero t hlt hrow
  unfold World.var? at hv
  rw [hg] at hv
  simp only [Option.bind_some, h1] at hv
  rw [h1]
  cases hv
  rfl
theorem chunk16 {α : Type} (cs : List α) (h : cs.length = 16) : cs = (cs.drop 0).take 4 ++ ((cs.drop 4).take 4 ++ ((cs.drop 8).take 4 ++ (cs.drop 12).take 4)) := by
  rw [List.drop_zero]
  have h1 := (List.take_append_drop 4 cs).symm
  have h2 := (List.take_append_drop 4 (cs.drop 4)).symm
  have h3 := (List.take_append_drop 4 (cs.drop 8)).symm
  rw [List.drop_drop] at h2 h3
  have h4 : (cs.drop 12).take 4 = cs.drop 12 := List.take_of_length_le (by simp; omega)
  rw [h4]
  conv => lhs; rw [h1, h2, h3]
theorem cells_of_tab4 {H : Type} {enc : TypeId × Value → H} {P : Program} {w : World} {base : Nat} {sp : Nat → Bool} {held : Bool} {fuel : Nat} {t e u : TypeId} {k : IntKind} {cs : List Value} {r0 r1 r2 r3 : List Int} {p : List MemPlace}
    (ht : P.underlying t = some (.array 4 e)) (he : P.underlying e = some (.array 4 u)) (hu : P.underlying u = some (.int k)) (hcu : P.cellsOf u = 1) (hce : P.cellsOf e = 4) (hct : P.cellsOf t = 16)
    (h : DataW.trod enc P w base sp held fuel t cs = some (.agg [Lib.tabData k r0, Lib.tabData k r1, Lib.tabData k r2, Lib.tabData k r3], p)) : cs = (r0 ++ (r1 ++ (r2 ++ r3))).map fun z => Value.int k z := by
  cases fuel with
  | zero => simp [DataW.trod] at h
  | succ fuel =>
    simp only [DataW.trod, ht, hct, hce] at h
    split at h
    · rename_i hl
      obtain ⟨xs, hm, hx⟩ := Option.map_eq_some_iff.1 h
      have hxs : xs.map (·.1) = [Lib.tabData k r0, Lib.tabData k r1, Lib.tabData k r2, Lib.tabData k r3] := by
        have := congrArg Prod.fst hx
        simpa using this
      have hrow : ∀ (i : Nat) (r : List Int), i < 4 → (xs.map (·.1))[i]? = some (Lib.tabData k r : DataW H) → (cs.drop (i * 4)).take 4 = r.map fun z => Value.int k z := by
        intro i r hi hr
        obtain ⟨b, hb, hf⟩ := Lib.mapM_at hm i i (by simp [hi])
        rw [List.getElem?_map, hb] at hr
        simp only [Option.map_some, Option.some.injEq] at hr
        obtain ⟨b1, b2⟩ := b
        simp only at hr
        subst hr
        exact Lib.cells_of_tab he hu hcu hce hf
      have e0 := hrow 0 r0 (by omega) (by rw [hxs]; rfl)
      have e1 := hrow 1 r1 (by omega) (by rw [hxs]; rfl)
      have e2 := hrow 2 r2 (by omega) (by rw [hxs]; rfl)
      have e3 := hrow 3 r3 (by omega) (by rw [hxs]; rfl)
      rw [chunk16 cs hl]
      rw [List.map_append, List.map_append, List.map_append, ← e0, ← e1, ← e2, ← e3]
    · cases h
theorem tab4_of_head {P : Program} {W : World} {name : String} {k : IntKind} {r0 r1 r2 r3 : List Int} {rest : List (String × DataW Unit)} {g : Nat} {t e u : TypeId}
    (hg : P.globalNamed name = some g) (hty : (P.globals[g]?).map (·.type) = some t) (ht : P.underlying t = some (.array 4 e)) (he : P.underlying e = some (.array 4 u)) (hu : P.underlying u = some (.int k)) (hcu : P.cellsOf u = 1) (hce : P.cellsOf e = 4) (hct : P.cellsOf t = 16)
    (h : laidMet P ((name, .agg [Lib.tabData k r0, Lib.tabData k r1, Lib.tabData k r2, Lib.tabData k r3]) :: rest) W) : Lib.TabIs P W name k (r0 ++ (r1 ++ (r2 ++ r3))) := by
  obtain ⟨ps, ⟨g', t', cs, fuel, p, q, hg', ht', hvar, hd, _, _⟩, _⟩ := h
  obtain rfl := Option.some.inj (hg.symm.trans hg')
  obtain rfl := Option.some.inj (hty.symm.trans ht')
  unfold Lib.TabIs
  rw [hvar, ← cells_of_tab4 ht he hu hcu hce hct hd]
set_option maxRecDepth 100000 in
theorem GlobFp.of {W : World} {l : List (String × DataW Unit)} (hsh : W.ShapedOpen Tryd.prog) (hL : laidMet Tryd.prog l W)
    (h1 : l.filter (fun x => x.1 == "raceway/fingerprint.sines") = [("raceway/fingerprint.sines", Lib.tabData .u32 sinesL)])
    (h2 : l.filter (fun x => x.1 == "raceway/fingerprint.turns") = [("raceway/fingerprint.turns", .agg [Lib.tabData .i64 [7, 12, 17, 22], Lib.tabData .i64 [5, 9, 14, 20], Lib.tabData .i64 [4, 11, 16, 23], Lib.tabData .i64 [6, 10, 15, 21]])]) : GlobFp W := by
  have s1 := hL.filter (fun x => x.1 == "raceway/fingerprint.sines")
  rw [h1] at s1
  have s2 := hL.filter (fun x => x.1 == "raceway/fingerprint.turns")
  rw [h2] at s2
  have g1 : Tryd.prog.globalNamed "raceway/fingerprint.sines" = some 1 := by kernel_rfl
  have g2 : Tryd.prog.globalNamed "raceway/fingerprint.turns" = some 2 := by kernel_rfl
  have t1 := Lib.tabIs_of_head (t := 116) (e := 93) (n := 64) g1 (by kernel_rfl) (by kernel_rfl) (by kernel_rfl) (by kernel_rfl) (by kernel_rfl) s1
  have t2 := tab4_of_head (t := 118) (e := 117) (u := 3) g2 (by kernel_rfl) (by kernel_rfl) (by kernel_rfl) (by kernel_rfl) (by kernel_rfl) (by kernel_rfl) (by kernel_rfl) s2
  refine ⟨?_, ?_⟩
  · have := heap_of_var (zero := Array.replicate 64 (.int .u32 0)) (t := 116) hsh (of_decide_eq_true (by kernel_rfl)) (by kernel_rfl) g1 t1
    exact this
  · have := heap_of_var (zero := Array.replicate 16 (.int .i64 0)) (t := 118) hsh (of_decide_eq_true (by kernel_rfl)) (by kernel_rfl) g2 t2
    exact this
end Go.Proofs.YtolpefnedpgaaaaDoor.X

