/-
  What the claim's law rests on, part 6 of 6: printed walks, externals, plain lemmas; conditions: none of its own.
-/
import Derived.DataShut
import Derived.Handed
import Derived.HandedShaped
import Derived.LaidSub
import Derived.Laws.BitsLemmas
import Derived.Lib.LaidTab
import Derived.Lib.TrimByte
import Derived.ShapedOpen
import Derived.Test.YtedfgkjimnjdpaaDoorTi5
namespace Go.Proofs.YtedfgkjimnjdpaaDoor.X
open Go.RowKit Go.Proofs.YtedfgkjimnjdpaaDoorW.PrintWords Go.Proofs.YtedfgkjimnjdpaaDoorW.PrintLast Go.Proofs.YtedfgkjimnjdpaaDoorW.PrintMore
attribute [local go_sem] max2_int min2_int max_two min_two max_three min_three max_four min_four
set_option linter.unusedVariables false
set_option linter.unusedSimpArgs false
def racewaylaw27_TicketIds.f (k : Nat) (a0 : Int) (a1 : ByteArray) (a2 : Int) : Option (Bool):=if 0 ≤ (mn (a1.size : Int) 100) then (if (mn (a1.size : Int) 100) ≤ (a1.size : Int) then ((ticket_Unsequence.f (a1.extract 0 ((mn (a1.size : Int) 100) : Int).toNat)).bind fun bt140 => ((racewayref27_Unsequence.f k (a1.extract 0 ((mn (a1.size : Int) 100) : Int).toNat)).bind fun bt142 => ((ticket_Id.f a0 (a1.extract 0 ((mn (a1.size : Int) 100) : Int).toNat) a2).bind fun t144 => ((racewayref27_Id.f k a0 (a1.extract 0 ((mn (a1.size : Int) 100) : Int).toNat) a2).bind fun t145 => (if t144.toList = t145.toList then ((ticket_Sequence.f a2).bind fun t146 => ((racewayref27_Sequence.f k a2).bind fun t147 => (if t146.toList = t147.toList then (if bt140.1 = bt142.1 then (if bt140.2 = bt142.2 then ((racewaylaw27_works.f k).bind fun t148 => (some t148)) else (some false)) else (some false)) else (some false)))) else (some false)))))) else (none)) else (none)
set_option maxHeartbeats 8000000 in
set_option maxRecDepth 100000 in
theorem racewaylaw27_TicketIds.calls (k : Nat) (a0 : Int) (a1 : ByteArray) (a2 : Int) (r : Bool) (w : World) (hGDg : GlobDg w) (h : racewaylaw27_TicketIds.f k a0 a1 a2 = some r) :
  Calls Tryd.prog 8 #[.int .i64 a0,.string a1,.int .i64 a2] w fun e w' => e = .returned (.bool r) ∧ Below w.heap.size w w':=by
 have HGDg:=Aside0.mk hGDg
 clear hGDg
 have HB:=Aside0.mk (Below.refl w.heap.size w)
 have H : (if 0 ≤ (mn (a1.size : Int) 100) then (if (mn (a1.size : Int) 100) ≤ (a1.size : Int) then ((ticket_Unsequence.f (a1.extract 0 ((mn (a1.size : Int) 100) : Int).toNat)).bind fun bt140 => ((racewayref27_Unsequence.f k (a1.extract 0 ((mn (a1.size : Int) 100) : Int).toNat)).bind fun bt142 => ((ticket_Id.f a0 (a1.extract 0 ((mn (a1.size : Int) 100) : Int).toNat) a2).bind fun t144 => ((racewayref27_Id.f k a0 (a1.extract 0 ((mn (a1.size : Int) 100) : Int).toNat) a2).bind fun t145 => (if t144.toList = t145.toList then ((ticket_Sequence.f a2).bind fun t146 => ((racewayref27_Sequence.f k a2).bind fun t147 => (if t146.toList = t147.toList then (if bt140.1 = bt142.1 then (if bt140.2 = bt142.2 then ((racewaylaw27_works.f k).bind fun t148 => (some t148)) else (some false)) else (some false)) else (some false)))) else (some false)))))) else (none)) else (none)) = some r:=h
 clear h
 obtain ⟨ji4,hji4⟩ : ∃ j_ : Int,(mn (a1.size : Int) 100) = j_:=⟨_,rfl⟩
 replace H : (if 0 ≤ (ji4) then (if (ji4) ≤ (a1.size : Int) then ((ticket_Unsequence.f (a1.extract 0 ((ji4) : Int).toNat)).bind fun bt140 => ((racewayref27_Unsequence.f k (a1.extract 0 ((ji4) : Int).toNat)).bind fun bt142 => ((ticket_Id.f a0 (a1.extract 0 ((ji4) : Int).toNat) a2).bind fun t144 => ((racewayref27_Id.f k a0 (a1.extract 0 ((ji4) : Int).toNat) a2).bind fun t145 => (if t144.toList = t145.toList then ((ticket_Sequence.f a2).bind fun t146 => ((racewayref27_Sequence.f k a2).bind fun t147 => (if t146.toList = t147.toList then (if bt140.1 = bt142.1 then (if bt140.2 = bt142.2 then ((racewaylaw27_works.f k).bind fun t148 => (some t148)) else (some false)) else (some false)) else (some false)))) else (some false)))))) else (none)) else (none)) = some r:=by first|(rw [hji4] at H;exact H)|(simp only [hji4] at H ⊢;exact H)
 (try (have hji4h : ji4 ≤ 100:=by (rw [← hji4];unfold mn;(repeat' split) <;> omega)))
 (try (have hji4g : ji4 ≤ 64:=by omega))
 (try (have hji4l : 0 ≤ ji4:=by (rw [← hji4];unfold mn;(repeat' split) <;> omega)))
 (try (have hji4m : 0 ≤ ji4:=by omega))
 have hji4_ : (if 100 < (a1.size : Int) then 100 else (a1.size : Int)) = ji4:=hji4
 by_cases c5 : 0 ≤ (ji4)
 ·rw [if_pos c5] at H
  have c5b0:=eq_true c5
  have c5b1 : decide (0 ≤ (ji4)) = true:=decide_eq_true c5
  clear c5
  by_cases c6 : (ji4) ≤ (a1.size : Int)
  ·rw [if_pos c6] at H
   have c6b0:=eq_true c6
   have c6b1 : decide ((ji4) ≤ (a1.size : Int)) = true:=decide_eq_true c6
   clear c6
   replace H:=Option.bind_eq_some_iff.mp H
   obtain ⟨⟨t140,t141⟩,A70,H⟩:=H
   replace H : ((racewayref27_Unsequence.f k (a1.extract 0 ((ji4) : Int).toNat)).bind fun bt142 => ((ticket_Id.f a0 (a1.extract 0 ((ji4) : Int).toNat) a2).bind fun t144 => ((racewayref27_Id.f k a0 (a1.extract 0 ((ji4) : Int).toNat) a2).bind fun t145 => (if t144.toList = t145.toList then ((ticket_Sequence.f a2).bind fun t146 => ((racewayref27_Sequence.f k a2).bind fun t147 => (if t146.toList = t147.toList then (if t140 = bt142.1 then (if t141 = bt142.2 then ((racewaylaw27_works.f k).bind fun t148 => (some t148)) else (some false)) else (some false)) else (some false)))) else (some false))))) = some r:=H
   have A7:=Aside0.mk A70
   clear A70
   replace H:=Option.bind_eq_some_iff.mp H
   obtain ⟨⟨t142,t143⟩,A80,H⟩:=H
   replace H : ((ticket_Id.f a0 (a1.extract 0 ((ji4) : Int).toNat) a2).bind fun t144 => ((racewayref27_Id.f k a0 (a1.extract 0 ((ji4) : Int).toNat) a2).bind fun t145 => (if t144.toList = t145.toList then ((ticket_Sequence.f a2).bind fun t146 => ((racewayref27_Sequence.f k a2).bind fun t147 => (if t146.toList = t147.toList then (if t140 = t142 then (if t141 = t143 then ((racewaylaw27_works.f k).bind fun t148 => (some t148)) else (some false)) else (some false)) else (some false)))) else (some false)))) = some r:=H
   have A8:=Aside0.mk A80
   clear A80
   replace H:=Option.bind_eq_some_iff.mp H
   obtain ⟨t144,A90,H⟩:=H
   replace H : ((racewayref27_Id.f k a0 (a1.extract 0 ((ji4) : Int).toNat) a2).bind fun t145 => (if t144.toList = t145.toList then ((ticket_Sequence.f a2).bind fun t146 => ((racewayref27_Sequence.f k a2).bind fun t147 => (if t146.toList = t147.toList then (if t140 = t142 then (if t141 = t143 then ((racewaylaw27_works.f k).bind fun t148 => (some t148)) else (some false)) else (some false)) else (some false)))) else (some false))) = some r:=H
   have A9:=Aside0.mk A90
   clear A90
   replace H:=Option.bind_eq_some_iff.mp H
   obtain ⟨t145,A100,H⟩:=H
   replace H : (if t144.toList = t145.toList then ((ticket_Sequence.f a2).bind fun t146 => ((racewayref27_Sequence.f k a2).bind fun t147 => (if t146.toList = t147.toList then (if t140 = t142 then (if t141 = t143 then ((racewaylaw27_works.f k).bind fun t148 => (some t148)) else (some false)) else (some false)) else (some false)))) else (some false)) = some r:=H
   have A10:=Aside0.mk A100
   clear A100
   by_cases c11 : t144.toList = t145.toList
   ·rw [if_pos c11] at H
    have c11b0 : (t144.toList == t145.toList) = true:=beq_iff_eq.mpr c11
    have c11b1 : (t144.toList != t145.toList) = false:=bne_eq_false_iff_eq.mpr c11
    clear c11
    replace H:=Option.bind_eq_some_iff.mp H
    obtain ⟨t146,A120,H⟩:=H
    replace H : ((racewayref27_Sequence.f k a2).bind fun t147 => (if t146.toList = t147.toList then (if t140 = t142 then (if t141 = t143 then ((racewaylaw27_works.f k).bind fun t148 => (some t148)) else (some false)) else (some false)) else (some false))) = some r:=H
    have A12:=Aside0.mk A120
    clear A120
    replace H:=Option.bind_eq_some_iff.mp H
    obtain ⟨t147,A130,H⟩:=H
    replace H : (if t146.toList = t147.toList then (if t140 = t142 then (if t141 = t143 then ((racewaylaw27_works.f k).bind fun t148 => (some t148)) else (some false)) else (some false)) else (some false)) = some r:=H
    have A13:=Aside0.mk A130
    clear A130
    by_cases c14 : t146.toList = t147.toList
    ·rw [if_pos c14] at H
     have c14b0 : (t146.toList == t147.toList) = true:=beq_iff_eq.mpr c14
     have c14b1 : (t146.toList != t147.toList) = false:=bne_eq_false_iff_eq.mpr c14
     clear c14
     by_cases c15 : t140 = t142
     ·rw [if_pos c15] at H
      have c15b0 : (t140 == t142) = true:=beq_iff_eq.mpr c15
      have c15b1 : (t140 != t142) = false:=bne_eq_false_iff_eq.mpr c15
      clear c15
      by_cases c16 : t141 = t143
      ·rw [if_pos c16] at H
       have c16b0 : (t141 == t143) = true:=beq_iff_eq.mpr c16
       have c16b1 : (t141 != t143) = false:=bne_eq_false_iff_eq.mpr c16
       clear c16
       replace H:=Option.bind_eq_some_iff.mp H
       obtain ⟨t148,A170,H⟩:=H
       replace H : (some t148) = some r:=H
       have A17:=Aside0.mk A170
       clear A170
       obtain rfl:=Option.some.inj H
       go_enter Tryd.func8,Tryd.ntmps8
       go_wp2_with (first|((with_reducible refine gate_callee (f:=9) rfl ?_);refine goesL_ (some 18) rfl rfl Tryd.func9 (by kernel_rfl) rfl #[.string (a1.extract 0 ((ji4) : Int).toNat)] rfl (by (try simp only [List.map_toArray,List.map_cons,List.map_nil]);first|done|(simp only [hji4];rfl)|rfl|(simp only [List.length_drop,List.length_take];rfl)) ?_;(with_reducible refine (ticket_Unsequence.calls (a1.extract 0 ((ji4) : Int).toNat) t140 t141 _ A7.out).mono ?_);rintro e w18 ⟨rfl,hb⟩;refine ⟨_,rfl,?_⟩;have n0_:=Aside0.mk (below_step (by repeat (first|(with_reducible first|exact HB.out|apply below_alloc|apply pw_below_drewN|apply below_drew1)|exact HB.out)) hb);clear HB;have HB:=n0_;clear n0_;(try clear hb);(try clear hb2);(try clear hk);(try clear hi))|((with_reducible refine gate_callee (f:=24) rfl ?_);refine goesL_ (some 23) rfl rfl Tryd.func24 (by kernel_rfl) rfl #[.string (a1.extract 0 ((ji4) : Int).toNat)] rfl (by (try simp only [List.map_toArray,List.map_cons,List.map_nil]);first|done|(simp only [hji4];rfl)|rfl|(simp only [List.length_drop,List.length_take];rfl)) ?_;(with_reducible refine (racewayref27_Unsequence.calls k (a1.extract 0 ((ji4) : Int).toNat) t142 t143 _ A8.out).mono ?_);rintro e w' ⟨rfl,⟨nd,rfl⟩⟩;refine ⟨_,rfl,?_⟩)|((with_reducible refine gate_callee (f:=25) rfl ?_);refine goesL_ (some 29) rfl rfl Tryd.func25 (by kernel_rfl) rfl #[.int .i64 a0,.string (a1.extract 0 ((ji4) : Int).toNat),.int .i64 a2] rfl (by (try simp only [List.map_toArray,List.map_cons,List.map_nil]);first|done|(simp only [hji4];rfl)|rfl|(simp only [List.length_drop,List.length_take];rfl)) ?_;(with_reducible refine (ticket_Id.calls a0 (a1.extract 0 ((ji4) : Int).toNat) a2 t144 _ ?side1 A9.out).mono ?_);(case side1 => first|exact HGDg.out|exact GlobDg.below HGDg.out (by repeat (first|(with_reducible first|exact HB.out|apply below_alloc|apply pw_below_drewN|apply below_drew1)|exact HB.out))|exact GlobDg.drawn HGDg.out (by repeat (first|exact Drawn0.refl _|apply Drawn0.step)));rintro e w19 ⟨rfl,hb⟩;refine ⟨_,rfl,?_⟩;have n0_:=Aside0.mk (below_step (by repeat (first|(with_reducible first|exact HB.out|apply below_alloc|apply pw_below_drewN|apply below_drew1)|exact HB.out)) hb);clear HB;have HB:=n0_;clear n0_;(try clear hb);(try clear hb2);(try clear hk);(try clear hi))|((with_reducible refine gate_callee (f:=26) rfl ?_);refine goesL_ (some 33) rfl rfl Tryd.func26 (by kernel_rfl) rfl #[.int .i64 a0,.string (a1.extract 0 ((ji4) : Int).toNat),.int .i64 a2] rfl (by (try simp only [List.map_toArray,List.map_cons,List.map_nil]);first|done|(simp only [hji4];rfl)|rfl|(simp only [List.length_drop,List.length_take];rfl)) ?_;(with_reducible refine (racewayref27_Id.calls k a0 (a1.extract 0 ((ji4) : Int).toNat) a2 t145 _ A10.out).mono ?_);rintro e w20 ⟨rfl,hb⟩;refine ⟨_,rfl,?_⟩;have n0_:=Aside0.mk (below_step (by repeat (first|(with_reducible first|exact HB.out|apply below_alloc|apply pw_below_drewN|apply below_drew1)|exact HB.out)) hb);clear HB;have HB:=n0_;clear n0_;(try clear hb);(try clear hb2);(try clear hk);(try clear hi))|(go_at_call 10;(with_reducible refine (ticket_Sequence.calls a2 t146 _ A12.out).mono ?_);rintro e w21 ⟨rfl,hb⟩;have n0_:=Aside0.mk (below_step (by repeat (first|(with_reducible first|exact HB.out|apply below_alloc|apply pw_below_drewN|apply below_drew1)|exact HB.out)) hb);clear HB;have HB:=n0_;clear n0_;(try clear hb);(try clear hb2);(try clear hk);(try clear hi))|(go_at_call 27;(with_reducible refine (racewayref27_Sequence.calls k a2 t147 _ A13.out).mono ?_);rintro e w' ⟨rfl,⟨nd,rfl⟩⟩)|(go_at_call 11;(with_reducible refine (racewaylaw27_works.calls k  t148 _ A17.out).mono ?_);rintro e w22 ⟨rfl,hb⟩;have n0_:=Aside0.mk (below_step (by repeat (first|(with_reducible first|exact HB.out|apply below_alloc|apply pw_below_drewN|apply below_drew1)|exact HB.out)) hb);clear HB;have HB:=n0_;clear n0_;(try clear hb);(try clear hb2);(try clear hk);(try clear hi)))
       go_ret
       exact ⟨by first|rfl|(simp [errW_none,errW_some] <;> rfl)|(simp only [← hji4];first|rfl|(simp [errW_none,errW_some] <;> rfl))|(simp [*,errW_none,errW_some] <;> rfl),by repeat (first|(with_reducible first|exact HB.out|apply below_alloc|apply pw_below_drewN|apply below_drew1)|exact HB.out)⟩
      ·rw [if_neg c16] at H
       have c16b0 : (t141 == t143) = false:=beq_eq_false_iff_ne.mpr c16
       have c16b1 : (t141 != t143) = true:=bne_iff_ne.mpr c16
       obtain rfl:=Option.some.inj H
       go_enter Tryd.func8,Tryd.ntmps8
       go_wp2_with (first|((with_reducible refine gate_callee (f:=9) rfl ?_);refine goesL_ (some 18) rfl rfl Tryd.func9 (by kernel_rfl) rfl #[.string (a1.extract 0 ((ji4) : Int).toNat)] rfl (by (try simp only [List.map_toArray,List.map_cons,List.map_nil]);first|done|(simp only [hji4];rfl)|rfl|(simp only [List.length_drop,List.length_take];rfl)) ?_;(with_reducible refine (ticket_Unsequence.calls (a1.extract 0 ((ji4) : Int).toNat) t140 t141 _ A7.out).mono ?_);rintro e w23 ⟨rfl,hb⟩;refine ⟨_,rfl,?_⟩;have n0_:=Aside0.mk (below_step (by repeat (first|(with_reducible first|exact HB.out|apply below_alloc|apply pw_below_drewN|apply below_drew1)|exact HB.out)) hb);clear HB;have HB:=n0_;clear n0_;(try clear hb);(try clear hb2);(try clear hk);(try clear hi))|((with_reducible refine gate_callee (f:=24) rfl ?_);refine goesL_ (some 23) rfl rfl Tryd.func24 (by kernel_rfl) rfl #[.string (a1.extract 0 ((ji4) : Int).toNat)] rfl (by (try simp only [List.map_toArray,List.map_cons,List.map_nil]);first|done|(simp only [hji4];rfl)|rfl|(simp only [List.length_drop,List.length_take];rfl)) ?_;(with_reducible refine (racewayref27_Unsequence.calls k (a1.extract 0 ((ji4) : Int).toNat) t142 t143 _ A8.out).mono ?_);rintro e w' ⟨rfl,⟨nd,rfl⟩⟩;refine ⟨_,rfl,?_⟩)|((with_reducible refine gate_callee (f:=25) rfl ?_);refine goesL_ (some 29) rfl rfl Tryd.func25 (by kernel_rfl) rfl #[.int .i64 a0,.string (a1.extract 0 ((ji4) : Int).toNat),.int .i64 a2] rfl (by (try simp only [List.map_toArray,List.map_cons,List.map_nil]);first|done|(simp only [hji4];rfl)|rfl|(simp only [List.length_drop,List.length_take];rfl)) ?_;(with_reducible refine (ticket_Id.calls a0 (a1.extract 0 ((ji4) : Int).toNat) a2 t144 _ ?side1 A9.out).mono ?_);(case side1 => first|exact HGDg.out|exact GlobDg.below HGDg.out (by repeat (first|(with_reducible first|exact HB.out|apply below_alloc|apply pw_below_drewN|apply below_drew1)|exact HB.out))|exact GlobDg.drawn HGDg.out (by repeat (first|exact Drawn0.refl _|apply Drawn0.step)));rintro e w24 ⟨rfl,hb⟩;refine ⟨_,rfl,?_⟩;have n0_:=Aside0.mk (below_step (by repeat (first|(with_reducible first|exact HB.out|apply below_alloc|apply pw_below_drewN|apply below_drew1)|exact HB.out)) hb);clear HB;have HB:=n0_;clear n0_;(try clear hb);(try clear hb2);(try clear hk);(try clear hi))|((with_reducible refine gate_callee (f:=26) rfl ?_);refine goesL_ (some 33) rfl rfl Tryd.func26 (by kernel_rfl) rfl #[.int .i64 a0,.string (a1.extract 0 ((ji4) : Int).toNat),.int .i64 a2] rfl (by (try simp only [List.map_toArray,List.map_cons,List.map_nil]);first|done|(simp only [hji4];rfl)|rfl|(simp only [List.length_drop,List.length_take];rfl)) ?_;(with_reducible refine (racewayref27_Id.calls k a0 (a1.extract 0 ((ji4) : Int).toNat) a2 t145 _ A10.out).mono ?_);rintro e w25 ⟨rfl,hb⟩;refine ⟨_,rfl,?_⟩;have n0_:=Aside0.mk (below_step (by repeat (first|(with_reducible first|exact HB.out|apply below_alloc|apply pw_below_drewN|apply below_drew1)|exact HB.out)) hb);clear HB;have HB:=n0_;clear n0_;(try clear hb);(try clear hb2);(try clear hk);(try clear hi))|(go_at_call 10;(with_reducible refine (ticket_Sequence.calls a2 t146 _ A12.out).mono ?_);rintro e w26 ⟨rfl,hb⟩;have n0_:=Aside0.mk (below_step (by repeat (first|(with_reducible first|exact HB.out|apply below_alloc|apply pw_below_drewN|apply below_drew1)|exact HB.out)) hb);clear HB;have HB:=n0_;clear n0_;(try clear hb);(try clear hb2);(try clear hk);(try clear hi))|(go_at_call 27;(with_reducible refine (racewayref27_Sequence.calls k a2 t147 _ A13.out).mono ?_);rintro e w' ⟨rfl,⟨nd,rfl⟩⟩))
       go_ret
       exact ⟨by first|rfl|(simp [errW_none,errW_some] <;> rfl)|(simp only [← hji4];first|rfl|(simp [errW_none,errW_some] <;> rfl))|(simp [*,errW_none,errW_some] <;> rfl),by repeat (first|(with_reducible first|exact HB.out|apply below_alloc|apply pw_below_drewN|apply below_drew1)|exact HB.out)⟩
     ·rw [if_neg c15] at H
      have c15b0 : (t140 == t142) = false:=beq_eq_false_iff_ne.mpr c15
      have c15b1 : (t140 != t142) = true:=bne_iff_ne.mpr c15
      obtain rfl:=Option.some.inj H
      go_enter Tryd.func8,Tryd.ntmps8
      go_wp2_with (first|((with_reducible refine gate_callee (f:=9) rfl ?_);refine goesL_ (some 18) rfl rfl Tryd.func9 (by kernel_rfl) rfl #[.string (a1.extract 0 ((ji4) : Int).toNat)] rfl (by (try simp only [List.map_toArray,List.map_cons,List.map_nil]);first|done|(simp only [hji4];rfl)|rfl|(simp only [List.length_drop,List.length_take];rfl)) ?_;(with_reducible refine (ticket_Unsequence.calls (a1.extract 0 ((ji4) : Int).toNat) t140 t141 _ A7.out).mono ?_);rintro e w27 ⟨rfl,hb⟩;refine ⟨_,rfl,?_⟩;have n0_:=Aside0.mk (below_step (by repeat (first|(with_reducible first|exact HB.out|apply below_alloc|apply pw_below_drewN|apply below_drew1)|exact HB.out)) hb);clear HB;have HB:=n0_;clear n0_;(try clear hb);(try clear hb2);(try clear hk);(try clear hi))|((with_reducible refine gate_callee (f:=24) rfl ?_);refine goesL_ (some 23) rfl rfl Tryd.func24 (by kernel_rfl) rfl #[.string (a1.extract 0 ((ji4) : Int).toNat)] rfl (by (try simp only [List.map_toArray,List.map_cons,List.map_nil]);first|done|(simp only [hji4];rfl)|rfl|(simp only [List.length_drop,List.length_take];rfl)) ?_;(with_reducible refine (racewayref27_Unsequence.calls k (a1.extract 0 ((ji4) : Int).toNat) t142 t143 _ A8.out).mono ?_);rintro e w' ⟨rfl,⟨nd,rfl⟩⟩;refine ⟨_,rfl,?_⟩)|((with_reducible refine gate_callee (f:=25) rfl ?_);refine goesL_ (some 29) rfl rfl Tryd.func25 (by kernel_rfl) rfl #[.int .i64 a0,.string (a1.extract 0 ((ji4) : Int).toNat),.int .i64 a2] rfl (by (try simp only [List.map_toArray,List.map_cons,List.map_nil]);first|done|(simp only [hji4];rfl)|rfl|(simp only [List.length_drop,List.length_take];rfl)) ?_;(with_reducible refine (ticket_Id.calls a0 (a1.extract 0 ((ji4) : Int).toNat) a2 t144 _ ?side1 A9.out).mono ?_);(case side1 => first|exact HGDg.out|exact GlobDg.below HGDg.out (by repeat (first|(with_reducible first|exact HB.out|apply below_alloc|apply pw_below_drewN|apply below_drew1)|exact HB.out))|exact GlobDg.drawn HGDg.out (by repeat (first|exact Drawn0.refl _|apply Drawn0.step)));rintro e w28 ⟨rfl,hb⟩;refine ⟨_,rfl,?_⟩;have n0_:=Aside0.mk (below_step (by repeat (first|(with_reducible first|exact HB.out|apply below_alloc|apply pw_below_drewN|apply below_drew1)|exact HB.out)) hb);clear HB;have HB:=n0_;clear n0_;(try clear hb);(try clear hb2);(try clear hk);(try clear hi))|((with_reducible refine gate_callee (f:=26) rfl ?_);refine goesL_ (some 33) rfl rfl Tryd.func26 (by kernel_rfl) rfl #[.int .i64 a0,.string (a1.extract 0 ((ji4) : Int).toNat),.int .i64 a2] rfl (by (try simp only [List.map_toArray,List.map_cons,List.map_nil]);first|done|(simp only [hji4];rfl)|rfl|(simp only [List.length_drop,List.length_take];rfl)) ?_;(with_reducible refine (racewayref27_Id.calls k a0 (a1.extract 0 ((ji4) : Int).toNat) a2 t145 _ A10.out).mono ?_);rintro e w29 ⟨rfl,hb⟩;refine ⟨_,rfl,?_⟩;have n0_:=Aside0.mk (below_step (by repeat (first|(with_reducible first|exact HB.out|apply below_alloc|apply pw_below_drewN|apply below_drew1)|exact HB.out)) hb);clear HB;have HB:=n0_;clear n0_;(try clear hb);(try clear hb2);(try clear hk);(try clear hi))|(go_at_call 10;(with_reducible refine (ticket_Sequence.calls a2 t146 _ A12.out).mono ?_);rintro e w30 ⟨rfl,hb⟩;have n0_:=Aside0.mk (below_step (by repeat (first|(with_reducible first|exact HB.out|apply below_alloc|apply pw_below_drewN|apply below_drew1)|exact HB.out)) hb);clear HB;have HB:=n0_;clear n0_;(try clear hb);(try clear hb2);(try clear hk);(try clear hi))|(go_at_call 27;(with_reducible refine (racewayref27_Sequence.calls k a2 t147 _ A13.out).mono ?_);rintro e w' ⟨rfl,⟨nd,rfl⟩⟩))
      go_ret
      exact ⟨by first|rfl|(simp [errW_none,errW_some] <;> rfl)|(simp only [← hji4];first|rfl|(simp [errW_none,errW_some] <;> rfl))|(simp [*,errW_none,errW_some] <;> rfl),by repeat (first|(with_reducible first|exact HB.out|apply below_alloc|apply pw_below_drewN|apply below_drew1)|exact HB.out)⟩
    ·rw [if_neg c14] at H
     have c14b0 : (t146.toList == t147.toList) = false:=beq_eq_false_iff_ne.mpr c14
     have c14b1 : (t146.toList != t147.toList) = true:=bne_iff_ne.mpr c14
     obtain rfl:=Option.some.inj H
     go_enter Tryd.func8,Tryd.ntmps8
     go_wp2_with (first|((with_reducible refine gate_callee (f:=9) rfl ?_);refine goesL_ (some 18) rfl rfl Tryd.func9 (by kernel_rfl) rfl #[.string (a1.extract 0 ((ji4) : Int).toNat)] rfl (by (try simp only [List.map_toArray,List.map_cons,List.map_nil]);first|done|(simp only [hji4];rfl)|rfl|(simp only [List.length_drop,List.length_take];rfl)) ?_;(with_reducible refine (ticket_Unsequence.calls (a1.extract 0 ((ji4) : Int).toNat) t140 t141 _ A7.out).mono ?_);rintro e w31 ⟨rfl,hb⟩;refine ⟨_,rfl,?_⟩;have n0_:=Aside0.mk (below_step (by repeat (first|(with_reducible first|exact HB.out|apply below_alloc|apply pw_below_drewN|apply below_drew1)|exact HB.out)) hb);clear HB;have HB:=n0_;clear n0_;(try clear hb);(try clear hb2);(try clear hk);(try clear hi))|((with_reducible refine gate_callee (f:=24) rfl ?_);refine goesL_ (some 23) rfl rfl Tryd.func24 (by kernel_rfl) rfl #[.string (a1.extract 0 ((ji4) : Int).toNat)] rfl (by (try simp only [List.map_toArray,List.map_cons,List.map_nil]);first|done|(simp only [hji4];rfl)|rfl|(simp only [List.length_drop,List.length_take];rfl)) ?_;(with_reducible refine (racewayref27_Unsequence.calls k (a1.extract 0 ((ji4) : Int).toNat) t142 t143 _ A8.out).mono ?_);rintro e w' ⟨rfl,⟨nd,rfl⟩⟩;refine ⟨_,rfl,?_⟩)|((with_reducible refine gate_callee (f:=25) rfl ?_);refine goesL_ (some 29) rfl rfl Tryd.func25 (by kernel_rfl) rfl #[.int .i64 a0,.string (a1.extract 0 ((ji4) : Int).toNat),.int .i64 a2] rfl (by (try simp only [List.map_toArray,List.map_cons,List.map_nil]);first|done|(simp only [hji4];rfl)|rfl|(simp only [List.length_drop,List.length_take];rfl)) ?_;(with_reducible refine (ticket_Id.calls a0 (a1.extract 0 ((ji4) : Int).toNat) a2 t144 _ ?side1 A9.out).mono ?_);(case side1 => first|exact HGDg.out|exact GlobDg.below HGDg.out (by repeat (first|(with_reducible first|exact HB.out|apply below_alloc|apply pw_below_drewN|apply below_drew1)|exact HB.out))|exact GlobDg.drawn HGDg.out (by repeat (first|exact Drawn0.refl _|apply Drawn0.step)));rintro e w32 ⟨rfl,hb⟩;refine ⟨_,rfl,?_⟩;have n0_:=Aside0.mk (below_step (by repeat (first|(with_reducible first|exact HB.out|apply below_alloc|apply pw_below_drewN|apply below_drew1)|exact HB.out)) hb);clear HB;have HB:=n0_;clear n0_;(try clear hb);(try clear hb2);(try clear hk);(try clear hi))|((with_reducible refine gate_callee (f:=26) rfl ?_);refine goesL_ (some 33) rfl rfl Tryd.func26 (by kernel_rfl) rfl #[.int .i64 a0,.string (a1.extract 0 ((ji4) : Int).toNat),.int .i64 a2] rfl (by (try simp only [List.map_toArray,List.map_cons,List.map_nil]);first|done|(simp only [hji4];rfl)|rfl|(simp only [List.length_drop,List.length_take];rfl)) ?_;(with_reducible refine (racewayref27_Id.calls k a0 (a1.extract 0 ((ji4) : Int).toNat) a2 t145 _ A10.out).mono ?_);rintro e w33 ⟨rfl,hb⟩;refine ⟨_,rfl,?_⟩;have n0_:=Aside0.mk (below_step (by repeat (first|(with_reducible first|exact HB.out|apply below_alloc|apply pw_below_drewN|apply below_drew1)|exact HB.out)) hb);clear HB;have HB:=n0_;clear n0_;(try clear hb);(try clear hb2);(try clear hk);(try clear hi))|(go_at_call 10;(with_reducible refine (ticket_Sequence.calls a2 t146 _ A12.out).mono ?_);rintro e w34 ⟨rfl,hb⟩;have n0_:=Aside0.mk (below_step (by repeat (first|(with_reducible first|exact HB.out|apply below_alloc|apply pw_below_drewN|apply below_drew1)|exact HB.out)) hb);clear HB;have HB:=n0_;clear n0_;(try clear hb);(try clear hb2);(try clear hk);(try clear hi))|(go_at_call 27;(with_reducible refine (racewayref27_Sequence.calls k a2 t147 _ A13.out).mono ?_);rintro e w' ⟨rfl,⟨nd,rfl⟩⟩))
     go_ret
     exact ⟨by first|rfl|(simp [errW_none,errW_some] <;> rfl)|(simp only [← hji4];first|rfl|(simp [errW_none,errW_some] <;> rfl))|(simp [*,errW_none,errW_some] <;> rfl),by repeat (first|(with_reducible first|exact HB.out|apply below_alloc|apply pw_below_drewN|apply below_drew1)|exact HB.out)⟩
   ·rw [if_neg c11] at H
    have c11b0 : (t144.toList == t145.toList) = false:=beq_eq_false_iff_ne.mpr c11
    have c11b1 : (t144.toList != t145.toList) = true:=bne_iff_ne.mpr c11
    obtain rfl:=Option.some.inj H
    go_enter Tryd.func8,Tryd.ntmps8
    go_wp2_with (first|((with_reducible refine gate_callee (f:=9) rfl ?_);refine goesL_ (some 18) rfl rfl Tryd.func9 (by kernel_rfl) rfl #[.string (a1.extract 0 ((ji4) : Int).toNat)] rfl (by (try simp only [List.map_toArray,List.map_cons,List.map_nil]);first|done|(simp only [hji4];rfl)|rfl|(simp only [List.length_drop,List.length_take];rfl)) ?_;(with_reducible refine (ticket_Unsequence.calls (a1.extract 0 ((ji4) : Int).toNat) t140 t141 _ A7.out).mono ?_);rintro e w35 ⟨rfl,hb⟩;refine ⟨_,rfl,?_⟩;have n0_:=Aside0.mk (below_step (by repeat (first|(with_reducible first|exact HB.out|apply below_alloc|apply pw_below_drewN|apply below_drew1)|exact HB.out)) hb);clear HB;have HB:=n0_;clear n0_;(try clear hb);(try clear hb2);(try clear hk);(try clear hi))|((with_reducible refine gate_callee (f:=24) rfl ?_);refine goesL_ (some 23) rfl rfl Tryd.func24 (by kernel_rfl) rfl #[.string (a1.extract 0 ((ji4) : Int).toNat)] rfl (by (try simp only [List.map_toArray,List.map_cons,List.map_nil]);first|done|(simp only [hji4];rfl)|rfl|(simp only [List.length_drop,List.length_take];rfl)) ?_;(with_reducible refine (racewayref27_Unsequence.calls k (a1.extract 0 ((ji4) : Int).toNat) t142 t143 _ A8.out).mono ?_);rintro e w' ⟨rfl,⟨nd,rfl⟩⟩;refine ⟨_,rfl,?_⟩)|((with_reducible refine gate_callee (f:=25) rfl ?_);refine goesL_ (some 29) rfl rfl Tryd.func25 (by kernel_rfl) rfl #[.int .i64 a0,.string (a1.extract 0 ((ji4) : Int).toNat),.int .i64 a2] rfl (by (try simp only [List.map_toArray,List.map_cons,List.map_nil]);first|done|(simp only [hji4];rfl)|rfl|(simp only [List.length_drop,List.length_take];rfl)) ?_;(with_reducible refine (ticket_Id.calls a0 (a1.extract 0 ((ji4) : Int).toNat) a2 t144 _ ?side1 A9.out).mono ?_);(case side1 => first|exact HGDg.out|exact GlobDg.below HGDg.out (by repeat (first|(with_reducible first|exact HB.out|apply below_alloc|apply pw_below_drewN|apply below_drew1)|exact HB.out))|exact GlobDg.drawn HGDg.out (by repeat (first|exact Drawn0.refl _|apply Drawn0.step)));rintro e w36 ⟨rfl,hb⟩;refine ⟨_,rfl,?_⟩;have n0_:=Aside0.mk (below_step (by repeat (first|(with_reducible first|exact HB.out|apply below_alloc|apply pw_below_drewN|apply below_drew1)|exact HB.out)) hb);clear HB;have HB:=n0_;clear n0_;(try clear hb);(try clear hb2);(try clear hk);(try clear hi))|((with_reducible refine gate_callee (f:=26) rfl ?_);refine goesL_ (some 33) rfl rfl Tryd.func26 (by kernel_rfl) rfl #[.int .i64 a0,.string (a1.extract 0 ((ji4) : Int).toNat),.int .i64 a2] rfl (by (try simp only [List.map_toArray,List.map_cons,List.map_nil]);first|done|(simp only [hji4];rfl)|rfl|(simp only [List.length_drop,List.length_take];rfl)) ?_;(with_reducible refine (racewayref27_Id.calls k a0 (a1.extract 0 ((ji4) : Int).toNat) a2 t145 _ A10.out).mono ?_);rintro e w37 ⟨rfl,hb⟩;refine ⟨_,rfl,?_⟩;have n0_:=Aside0.mk (below_step (by repeat (first|(with_reducible first|exact HB.out|apply below_alloc|apply pw_below_drewN|apply below_drew1)|exact HB.out)) hb);clear HB;have HB:=n0_;clear n0_;(try clear hb);(try clear hb2);(try clear hk);(try clear hi)))
    go_ret
    exact ⟨by first|rfl|(simp [errW_none,errW_some] <;> rfl)|(simp only [← hji4];first|rfl|(simp [errW_none,errW_some] <;> rfl))|(simp [*,errW_none,errW_some] <;> rfl),by repeat (first|(with_reducible first|exact HB.out|apply below_alloc|apply pw_below_drewN|apply below_drew1)|exact HB.out)⟩
  ·rw [if_neg c6] at H
   exact absurd H (by simp)
 ·rw [if_neg c5] at H
  exact absurd H (by simp)
def racewaylaw27_TicketIds.Pure : Prop:=∀ (a0 : Int) (a1 : ByteArray) (a2 : Int),(Lit.int .i64 a0).wf = true → a1.size ≤ 140737488351232 → (Lit.int .i64 a2).wf = true → ∃ k,racewaylaw27_TicketIds.f k a0 a1 a2 = some true
theorem racewaylaw27_TicketIds.walk (P : racewaylaw27_TicketIds.Pure) (a0 : Int) (a1 : ByteArray) (a2 : Int) (w : World) (w0 : (Lit.int .i64 a0).wf = true) (w1 : a1.size ≤ 140737488351232) (w2 : (Lit.int .i64 a2).wf = true) (hGDg : GlobDg w) :
  Calls Tryd.prog 8 #[.int .i64 a0,.string a1,.int .i64 a2] w fun e w' => e = .returned (.bool true) ∧ Below w.heap.size w w':=by
 obtain ⟨k,h⟩:=P a0 a1 a2 w0 w1 w2
 refine (racewaylaw27_TicketIds.calls k a0 a1 a2 true w hGDg h).mono ?_
 rintro e w' ⟨rfl,hd⟩
 exact ⟨rfl,hd⟩
end Go.Proofs.YtedfgkjimnjdpaaDoor.X
namespace Go.Proofs.YtedfgkjimnjdpaaDoor.X
open Go.RowKit Go.Proofs.YtedfgkjimnjdpaaDoorW.PrintWords Go.Proofs.YtedfgkjimnjdpaaDoorW.PrintMore
set_option linter.unusedVariables false
set_option linter.unusedSimpArgs false
theorem byte48 (q : Nat) (h : q < 10) : (UInt8.ofNat (48 + q)).toNat = 48 + q:=by rw [UInt8.toNat_ofNat'];omega
theorem dec_step (u : Nat) : Lib.decDigits u = if u < 10 then [UInt8.ofNat (48 + u)] else Lib.decDigits (u / 10) ++ [UInt8.ofNat (48 + u % 10)]:=by
 rw [Lib.decDigits]
 split <;> rfl
theorem dec_val : ∀ (n u : Nat),u < n → digVal 0 (Lib.decDigits u) = some u
 | 0,u,h => by omega
 | n + 1,u,h => by
  rw [dec_step]
  split
  ·rename_i h10
   simp only [digVal]
   rw [byte48 u h10,if_pos (by omega)]
   congr 1
   omega
  ·rename_i h10
   rw [digVal_snoc,dec_val n (u / 10) (by omega),Option.bind_some,byte48 _ (by omega),if_pos (by omega)]
   congr 1
   omega
theorem dec_head : ∀ (n u : Nat),u < n → ∃ c r,Lib.decDigits u = c :: r ∧ 48 ≤ c.toNat ∧ c.toNat ≤ 57 ∧ (c = 48 → u = 0)
 | 0,u,h => by omega
 | n + 1,u,h => by
  rw [dec_step]
  split
  ·rename_i h10
   refine ⟨_,_,rfl,by rw [byte48 u h10];omega,by rw [byte48 u h10];omega,fun e => ?_⟩
   have:=congrArg UInt8.toNat e
   rw [byte48 u h10] at this
   have h48 : (48 : UInt8).toNat = 48:=rfl
   omega
  ·rename_i h10
   obtain ⟨c,r,e,h1,h2,h3⟩:=dec_head n (u / 10) (by omega)
   rw [e]
   exact ⟨c,r ++ [UInt8.ofNat (48 + u % 10)],rfl,h1,h2,fun hc => by have:=h3 hc;omega⟩
theorem dec_len : ∀ (k u : Nat),u < 10 ^ (k + 1) → (Lib.decDigits u).length ≤ k + 1
 | 0,u,h => by
  rw [dec_step,if_pos (by simpa using h)]
  simp
 | k + 1,u,h => by
  rw [dec_step]
  split
  ·simp
  ·have:=dec_len k (u / 10) (by rw [Nat.pow_succ] at h;omega)
   simp only [List.length_append,List.length_cons,List.length_nil]
   omega
theorem dec_len19 (u : Nat) (h : u ≤ 9223372036854775808) : (Lib.decDigits u).length ≤ 19:=by
 have h1 : u < 10 ^ (18 + 1):=by
  have : (10 : Nat) ^ (18 + 1) = 10000000000000000000:=by decide
  omega
 exact dec_len 18 u h1
theorem atoi_itoa (n : Int) (h0 : -9223372036854775808 ≤ n) (h1 : n ≤ 9223372036854775807) : atoiB ⟨(Lib.itoa n).toArray⟩ = (n,0):=by
 unfold atoiB
 simp only
 by_cases hn : n < 0
 ·obtain ⟨m,rfl⟩ : ∃ m : Nat,n = -(m : Int):=⟨n.natAbs,by omega⟩
  have e : Lib.itoa (-(m : Int)) = 45 :: Lib.decDigits m:=by unfold Lib.itoa;rw [if_pos hn,Int.natAbs_neg,Int.natAbs_natCast]
  rw [e]
  have hp : Lib.hasPrefix (45 :: Lib.decDigits m) [45] = true:=by simp [Lib.hasPrefix,List.isPrefixOf]
  have ht : Lib.trimPrefix (45 :: Lib.decDigits m) [45] = Lib.decDigits m:=by unfold Lib.trimPrefix;rw [if_pos hp];rfl
  rw [hp,ht]
  obtain ⟨c,r,hd,c1,c2,c3⟩:=dec_head (m + 1) m (by omega)
  unfold atoiT
  rw [if_neg]
  ·rw [dec_val (m + 1) m (by omega)]
   simp only [if_true]
   rw [if_pos (by omega)]
  ·have:=dec_len19 m (by omega)
   rintro (h|h|⟨h,_⟩)
   ·rw [hd] at h;cases h
   ·omega
   ·rw [hd] at h
    have:=c3 h
    omega
 ·obtain ⟨m,rfl⟩:=Int.eq_ofNat_of_zero_le (show 0 ≤ n by omega)
  have e : Lib.itoa (m : Int) = Lib.decDigits m:=by unfold Lib.itoa;rw [if_neg hn,Int.toNat_natCast]
  rw [e]
  obtain ⟨c,r,hd,c1,c2,c3⟩:=dec_head (m + 1) m (by omega)
  have hp : Lib.hasPrefix (Lib.decDigits m) [45] = false:=by
   rw [hd]
   simp only [Lib.hasPrefix,List.isPrefixOf]
   have : (45 == c) = false:=by
    rw [beq_eq_false_iff_ne]
    rintro rfl
    have h45 : (45 : UInt8).toNat = 45:=rfl
    omega
   rw [this]
   rfl
  have ht : Lib.trimPrefix (Lib.decDigits m) [45] = Lib.decDigits m:=by unfold Lib.trimPrefix;rw [if_neg (by rw [hp];simp)]
  rw [hp,ht]
  unfold atoiT
  rw [if_neg]
  ·rw [dec_val (m + 1) m (by omega)]
   simp only [Bool.false_eq_true,if_false]
   rw [if_pos (by omega)]
  ·have:=dec_len19 m (by omega)
   rintro (h|h|⟨h,h2⟩)
   ·rw [hd] at h;cases h
   ·omega
   ·rw [hd] at h
    have h0:=c3 h
    subst h0
    simp only [Bool.false_eq_true,or_false] at h2
    have : (Lib.decDigits 0).length = 1:=by rw [dec_step];rfl
    omega
def fixD (u : Nat) : Nat → List UInt8
 | 0 => []
 | n + 1 => Lib.dg u n :: fixD u n
theorem fixD_len (u : Nat) : ∀ n,(fixD u n).length = n
 | 0 => rfl
 | n + 1 => by simp [fixD,fixD_len u n]
theorem fixD_eq (u : Nat) : ∀ n,fixD u n = (List.range n).map fun t => Lib.dg u (n - 1 - t)
 | 0 => rfl
 | n + 1 => by
  rw [fixD,fixD_eq u n,List.range_succ_eq_map]
  simp only [List.map_cons,List.map_map,Nat.add_sub_cancel,Nat.sub_zero]
  congr 1
  apply List.map_congr_left
  intro t _
  simp only [Function.comp]
  congr 1
  omega
theorem fixD_dec (u : Nat) : fixD u (Lib.nDigits u) = Lib.decDigits u:=by rw [fixD_eq,Lib.decDigits_eq]
theorem fixD_more (u L : Nat) (h : u < 10 ^ L) : ∀ k,fixD u (L + k) = List.replicate k 48 ++ fixD u L
 | 0 => rfl
 | k + 1 => by
  rw [← Nat.add_assoc,fixD,fixD_more u L h k,List.replicate_succ,List.cons_append]
  congr 1
  unfold Lib.dg
  have : u < 10 ^ (L + k):=Nat.lt_of_lt_of_le h (Nat.pow_le_pow_right (by omega) (by omega))
  rw [Nat.div_eq_of_lt this]
  rfl
def seqB (a : Nat) : ByteArray:=⟨(fixD a 20).toArray⟩
theorem seqB_size (a : Nat) : (seqB a).size = 20:=by simp [seqB,ByteArray.size,fixD_len]
theorem nD_le (a : Nat) (h : a ≤ 9223372036854775807) : Lib.nDigits a ≤ 19:=by
 have:=dec_len19 a (by omega)
 rw [Lib.decDigits_length] at this
 exact this
theorem pad_seq (a : Nat) (h : a ≤ 9223372036854775807) : basic_Pad.f (a : Int) 20 = some (seqB a):=by
 unfold basic_Pad.f basic_Itoa.f
 rw [if_pos (by omega)]
 simp only [Option.bind_some]
 rw [if_neg (by omega)]
 congr 1
 have e : Lib.itoa (a : Int) = Lib.decDigits a:=by unfold Lib.itoa;rw [if_neg (by omega),Int.toNat_natCast]
 rw [e]
 unfold padB seqB
 have hL:=nD_le a h
 have hs : (⟨(Lib.decDigits a).toArray⟩ : ByteArray).size = Lib.nDigits a:=by simp [ByteArray.size,Lib.decDigits_length]
 have hp : (padN 20 (Lib.nDigits a)).toNat = 20 - Lib.nDigits a:=by unfold padN;omega
 rw [hs,hp]
 have:=fixD_more a (Lib.nDigits a) (Lib.lt_pow_nDigits a) (20 - Lib.nDigits a)
 rw [show Lib.nDigits a + (20 - Lib.nDigits a) = 20 by omega,fixD_dec] at this
 rw [this]
 obtain ⟨x⟩ : ∃ x : Unit,True:=⟨(),trivial⟩
 apply congrArg ByteArray.mk
 simp
theorem pad_neg (n : Int) (h0 : -9223372036854775808 ≤ n) (h1 : n < 0) : basic_Pad.f n 20 = some ⟨(Lib.itoa n).toArray⟩:=by
 unfold basic_Pad.f basic_Itoa.f
 rw [if_pos (by omega)]
 simp only [Option.bind_some]
 rw [if_pos h1]
theorem drop_pad (k : Nat) (l : List UInt8) : (List.replicate k 48 ++ l).dropWhile (· == 48) = l.dropWhile (· == 48):=by
 induction k with
 | zero => rfl
 | succ k ih => rw [List.replicate_succ,List.cons_append,List.dropWhile_cons];simp [ih]
theorem seq_short (a : Nat) (ha : a ≤ 9223372036854775807) : Lib.trimLeftB ((fixD a 20).take 19) 48 ++ (fixD a 20).drop 19 = Lib.decDigits a:=by
 have hL:=nD_le a ha
 have hL1:=Lib.nDigits_pos a
 have hf:=fixD_more a (Lib.nDigits a) (Lib.lt_pow_nDigits a) (20 - Lib.nDigits a)
 rw [show Lib.nDigits a + (20 - Lib.nDigits a) = 20 by omega,fixD_dec] at hf
 have hlen:=Lib.decDigits_length a
 rw [hf,List.take_append,List.drop_append,List.length_replicate]
 rw [List.take_of_length_le (by simp;omega),List.drop_eq_nil_of_le (by simp;omega),List.nil_append]
 unfold Lib.trimLeftB
 rw [drop_pad,show 19 - (20 - Lib.nDigits a) = Lib.nDigits a - 1 by omega]
 obtain ⟨c,r,hd,c1,c2,c3⟩:=dec_head (a + 1) a (by omega)
 have hw : ((Lib.decDigits a).take (Lib.nDigits a - 1)).dropWhile (· == 48) = (Lib.decDigits a).take (Lib.nDigits a - 1):=by
  by_cases h1 : Lib.nDigits a = 1
  ·rw [h1];rfl
  ·obtain ⟨t,ht⟩ : ∃ t,Lib.nDigits a - 1 = t + 1:=⟨Lib.nDigits a - 2,by omega⟩
   rw [hd,ht,List.take_succ_cons,List.dropWhile_cons]
   have : (c == 48) = false:=by
    rw [beq_eq_false_iff_ne]
    intro e
    have h0:=c3 e
    subst h0
    exact h1 (Lib.nDigits_small (by omega))
   rw [this]
   rfl
 rw [hw,List.take_append_drop]
end Go.Proofs.YtedfgkjimnjdpaaDoor.X
namespace Go.Proofs.YtedfgkjimnjdpaaDoor.X
open Go.RowKit Go.Proofs.YtedfgkjimnjdpaaDoorW.PrintWords Go.Proofs.YtedfgkjimnjdpaaDoorW.PrintLast Go.Proofs.YtedfgkjimnjdpaaDoorW.PrintMore
set_option linter.unusedVariables false
set_option linter.unusedSimpArgs false
theorem tens_piece (d : Nat) (h : d < 10) : (⟨#[48,49,50,51,52,53,54,55,56,57,97,98,99,100,101,102]⟩ : ByteArray).extract d (d + 1) = ⟨#[UInt8.ofNat (48 + d)]⟩:=by
 have : ∀ d : Fin 10,(⟨#[48,49,50,51,52,53,54,55,56,57,97,98,99,100,101,102]⟩ : ByteArray).extract d.val (d.val + 1) = ⟨#[UInt8.ofNat (48 + d.val)]⟩:=by decide +kernel
 exact this ⟨d,h⟩
def digsZ (m : Nat) : List UInt8:=if m = 0 then [] else Lib.decDigits m
theorem digsZ_step (m : Nat) (h : m ≠ 0) : digsZ m = digsZ (m / 10) ++ [UInt8.ofNat (48 + m % 10)]:=by
 unfold digsZ
 rw [if_neg h,dec_step m]
 by_cases h1 : m < 10
 ·rw [if_pos h1,if_pos (by omega),Nat.mod_eq_of_lt h1,List.nil_append]
 ·rw [if_neg h1,if_neg (by omega)]
theorem ritoa_l0 : ∀ (j m : Nat) (x0 x4 : Int) (acc : List UInt8) (k : Nat),m < 10 ^ j → (x4 = (m : Int) ∧ m ≤ 9223372036854775807 ∨ x4 = -(m : Int) ∧ m ≤ 9223372036854775808) → acc.length + j ≤ 1000 → j < k →
  racewayref22_Itoa.l0 k x0 ⟨acc.toArray⟩ x4 = some ⟨((if x0 < 0 then [45] else []) ++ (digsZ m ++ acc)).toArray⟩:=by
 intro j
 induction j with
 | zero =>
  intro m x0 x4 acc k hm hx ha hk
  obtain ⟨k,rfl⟩ : ∃ q,k = q + 1:=⟨k - 1,by omega⟩
  have hm0 : m = 0:=by simpa using hm
  subst hm0
  have hx0 : x4 = 0:=by omega
  have hsz : (⟨acc.toArray⟩ : ByteArray).size = acc.length:=by simp [ByteArray.size]
  rw [racewayref22_Itoa.l0,if_pos hx0]
  by_cases h : x0 < 0
  ·rw [if_pos h,if_pos h,if_pos (by omega)]
   rfl
  ·rw [if_neg h,if_neg h]
   rfl
 | succ j ih =>
  intro m x0 x4 acc k hm hx ha hk
  obtain ⟨k,rfl⟩ : ∃ q,k = q + 1:=⟨k - 1,by omega⟩
  have hsz : (⟨acc.toArray⟩ : ByteArray).size = acc.length:=by simp [ByteArray.size]
  by_cases hm0 : m = 0
  ·subst hm0
   have hx0 : x4 = 0:=by omega
   rw [racewayref22_Itoa.l0,if_pos hx0]
   by_cases h : x0 < 0
   ·rw [if_pos h,if_pos h,if_pos (by omega)]
    rfl
   ·rw [if_neg h,if_neg h]
    rfl
  ·have hx0 : ¬ x4 = 0:=by omega
   have hd : m % 10 < 10:=Nat.mod_lt _ (by omega)
   have hnext:=fun x4' h' => ih (m / 10) x0 x4' (UInt8.ofNat (48 + m % 10) :: acc) k (by rw [Nat.pow_succ] at hm;omega) h' (by simp;omega) (by omega)
   have hpc:=tens_piece (m % 10) hd
   have hps : (⟨#[UInt8.ofNat (48 + m % 10)]⟩ : ByteArray).size = 1:=rfl
   have happ : (⟨#[UInt8.ofNat (48 + m % 10)]⟩ : ByteArray) ++ (⟨acc.toArray⟩ : ByteArray) = ⟨(UInt8.ofNat (48 + m % 10) :: acc).toArray⟩:=by
    apply ByteArray.ext
    apply Array.ext'
    rw [ByteArray.data_append,Array.toList_append]
    rfl
   rw [digsZ_step m hm0,List.append_assoc,List.singleton_append]
   rw [racewayref22_Itoa.l0,if_neg hx0]
   rcases hx with ⟨rfl,hb⟩|⟨rfl,hb⟩
   ·have e1 : Int.tmod (m : Int) 10 = ((m % 10 : Nat) : Int):=by rw [Int.tmod_eq_emod_of_nonneg (by omega)];omega
    have e2 : Int.tdiv (m : Int) 10 = ((m / 10 : Nat) : Int):=by rw [Int.tdiv_eq_ediv_of_nonneg (by omega)];omega
    rw [e1,e2,if_neg (by omega),if_pos (by omega)]
    rw [w64 (x:=((m % 10 : Nat) : Int) + 1) (by omega) (by omega),w64 (x:=((m / 10 : Nat) : Int)) (by omega) (by omega),if_pos (by omega),if_pos (by omega)]
    rw [show (((m % 10 : Nat) : Int)).toNat = m % 10 by omega,show (((m % 10 : Nat) : Int) + 1).toNat = m % 10 + 1 by omega,hpc,if_pos (by rw [hps,hsz];omega),happ]
    exact hnext _ (.inl ⟨rfl,by omega⟩)
   ·have e1 : Int.tmod (-(m : Int)) 10 = -((m % 10 : Nat) : Int):=by rw [Int.neg_tmod,Int.tmod_eq_emod_of_nonneg (by omega)];omega
    have e2 : Int.tdiv (-(m : Int)) 10 = -((m / 10 : Nat) : Int):=by rw [Int.neg_tdiv,Int.tdiv_eq_ediv_of_nonneg (by omega)];omega
    rw [e1,e2]
    by_cases hz : m % 10 = 0
    ·rw [hz] at hpc happ hps ⊢
     rw [if_neg (by omega),if_pos (by omega)]
     rw [w64 (x:=-((0 : Nat) : Int) + 1) (by omega) (by omega),w64 (x:=-((m / 10 : Nat) : Int)) (by omega) (by omega),if_pos (by omega),if_pos (by omega)]
     rw [show (-((0 : Nat) : Int)).toNat = 0 by omega,show (-((0 : Nat) : Int) + 1).toNat = 0 + 1 by omega,hpc,if_pos (by rw [hps,hsz];omega),happ]
     rw [hz] at hnext
     exact hnext _ (.inr ⟨rfl,by omega⟩)
    ·rw [if_pos (by omega)]
     rw [w64 (x:=-(-((m % 10 : Nat) : Int))) (by omega) (by omega),w64 (x:=-(-((m % 10 : Nat) : Int)) + 1) (by omega) (by omega),w64 (x:=-((m / 10 : Nat) : Int)) (by omega) (by omega),if_pos (by omega),if_pos (by omega),if_pos (by omega)]
     rw [show (-(-((m % 10 : Nat) : Int))).toNat = m % 10 by omega,show (-(-((m % 10 : Nat) : Int)) + 1).toNat = m % 10 + 1 by omega,hpc,if_pos (by rw [hps,hsz];omega),happ]
     exact hnext _ (.inr ⟨rfl,by omega⟩)
theorem ritoa_is (n : Int) (h0 : -9223372036854775808 ≤ n) (h1 : n ≤ 9223372036854775807) (k : Nat) (hk : 20 < k) : racewayref22_Itoa.f k n = some ⟨(Lib.itoa n).toArray⟩:=by
 unfold racewayref22_Itoa.f
 by_cases hz : n = 0
 ·rw [if_pos hz,hz]
  unfold Lib.itoa
  rw [if_neg (by omega),show (0 : Int).toNat = 0 from rfl,Lib.decDigits_one (by omega)]
  rfl
 ·rw [if_neg hz]
  by_cases hn : n < 0
  ·have:=ritoa_l0 19 n.natAbs n n [] k (by omega) (.inr ⟨by omega,by omega⟩) (by simp) (by omega)
   rw [if_pos hn] at this
   unfold Lib.itoa digsZ at *
   rw [if_neg (by omega),List.append_nil] at this
   rw [if_pos hn]
   exact this
  ·have:=ritoa_l0 19 n.toNat n n [] k (by omega) (.inl ⟨by omega,by omega⟩) (by simp) (by omega)
   rw [if_neg hn] at this
   unfold Lib.itoa digsZ at *
   rw [if_neg (by omega),List.append_nil,List.nil_append] at this
   rw [if_neg hn]
   exact this
theorem rpad_l0 (a0 : Int) (h : 0 ≤ a0) : ∀ (n : Nat) (l : List UInt8) (k : Nat),l.length + n = 20 → n < k → racewayref22_Pad.l0 k a0 20 ⟨l.toArray⟩ = some ⟨(List.replicate n 48 ++ l).toArray⟩
 | n,l,0,_,hk => by omega
 | 0,l,k + 1,hl,hk => by
  have hsz : (⟨l.toArray⟩ : ByteArray).size = l.length:=by simp [ByteArray.size]
  rw [racewayref22_Pad.l0,if_pos h,if_neg (by rw [hsz];omega)]
  rfl
 | n + 1,l,k + 1,hl,hk => by
  have hsz : (⟨l.toArray⟩ : ByteArray).size = l.length:=by simp [ByteArray.size]
  rw [racewayref22_Pad.l0,if_pos h,if_pos (by rw [hsz];omega),if_pos (by rw [hsz];omega)]
  have happ : (⟨#[48]⟩ : ByteArray) ++ (⟨l.toArray⟩ : ByteArray) = ⟨(48 :: l).toArray⟩:=by
   apply ByteArray.ext
   apply Array.ext'
   rw [ByteArray.data_append,Array.toList_append]
   rfl
  rw [happ,rpad_l0 a0 h n (48 :: l) k (by simp;omega) (by omega),List.replicate_succ',List.append_assoc]
  rfl
theorem rseq_is (n : Int) (h0 : -9223372036854775808 ≤ n) (h1 : n ≤ 9223372036854775807) (k : Nat) (hk : 30 < k) : racewayref27_Sequence.f k n = some (if n < 0 then ⟨(Lib.itoa n).toArray⟩ else seqB n.toNat):=by
 unfold racewayref27_Sequence.f racewayref22_Pad.f
 rw [ritoa_is n h0 h1 k (by omega),Option.bind_some,if_neg (by omega)]
 obtain ⟨k,rfl⟩ : ∃ q,k = q + 1:=⟨k - 1,by omega⟩
 rw [racewayref22_Pad.j0]
 by_cases hn : n < 0
 ·obtain ⟨k,rfl⟩ : ∃ q,k = q + 1:=⟨k - 1,by omega⟩
  rw [racewayref22_Pad.l0,if_neg (by omega),Option.bind_some,if_pos hn]
 ·rw [if_neg hn]
  obtain ⟨a,rfl⟩ : ∃ a : Nat,n = a:=⟨n.toNat,by omega⟩
  have e : Lib.itoa (a : Int) = Lib.decDigits a:=by unfold Lib.itoa;rw [if_neg (by omega),Int.toNat_natCast]
  have hl:=nD_le a (by omega)
  have hlen:=Lib.decDigits_length a
  rw [e,rpad_l0 a (by omega) (20 - Lib.nDigits a) _ k (by rw [hlen];omega) (by omega),Option.bind_some,Int.toNat_natCast]
  unfold seqB
  have hlt : a < 10 ^ Lib.nDigits a:=Lib.lt_pow_nDigits a
  rw [← fixD_dec,← fixD_more a (Lib.nDigits a) hlt (20 - Lib.nDigits a),show Lib.nDigits a + (20 - Lib.nDigits a) = 20 by omega]
theorem pseq_is (n : Int) (h0 : -9223372036854775808 ≤ n) (h1 : n ≤ 9223372036854775807) : ticket_Sequence.f n = some (if n < 0 then ⟨(Lib.itoa n).toArray⟩ else seqB n.toNat):=by
 unfold ticket_Sequence.f
 by_cases hn : n < 0
 ·rw [pad_neg n h0 hn,if_pos hn]
  rfl
 ·obtain ⟨a,rfl⟩ : ∃ a : Nat,n = a:=⟨n.toNat,by omega⟩
  rw [pad_seq a (by omega),if_neg hn,Int.toNat_natCast]
  rfl
end Go.Proofs.YtedfgkjimnjdpaaDoor.X
namespace Go.Proofs.YtedfgkjimnjdpaaDoor.X
open Go.RowKit Go.Proofs.YtedfgkjimnjdpaaDoorW.PrintWords Go.Proofs.YtedfgkjimnjdpaaDoorW.PrintLast Go.Proofs.YtedfgkjimnjdpaaDoorW.PrintMore
set_option linter.unusedVariables false
set_option linter.unusedSimpArgs false
def SeqAns (s : ByteArray) (r : Int × Int) : Prop:=r = (0,5) ∨ ∃ a : Nat,a ≤ 9223372036854775807 ∧ s = seqB a ∧ r = ((a : Int),0)
theorem toList_inj {a b : ByteArray} (h : a.toList = b.toList) : a = b:=by
 rw [ByteArray.toList_eq,ByteArray.toList_eq] at h
 apply ByteArray.ext
 exact Array.ext' h
theorem wrap_bd (x : Int) : -9223372036854775808 ≤ wrap64 x ∧ wrap64 x ≤ 9223372036854775807:=by unfold wrap64;omega
def AtoiAns (s : ByteArray) (r : Option (Int × Int)) : Prop:=r = some (0,5) ∨ ∃ n,-9223372036854775808 ≤ n ∧ n ≤ 9223372036854775807 ∧ s = ⟨(Lib.itoa n).toArray⟩ ∧ r = some (n,0)
theorem ratoi_end (s : ByteArray) (x4 x6 : Int) (h6 : -9223372036854775808 ≤ x6 ∧ x6 ≤ 9223372036854775807) (k : Nat) (hk : 20 < k) :
  AtoiAns s (if x4 = 0 then (if x6 = -9223372036854775808 then (some (0,5)) else ((racewayref22_Itoa.f k (wrap64 (-x6))).bind fun t135 => (if t135.toList = s.toList then (some (wrap64 (-x6),0)) else (some (0,5))))) else ((racewayref22_Itoa.f k x6).bind fun t136 => (if t136.toList = s.toList then (some (x6,0)) else (some (0,5))))):=by
 by_cases h4 : x4 = 0
 ·rw [if_pos h4]
  by_cases h : x6 = -9223372036854775808
  ·rw [if_pos h]
   exact .inl rfl
  ·rw [if_neg h,ritoa_is _ (wrap_bd _).1 (wrap_bd _).2 k hk,Option.bind_some]
   by_cases he : (⟨(Lib.itoa (wrap64 (-x6))).toArray⟩ : ByteArray).toList = s.toList
   ·rw [if_pos he]
    exact .inr ⟨_,(wrap_bd _).1,(wrap_bd _).2,(toList_inj he).symm,rfl⟩
   ·rw [if_neg he]
    exact .inl rfl
 ·rw [if_neg h4,ritoa_is _ h6.1 h6.2 k hk,Option.bind_some]
  by_cases he : (⟨(Lib.itoa x6).toArray⟩ : ByteArray).toList = s.toList
  ·rw [if_pos he]
   exact .inr ⟨_,h6.1,h6.2,(toList_inj he).symm,rfl⟩
  ·rw [if_neg he]
   exact .inl rfl
theorem ratoi_l0 (s : ByteArray) (x4 : Int) (hs : s.size ≤ 1000) : ∀ (d i k : Nat) (x6 : Int),i + d = s.size → (-9223372036854775808 ≤ x6 ∧ x6 ≤ 9223372036854775807) → 2 * d + 30 < k →
  AtoiAns s (racewayref22_Atoi.l0 k s x4 (-9223372036854775808) x6 (i : Int))
 | d,i,0,_,_,_,hk => by omega
 | 0,i,k + 1,x6,hi,h6,hk => by
  rw [racewayref22_Atoi.l0,if_neg (by omega)]
  exact ratoi_end s x4 x6 h6 k (by omega)
 | d + 1,i,k + 1,x6,hi,h6,hk => by
  obtain ⟨k,rfl⟩ : ∃ q,k = q + 1:=⟨k - 1,by omega⟩
  have hw : wrap64 ((i : Int) + 1) = ((i + 1 : Nat) : Int):=by rw [w64 (by omega) (by omega)];omega
  have hrec:=fun x6' h' => ratoi_l0 s x4 hs d (i + 1) k x6' (by omega) h' (by omega)
  have hj : ∀ b,AtoiAns s (racewayref22_Atoi.j4 (k + 1) s x4 (-9223372036854775808) x6 (i : Int) b):=by
   intro b
   rw [racewayref22_Atoi.j4]
   by_cases hb : b = true
   ·rw [if_pos hb]
    exact .inl rfl
   ·rw [if_neg hb,if_pos (by omega),if_pos (by omega),hw]
    split
    ·exact .inl rfl
    ·split
     ·split
      ·exact .inl rfl
      ·exact hrec _ (wrap_bd _)
     ·exact hrec _ (wrap_bd _)
  rw [racewayref22_Atoi.l0,if_pos (by omega),if_pos (by omega)]
  split
  ·exact hj _
  ·exact hj _
theorem ratoi_all (s : ByteArray) (hs : s.size ≤ 1000) (k : Nat) (hk : 2 * s.size + 40 < k) : AtoiAns s (racewayref22_Atoi.f k s):=by
 have hj2 : ∀ (i k : Nat) b,i ≤ s.size → 2 * s.size + 35 < k → AtoiAns s (racewayref22_Atoi.j2 k s (i : Int) b):=by
  intro i k b hi hk
  obtain ⟨k,rfl⟩ : ∃ q,k = q + 1:=⟨k - 1,by omega⟩
  rw [racewayref22_Atoi.j2]
  split
  ·exact .inl rfl
  ·exact ratoi_l0 s _ hs (s.size - i) i k 0 (by omega) (by omega) (by omega)
 have hj1 : ∀ (i k : Nat),i ≤ s.size → 2 * s.size + 36 < k → AtoiAns s (racewayref22_Atoi.j1 k s (i : Int)):=by
  intro i k hi hk
  obtain ⟨k,rfl⟩ : ∃ q,k = q + 1:=⟨k - 1,by omega⟩
  rw [racewayref22_Atoi.j1]
  split
  ·exact hj2 i k _ hi (by omega)
  ·exact hj2 i k _ hi (by omega)
 have hj0 : ∀ b k,(b = true → 1 ≤ s.size) → 2 * s.size + 37 < k → AtoiAns s (racewayref22_Atoi.j0 k s 0 b):=by
  intro b k hb hk
  obtain ⟨k,rfl⟩ : ∃ q,k = q + 1:=⟨k - 1,by omega⟩
  rw [racewayref22_Atoi.j0]
  split
  ·rename_i h
   exact hj1 1 k (hb h) (by omega)
  ·exact hj1 0 k (by omega) (by omega)
 unfold racewayref22_Atoi.f
 by_cases h : (s.size : Int) > 0
 ·rw [if_pos h,if_pos (by omega)]
  exact hj0 _ k (fun _ => by omega) (by omega)
 ·rw [if_neg h]
  exact hj0 _ k (by simp) (by omega)
theorem digVal_ge : ∀ (l : List UInt8) (u v : Nat),digVal u l = some v → u ≤ v
 | [],u,v,h => by simp [digVal] at h;omega
 | c :: l,u,v,h => by
  simp only [digVal] at h
  split at h
  ·have:=digVal_ge l _ v h
   omega
  ·exact absurd h (by simp)
theorem ratoi_dig (s : ByteArray) (hs : s.size ≤ 1000) (v : Nat) (hv : v ≤ 9223372036854775807) : ∀ (d i k u : Nat),i + d = s.size → digVal u (s.data.toList.drop i) = some v → 2 * d + 30 < k →
  racewayref22_Atoi.l0 k s 0 (-9223372036854775808) (-(u : Int)) (i : Int) = (racewayref22_Itoa.f 25 (v : Int)).bind fun t => if t.toList = s.toList then some ((v : Int),0) else some (0,5)
 | d,i,0,_,_,_,hk => by omega
 | 0,i,k + 1,u,hi,hu,hk => by
  rw [List.drop_eq_nil_of_le (by simp;omega)] at hu
  simp [digVal] at hu
  subst hu
  rw [racewayref22_Atoi.l0,if_neg (by omega),if_pos rfl,if_neg (by omega),Int.neg_neg,w64 (by omega) (by omega),ritoa_is _ (by omega) (by omega) k (by omega),ritoa_is _ (by omega) (by omega) 25 (by omega)]
 | d + 1,i,k + 1,u,hi,hu,hk => by
  obtain ⟨k,rfl⟩ : ∃ q,k = q + 1:=⟨k - 1,by omega⟩
  have hw : wrap64 ((i : Int) + 1) = ((i + 1 : Nat) : Int):=by rw [w64 (by omega) (by omega)];omega
  have hilt : i < s.data.toList.length:=by simp;omega
  have hb : bt s (i : Int) = ((s.data.toList[i]).toNat : Int):=by
   rw [q_bt s i (by omega)]
   rfl
  rw [List.drop_eq_getElem_cons hilt] at hu
  simp only [digVal] at hu
  split at hu
  ·rename_i hc
   have hge:=digVal_ge _ _ _ hu
   have hrec:=ratoi_dig s hs v hv d (i + 1) k _ (by omega) hu (by omega)
   rw [racewayref22_Atoi.l0,if_pos (by omega),if_pos (by omega),hb,if_neg (by omega),racewayref22_Atoi.j4,if_neg (by rw [decide_eq_true_iff];omega),if_pos (by omega),if_pos (by omega),hb,hw]
   have e1 : wrap64 (Int.tdiv (-9223372036854775808) 10) = -922337203685477580:=by decide +kernel
   generalize (s.data.toList[i]).toNat = c at *
   have e2 : ((c : Int) - 48) % 256 = ((c - 48 : Nat) : Int):=by omega
   rw [e1,e2,if_neg (by omega)]
   have e3 : wrap64 (wrap64 (10 * -(u : Int)) - ((c - 48 : Nat) : Int)) = -((10 * u + (c - 48) : Nat) : Int):=by
    rw [w64 (x:=10 * -(u : Int)) (by omega) (by omega),w64 (by omega) (by omega)]
    omega
   rw [e3]
   by_cases h9 : -(u : Int) = -922337203685477580
   ·rw [if_pos h9,if_neg (by omega)]
    exact hrec
   ·rw [if_neg h9]
    exact hrec
  ·exact absurd hu (by simp)
theorem ratoi_dec (a : Nat) (h : a ≤ 9223372036854775807) (k : Nat) (hk : 200 < k) : racewayref22_Atoi.f k ⟨(Lib.decDigits a).toArray⟩ = some ((a : Int),0):=by
 obtain ⟨c,r,hc,h1,h2,h3⟩:=dec_head (a + 1) a (by omega)
 have hlen:=dec_len19 a (by omega)
 have hsz : (⟨(Lib.decDigits a).toArray⟩ : ByteArray).size = (Lib.decDigits a).length:=by simp [ByteArray.size]
 have hpos : 1 ≤ (Lib.decDigits a).length:=by rw [hc];simp
 have hb0 : bt ⟨(Lib.decDigits a).toArray⟩ 0 = (c.toNat : Int):=by
  have:=q_bt ⟨(Lib.decDigits a).toArray⟩ 0 (by omega)
  rw [show ((0 : Nat) : Int) = 0 from rfl] at this
  rw [this]
  have e : (⟨(Lib.decDigits a).toArray⟩ : ByteArray)[0]'(by omega) = (Lib.decDigits a)[0]'(by omega):=rfl
  rw [e]
  simp [hc]
 have hv : digVal 0 (Lib.decDigits a) = some a:=dec_val (a + 1) a (by omega)
 have hdig:=ratoi_dig ⟨(Lib.decDigits a).toArray⟩ (by omega) a h (Lib.decDigits a).length 0 (k - 3) 0 (by omega) (by simpa using hv) (by omega)
 have e : Lib.itoa (a : Int) = Lib.decDigits a:=by unfold Lib.itoa;rw [if_neg (by omega),Int.toNat_natCast]
 rw [ritoa_is _ (by omega) (by omega) 25 (by omega),Option.bind_some,e,if_pos rfl] at hdig
 obtain ⟨k,rfl⟩ : ∃ q,k = q + 3:=⟨k - 3,by omega⟩
 rw [Nat.add_sub_cancel] at hdig
 unfold racewayref22_Atoi.f
 rw [if_pos (by omega),if_pos (by omega),hb0,show ((c.toNat : Int) == 45) = false by simp;omega,racewayref22_Atoi.j0,if_neg (by simp),racewayref22_Atoi.j1,if_neg (by omega),racewayref22_Atoi.j2,w64 (by omega) (by omega),if_neg (by simp;omega)]
 exact hdig
theorem runseq_j1 (s : ByteArray) (hs : s.size ≤ 200) (i : Nat) (hi : i ≤ s.size) (k : Nat) (hk : 1000 < k) : ∃ r,racewayref27_Unsequence.j1 k s (i : Int) = some r ∧ SeqAns s r:=by
 obtain ⟨k,rfl⟩ : ∃ q,k = q + 1:=⟨k - 1,by omega⟩
 rw [racewayref27_Unsequence.j1,if_pos (by omega),if_pos (by omega)]
 have hz : (s.extract ((i : Int)).toNat s.size).size ≤ 200:=by rw [ByteArray.size_extract];omega
 rcases ratoi_all (s.extract ((i : Int)).toNat s.size) (by omega) k (by omega) with h|⟨n,h0,h1,_,h⟩
 ·rw [h]
  simp only [Option.bind_some]
  rw [if_neg (by omega)]
  exact ⟨_,rfl,.inl rfl⟩
 ·rw [h]
  simp only [Option.bind_some]
  rw [if_true]
  by_cases hn : n < 0
  ·rw [if_pos hn]
   exact ⟨_,rfl,.inl rfl⟩
  ·rw [if_neg hn,rseq_is n h0 h1 k (by omega),Option.bind_some,if_neg hn]
   by_cases he : (seqB n.toNat).toList = s.toList
   ·rw [if_pos he]
    exact ⟨_,rfl,.inr ⟨n.toNat,by omega,(toList_inj he).symm,by simp;omega⟩⟩
   ·rw [if_neg he]
    exact ⟨_,rfl,.inl rfl⟩
theorem runseq_all (s : ByteArray) (hs : s.size ≤ 200) : ∀ (d i k : Nat),i + d = s.size → 1001 + d < k → ∃ r,racewayref27_Unsequence.l0 k s (i : Int) = some r ∧ SeqAns s r
 | d,i,0,_,hk => by omega
 | 0,i,k + 1,hi,hk => by
  rw [racewayref27_Unsequence.l0,w64 (by omega) (by omega),if_neg (by omega)]
  exact runseq_j1 s hs i (by omega) k (by omega)
 | d + 1,i,k + 1,hi,hk => by
  rw [racewayref27_Unsequence.l0,w64 (by omega) (by omega)]
  by_cases h : (i : Int) + 1 < (s.size : Int)
  ·rw [if_pos h,if_pos (by omega),if_pos (by omega)]
   by_cases hb : bt s (i : Int) = 48
   ·rw [if_pos hb]
    exact runseq_all s hs d (i + 1) k (by omega) (by omega)
   ·rw [if_neg hb]
    exact runseq_j1 s hs i (by omega) k (by omega)
  ·rw [if_neg h]
   exact runseq_j1 s hs i (by omega) k (by omega)
theorem seq_list (a : Nat) (h : a ≤ 9223372036854775807) : (seqB a).data.toList = List.replicate (20 - Lib.nDigits a) 48 ++ Lib.decDigits a:=by
 have hl:=nD_le a h
 show fixD a 20 = _
 rw [← fixD_dec,← fixD_more a (Lib.nDigits a) (Lib.lt_pow_nDigits a) (20 - Lib.nDigits a),show Lib.nDigits a + (20 - Lib.nDigits a) = 20 by omega]
theorem runseq_of (a : Nat) (h : a ≤ 9223372036854775807) : ∀ (d i k : Nat),i + d = 20 - Lib.nDigits a → 1000 + d < k → racewayref27_Unsequence.l0 k (seqB a) (i : Int) = some ((a : Int),0)
 | d,i,0,_,hk => by omega
 | 0,i,k + 1,hi,hk => by
  have hl:=nD_le a h
  have hp:=Lib.nDigits_pos a
  have hz:=seqB_size a
  have hlist:=seq_list a h
  have hlen:=Lib.decDigits_length a
  obtain ⟨k,rfl⟩ : ∃ q,k = q + 1:=⟨k - 1,by omega⟩
  have hex : (seqB a).extract i 20 = ⟨(Lib.decDigits a).toArray⟩:=by
   apply ByteArray.ext
   apply Array.ext'
   have : ((seqB a).extract i 20).data.toList = ((seqB a).data.toList.take 20).drop i:=by simp [List.drop_take,List.extract]
   rw [this,hlist,List.take_of_length_le (by simp;omega),List.drop_append_of_le_length (by simp;omega),List.drop_eq_nil_of_le (by simp;omega),List.nil_append]
  have hj : racewayref27_Unsequence.j1 (k + 1) (seqB a) (i : Int) = some ((a : Int),0):=by
   rw [racewayref27_Unsequence.j1,if_pos (by omega),if_pos (by omega),hz,Int.toNat_natCast,hex,ratoi_dec a h k (by omega)]
   simp only [Option.bind_some]
   have e:=rseq_is (a : Int) (by omega) (by omega) k (by omega)
   rw [if_neg (by omega),Int.toNat_natCast] at e
   rw [if_true,if_neg (by omega),e,Option.bind_some,if_pos rfl]
  rw [racewayref27_Unsequence.l0,w64 (by omega) (by omega),hz]
  by_cases hlt : (i : Int) + 1 < ((20 : Nat) : Int)
  ·rw [if_pos hlt,if_pos (by omega),if_pos (by omega)]
   have hb : ¬ bt (seqB a) (i : Int) = 48:=by
    obtain ⟨c,r,hc,h1,h2,h3⟩:=dec_head (a + 1) a (by omega)
    have hbt : bt (seqB a) (i : Int) = (c.toNat : Int):=by
     rw [q_bt (seqB a) i (by omega)]
     have e : (seqB a)[i]'(by omega) = (seqB a).data.toList[i]'(by simp;omega):=rfl
     rw [e]
     simp only [hlist]
     rw [List.getElem_append_right (by simp;omega)]
     simp only [List.length_replicate]
     have : i - (20 - Lib.nDigits a) = 0:=by omega
     simp [this,hc]
    rw [hbt]
    intro hcc
    have : c = 48:=UInt8.toNat_inj.1 (by show c.toNat = 48;omega)
    have ha:=h3 this
    subst ha
    rw [Lib.nDigits_small (by omega)] at hi
    omega
   rw [if_neg hb]
   exact hj
  ·rw [if_neg hlt]
   exact hj
 | d + 1,i,k + 1,hi,hk => by
  have hl:=nD_le a h
  have hp:=Lib.nDigits_pos a
  have hz:=seqB_size a
  have hlist:=seq_list a h
  have hb : bt (seqB a) (i : Int) = 48:=by
   rw [q_bt (seqB a) i (by omega)]
   have e : (seqB a)[i]'(by omega) = (seqB a).data.toList[i]'(by simp;omega):=rfl
   rw [e]
   simp only [hlist]
   rw [List.getElem_append_left (by simp;omega),List.getElem_replicate]
   rfl
  rw [racewayref27_Unsequence.l0,w64 (by omega) (by omega),hz,if_pos (by omega),if_pos (by omega),if_pos (by omega),if_pos hb]
  exact runseq_of a h d (i + 1) k (by omega) (by omega)
end Go.Proofs.YtedfgkjimnjdpaaDoor.X
namespace Go.Proofs.YtedfgkjimnjdpaaDoor.X
open Go.RowKit Go.Proofs.YtedfgkjimnjdpaaDoorW.PrintWords Go.Proofs.YtedfgkjimnjdpaaDoorW.PrintMore
set_option linter.unusedVariables false
set_option linter.unusedSimpArgs false
def inB (l : ByteArray) (c : Int) : Bool:=decide (0 ≤ Lib.indexByte l.data.toList c.toNat.toUInt8)
def smallB (c : Int) : Bool:=decide (97 ≤ c) && decide (c ≤ 122)
def digitB (c : Int) : Bool:=decide (48 ≤ c) && decide (c ≤ 57)
def largeB (c : Int) : Bool:=decide (65 ≤ c) && decide (c ≤ 90)
def pHost (c : Int) : Bool:=smallB c || digitB c || decide (c = 45) || decide (c = 46)
def pQueue (c : Int) : Bool:=smallB c || digitB c || largeB c || decide (c = 45) || decide (c = 95)
def hostB (s : ByteArray) : Bool:=decide (1 ≤ s.size) && decide (s.size ≤ 63) && allD pHost s s.size 0
def accountB (s : ByteArray) : Bool:=decide (s.size = 12) && allD digitB s s.size 0
def queueB (s : ByteArray) : Bool:=decide (11 ≤ s.size) && decide (s.size ≤ 80) && ((s.extract (s.size - 5) s.size).toList == [46,102,105,102,111]) && allD pQueue s (s.size - 5) 0
theorem only_l0 (s x9 : ByteArray) (hs : s.size ≤ 4611686018427387904) (d : Nat) : ∀ (k i : Nat),i + d = s.size → d < k → ticket_only.l0 k s x9 (s.size : Int) (i : Int) = some (allD (inB x9) s d i):=by
 induction d with
 | zero =>
  intro k i h hk
  obtain ⟨k,rfl⟩ : ∃ m,k = m + 1:=⟨k - 1,by omega⟩
  simp only [ticket_only.l0,allD]
  rw [if_neg (by omega)]
 | succ d ih =>
  intro k i h hk
  obtain ⟨k,rfl⟩ : ∃ m,k = m + 1:=⟨k - 1,by omega⟩
  simp only [ticket_only.l0,allD,strings_IndexByte.f,Option.bind_some]
  rw [if_pos (by omega),if_pos (by omega),if_pos (by omega),w64 (by omega) (by omega),show ((i : Int) + 1) = ((i + 1 : Nat) : Int) by omega,ih k (i + 1) (by omega) (by omega)]
  unfold inB
  by_cases hb : Lib.indexByte x9.data.toList (bt s (i : Int)).toNat.toUInt8 < 0
  ·rw [if_pos hb,decide_eq_false (by omega)];rfl
  ·rw [if_neg hb,decide_eq_true (by omega)];rfl
theorem only_eq (s : ByteArray) (lo hi : Nat) (l : List ByteArray) (j : ByteArray) (hj : strings_Join.f l ⟨#[]⟩ = some j) (hs : s.size ≤ 4611686018427387904) (k : Nat) (hk : s.size + 2 < k) :
  ticket_only.f k s (lo : Int) (hi : Int) l = some (decide (lo ≤ s.size) && decide (s.size ≤ hi) && allD (inB j) s s.size 0):=by
 unfold ticket_only.f
 rw [hj]
 simp only [Option.bind_some]
 obtain ⟨k,rfl⟩ : ∃ m,k = m + 1:=⟨k - 1,by omega⟩
 by_cases h1 : (s.size : Int) < lo
 ·rw [if_pos h1,decide_eq_false (p:=lo ≤ s.size) (by omega)];simp [ticket_only.j0]
 ·rw [if_neg h1,decide_eq_true (p:=lo ≤ s.size) (by omega)]
  by_cases h2 : (s.size : Int) > hi
  ·rw [decide_eq_true (p:=(s.size : Int) > hi) h2,decide_eq_false (p:=s.size ≤ hi) (by omega)];simp [ticket_only.j0]
  ·rw [decide_eq_false (p:=(s.size : Int) > hi) h2,decide_eq_true (p:=s.size ≤ hi) (by omega)]
   simp only [ticket_only.j0,Bool.false_eq_true,if_false,Bool.true_and]
   exact only_l0 s j hs s.size k 0 (by omega) (by omega)
theorem host_join : strings_Join.f [⟨#[97,98,99,100,101,102,103,104,105,106,107,108,109,110,111,112,113,114,115,116,117,118,119,120,121,122]⟩,⟨#[48,49,50,51,52,53,54,55,56,57]⟩,⟨#[45,46]⟩] ⟨#[]⟩ = some ⟨#[97,98,99,100,101,102,103,104,105,106,107,108,109,110,111,112,113,114,115,116,117,118,119,120,121,122,48,49,50,51,52,53,54,55,56,57,45,46]⟩:=by decide +kernel
theorem account_join : strings_Join.f [⟨#[48,49,50,51,52,53,54,55,56,57]⟩] ⟨#[]⟩ = some ⟨#[48,49,50,51,52,53,54,55,56,57]⟩:=by decide +kernel
theorem queue_join : strings_Join.f [⟨#[97,98,99,100,101,102,103,104,105,106,107,108,109,110,111,112,113,114,115,116,117,118,119,120,121,122]⟩,⟨#[65,66,67,68,69,70,71,72,73,74,75,76,77,78,79,80,81,82,83,84,85,86,87,88,89,90]⟩,⟨#[48,49,50,51,52,53,54,55,56,57]⟩,⟨#[45,95]⟩] ⟨#[]⟩ = some ⟨#[97,98,99,100,101,102,103,104,105,106,107,108,109,110,111,112,113,114,115,116,117,118,119,120,121,122,65,66,67,68,69,70,71,72,73,74,75,76,77,78,79,80,81,82,83,84,85,86,87,88,89,90,48,49,50,51,52,53,54,55,56,57,45,95]⟩:=by decide +kernel
theorem host_in (c : Int) (h0 : 0 ≤ c) (h1 : c < 256) : inB ⟨#[97,98,99,100,101,102,103,104,105,106,107,108,109,110,111,112,113,114,115,116,117,118,119,120,121,122,48,49,50,51,52,53,54,55,56,57,45,46]⟩ c = pHost c:=byte_eq (by decide +kernel) c h0 h1
theorem account_in (c : Int) (h0 : 0 ≤ c) (h1 : c < 256) : inB ⟨#[48,49,50,51,52,53,54,55,56,57]⟩ c = digitB c:=byte_eq (by decide +kernel) c h0 h1
theorem queue_in (c : Int) (h0 : 0 ≤ c) (h1 : c < 256) : inB ⟨#[97,98,99,100,101,102,103,104,105,106,107,108,109,110,111,112,113,114,115,116,117,118,119,120,121,122,65,66,67,68,69,70,71,72,73,74,75,76,77,78,79,80,81,82,83,84,85,86,87,88,89,90,48,49,50,51,52,53,54,55,56,57,45,95]⟩ c = pQueue c:=byte_eq (by decide +kernel) c h0 h1
theorem ticket_host_eq (s : ByteArray) (hs : s.size ≤ 4611686018427387904) (k : Nat) (hk : s.size + 2 < k) : ticket_host.f k s = some (hostB s):=by
 unfold ticket_host.f hostB
 have:=only_eq s 1 63 _ _ host_join hs k hk
 rw [show ((1 : Nat) : Int) = 1 from rfl,show ((63 : Nat) : Int) = 63 from rfl] at this
 rw [this,allD_congr host_in]
 rfl
theorem ticket_account_eq (s : ByteArray) (hs : s.size ≤ 4611686018427387904) (k : Nat) (hk : s.size + 2 < k) : ticket_account.f k s = some (accountB s):=by
 unfold ticket_account.f accountB
 have:=only_eq s 12 12 _ _ account_join hs k hk
 rw [show ((12 : Nat) : Int) = 12 from rfl] at this
 rw [this,allD_congr account_in]
 simp only [Option.bind_some]
 congr 2
 by_cases h : s.size = 12
 ·simp [h]
 ·rw [decide_eq_false h,Bool.and_eq_false_iff]
  simp only [decide_eq_false_iff_not]
  omega
theorem hasSuffix_eq (s p : ByteArray) (hs : s.size ≤ 4611686018427387904) : stringslite_HasSuffix.f s p = some (decide (p.size ≤ s.size) && ((s.extract (s.size - p.size) s.size).toList == p.toList)):=by
 unfold stringslite_HasSuffix.f
 by_cases h : p.size ≤ s.size
 ·rw [if_pos (by omega),w64 (by omega) (by omega),if_pos (by omega),if_pos (by omega),decide_eq_true h,show ((s.size : Int) - p.size).toNat = s.size - p.size by omega];rfl
 ·rw [if_neg (by omega),decide_eq_false h];rfl
theorem cutSuffix_eq (s p : ByteArray) (hs : s.size ≤ 4611686018427387904) : strings_CutSuffix.f s p = some (if (decide (p.size ≤ s.size) && ((s.extract (s.size - p.size) s.size).toList == p.toList)) = true then (s.extract 0 (s.size - p.size),true) else (s,false)):=by
 unfold strings_CutSuffix.f stringslite_CutSuffix.f
 rw [hasSuffix_eq s p hs]
 simp only [Option.bind_some]
 by_cases h : (decide (p.size ≤ s.size) && ((s.extract (s.size - p.size) s.size).toList == p.toList)) = true
 ·have h':=h
  rw [Bool.and_eq_true,decide_eq_true_iff] at h'
  rw [if_pos h,if_pos h,w64 (by omega) (by omega),if_pos (by omega),if_pos (by omega),show ((s.size : Int) - p.size).toNat = s.size - p.size by omega];rfl
 ·rw [if_neg h,if_neg h];rfl
theorem bt_cut (s : ByteArray) (n j : Nat) (hn : n ≤ s.size) (hj : j < n) : bt (s.extract 0 n) (j : Int) = bt s (j : Int):=by
 rw [q_bt _ _ (by rw [ByteArray.size_extract];omega),q_bt _ _ (by omega)]
 simp [ByteArray.getElem_extract]
theorem ticket_Queue_eq (s : ByteArray) (hs : s.size ≤ 4611686018427387904) (k : Nat) (hk : s.size + 2 < k) : ticket_Queue.f k s = some (queueB s):=by
 unfold ticket_Queue.f queueB
 rw [cutSuffix_eq s _ hs]
 simp only [Option.bind_some]
 have e5 : (⟨#[46,102,105,102,111]⟩ : ByteArray).size = 5:=rfl
 have el : (⟨#[46,102,105,102,111]⟩ : ByteArray).toList = [46,102,105,102,111]:=by decide +kernel
 rw [e5,el]
 by_cases h : (decide (5 ≤ s.size) && ((s.extract (s.size - 5) s.size).toList == [46,102,105,102,111])) = true
 ·rw [if_pos h]
  rw [Bool.and_eq_true,decide_eq_true_iff] at h
  simp only [if_true]
  rw [h.2,Bool.and_true]
  have hz : (s.extract 0 (s.size - 5)).size = s.size - 5:=by rw [ByteArray.size_extract];omega
  by_cases h80 : s.size ≤ 80
  ·rw [if_pos (by omega)]
   have:=only_eq (s.extract 0 (s.size - 5)) 6 75 _ _ queue_join (by omega) k (by omega)
   rw [show ((6 : Nat) : Int) = 6 from rfl,show ((75 : Nat) : Int) = 75 from rfl] at this
   rw [this,allD_congr queue_in,hz]
   rw [allD_prefix (t:=s) (s.size - 5) 0 (fun j _ h2 => bt_cut s (s.size - 5) j (by omega) (by omega))]
   simp only [Option.bind_some]
   congr 2
   rw [decide_eq_true h80]
   congr 1
   ·rw [decide_eq_decide];omega
   ·rw [decide_eq_true_iff];omega
  ·rw [if_neg (by omega),decide_eq_false h80];simp
 ·rw [if_neg h]
  simp only [Bool.false_eq_true,if_false]
  congr 1
  by_cases h5 : 5 ≤ s.size
  ·rw [decide_eq_true h5,Bool.true_and,Bool.not_eq_true] at h
   rw [h];simp
  ·rw [decide_eq_false (p:=11 ≤ s.size) (by omega)];simp
def putB (b g x y z : ByteArray) : ByteArray × Int:=if hostB x && accountB y && queueB z then (b ++ x ++ g ++ y ++ g ++ z,0) else (⟨#[]⟩,2)
end Go.Proofs.YtedfgkjimnjdpaaDoor.X
namespace Go.Proofs.YtedfgkjimnjdpaaDoor.X
open Go.RowKit Go.Proofs.YtedfgkjimnjdpaaDoorW.PrintWords Go.Proofs.YtedfgkjimnjdpaaDoorW.PrintMore
set_option linter.unusedVariables false
set_option linter.unusedSimpArgs false
theorem ticket_Url_eq (x y z : ByteArray) (hx : x.size ≤ 100000) (hy : y.size ≤ 100000) (hz : z.size ≤ 100000) (k : Nat) (hk : x.size + y.size + z.size + 3 < k) :
  ticket_Url.f k x y z = some (putB ⟨#[104,116,116,112,115,58,47,47]⟩ ⟨#[47]⟩ x y z):=by
 unfold ticket_Url.f putB
 rw [ticket_host_eq x (by omega) k (by omega),ticket_account_eq y (by omega) k (by omega),ticket_Queue_eq z (by omega) k (by omega)]
 simp only [Option.bind_some]
 rw [if_pos (show 8 + x.size ≤ 9223372036854775807 by omega),if_pos (show 8 + x.size + 1 ≤ 9223372036854775807 by omega),if_pos (show 8 + x.size + 1 + y.size ≤ 9223372036854775807 by omega),if_pos (show 8 + x.size + 1 + y.size + 1 ≤ 9223372036854775807 by omega),if_pos (show 8 + x.size + 1 + y.size + 1 + z.size ≤ 9223372036854775807 by omega)]
 cases hostB x <;> cases accountB y <;> cases queueB z <;> simp
theorem seq7 : ticket_Sequence.f 7 = some ⟨#[48,48,48,48,48,48,48,48,48,48,48,48,48,48,48,48,48,48,48,55]⟩:=by
 unfold ticket_Sequence.f basic_Pad.f basic_Itoa.f
 rw [if_pos (by omega)]
 simp only [Option.bind_some]
 rw [if_neg (by omega)]
 simp only [Lib.itoa]
 rw [if_neg (by omega),show (7 : Int).toNat = 7 from rfl,Lib.decDigits_one (by omega)]
 decide +kernel
theorem works_eq (k : Nat) (hk : 100 < k) : racewaylaw27_works.f k = some true:=by
 unfold racewaylaw27_works.f
 rw [ticket_Url_eq _ _ _ (by decide +kernel) (by decide +kernel) (by decide +kernel) k (Nat.lt_of_le_of_lt (by decide +kernel) hk),ticket_Url_eq _ _ _ (by decide +kernel) (by decide +kernel) (by decide +kernel) k (Nat.lt_of_le_of_lt (by decide +kernel) hk),seq7]
 simp only [Option.bind_some]
 decide +kernel
end Go.Proofs.YtedfgkjimnjdpaaDoor.X
namespace Go.Proofs.YtedfgkjimnjdpaaDoor.X
open Go.RowKit Go.Proofs.YtedfgkjimnjdpaaDoorW.PrintWords
set_option linter.unusedVariables false
set_option linter.unusedSimpArgs false
def absorb (ws : List Int) : Nat → List Int → List Int
 | 0,_ => ws
 | k + 1,l => absorb (mixW ws (l.take 64)) k (l.drop 64)
theorem absorb_append (y : List Int) : ∀ (k : Nat) (ws l : List Int),64 * k ≤ l.length → absorb ws k (l ++ y) = absorb ws k l
 | 0,_,_,_ => rfl
 | k + 1,ws,l,h => by
  rw [absorb,absorb,List.take_append_of_le_length (by omega),List.drop_append_of_le_length (by omega)]
  exact absorb_append y k _ _ (by rw [List.length_drop];omega)
theorem absorb_succ : ∀ (k : Nat) (ws l : List Int),absorb ws (k + 1) l = mixW (absorb ws k l) ((l.drop (64 * k)).take 64)
 | 0,ws,l => by simp [absorb]
 | k + 1,ws,l => by
  rw [absorb,absorb_succ k,absorb,List.drop_drop,show 64 + 64 * k = 64 * (k + 1) by omega]
theorem bytes_spec (s : Dg) (hs : s.Ok) : ∀ l : List Int,(s.bytes l).ws = absorb s.ws ((s.n % 64 + l.length) / 64) (s.bl.take (s.n % 64) ++ l) ∧
  (s.bytes l).bl.take ((s.n % 64 + l.length) % 64) = (s.bl.take (s.n % 64) ++ l).drop (64 * ((s.n % 64 + l.length) / 64)):=by
 have hr : s.n % 64 < 64:=Nat.mod_lt _ (by omega)
 have hT : ∀ l : List Int,(s.bl.take (s.n % 64) ++ l).length = s.n % 64 + l.length:=fun l => by rw [List.length_append,List.length_take,hs.2];omega
 have key : ∀ (n : Nat) (l : List Int),l.length = n → (s.bytes l).ws = absorb s.ws ((s.n % 64 + l.length) / 64) (s.bl.take (s.n % 64) ++ l) ∧
  (s.bytes l).bl.take ((s.n % 64 + l.length) % 64) = (s.bl.take (s.n % 64) ++ l).drop (64 * ((s.n % 64 + l.length) / 64)):=by
  intro n
  induction n with
  | zero =>
   intro l hl
   have : l = []:=List.eq_nil_of_length_eq_zero hl
   subst this
   have e : (s.n % 64 + ([] : List Int).length) / 64 = 0:=by simp only [List.length_nil];omega
   have e2 : (s.n % 64 + ([] : List Int).length) % 64 = s.n % 64:=by simp
   rw [e,e2]
   exact ⟨rfl,by simp [Dg.bytes]⟩
  | succ n ih =>
   intro l hl
   obtain ⟨l',x,rfl⟩ : ∃ l' x,l = l' ++ [x]:=by
    have hne : l ≠ []:=by rintro rfl;simp at hl
    exact ⟨l.dropLast,l.getLast hne,(List.dropLast_concat_getLast hne).symm⟩
   have hl' : l'.length = n:=by simpa using hl
   obtain ⟨h1,h2⟩:=ih l' hl'
   have hok:=Dg.bytes_ok hs l'
   have hn:=Dg.bytes_n s l'
   rw [Dg.bytes_snoc]
   have hTl:=hT l'
   rw [← List.append_assoc,List.length_append,List.length_singleton,← Nat.add_assoc]
   generalize s.bytes l' = q at h1 h2 hok hn ⊢
   generalize s.bl.take (s.n % 64) ++ l' = T at h1 h2 hTl ⊢
   have hqn : q.n % 64 = (s.n % 64 + l'.length) % 64:=by rw [hn];omega
   generalize s.n % 64 + l'.length = t at *
   have htk : (q.bl.set (t % 64) x).take (t % 64 + 1) = T.drop (64 * (t / 64)) ++ [x]:=by
    rw [List.take_succ_eq_append_getElem (by rw [List.length_set,hok.2];omega),List.take_set_of_le (by omega),h2]
    simp
   have hdT : (T ++ [x]).drop (64 * (t / 64)) = T.drop (64 * (t / 64)) ++ [x]:=List.drop_append_of_le_length (by omega)
   unfold Dg.byte
   rw [hqn]
   by_cases hz : (t + 1) % 64 = 0
   ·have hz2 : (q.n + 1) % 64 = 0:=by omega
    rw [if_pos hz2]
    have e63 : t % 64 = 63:=by omega
    have ek : (t + 1) / 64 = t / 64 + 1:=by omega
    have hwhole : q.bl.set (t % 64) x = T.drop (64 * (t / 64)) ++ [x]:=by
     rw [← htk,List.take_of_length_le (by rw [List.length_set,hok.2];omega)]
    refine ⟨?_,?_⟩
    ·show mixW q.ws (q.bl.set (t % 64) x) = _
     rw [ek,absorb_succ,absorb_append [x] (t / 64) s.ws T (by omega),← h1,hdT,hwhole]
     rw [List.take_of_length_le (by rw [List.length_append,List.length_drop,List.length_singleton];omega)]
    ·rw [hz,ek,List.take_zero,eq_comm,List.drop_eq_nil_iff,List.length_append,List.length_singleton]
     omega
   ·have hz2 : ¬ (q.n + 1) % 64 = 0:=by omega
    rw [if_neg hz2]
    have ek : (t + 1) / 64 = t / 64:=by omega
    have em : (t + 1) % 64 = t % 64 + 1:=by omega
    refine ⟨?_,?_⟩
    ·show q.ws = _
     rw [ek,absorb_append [x] (t / 64) s.ws T (by omega)]
     exact h1
    ·show (q.bl.set (t % 64) x).take _ = _
     rw [ek,em,htk,hdT]
 intro l
 exact key l.length l rfl
def padL (l : List Int) : List Int:=l ++ 128 :: (List.replicate (dgZ (l.length + 1)) 0 ++ sizeB l.length)
theorem padL_len (l : List Int) : (padL l).length % 64 = 0:=by
 unfold padL dgZ sizeB
 simp only [List.length_append,List.length_cons,List.length_replicate,List.length_map,List.length_range]
 omega
theorem sum_spec (l : List Int) : (dg0.bytes l).sum = outB (absorb dg0.ws ((padL l).length / 64) (padL l)):=by
 have h:=(bytes_spec dg0 dg0_ok (padL l)).1
 have e0 : dg0.n % 64 = 0:=rfl
 rw [e0,List.take_zero,List.nil_append,Nat.zero_add] at h
 rw [← h]
 unfold Dg.sum Dg.fin padL
 have hn : (dg0.bytes l).n = l.length:=by rw [Dg.bytes_n];exact Nat.zero_add _
 rw [hn]
 unfold Dg.bytes
 rw [List.foldl_append,List.foldl_cons,List.foldl_append]
end Go.Proofs.YtedfgkjimnjdpaaDoor.X
namespace Go.Proofs.YtedfgkjimnjdpaaDoor.X
open Go.RowKit Go.Proofs.YtedfgkjimnjdpaaDoorW.PrintWords Go.Proofs.YtedfgkjimnjdpaaDoorW.PrintLast Go.Proofs.YtedfgkjimnjdpaaDoorW.PrintMore
set_option linter.unusedVariables false
set_option linter.unusedSimpArgs false
theorem u64o {x : Int} (h0 : 0 ≤ x) (h1 : x ≤ 18446744073709551615) : IntKind.u64.wrap x = x:=by
 unfold IntKind.wrap
 simp [IntKind.signed,IntKind.bits]
 omega
theorem or_u32 (a b : Nat) (ha : a < 4294967296) (hb : b < 4294967296) : bits .or .u32 (a : Int) (b : Int) = ((a ||| b : Nat) : Int):=by
 have:=(bits_nat .u32 32 (by decide) (fun n h0 h1 => by unfold IntKind.wrap;simp [IntKind.signed,IntKind.bits];omega) a b ha hb)
 exact this.2
theorem bits_or_comm (x y : Int) : bits .or .u32 x y = bits .or .u32 y x:=by
 unfold bits
 simp only
 rw [BitVec.or_comm]
theorem xor_all (x : Int) : bits .xor .u32 x 4294967295 = not32 x:=by
 unfold not32 bits
 simp only
 rw [BitVec.xor_comm]
 rfl
theorem add_or (a b k : Nat) (h : a < 2 ^ k) : (b * 2 ^ k) ||| a = b * 2 ^ k + a:=by
 rw [Nat.mul_comm,← Nat.two_pow_add_eq_or_of_lt h]
theorem wordB_sum (b0 b1 b2 b3 : Nat) (h0 : b0 < 256) (h1 : b1 < 256) (h2 : b2 < 256) (h3 : b3 < 256) : wordB (b0 : Int) (b1 : Int) (b2 : Int) (b3 : Int) = ((b0 * 16777216 + b1 * 65536 + b2 * 256 + b3 : Nat) : Int):=by
 unfold wordB
 have e3 : (b3 : Int) % 4294967296 = ((b3 : Nat) : Int):=by omega
 have e2 : (b2 : Int) % 4294967296 * 256 % 4294967296 = ((b2 * 2 ^ 8 : Nat) : Int):=by omega
 have e1 : (b1 : Int) % 4294967296 * 65536 % 4294967296 = ((b1 * 2 ^ 16 : Nat) : Int):=by omega
 have e0 : (b0 : Int) % 4294967296 * 16777216 % 4294967296 = ((b0 * 2 ^ 24 : Nat) : Int):=by omega
 rw [e0,e1,e2,e3,or_u32 _ _ (by omega) (by omega),add_or (b1 * 2 ^ 16) b0 24 (by omega)]
 rw [show b0 * 2 ^ 24 + b1 * 2 ^ 16 = (b0 * 2 ^ 8 + b1) * 2 ^ 16 by omega,or_u32 _ _ (by omega) (by omega),add_or (b2 * 2 ^ 8) (b0 * 2 ^ 8 + b1) 16 (by omega)]
 rw [show (b0 * 2 ^ 8 + b1) * 2 ^ 16 + b2 * 2 ^ 8 = (b0 * 2 ^ 16 + b1 * 2 ^ 8 + b2) * 2 ^ 8 by omega,or_u32 _ _ (by omega) (by omega),add_or b3 (b0 * 2 ^ 16 + b1 * 2 ^ 8 + b2) 8 (by omega)]
theorem turn_is (x k : Int) (h0 : 0 ≤ k) (h1 : k ≤ 32) : racewayref03_turn.f x k = some (rotr x k):=by
 rw [racewayref03_turn.f,if_pos h0,w64 (by omega) (by omega),if_pos (by omega),bits_or_comm]
 unfold rotr shl shr
 have e : IntKind.u32.bits = 32:=rfl
 rw [e,Nat.min_eq_left (by omega),Nat.min_eq_left (by omega)]
 rfl
theorem pad_l1 (x4 : Int) (hx : 0 ≤ x4 ∧ x4 ≤ 18446744073709551615) : ∀ (j k : Nat) (x3 : List Int),j ≤ 8 → x3.length + j ≤ 1000000010 → j < k → racewayref03_padded.l1 k x3 x4 ((j : Int) - 1) = some (x3 ++ (List.range j).map fun i => x4 / 2 ^ (8 * (j - 1 - i)) % 256)
 | j,0,_,_,_,hk => by omega
 | 0,k + 1,x3,_,_,hk => by
  rw [racewayref03_padded.l1,if_neg (by omega)]
  simp
 | j + 1,k + 1,x3,hj,hl,hk => by
  have e1 : ((j + 1 : Nat) : Int) - 1 = (j : Int):=by omega
  rw [e1,racewayref03_padded.l1,if_pos (by omega),w64 (x:=8 * (j : Int)) (by omega) (by omega),if_pos (by omega),if_pos (by omega),w64 (by omega) (by omega),pad_l1 x4 hx j k _ (by omega) (by simp;omega) (by omega)]
  rw [List.append_assoc,List.range_succ_eq_map,List.map_cons,List.map_map]
  unfold shr
  have e : IntKind.u64.bits = 64:=rfl
  rw [e,Nat.min_eq_left (by omega),show (8 * (j : Int)).toNat = 8 * (j + 1 - 1 - 0) by omega]
  congr 2
  simp only [List.singleton_append,List.cons.injEq,true_and]
  apply List.map_congr_left
  intro i hi
  simp only [Function.comp]
  rw [show j + 1 - 1 - Nat.succ i = j - 1 - i by omega]
theorem pad_l0 (l : List Int) (hl : l.length ≤ 1000000) : ∀ (n j k : Nat),j + n = dgZ (l.length + 1) → n + 12 ≤ k → racewayref03_padded.l0 k l (l ++ 128 :: List.replicate j 0) = some (padL l)
 | n,j,0,hj,hk => by omega
 | 0,j,k + 1,hj,hk => by
  have hf : dgZ (l.length + 1) ≤ 63:=by unfold dgZ;omega
  have hz : (l.length + 1 + dgZ (l.length + 1)) % 64 = 56:=by unfold dgZ;omega
  have hlen : (l ++ 128 :: List.replicate j (0 : Int)).length = l.length + 1 + j:=by simp;omega
  have h:=pad_l1 ((l.length : Int) * 8) (by omega) 8 k (l ++ 128 :: List.replicate j 0) (by omega) (by rw [hlen];omega) (by omega)
  rw [show ((8 : Nat) : Int) - 1 = 7 by omega] at h
  rw [racewayref03_padded.l0,hlen,if_pos (by omega),u64o (x:=(l.length : Int)) (by omega) (by omega),u64o (by omega) (by omega),h,padL,show j = dgZ (l.length + 1) by omega]
  simp [sizeB]
 | n + 1,j,k + 1,hj,hk => by
  have hlen : (l ++ 128 :: List.replicate j (0 : Int)).length = l.length + 1 + j:=by simp;omega
  have hf : dgZ (l.length + 1) ≤ 63:=by unfold dgZ;omega
  have hz : ¬ (l.length + 1 + j) % 64 = 56:=by unfold dgZ at hj;omega
  rw [racewayref03_padded.l0,hlen,if_neg (by omega),if_pos (by omega)]
  have e : (l ++ 128 :: List.replicate j (0 : Int)) ++ [0] = l ++ 128 :: List.replicate (j + 1) 0:=by rw [List.replicate_succ',List.append_assoc];rfl
  rw [e]
  exact pad_l0 l hl n (j + 1) k (by omega) (by omega)
theorem padded_is (l : List Int) (hl : l.length ≤ 1000000) (k : Nat) (hk : 100 ≤ k) : racewayref03_padded.f k l = some (padL l):=by
 have h:=pad_l0 l hl (dgZ (l.length + 1)) 0 k (by omega) (by unfold dgZ;omega)
 rw [racewayref03_padded.f,Option.bind_some,List.nil_append,if_pos (by simp;omega),Option.bind_some,if_pos (by omega)]
 exact h
theorem rounds_is : racewayref03_rounds.f = some roundsL:=rfl
theorem rd_nat (l : List Int) (i : Nat) : rd l (i : Int) = l.getD i 0:=by unfold rd;rw [Int.toNat_natCast]
set_option maxHeartbeats 4000000 in
theorem sched_l1 (bl : List Int) : ∀ (n i k : Nat),i + n = 64 → 16 ≤ i → n < k → racewayref03_schedule.l1 k (dgS bl i) (i : Int) = some (dgS bl 64)
 | n,i,0,_,_,hk => by omega
 | 0,i,k + 1,hi,_,hk => by
  have : i = 64:=by omega
  subst this
  rw [racewayref03_schedule.l1,if_neg (by decide)]
 | n + 1,i,k + 1,hi,h16,hk => by
  have hlen:=dgS_len bl i
  have hrec:=sched_l1 bl n (i + 1) k (by omega) (by omega) (by omega)
  have c0 : (i : Int) < 64:=by omega
  have p15 : 0 ≤ ((i - 15 : Nat) : Int):=by omega
  have q15 : ((i - 15 : Nat) : Int) < ((dgS bl i).length : Int):=by omega
  have p2 : 0 ≤ ((i - 2 : Nat) : Int):=by omega
  have q2 : ((i - 2 : Nat) : Int) < ((dgS bl i).length : Int):=by omega
  have p16 : 0 ≤ ((i - 16 : Nat) : Int):=by omega
  have q16 : ((i - 16 : Nat) : Int) < ((dgS bl i).length : Int):=by omega
  have p7 : 0 ≤ ((i - 7 : Nat) : Int):=by omega
  have q7 : ((i - 7 : Nat) : Int) < ((dgS bl i).length : Int):=by omega
  have ql : (dgS bl i).length < 35184372088832:=by omega
  rw [racewayref03_schedule.l1,if_pos c0]
  rw [show wrap64 ((i : Int) - 15) = ((i - 15 : Nat) : Int) by rw [w64 (by omega) (by omega)];omega,show wrap64 ((i : Int) - 2) = ((i - 2 : Nat) : Int) by rw [w64 (by omega) (by omega)];omega,show wrap64 ((i : Int) - 16) = ((i - 16 : Nat) : Int) by rw [w64 (by omega) (by omega)];omega,show wrap64 ((i : Int) - 7) = ((i - 7 : Nat) : Int) by rw [w64 (by omega) (by omega)];omega,show wrap64 ((i : Int) + 1) = ((i + 1 : Nat) : Int) by rw [w64 (by omega) (by omega)];omega]
  rw [if_pos p15,if_pos q15,turn_is _ _ (by decide) (by decide),Option.bind_some,turn_is _ _ (by decide) (by decide),Option.bind_some,if_pos p2,if_pos q2,turn_is _ _ (by decide) (by decide),Option.bind_some,turn_is _ _ (by decide) (by decide),Option.bind_some,
   if_pos p16,if_pos q16,if_pos p7,if_pos q7,if_pos ql,rd_nat,rd_nat,rd_nat,rd_nat]
  have hnext : dgS bl (i + 1) = dgS bl i ++ [dgMore ((dgS bl i).getD (i - 16) 0) ((dgS bl i).getD (i - 7) 0) ((dgS bl i).getD (i - 15) 0) ((dgS bl i).getD (i - 2) 0)]:=by
   rw [dgS]
   unfold dgNext
   rw [if_neg (by omega)]
  rw [hnext] at hrec
  unfold dgMore sgA sgB at hrec
  generalize (dgS bl i).getD (i - 16) 0 = a at *
  generalize (dgS bl i).getD (i - 7) 0 = b at *
  generalize (dgS bl i).getD (i - 15) 0 = c at *
  generalize (dgS bl i).getD (i - 2) 0 = d at *
  generalize bits .xor .u32 (bits .xor .u32 (rotr c 7) (rotr c 18)) (c / 8) = A at *
  generalize bits .xor .u32 (bits .xor .u32 (rotr d 17) (rotr d 19)) (d / 1024) = B at *
  rw [show (((a + A) % 4294967296 + b) % 4294967296 + B) % 4294967296 = (a + b + A + B) % 4294967296 by omega]
  exact hrec
theorem sched_l0 (bl : List Int) (hl : bl.length = 64) (hb : ∀ x ∈ bl,0 ≤ x ∧ x < 256) : ∀ (n i k : Nat),i + n = 16 → n + 60 < k → racewayref03_schedule.l0 k bl (dgS bl i) (i : Int) = some (dgS bl 64)
 | n,i,0,_,hk => by omega
 | 0,i,k + 1,hi,hk => by
  have : i = 16:=by omega
  subst this
  rw [racewayref03_schedule.l0,if_neg (by decide)]
  exact sched_l1 bl 48 16 k (by omega) (by omega) (by omega)
 | n + 1,i,k + 1,hi,hk => by
  have hlen:=dgS_len bl i
  have hrec:=sched_l0 bl hl hb n (i + 1) k (by omega) (by omega)
  have r : ∀ j,j < 64 → ∃ n : Nat,bl.getD j 0 = (n : Int) ∧ n < 256:=by
   intro j hj
   rw [List.getD_eq_getElem?_getD,List.getElem?_eq_getElem (show j < bl.length by omega)]
   have:=hb _ (List.getElem_mem (show j < bl.length by omega))
   exact ⟨(bl[j]).toNat,by simp only [Option.getD_some];omega,by omega⟩
  obtain ⟨n0,h0,l0⟩:=r (4 * i) (by omega)
  obtain ⟨n1,h1,l1⟩:=r (4 * i + 1) (by omega)
  obtain ⟨n2,h2,l2⟩:=r (4 * i + 2) (by omega)
  obtain ⟨n3,h3,l3⟩:=r (4 * i + 3) (by omega)
  have c0 : (i : Int) < 16:=by omega
  have p0 : 0 ≤ ((4 * i : Nat) : Int):=by omega
  have q0 : ((4 * i : Nat) : Int) < (bl.length : Int):=by omega
  have p1 : 0 ≤ ((4 * i + 1 : Nat) : Int):=by omega
  have q1 : ((4 * i + 1 : Nat) : Int) < (bl.length : Int):=by omega
  have p2 : 0 ≤ ((4 * i + 2 : Nat) : Int):=by omega
  have q2 : ((4 * i + 2 : Nat) : Int) < (bl.length : Int):=by omega
  have p3 : 0 ≤ ((4 * i + 3 : Nat) : Int):=by omega
  have q3 : ((4 * i + 3 : Nat) : Int) < (bl.length : Int):=by omega
  have ql : (dgS bl i).length < 35184372088832:=by omega
  rw [racewayref03_schedule.l0,if_pos c0]
  rw [show wrap64 (4 * (i : Int)) = ((4 * i : Nat) : Int) by rw [w64 (by omega) (by omega)];omega,show wrap64 (((4 * i : Nat) : Int) + 1) = ((4 * i + 1 : Nat) : Int) by rw [w64 (by omega) (by omega)];omega,show wrap64 (((4 * i : Nat) : Int) + 2) = ((4 * i + 2 : Nat) : Int) by rw [w64 (by omega) (by omega)];omega,show wrap64 (((4 * i : Nat) : Int) + 3) = ((4 * i + 3 : Nat) : Int) by rw [w64 (by omega) (by omega)];omega,show wrap64 ((i : Int) + 1) = ((i + 1 : Nat) : Int) by rw [w64 (by omega) (by omega)];omega]
  rw [if_pos p0,if_pos q0,if_pos p1,if_pos q1,if_pos p2,if_pos q2,if_pos p3,if_pos q3,if_pos ql,rd_nat,rd_nat,rd_nat,rd_nat]
  have hnext : dgS bl (i + 1) = dgS bl i ++ [dgWord bl i]:=by
   rw [dgS]
   unfold dgNext
   rw [if_pos (by omega)]
  rw [hnext] at hrec
  unfold dgWord at hrec
  rw [h0,h1,h2,h3] at hrec ⊢
  rw [wordB_sum n0 n1 n2 n3 l0 l1 l2 l3] at hrec
  rw [← hrec]
  congr 3
  omega
theorem sched_is (bl : List Int) (hl : bl.length = 64) (hb : ∀ x ∈ bl,0 ≤ x ∧ x < 256) (k : Nat) (hk : 100 < k) : racewayref03_schedule.f k bl = some (dgS bl 64) :=
 sched_l0 bl hl hb 16 0 k (by omega) (by omega)
set_option maxHeartbeats 4000000 in
theorem of_l1 (x3 x5 x7 : List Int) (x6 : Int) (h7 : x7.length = 64) : ∀ (n i k : Nat) (v : List Int),i + n = 64 → v.length = 8 → n < k → racewayref03_Of.l1 k x3 roundsL x5 x6 x7 (dgRun x7 v i) (i : Int) = racewayref03_Of.l2 (k - n - 1) x3 roundsL x5 x6 (dgRun x7 v 64) 0
 | n,i,0,_,_,_,hk => by omega
 | 0,i,k + 1,v,hi,hv,hk => by
  have : i = 64:=by omega
  subst this
  rw [racewayref03_Of.l1,if_neg (by decide)]
  rfl
 | n + 1,i,k + 1,v,hi,hv,hk => by
  obtain ⟨a,b,c,d,e,f,g,h,hr⟩:=eight_of (dgRun_len x7 v hv i)
  have e1 : wrap64 ((i : Int) + 1) = ((i + 1 : Nat) : Int):=by rw [w64 (by omega) (by omega)];omega
  have hlr : roundsL.length = 64:=rfl
  have hrec:=of_l1 x3 x5 x7 x6 h7 n (i + 1) k v (by omega) hv (by omega)
  rw [dgRun,hr] at hrec
  rw [hr]
  have r0 : rd [a,b,c,d,e,f,g,h] 0 = a:=rfl
  have r1 : rd [a,b,c,d,e,f,g,h] 1 = b:=rfl
  have r2 : rd [a,b,c,d,e,f,g,h] 2 = c:=rfl
  have r3 : rd [a,b,c,d,e,f,g,h] 3 = d:=rfl
  have r4 : rd [a,b,c,d,e,f,g,h] 4 = e:=rfl
  have r5 : rd [a,b,c,d,e,f,g,h] 5 = f:=rfl
  have r6 : rd [a,b,c,d,e,f,g,h] 6 = g:=rfl
  have r7 : rd [a,b,c,d,e,f,g,h] 7 = h:=rfl
  have hl8 : (([a,b,c,d,e,f,g,h] : List Int).length : Int) = 8:=rfl
  rw [racewayref03_Of.l1,if_pos (by omega),hl8,if_pos (by omega),if_pos (by omega),if_pos (by omega),if_pos (by omega),if_pos (by omega),if_pos (by omega),if_pos (by omega),r0,r1,r2,r3,r4,r5,r6,r7,
   turn_is _ _ (by decide) (by decide),Option.bind_some,turn_is _ _ (by decide) (by decide),Option.bind_some,turn_is _ _ (by decide) (by decide),Option.bind_some,if_pos (by omega),if_pos (by omega),if_pos (by omega),
   turn_is _ _ (by decide) (by decide),Option.bind_some,turn_is _ _ (by decide) (by decide),Option.bind_some,turn_is _ _ (by decide) (by decide),Option.bind_some,if_pos (by omega),e1,rd_nat,rd_nat,xor_all]
  rw [show k + 1 - (n + 1) - 1 = k - n - 1 by omega,← hrec]
  congr 1
  have hst : dgStep x7 i [a,b,c,d,e,f,g,h] = [(dgT e f g h (roundsL.getD i 0) (x7.getD i 0) + dgU a b c) % 4294967296,a,b,c,(d + dgT e f g h (roundsL.getD i 0) (x7.getD i 0)) % 4294967296,e,f,g]:=rfl
  rw [hst]
  unfold dgT dgU sumA sumB
  generalize bits .xor .u32 (bits .xor .u32 (rotr e 6) (rotr e 11)) (rotr e 25) = A
  generalize bits .xor .u32 (bits .xor .u32 (rotr a 2) (rotr a 13)) (rotr a 22) = B
  generalize bits .xor .u32 (bits .and .u32 e f) (bits .and .u32 (not32 e) g) = C
  generalize bits .xor .u32 (bits .xor .u32 (bits .and .u32 a b) (bits .and .u32 a c)) (bits .and .u32 b c) = D
  generalize roundsL.getD i 0 = R
  generalize x7.getD i 0 = S
  simp only [List.cons.injEq,and_true,true_and]
  refine ⟨?_,?_⟩ <;> omega
theorem of_l2 (x5 v : List Int) (x6 : Int) (hv : v.length = 8) (x : List Int) (hx : x.length = 8) : ∀ (n i k : Nat),i + n = 8 → n < k → racewayref03_Of.l2 k (addP x v i) roundsL x5 x6 v (i : Int) = racewayref03_Of.l0 (k - n - 1) (addW x v) roundsL x5 (wrap64 (x6 + 64))
 | n,i,0,_,hk => by omega
 | 0,i,k + 1,hi,hk => by
  have : i = 8:=by omega
  subst this
  have e : addP x v 8 = addW x v:=by unfold addP;rw [List.take_of_length_le (by rw [addW_len x v hx hv];omega),List.drop_eq_nil_of_le (by omega),List.append_nil]
  rw [racewayref03_Of.l2,if_neg (by decide),e]
  rfl
 | n + 1,i,k + 1,hi,hk => by
  have e1 : wrap64 ((i : Int) + 1) = ((i + 1 : Nat) : Int):=by rw [w64 (by omega) (by omega)];omega
  have hl:=addP_len x v hx hv i (by omega)
  rw [racewayref03_Of.l2,if_pos (by omega),if_pos (by omega),if_pos (by omega),if_pos (by omega),e1,rd_nat,rd_nat,Int.toNat_natCast,addP_at x v hx hv i (by omega),addP_set x v hx hv i (by omega),of_l2 x5 v x6 hv x hx n (i + 1) k (by omega) (by omega)]
  rw [show k + 1 - (n + 1) - 1 = k - n - 1 by omega]
theorem of_l3 (x : List Int) (hx : x.length = 8) : ∀ (n i k : Nat),i + n = 8 → n < k → racewayref03_Of.l3 k x (outB (x.take i)) (i : Int) = some (outB x)
 | n,i,0,_,hk => by omega
 | 0,i,k + 1,hi,hk => by
  have : i = 8:=by omega
  subst this
  rw [racewayref03_Of.l3,if_neg (by decide),List.take_of_length_le (by omega)]
 | n + 1,i,k + 1,hi,hk => by
  have e1 : wrap64 ((i : Int) + 1) = ((i + 1 : Nat) : Int):=by rw [w64 (by omega) (by omega)];omega
  have hlen : (outB (x.take i)).length ≤ 32:=by
   obtain ⟨a,b,c,d,e,f,g,h,rfl⟩:=eight_of hx
   rcases (show i = 0 ∨ i = 1 ∨ i = 2 ∨ i = 3 ∨ i = 4 ∨ i = 5 ∨ i = 6 ∨ i = 7 by omega) with rfl|rfl|rfl|rfl|rfl|rfl|rfl|rfl <;> simp [outB]
  have hnext : outB (x.take i) ++ [x.getD i 0 / 16777216 % 256,x.getD i 0 / 65536 % 256,x.getD i 0 / 256 % 256,x.getD i 0 % 256] = outB (x.take (i + 1)):=by
   rw [List.take_add_one,List.getD_eq_getElem?_getD,List.getElem?_eq_getElem (show i < x.length by omega)]
   simp only [Option.toList_some,Option.getD_some,outB,List.flatMap_append,List.flatMap_cons,List.flatMap_nil,List.append_nil]
  rw [racewayref03_Of.l3,if_pos (by omega),if_pos (by omega),if_pos (by omega),Option.bind_some,if_pos (by simp;omega),e1,rd_nat,hnext]
  exact of_l3 x hx n (i + 1) k (by omega) (by omega)
theorem of_l0 (all : List Int) (hb : ∀ x ∈ all,0 ≤ x ∧ x < 256) (hl : all.length ≤ 1000000) : ∀ (n p : Nat) (h : List Int) (k : Nat),h.length = 8 → p + 64 * n = all.length → 200 * n + 200 < k → racewayref03_Of.l0 k h roundsL all (p : Int) = some (outB (absorb h n (all.drop p)))
 | n,p,h,0,_,_,hk => by omega
 | 0,p,h,k + 1,hh,hp,hk => by
  rw [racewayref03_Of.l0,if_neg (by omega)]
  exact of_l3 h hh 8 0 k (by omega) (by omega)
 | n + 1,p,h,k + 1,hh,hp,hk => by
  have e64 : wrap64 ((p : Int) + 64) = ((p + 64 : Nat) : Int):=by rw [w64 (by omega) (by omega)];omega
  have hcut : (all.take (p + 64)).drop p = (all.drop p).take 64:=by rw [List.drop_take];congr 1;omega
  have hbl : ((all.drop p).take 64).length = 64:=by rw [List.length_take,List.length_drop];omega
  have hbb : ∀ x ∈ (all.drop p).take 64,0 ≤ x ∧ x < 256:=fun x hx => hb x (List.mem_of_mem_drop (List.mem_of_mem_take hx))
  rw [racewayref03_Of.l0,if_pos (by omega),if_pos (by omega),e64,if_pos (by omega),if_pos (by omega),Int.toNat_natCast,Int.toNat_natCast,hcut,sched_is _ hbl hbb k (by omega),Option.bind_some,Option.bind_some,List.nil_append,if_pos (by simp;omega)]
  have ea : absorb h (n + 1) (all.drop p) = absorb (mixW h ((all.drop p).take 64)) n (all.drop (p + 64)):=by
   rw [absorb,List.drop_drop]
  rw [ea]
  generalize (all.drop p).take 64 = bl at *
  have h1:=of_l1 h all (dgS bl 64) (p : Int) (dgS_len bl 64) 64 0 k h (by omega) hh (by omega)
  have h2:=of_l2 all (dgRun (dgS bl 64) h 64) (p : Int) (dgRun_len _ _ hh 64) h hh 8 0 (k - 64 - 1) (by omega) (by omega)
  have ep : addP h (dgRun (dgS bl 64) h 64) 0 = h:=by unfold addP;simp
  rw [ep,e64] at h2
  refine Eq.trans (b:=_) h1 (Eq.trans (b:=_) h2 ?_)
  exact of_l0 all hb hl n (p + 64) (mixW h bl) (k - 64 - 1 - 8 - 1) (mixW_len h bl hh) (by omega) (by omega)
theorem padL_bytes (l : List Int) (hb : ∀ x ∈ l,0 ≤ x ∧ x < 256) : ∀ x ∈ padL l,0 ≤ x ∧ x < 256:=by
 intro x hx
 unfold padL at hx
 simp only [List.mem_append,List.mem_cons,List.mem_replicate] at hx
 rcases hx with hx|rfl|⟨_,rfl⟩|hx
 ·exact hb x hx
 ·decide
 ·decide
 ·unfold sizeB at hx
  simp only [List.mem_map] at hx
  obtain ⟨i,_,rfl⟩:=hx
  omega
theorem Of_is (l : List Int) (hb : ∀ x ∈ l,0 ≤ x ∧ x < 256) (hl : l.length ≤ 900000) (k : Nat) (hk : 4000000 ≤ k) : racewayref03_Of.f k l = some ((dg0.bytes l).sum):=by
 have hp:=padL_len l
 have hlen : (padL l).length ≤ l.length + 200:=by
  have hf : dgZ (l.length + 1) ≤ 63:=by unfold dgZ;omega
  unfold padL sizeB
  simp
  omega
 rw [racewayref03_Of.f,rounds_is,Option.bind_some,padded_is l (by omega) k (by omega),Option.bind_some]
 have h:=of_l0 (padL l) (padL_bytes l hb) (by omega) ((padL l).length / 64) 0 [1779033703,3144134277,1013904242,2773480762,1359893119,2600822924,528734635,1541459225] k rfl (by omega) (by omega)
 rw [sum_spec]
 exact h
end Go.Proofs.YtedfgkjimnjdpaaDoor.X
namespace Go.Proofs.YtedfgkjimnjdpaaDoor.X
open Go.RowKit Go.Proofs.YtedfgkjimnjdpaaDoorW.PrintWords Go.Proofs.YtedfgkjimnjdpaaDoorW.PrintLast Go.Proofs.YtedfgkjimnjdpaaDoorW.PrintMore
set_option linter.unusedVariables false
set_option linter.unusedSimpArgs false
theorem son_app (a b : List Int) : strOfNums a ++ strOfNums b = strOfNums (a ++ b):=by
 unfold strOfNums
 apply ByteArray.ext
 simp
theorem son_size (a : List Int) : (strOfNums a).size = a.length:=by
 rw [← ByteArray.size_data]
 unfold strOfNums
 simp
theorem hex_one : ∀ n : Nat,n < 16 → (⟨#[48,49,50,51,52,53,54,55,56,57,97,98,99,100,101,102]⟩ : ByteArray).extract n (n + 1) = strOfNums [hexD n]:=by decide +kernel
theorem hx_div (m : Nat) (h : m < 256) : wrap64 (Int.tdiv (wrap64 (m : Int)) 16) = ((m / 16 : Nat) : Int):=by
 have e : wrap64 (m : Int) = (m : Int):=w64 (by omega) (by omega)
 rw [e,Int.tdiv_eq_ediv_of_nonneg (by omega),w64 (by omega) (by omega)]
 rfl
theorem hx_mod (m : Nat) (h : m < 256) : Int.tmod (wrap64 (m : Int)) 16 = ((m % 16 : Nat) : Int):=by
 have e : wrap64 (m : Int) = (m : Int):=w64 (by omega) (by omega)
 rw [e,Int.tmod_eq_emod_of_nonneg (by omega)]
 rfl
theorem hx_suc (m : Nat) (h : m < 256) : wrap64 ((m : Int) + 1) = ((m + 1 : Nat) : Int):=w64 (by omega) (by omega)
theorem hx_i (i : Nat) (h : i < 10000000) : wrap64 ((i : Int) + 1) = ((i + 1 : Nat) : Int):=w64 (by omega) (by omega)
set_option maxHeartbeats 4000000 in
theorem hex_l0 (l : List Int) (hb : ∀ x ∈ l,0 ≤ x ∧ x < 256) (hl : l.length ≤ 1000000) : ∀ (n i k : Nat),i + n = l.length → n + 1 ≤ k → racewayref22_Hex.l0 k l (strOfNums (hexL (l.take i))) (i : Int) = some (strOfNums (hexL l))
 | n,i,0,hi,hk => by omega
 | 0,i,k + 1,hi,hk => by
  rw [racewayref22_Hex.l0,if_neg (by omega),List.take_of_length_le (by omega)]
 | n + 1,i,k + 1,hi,hk => by
  have hlt : i < l.length:=by omega
  obtain ⟨x,hx⟩ : ∃ x,x = l.getD i 0:=⟨_,rfl⟩
  have hxe : l[i]'hlt = x:=by rw [hx,List.getD_eq_getElem?_getD,List.getElem?_eq_getElem hlt];rfl
  obtain ⟨x0,x1⟩:=hb _ (List.getElem_mem hlt)
  rw [hxe] at x0 x1
  have hrd : rd l (i : Int) = x:=by unfold rd;rw [Int.toNat_natCast,hx]
  obtain ⟨m,rfl⟩ : ∃ m : Nat,x = m:=⟨x.toNat,by omega⟩
  have b0 : m < 256:=by omega
  have b1 : m / 16 < 16:=by omega
  have b2 : m % 16 < 16:=by omega
  have b3 : i < 10000000:=by omega
  have g1 : (i : Int) < (l.length : Int):=by omega
  have g2 : (0 : Int) ≤ (i : Int):=by omega
  have g3 : (0 : Int) ≤ ((m / 16 : Nat) : Int):=by omega
  have g4 : ((m / 16 : Nat) : Int) ≤ ((m / 16 + 1 : Nat) : Int):=by omega
  have g5 : ((m / 16 + 1 : Nat) : Int) ≤ 16:=by omega
  have g6 : (0 : Int) ≤ ((m % 16 : Nat) : Int):=by omega
  have g7 : ((m % 16 : Nat) : Int) ≤ ((m % 16 + 1 : Nat) : Int):=by omega
  have g8 : ((m % 16 + 1 : Nat) : Int) ≤ 16:=by omega
  have ih:=hex_l0 l hb hl n (i + 1) k (by omega) (by omega)
  have hlen : (hexL (l.take i)).length ≤ 2000000:=by rw [hexL_len,List.length_take];omega
  have e : (strOfNums (hexL (l.take i)) ++ strOfNums [hexD (m / 16)]) ++ strOfNums [hexD (m % 16)] = strOfNums (hexL (l.take (i + 1))):=by
   rw [son_app,son_app,List.take_add_one,List.getElem?_eq_getElem hlt,hxe]
   show _ = strOfNums (hexL (l.take i ++ [(m : Int)]))
   rw [hexL_snoc,List.append_assoc]
   congr 2
  rw [racewayref22_Hex.l0,if_pos g1,if_pos g2,hrd,hx_div m b0,hx_mod m b0,hx_suc (m / 16) (Nat.lt_trans b1 (by decide)),hx_suc (m % 16) (Nat.lt_trans b2 (by decide)),if_pos g3,if_pos g4,if_pos g5]
  simp only [Int.toNat_natCast]
  rw [hex_one _ b1,hex_one _ b2,e,son_size,son_size,son_size,if_pos (by clear hrd ih;simp only [List.length_cons,List.length_nil];omega),if_pos g6,if_pos g7,if_pos g8,if_pos (by clear hrd ih;simp only [List.length_cons,List.length_nil];omega),hx_i i b3]
  exact ih
theorem Hex_is (l : List Int) (hb : ∀ x ∈ l,0 ≤ x ∧ x < 256) (hl : l.length ≤ 1000000) (k : Nat) (hk : l.length + 1 ≤ k) : racewayref22_Hex.f k l = some (strOfNums (hexL l)):=by
 rw [racewayref22_Hex.f]
 exact hex_l0 l hb hl l.length 0 k (by omega) hk
theorem bytesOf_byte (b : ByteArray) : ∀ x ∈ bytesOf b,0 ≤ x ∧ x < 256:=by
 intro x hx
 unfold bytesOf at hx
 simp only [List.mem_map] at hx
 obtain ⟨c,_,rfl⟩:=hx
 have:=UInt8.toNat_lt c
 omega
theorem ex_list (a : ByteArray) (i j : Nat) : (a.extract i j).data.toList = (a.data.toList.take j).drop i:=by
 simp [List.drop_take,List.extract]
theorem ba_ext {a b : ByteArray} (h : a.data.toList = b.data.toList) : a = b:=by
 apply ByteArray.ext
 exact Array.ext' h
theorem ba_app (a b : ByteArray) : (a ++ b).data.toList = a.data.toList ++ b.data.toList:=by rw [ByteArray.data_append,Array.toList_append]
theorem uncons {n : Nat} {L : List UInt8} (h : n + 1 ≤ L.length) : ∃ c r,L = c :: r ∧ n ≤ r.length:=by
 cases L with
 | nil => simp at h
 | cons c r => exact ⟨c,r,rfl,by simpa using h⟩
theorem len32 (L : List UInt8) (h : 32 ≤ L.length) : ∃ c0 c1 c2 c3 c4 c5 c6 c7 c8 c9 c10 c11 c12 c13 c14 c15 c16 c17 c18 c19 c20 c21 c22 c23 c24 c25 c26 c27 c28 c29 c30 c31 r,L = c0 :: c1 :: c2 :: c3 :: c4 :: c5 :: c6 :: c7 :: c8 :: c9 :: c10 :: c11 :: c12 :: c13 :: c14 :: c15 :: c16 :: c17 :: c18 :: c19 :: c20 :: c21 :: c22 :: c23 :: c24 :: c25 :: c26 :: c27 :: c28 :: c29 :: c30 :: c31 :: r:=by
 obtain ⟨c0,L0,e0,h0⟩:=uncons (n:=31) (L:=L) h
 obtain ⟨c1,L1,e1,h1⟩:=uncons (n:=30) (L:=L0) h0
 obtain ⟨c2,L2,e2,h2⟩:=uncons (n:=29) (L:=L1) h1
 obtain ⟨c3,L3,e3,h3⟩:=uncons (n:=28) (L:=L2) h2
 obtain ⟨c4,L4,e4,h4⟩:=uncons (n:=27) (L:=L3) h3
 obtain ⟨c5,L5,e5,h5⟩:=uncons (n:=26) (L:=L4) h4
 obtain ⟨c6,L6,e6,h6⟩:=uncons (n:=25) (L:=L5) h5
 obtain ⟨c7,L7,e7,h7⟩:=uncons (n:=24) (L:=L6) h6
 obtain ⟨c8,L8,e8,h8⟩:=uncons (n:=23) (L:=L7) h7
 obtain ⟨c9,L9,e9,h9⟩:=uncons (n:=22) (L:=L8) h8
 obtain ⟨c10,L10,e10,h10⟩:=uncons (n:=21) (L:=L9) h9
 obtain ⟨c11,L11,e11,h11⟩:=uncons (n:=20) (L:=L10) h10
 obtain ⟨c12,L12,e12,h12⟩:=uncons (n:=19) (L:=L11) h11
 obtain ⟨c13,L13,e13,h13⟩:=uncons (n:=18) (L:=L12) h12
 obtain ⟨c14,L14,e14,h14⟩:=uncons (n:=17) (L:=L13) h13
 obtain ⟨c15,L15,e15,h15⟩:=uncons (n:=16) (L:=L14) h14
 obtain ⟨c16,L16,e16,h16⟩:=uncons (n:=15) (L:=L15) h15
 obtain ⟨c17,L17,e17,h17⟩:=uncons (n:=14) (L:=L16) h16
 obtain ⟨c18,L18,e18,h18⟩:=uncons (n:=13) (L:=L17) h17
 obtain ⟨c19,L19,e19,h19⟩:=uncons (n:=12) (L:=L18) h18
 obtain ⟨c20,L20,e20,h20⟩:=uncons (n:=11) (L:=L19) h19
 obtain ⟨c21,L21,e21,h21⟩:=uncons (n:=10) (L:=L20) h20
 obtain ⟨c22,L22,e22,h22⟩:=uncons (n:=9) (L:=L21) h21
 obtain ⟨c23,L23,e23,h23⟩:=uncons (n:=8) (L:=L22) h22
 obtain ⟨c24,L24,e24,h24⟩:=uncons (n:=7) (L:=L23) h23
 obtain ⟨c25,L25,e25,h25⟩:=uncons (n:=6) (L:=L24) h24
 obtain ⟨c26,L26,e26,h26⟩:=uncons (n:=5) (L:=L25) h25
 obtain ⟨c27,L27,e27,h27⟩:=uncons (n:=4) (L:=L26) h26
 obtain ⟨c28,L28,e28,h28⟩:=uncons (n:=3) (L:=L27) h27
 obtain ⟨c29,L29,e29,h29⟩:=uncons (n:=2) (L:=L28) h28
 obtain ⟨c30,L30,e30,h30⟩:=uncons (n:=1) (L:=L29) h29
 obtain ⟨c31,L31,e31,h31⟩:=uncons (n:=0) (L:=L30) h30
 exact ⟨c0,c1,c2,c3,c4,c5,c6,c7,c8,c9,c10,c11,c12,c13,c14,c15,c16,c17,c18,c19,c20,c21,c22,c23,c24,c25,c26,c27,c28,c29,c30,c31,L31,by rw [e0,e1,e2,e3,e4,e5,e6,e7,e8,e9,e10,e11,e12,e13,e14,e15,e16,e17,e18,e19,e20,e21,e22,e23,e24,e25,e26,e27,e28,e29,e30,e31]⟩
def idOutL (L : List UInt8) : Nat → List UInt8
 | 0 => []
 | i + 1 => (if dashAt i then idOutL L i ++ [45] else idOutL L i) ++ (L.take (i + 1)).drop i
def idDashL (L : List UInt8) : List UInt8:=((((((((L.take 8).drop 0 ++ [45]) ++ (L.take 12).drop 8) ++ [45]) ++ (L.take 16).drop 12) ++ [45]) ++ (L.take 20).drop 16) ++ [45]) ++ (L.take 32).drop 20
theorem idOut_list (h : ByteArray) : ∀ i,(idOut h i).data.toList = idOutL h.data.toList i
 | 0 => rfl
 | i + 1 => by
  unfold idOut idOutL
  rw [ba_app,ex_list]
  congr 1
  split
  ·rw [ba_app,idOut_list h i]
  ·exact idOut_list h i
theorem idDash_list (h : ByteArray) : (idDash h).data.toList = idDashL h.data.toList:=by
 unfold idDash idDashL
 simp only [ba_app,ex_list]
set_option maxHeartbeats 4000000 in
set_option maxRecDepth 100000 in
theorem idOutL_32 (L : List UInt8) (h : 32 ≤ L.length) : idOutL L 32 = idDashL L:=by
 obtain ⟨c0,c1,c2,c3,c4,c5,c6,c7,c8,c9,c10,c11,c12,c13,c14,c15,c16,c17,c18,c19,c20,c21,c22,c23,c24,c25,c26,c27,c28,c29,c30,c31,r,rfl⟩:=len32 L h
 simp [idOutL,idDashL,dashAt]
theorem idDashL_app (L M : List UInt8) (h : L.length = 32) : idDashL (L ++ M) = idDashL L:=by
 obtain ⟨c0,c1,c2,c3,c4,c5,c6,c7,c8,c9,c10,c11,c12,c13,c14,c15,c16,c17,c18,c19,c20,c21,c22,c23,c24,c25,c26,c27,c28,c29,c30,c31,r,rfl⟩:=len32 L (by omega)
 simp [idDashL]
theorem idOut_is (a b : ByteArray) (h : a.size = 32) : idOut (a ++ b) 32 = idDash a:=by
 have hl : a.data.toList.length = 32:=by simpa using h
 apply ba_ext
 rw [idOut_list,idDash_list,ba_app,idOutL_32 _ (by rw [List.length_append];omega),idDashL_app _ _ hl]
theorem join3 (a b c : ByteArray) (ha : a.size ≤ 1000) (hb : b.size ≤ 1000) (hc : c.size ≤ 1000) : idText a b c = some (idBytes a b c):=by
 have e : strings_Join.f [a,b,c] ⟨#[47]⟩ = some (a ++ ⟨#[47]⟩ ++ b ++ ⟨#[47]⟩ ++ c):=by
  unfold strings_Join.f
  have ej : joinB [a,b,c] ⟨#[47]⟩ = (a ++ ⟨#[47]⟩ ++ b ++ ⟨#[47]⟩ ++ c : ByteArray).data.toList:=by
   simp only [ba_app]
   simp [joinB,Lib.join,List.intercalate]
  have el : (a ++ ⟨#[47]⟩ ++ b ++ ⟨#[47]⟩ ++ c : ByteArray).data.toList.length = a.size + 1 + b.size + 1 + c.size:=by
   rw [Array.length_toList]
   show (a ++ ⟨#[47]⟩ ++ b ++ ⟨#[47]⟩ ++ c : ByteArray).size = _
   simp only [ByteArray.size_append]
   rfl
  rw [ej,if_pos ⟨by simp,by rw [el];omega⟩]
 unfold idText
 rw [e,Option.bind_some,if_pos (by simp only [ByteArray.size_append];show a.size + 1 + b.size + 1 + c.size ≤ _;omega)]
 rfl
set_option maxHeartbeats 2000000 in
theorem Id_both (a0 : Int) (g : ByteArray) (a2 : Int) (h0 : -9223372036854775808 ≤ a0 ∧ a0 ≤ 9223372036854775807) (h2 : -9223372036854775808 ≤ a2 ∧ a2 ≤ 9223372036854775807) (hg : g.size ≤ 1000) (k : Nat) (hk : 4000000 ≤ k) :
  ∃ t,ticket_Id.f a0 g a2 = some t ∧ racewayref27_Id.f k a0 g a2 = some t:=by
 have z : ∀ n : Int,-9223372036854775808 ≤ n ∧ n ≤ 9223372036854775807 → (⟨(Lib.itoa n).toArray⟩ : ByteArray).size ≤ 1000:=by
  intro n hn
  have:=Lib.itoa_length_le n hn.1 hn.2
  have e : (⟨(Lib.itoa n).toArray⟩ : ByteArray).size = (Lib.itoa n).length:=by simp [ByteArray.size]
  omega
 have z0:=z a0 h0
 have z2:=z a2 h2
 have i0 : basic_Itoa.f a0 = some ⟨(Lib.itoa a0).toArray⟩:=by unfold basic_Itoa.f;rw [if_pos h0]
 have i2 : basic_Itoa.f a2 = some ⟨(Lib.itoa a2).toArray⟩:=by unfold basic_Itoa.f;rw [if_pos h2]
 have r0:=ritoa_is a0 h0.1 h0.2 k (by omega)
 have r2:=ritoa_is a2 h2.1 h2.2 k (by omega)
 generalize (⟨(Lib.itoa a0).toArray⟩ : ByteArray) = s0 at *
 generalize (⟨(Lib.itoa a2).toArray⟩ : ByteArray) = s2 at *
 have hbz : (idBytes s0 g s2).size ≤ 5000:=by
  unfold idBytes
  simp only [ByteArray.size_append]
  show s0.size + 1 + g.size + 1 + s2.size + 1 ≤ _
  omega
 have hc : s0.size ≤ 100000 ∧ g.size ≤ 100000 ∧ s2.size ≤ 100000:=⟨by omega,by omega,by omega⟩
 obtain ⟨S,hSe,hO,hS32,hSb⟩ : ∃ S,(dg0.bytes (bytesOf (idBytes s0 g s2))).sum = S ∧ racewayref03_Of.f k (bytesOf (idBytes s0 g s2)) = some S ∧ S.length = 32 ∧ ∀ x ∈ S,0 ≤ x ∧ x < 256 :=
  ⟨_,rfl,Of_is (bytesOf (idBytes s0 g s2)) (bytesOf_byte _) (by rw [bytesOf_length];omega) k hk,sum_len _ (Dg.bytes_ok dg0_ok _),sum_byte _⟩
 unfold ticket_Id.f racewayref27_Id.f
 rw [i0,i2,r0,r2]
 simp only [Option.bind_some]
 rw [join3 s0 g s2 z0 hg z2,Option.bind_some,if_pos hc,hO,Option.bind_some,hSe]
 clear hSe hO r0 r2 i0 i2
 rw [Hex_is S hSb (by omega) k (by omega),Option.bind_some]
 have hsz : (strOfNums (hexL S)).size = 64:=by rw [son_size,hexL_len];omega
 rw [if_pos (by omega)]
 have hspl : hexL S = hexL (S.take 16) ++ hexL (S.drop 16):=by
  conv => lhs;rw [← List.take_append_drop 16 S]
  unfold hexL
  rw [List.flatMap_append]
 have hl16 : (strOfNums (hexL (S.take 16))).size = 32:=by rw [son_size,hexL_len,List.length_take];omega
 have hfin : idOut (strOfNums (hexL S)) 32 = idDash (strOfNums (hexL (S.take 16))):=by
  rw [hspl,← son_app]
  exact idOut_is _ _ hl16
 rw [hfin]
 exact ⟨_,rfl,rfl⟩
end Go.Proofs.YtedfgkjimnjdpaaDoor.X
namespace Go.Proofs.YtedfgkjimnjdpaaDoor.X
open Go.RowKit Go.Proofs.YtedfgkjimnjdpaaDoorW.PrintWords
set_option linter.unusedVariables false
set_option linter.unusedSimpArgs false
theorem heap_of_var {P : Program} {W : World} {name : String} {g : Nat} {zero : Array Value} {t : TypeId} {arr : Array Value} (hsh : W.ShapedOpen P) (hlt : g < P.globals.size)
  (hrow : (((begin P (fun _ _ => 0) default).world).heap[g]?).bind Obj.row? = some (zero,t)) (hg : P.globalNamed name = some g) (hv : W.var? P name = some arr) : W.heap[g]? = some (.cells arr t (0,0)):=by
 obtain ⟨hs,_⟩:=hsh
 obtain ⟨cs',h1,_,_⟩:=hs g zero t hlt hrow
 unfold World.var? at hv
 rw [hg] at hv
 simp only [Option.bind_some,h1] at hv
 rw [h1]
 cases hv
 rfl
set_option maxRecDepth 100000 in
theorem GlobDg.of {W : World} {l : List (String × DataW Unit)} (hsh : W.ShapedOpen Tryd.prog) (hL : laidMet Tryd.prog l W)
  (h1 : l.filter (fun x => x.1 == "raceway/digest.rounds") = [("raceway/digest.rounds", Lib.tabData .u32 roundsL)]) : GlobDg W := by
 have s1 := hL.filter (fun x => x.1 == "raceway/digest.rounds")
 rw [h1] at s1
 have g1 : Tryd.prog.globalNamed "raceway/digest.rounds" = some 1 := by kernel_rfl
 have t1:=Lib.tabIs_of_head (t:=163) (e:=107) (n:=64) g1 (by kernel_rfl) (by kernel_rfl) (by kernel_rfl) (by kernel_rfl) (by kernel_rfl) s1
 exact heap_of_var (zero:=Array.replicate 64 (.int .u32 0)) (t:=163) hsh (of_decide_eq_true (by kernel_rfl)) (by kernel_rfl) g1 t1
set_option maxRecDepth 100000 in
theorem GlobCr.of {W : World} {l : List (String × DataW Unit)} (hsh : W.ShapedOpen Tryd.prog) (hL : laidMet Tryd.prog l W)
  (h1 : l.filter (fun x => x.1 == "raceway/crc.half") = [("raceway/crc.half", Lib.tabData .u32 halfL)]) : GlobCr W := by
 have s1 := hL.filter (fun x => x.1 == "raceway/crc.half")
 rw [h1] at s1
 have g1 : Tryd.prog.globalNamed "raceway/crc.half" = some 0 := by kernel_rfl
 have t1:=Lib.tabIs_of_head (t:=147) (e:=107) (n:=16) g1 (by kernel_rfl) (by kernel_rfl) (by kernel_rfl) (by kernel_rfl) (by kernel_rfl) s1
 exact heap_of_var (zero:=Array.replicate 16 (.int .u32 0)) (t:=147) hsh (of_decide_eq_true (by kernel_rfl)) (by kernel_rfl) g1 t1
end Go.Proofs.YtedfgkjimnjdpaaDoor.X
namespace Go.Proofs.YtedfgkjimnjdpaaDoor.Pure
open Go.RowKit Go.Proofs.YtedfgkjimnjdpaaDoor.X Go.Proofs.YtedfgkjimnjdpaaDoorW.PrintWords Go.Proofs.YtedfgkjimnjdpaaDoorW.PrintLast Go.Proofs.YtedfgkjimnjdpaaDoorW.PrintMore
set_option linter.unusedVariables false
set_option linter.unusedSimpArgs false
theorem ext_list (a : ByteArray) (i j : Nat) : (a.extract i j).data.toList = (a.data.toList.take j).drop i:=by
 simp [List.drop_take,List.extract]
theorem atoi_range (s : ByteArray) : (atoiB s).2 = 0 → -9223372036854775808 ≤ (atoiB s).1 ∧ (atoiB s).1 ≤ 9223372036854775807:=by
 unfold atoiB atoiT
 intro h
 split at h
 ·exact absurd h (by decide)
 ·rename_i hn
  rw [if_neg hn]
  split at h
  ·exact absurd h (by decide)
  ·rename_i u hu
   by_cases hm : Lib.hasPrefix s.data.toList [45] = true
   ·rw [if_pos hm] at h ⊢
    by_cases hu2 : u ≤ 9223372036854775808
    ·rw [if_pos hu2]
     exact ⟨by simp only;omega,by simp only;omega⟩
    ·rw [if_neg hu2] at h
     exact absurd h (by decide)
   ·rw [if_neg hm] at h ⊢
    by_cases hu2 : u ≤ 9223372036854775807
    ·rw [if_pos hu2]
     exact ⟨by simp only;omega,by simp only;omega⟩
    ·rw [if_neg hu2] at h
     exact absurd h (by decide)
theorem punseq_all (s : ByteArray) (hs : s.size ≤ 200) : ∃ r,ticket_Unsequence.f s = some r ∧ SeqAns s r:=by
 unfold ticket_Unsequence.f
 by_cases h20 : (s.size : Int) = 20
 ·rw [if_pos h20,if_pos (by omega),if_pos (by omega)]
  have e1 : strings_TrimLeft.f (s.extract 0 19) ⟨#[48]⟩ = some ⟨(Lib.trimLeftB ((s.data.toList).take 19) 48).toArray⟩:=by
   unfold strings_TrimLeft.f
   rw [ext_list]
   rfl
  rw [e1]
  simp only [Option.bind_some]
  have hl : (⟨(Lib.trimLeftB ((s.data.toList).take 19) 48).toArray⟩ : ByteArray).size ≤ 19:=by
   have h1 : (⟨(Lib.trimLeftB ((s.data.toList).take 19) 48).toArray⟩ : ByteArray).size = (Lib.trimLeftB ((s.data.toList).take 19) 48).length:=by simp [ByteArray.size]
   have h2 : (Lib.trimLeftB ((s.data.toList).take 19) 48).length ≤ ((s.data.toList).take 19).length:=by
    unfold Lib.trimLeftB
    exact (List.dropWhile_sublist _).length_le
   have h3 : ((s.data.toList).take 19).length ≤ 19:=List.length_take_le _ _
   omega
  rw [if_pos (by rw [ByteArray.size_extract];omega)]
  unfold basic_Atoi.f
  rw [Option.bind_some]
  have hr:=atoi_range ((⟨(Lib.trimLeftB ((s.data.toList).take 19) 48).toArray⟩ : ByteArray) ++ s.extract 19 s.size)
  generalize atoiB ((⟨(Lib.trimLeftB ((s.data.toList).take 19) 48).toArray⟩ : ByteArray) ++ s.extract 19 s.size) = q at hr ⊢
  obtain ⟨n,e⟩:=q
  simp only at hr ⊢
  by_cases he : e = 0
  ·rw [if_pos he]
   have hn:=hr he
   by_cases h0 : n < 0
   ·rw [if_pos h0]
    exact ⟨_,rfl,.inl rfl⟩
   ·have hq:=pseq_is n hn.1 hn.2
    rw [if_neg h0] at hq
    rw [if_neg h0,hq,Option.bind_some]
    by_cases hz : (seqB n.toNat).toList = s.toList
    ·rw [if_pos hz]
     exact ⟨_,rfl,.inr ⟨n.toNat,by omega,(toList_inj hz).symm,by rw [show ((n.toNat : Nat) : Int) = n by omega]⟩⟩
    ·rw [if_neg hz]
     exact ⟨_,rfl,.inl rfl⟩
  ·rw [if_neg he]
   exact ⟨_,rfl,.inl rfl⟩
 ·rw [if_neg h20]
  exact ⟨_,rfl,.inl rfl⟩
theorem punseq_of (a : Nat) (h : a ≤ 9223372036854775807) : ticket_Unsequence.f (seqB a) = some ((a : Int),0):=by
 unfold ticket_Unsequence.f
 have hz:=seqB_size a
 rw [if_pos (by omega),if_pos (by omega),if_pos (by omega)]
 have e1 : strings_TrimLeft.f ((seqB a).extract 0 19) ⟨#[48]⟩ = some ⟨(Lib.trimLeftB ((fixD a 20).take 19) 48).toArray⟩:=by
  unfold strings_TrimLeft.f
  rw [ext_list]
  rfl
 rw [e1]
 simp only [Option.bind_some]
 have e2 : (⟨(Lib.trimLeftB ((fixD a 20).take 19) 48).toArray⟩ : ByteArray) ++ (seqB a).extract 19 (seqB a).size = ⟨(Lib.itoa (a : Int)).toArray⟩:=by
  have e : Lib.itoa (a : Int) = Lib.decDigits a:=by unfold Lib.itoa;rw [if_neg (by omega),Int.toNat_natCast]
  rw [e,← seq_short a h]
  have : ((seqB a).extract 19 (seqB a).size).data.toList = (fixD a 20).drop 19:=by
   rw [ext_list,hz]
   show ((fixD a 20).take 20).drop 19 = _
   rw [List.take_of_length_le (by rw [fixD_len];omega)]
  apply ByteArray.ext
  apply Array.ext'
  rw [ByteArray.data_append,Array.toList_append,this]
 have hl : (⟨(Lib.trimLeftB ((fixD a 20).take 19) 48).toArray⟩ : ByteArray).size + ((seqB a).extract 19 (seqB a).size).size ≤ 9223372036854775807:=by
  rw [← ByteArray.size_append,e2]
  have e : Lib.itoa (a : Int) = Lib.decDigits a:=by unfold Lib.itoa;rw [if_neg (by omega),Int.toNat_natCast]
  rw [e]
  have:=nD_le a h
  have h2:=Lib.decDigits_length a
  show (Lib.decDigits a).toArray.size ≤ _
  simp
  omega
 rw [if_pos hl,e2]
 have e3 : basic_Atoi.f ⟨(Lib.itoa (a : Int)).toArray⟩ = some ((a : Int),0):=by
  unfold basic_Atoi.f
  rw [atoi_itoa (a : Int) (by omega) (by omega)]
 have hq:=pseq_is (a : Int) (by omega) (by omega)
 rw [if_neg (by omega),Int.toNat_natCast] at hq
 rw [e3]
 simp only [Option.bind_some,if_true]
 rw [if_neg (by omega),hq]
 simp
theorem unseq_both (s : ByteArray) (hs : s.size ≤ 200) (k : Nat) (hk : 3000 < k) : ∃ r,ticket_Unsequence.f s = some r ∧ racewayref27_Unsequence.f k s = some r:=by
 obtain ⟨r,h1,a1⟩:=punseq_all s hs
 obtain ⟨q,h2,a2⟩:=runseq_all s hs s.size 0 k (by omega) (by omega)
 by_cases he : ∃ a : Nat,a ≤ 9223372036854775807 ∧ s = seqB a
 ·obtain ⟨a,ha,rfl⟩:=he
  have hl:=nD_le a ha
  exact ⟨_,punseq_of a ha,runseq_of a ha (20 - Lib.nDigits a) 0 k (by omega) (by omega)⟩
 ·have n1 : r = (0,5):=by
   rcases a1 with h|⟨a,ha,hs,_⟩
   ·exact h
   ·exact absurd ⟨a,ha,hs⟩ he
  have n2 : q = (0,5):=by
   rcases a2 with h|⟨a,ha,hs,_⟩
   ·exact h
   ·exact absurd ⟨a,ha,hs⟩ he
  subst n1 n2
  exact ⟨_,h1,h2⟩
theorem TicketIds : racewaylaw27_TicketIds.Pure:=by
 intro a0 g a2 ha0 hg ha2
 have ha:=(Lit.wf_int_iff .i64 a0).1 ha0
 have hb:=(Lit.wf_int_iff .i64 a2).1 ha2
 have emin : IntKind.i64.min = -9223372036854775808:=by decide
 have emax : IntKind.i64.max = 9223372036854775807:=by decide
 rw [emin,emax] at ha hb
 have hm:=mn_cases (g.size : Int) 100
 have hm2:=mn_le_right (g.size : Int) 100
 have hm1:=mn_le_left (g.size : Int) 100
 refine ⟨4000000,?_⟩
 unfold racewaylaw27_TicketIds.f
 rw [if_pos (by omega),if_pos (by omega)]
 have hz : (g.extract 0 ((mn (g.size : Int) 100) : Int).toNat).size ≤ 100:=by rw [ByteArray.size_extract];omega
 generalize g.extract 0 ((mn (g.size : Int) 100) : Int).toNat = s at *
 obtain ⟨r,u1,u2⟩:=unseq_both s (by omega) 4000000 (by omega)
 obtain ⟨t,i1,i2⟩:=Id_both a0 s a2 ha hb (by omega) 4000000 (by omega)
 have q1:=pseq_is a2 hb.1 hb.2
 have q2:=rseq_is a2 hb.1 hb.2 4000000 (by omega)
 have w:=works_eq 4000000 (by omega)
 rw [u1,u2,i1,i2,q1,q2,w]
 simp
end Go.Proofs.YtedfgkjimnjdpaaDoor.Pure
namespace Go.Proofs.YtedfgkjimnjdpaaDoor.X
open Go
set_option linter.unusedVariables false
section
variable {H : Type} {enc : TypeId × Value → H}
theorem handed_laid_shaped {a : Assume} {C : Checked} {os : Os} {f : FuncId} {fn : Func} {s : ChangeSpec} {conds : List PathCond} {apart fresh handsOn again : Bool} {X : World → Array Value → Prop}
  (hX : ∀ (w w' : World) (args : Array Value),w.heap = w'.heap → X w args → X w' args)
  (own : ownKnob C.prog.godebug = none) (started : os.Started) (noInit : C.prog.inits.idxOf? f = none) (hfn : C.prog.funcs[f]? = some fn)
  (witness : ∃ (w : World) (tape : Tape) (i : Input),w.os = os ∧ (w.forCall tape i).Shaped C.prog ∧ i.vars = [] ∧ Input.okWide C.prog (w.forCall tape i) .any w.heap.size f i ∧
   ((s.pre enc C.prog fn conds apart (w.forCall tape i).memory i.args ∧ X (w.forCall tape i).memory i.args) ∧ sizedMet enc C.prog fn (OpenSpec.ofChange s) apart (w.forCall tape i).memory i.args) ∧ a.holds C.prog (lone (Frame.enter C.prog f i.args .normal) [] (w.forCall tape i)))
  (contract : ∀ (W : World) (base : Nat) (args : Array Value) (ds gs : List (DataW H)) (before : List MemPlace),
   (∀ (j : Nat) t v,fn.params[j]? = some t → args[j]? = some v → Value.okWide C.prog W .any base t v) →
   DataW.Whole enc C.prog fn.params.toList s.vars apart W args.toList ds gs before →
   conds.all (PathCond.test C.prog ⟨fn.params.toList,ds,s.plain.varTypes C.prog,gs⟩) = true →
   (DataW.weightsEach C.prog (fn.params.toList ++ s.plain.varTypes C.prog) (ds ++ gs)).all (· ≤ reachBytes) = true → X W args → W.ShapedOpen C.prog →
   a.holds C.prog (lone (Frame.enter C.prog f args .normal) [] W) →
   Calls C.prog f args W fun e W' => ∃ v,e = .returned v ∧ s.post enc C.prog fn apart fresh handsOn again W args v W') :
  ReturnsInHanded a C os f .any (fun w args => (s.pre enc C.prog fn conds apart w args ∧ X w args) ∧ sizedMet enc C.prog fn (OpenSpec.ofChange s) apart w args) (s.post enc C.prog fn apart fresh handsOn again):=by
 refine returnsInHanded_of_calls own started noInit witness ?_
 intro w tape i _ hsh _ hok hpre hholds
 obtain ⟨_,_,_,fn',hfn',_,_,_,_,hval⟩:=hok
 have e : fn' = fn:=Option.some.inj (hfn'.symm.trans hfn)
 subst e
 obtain ⟨⟨⟨ds,gs,before,hw,hc⟩,hx⟩,hz⟩:=hpre
 have hw':=DataW.Whole.of_heap (w':=w.forCall tape i) (by rfl) hw
 refine (contract (w.forCall tape i) w.heap.size i.args ds gs before hval hw' hc (hz.weights hw) (hX _ _ _ (by rfl) hx) hsh hholds).mono fun e W' ⟨v,he,hp⟩ => ?_
 subst he
 exact ChangeSpec.post_blind hp
end
end Go.Proofs.YtedfgkjimnjdpaaDoor.X
