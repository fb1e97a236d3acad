/-
  What the claim's law rests on, part 6 of 8: printed walks, externals, plain lemmas; conditions: none of its own.
-/
import Derived.Lib.TrimUEq
import Derived.Lib.ValidLaws
import Derived.Test.YtjehflambbjoaaaDoorMa5
namespace Go.Proofs.YtjehflambbjoaaaDoor.X
open Go.RowKit Go.Proofs.YtjehflambbjoaaaDoorW.PrintWords Go.Proofs.YtjehflambbjoaaaDoorW.PrintLast Go.Proofs.YtjehflambbjoaaaDoorW.PrintMore
attribute [local go_sem] max2_int min2_int max_two min_two max_three min_three max_four min_four
set_option linter.unusedVariables false
set_option linter.unusedSimpArgs false
mutual
def racewayref25_may.j0 : Nat → List (S24) → Int → Int → Int → Bool → Int → Int → Int → ByteArray → ByteArray → Option (Int)
 | 0,_,_,_,_,_,_,_,_,_,_ => none
 | k + 1,x0,x1,x2,x4,x65,x158000,x158001,x158002,x158003,x158004 => if x65 = true then (some (-1)) else (if x158000 = 4 then (if (x158004.size : Int) > 65536 then (some (-1)) else ((racewayref25_number.f k x158004 0).bind fun bt162 => (if bt162.2.1 = 0 then (if bt162.1 = (x158004.size : Int) then (racewayref25_may.j1 k x0 x1 x2 x4 x158000 x158001 x158002 x158003 x158004) else (some (-1))) else (some (-1))))) else (racewayref25_may.j1 k x0 x1 x2 x4 x158000 x158001 x158002 x158003 x158004))
def racewayref25_may.j1 : Nat → List (S24) → Int → Int → Int → Int → Int → Int → ByteArray → ByteArray → Option (Int)
 | 0,_,_,_,_,_,_,_,_,_ => none
 | k + 1,x0,x1,x2,x4,x158000,x158001,x158002,x158003,x158004 => if x158000 = 5 then ((racewayref25_Valid.f k x158004).bind fun t169 => (if t169 = true then (if x158000 = 4 then (racewayref25_may.j2 k x0 x1 x2 x4 false x158000 x158001 x158002 x158003 x158004) else (racewayref25_may.j2 k x0 x1 x2 x4 false x158000 x158001 x158002 x158003 x158004)) else (racewayref25_may.j2 k x0 x1 x2 x4 true x158000 x158001 x158002 x158003 x158004))) else (if x158000 = 4 then (racewayref25_may.j2 k x0 x1 x2 x4 false x158000 x158001 x158002 x158003 x158004) else (racewayref25_may.j2 k x0 x1 x2 x4 (x158004.toList != ([] : List UInt8)) x158000 x158001 x158002 x158003 x158004))
def racewayref25_may.j2 : Nat → List (S24) → Int → Int → Int → Bool → Int → Int → Int → ByteArray → ByteArray → Option (Int)
 | 0,_,_,_,_,_,_,_,_,_,_ => none
 | k + 1,x0,x1,x2,x4,x110,x158000,x158001,x158002,x158003,x158004 => if x110 = true then (some (-1)) else (racewayref25_may.l0 k x0 x1 x2 x4 (wrap64 (x1 + 1)) 0 x158000 x158001 x158002 x158003 x158004)
def racewayref25_may.l0 : Nat → List (S24) → Int → Int → Int → Int → Int → Int → Int → Int → ByteArray → ByteArray → Option (Int)
 | 0,_,_,_,_,_,_,_,_,_,_,_ => none
 | k + 1,x0,x1,x2,x4,x13,x14,x158000,x158001,x158002,x158003,x158004 => if x14 < x158002 then (if x13 ≥ x2 then (some (-1)) else ((racewayref25_may.f k x0 x13 x2 (x158000 == 7) (wrap64 (x4 + 1))).bind fun t170 => (if t170 < 0 then (some (-1)) else (racewayref25_may.l0 k x0 x1 x2 x4 t170 (wrap64 (x14 + 1)) x158000 x158001 x158002 x158003 x158004)))) else (if x158001 = (wrap64 (x13 - x1)) then (some x13) else (some (-1)))
def racewayref25_may.f : Nat → List (S24) → Int → Int → Bool → Int → Option (Int)
 | 0,_,_,_,_,_ => none
 | k + 1,l0,a1,a2,a3,a4 => if 0 ≤ a1 then (if a1 < (l0.length : Int) then (if a1 ≥ a2 then (racewayref25_may.j0 k l0 a1 a2 a4 true ((rd_T24 l0 a1).f0) ((rd_T24 l0 a1).f1) ((rd_T24 l0 a1).f2) ((rd_T24 l0 a1).f3) ((rd_T24 l0 a1).f4)) else (if ((rd_T24 l0 a1).f0) < 1 then (racewayref25_may.j0 k l0 a1 a2 a4 true ((rd_T24 l0 a1).f0) ((rd_T24 l0 a1).f1) ((rd_T24 l0 a1).f2) ((rd_T24 l0 a1).f3) ((rd_T24 l0 a1).f4)) else (if ((rd_T24 l0 a1).f0) > 7 then (racewayref25_may.j0 k l0 a1 a2 a4 true ((rd_T24 l0 a1).f0) ((rd_T24 l0 a1).f1) ((rd_T24 l0 a1).f2) ((rd_T24 l0 a1).f3) ((rd_T24 l0 a1).f4)) else (if ((rd_T24 l0 a1).f2) < 0 then (racewayref25_may.j0 k l0 a1 a2 a4 true ((rd_T24 l0 a1).f0) ((rd_T24 l0 a1).f1) ((rd_T24 l0 a1).f2) ((rd_T24 l0 a1).f3) ((rd_T24 l0 a1).f4)) else (if a4 ≥ 32 then (racewayref25_may.j0 k l0 a1 a2 a4 true ((rd_T24 l0 a1).f0) ((rd_T24 l0 a1).f1) ((rd_T24 l0 a1).f2) ((rd_T24 l0 a1).f3) ((rd_T24 l0 a1).f4)) else (if ((rd_T24 l0 a1).f2) > 0 then (if ((rd_T24 l0 a1).f0) < 6 then (racewayref25_may.j0 k l0 a1 a2 a4 true ((rd_T24 l0 a1).f0) ((rd_T24 l0 a1).f1) ((rd_T24 l0 a1).f2) ((rd_T24 l0 a1).f3) ((rd_T24 l0 a1).f4)) else (if ((rd_T24 l0 a1).f3).toList = ([] : List UInt8) then ((racewayref25_Valid.f k ((rd_T24 l0 a1).f3)).bind fun t158 => (racewayref25_may.j0 k l0 a1 a2 a4 (!t158) ((rd_T24 l0 a1).f0) ((rd_T24 l0 a1).f1) ((rd_T24 l0 a1).f2) ((rd_T24 l0 a1).f3) ((rd_T24 l0 a1).f4))) else (if a3 = true then ((racewayref25_Valid.f k ((rd_T24 l0 a1).f3)).bind fun t159 => (racewayref25_may.j0 k l0 a1 a2 a4 (!t159) ((rd_T24 l0 a1).f0) ((rd_T24 l0 a1).f1) ((rd_T24 l0 a1).f2) ((rd_T24 l0 a1).f3) ((rd_T24 l0 a1).f4))) else (racewayref25_may.j0 k l0 a1 a2 a4 true ((rd_T24 l0 a1).f0) ((rd_T24 l0 a1).f1) ((rd_T24 l0 a1).f2) ((rd_T24 l0 a1).f3) ((rd_T24 l0 a1).f4))))) else (if ((rd_T24 l0 a1).f3).toList = ([] : List UInt8) then ((racewayref25_Valid.f k ((rd_T24 l0 a1).f3)).bind fun t160 => (racewayref25_may.j0 k l0 a1 a2 a4 (!t160) ((rd_T24 l0 a1).f0) ((rd_T24 l0 a1).f1) ((rd_T24 l0 a1).f2) ((rd_T24 l0 a1).f3) ((rd_T24 l0 a1).f4))) else (if a3 = true then ((racewayref25_Valid.f k ((rd_T24 l0 a1).f3)).bind fun t161 => (racewayref25_may.j0 k l0 a1 a2 a4 (!t161) ((rd_T24 l0 a1).f0) ((rd_T24 l0 a1).f1) ((rd_T24 l0 a1).f2) ((rd_T24 l0 a1).f3) ((rd_T24 l0 a1).f4))) else (racewayref25_may.j0 k l0 a1 a2 a4 true ((rd_T24 l0 a1).f0) ((rd_T24 l0 a1).f1) ((rd_T24 l0 a1).f2) ((rd_T24 l0 a1).f3) ((rd_T24 l0 a1).f4)))))))))) else (none)) else (none)
end
set_option maxHeartbeats 8000000 in
set_option maxRecDepth 100000 in
theorem racewayref25_may.calls (k : Nat) : ∀ (A0 : Option Addr) (c0 : Nat) (l0 : List (S24)) (a1 : Int) (a2 : Int) (a3 : Bool) (a4 : Int) (r : Int) (w : World) (hr0 : Kd.C k24 w A0 l0.length l0) (hc0 : l0.length ≤ c0) (h : racewayref25_may.f k l0 a1 a2 a3 a4 = some r),
  Calls Tryd.prog 35 #[.slice A0 l0.length c0,.int .i64 a1,.int .i64 a2,.bool a3,.int .i64 a4] w fun e w' => e = .returned (.int .i64 r) ∧ Below w.heap.size w w':=by
 induction k using Nat.strongRecOn with
 | _ k ih =>
 intro A0 c0 l0 a1 a2 a3 a4 r w hr0 hc0 h
 cases k with
 | zero => exact absurd h (by simp [racewayref25_may.f])
 | succ k =>
 simp only [racewayref25_may.f] at h
 have hu24:=Tryd.underlying24
 have hu92:=Tryd.underlying92
 have HR0:=Aside0.mk hr0
 have HC0:=Aside0.mk hc0
 clear hr0 hc0
 have HB:=Aside0.mk (Below.refl w.heap.size w)
 have H : (if 0 ≤ a1 then (if a1 < (l0.length : Int) then (if a1 ≥ a2 then (racewayref25_may.j0 k l0 a1 a2 a4 true ((rd_T24 l0 a1).f0) ((rd_T24 l0 a1).f1) ((rd_T24 l0 a1).f2) ((rd_T24 l0 a1).f3) ((rd_T24 l0 a1).f4)) else (if ((rd_T24 l0 a1).f0) < 1 then (racewayref25_may.j0 k l0 a1 a2 a4 true ((rd_T24 l0 a1).f0) ((rd_T24 l0 a1).f1) ((rd_T24 l0 a1).f2) ((rd_T24 l0 a1).f3) ((rd_T24 l0 a1).f4)) else (if ((rd_T24 l0 a1).f0) > 7 then (racewayref25_may.j0 k l0 a1 a2 a4 true ((rd_T24 l0 a1).f0) ((rd_T24 l0 a1).f1) ((rd_T24 l0 a1).f2) ((rd_T24 l0 a1).f3) ((rd_T24 l0 a1).f4)) else (if ((rd_T24 l0 a1).f2) < 0 then (racewayref25_may.j0 k l0 a1 a2 a4 true ((rd_T24 l0 a1).f0) ((rd_T24 l0 a1).f1) ((rd_T24 l0 a1).f2) ((rd_T24 l0 a1).f3) ((rd_T24 l0 a1).f4)) else (if a4 ≥ 32 then (racewayref25_may.j0 k l0 a1 a2 a4 true ((rd_T24 l0 a1).f0) ((rd_T24 l0 a1).f1) ((rd_T24 l0 a1).f2) ((rd_T24 l0 a1).f3) ((rd_T24 l0 a1).f4)) else (if ((rd_T24 l0 a1).f2) > 0 then (if ((rd_T24 l0 a1).f0) < 6 then (racewayref25_may.j0 k l0 a1 a2 a4 true ((rd_T24 l0 a1).f0) ((rd_T24 l0 a1).f1) ((rd_T24 l0 a1).f2) ((rd_T24 l0 a1).f3) ((rd_T24 l0 a1).f4)) else (if ((rd_T24 l0 a1).f3).toList = ([] : List UInt8) then ((racewayref25_Valid.f k ((rd_T24 l0 a1).f3)).bind fun t158 => (racewayref25_may.j0 k l0 a1 a2 a4 (!t158) ((rd_T24 l0 a1).f0) ((rd_T24 l0 a1).f1) ((rd_T24 l0 a1).f2) ((rd_T24 l0 a1).f3) ((rd_T24 l0 a1).f4))) else (if a3 = true then ((racewayref25_Valid.f k ((rd_T24 l0 a1).f3)).bind fun t159 => (racewayref25_may.j0 k l0 a1 a2 a4 (!t159) ((rd_T24 l0 a1).f0) ((rd_T24 l0 a1).f1) ((rd_T24 l0 a1).f2) ((rd_T24 l0 a1).f3) ((rd_T24 l0 a1).f4))) else (racewayref25_may.j0 k l0 a1 a2 a4 true ((rd_T24 l0 a1).f0) ((rd_T24 l0 a1).f1) ((rd_T24 l0 a1).f2) ((rd_T24 l0 a1).f3) ((rd_T24 l0 a1).f4))))) else (if ((rd_T24 l0 a1).f3).toList = ([] : List UInt8) then ((racewayref25_Valid.f k ((rd_T24 l0 a1).f3)).bind fun t160 => (racewayref25_may.j0 k l0 a1 a2 a4 (!t160) ((rd_T24 l0 a1).f0) ((rd_T24 l0 a1).f1) ((rd_T24 l0 a1).f2) ((rd_T24 l0 a1).f3) ((rd_T24 l0 a1).f4))) else (if a3 = true then ((racewayref25_Valid.f k ((rd_T24 l0 a1).f3)).bind fun t161 => (racewayref25_may.j0 k l0 a1 a2 a4 (!t161) ((rd_T24 l0 a1).f0) ((rd_T24 l0 a1).f1) ((rd_T24 l0 a1).f2) ((rd_T24 l0 a1).f3) ((rd_T24 l0 a1).f4))) else (racewayref25_may.j0 k l0 a1 a2 a4 true ((rd_T24 l0 a1).f0) ((rd_T24 l0 a1).f1) ((rd_T24 l0 a1).f2) ((rd_T24 l0 a1).f3) ((rd_T24 l0 a1).f4)))))))))) else (none)) else (none)) = some r:=h
 clear h
 by_cases c6 : 0 ≤ a1
 ·rw [if_pos c6] at H
  have c6b0 : decide (0 ≤ a1) = true:=decide_eq_true c6
  clear c6
  by_cases c7 : a1 < (l0.length : Int)
  ·rw [if_pos c7] at H
   have c7b0 : decide (a1 < (l0.length : Int)) = true:=decide_eq_true c7
   clear c7
   have HC8:=Aside0.mk H
   clear H
   have p156 : 0 ≤ (a1 : Int):=of_decide_eq_true (by first|(with_reducible assumption)|assumption)
   have q156 : a1 < (l0.length : Int):=of_decide_eq_true (by first|(with_reducible assumption)|assumption)
   obtain ⟨ad156,e156,hx156_0,hx156_1,hx156_2,hx156_3,hx156_4⟩:=at_T24 HR0.out a1 p156 q156
   cases e156
   replace p156:=eq_true p156
   replace q156:=eq_true q156
   go_enter Tryd.func35,Tryd.ntmps35
   go_upto_region 2 with (first|((with_reducible refine gate_dst (N:=11) rfl ?_);(try (refine gate_guard (by rfl) ?_;dsimp only));refine box_event ?hg (N:=11) ?hd (cs:=#[.int .i64 0,.int .i64 0,.int .i64 0,.string (⟨#[]⟩ : ByteArray),.string (⟨#[]⟩ : ByteArray)]) (t:=24) ?hr ?_;(case hd => rfl);(case hg => rfl);(case hr => first|(go_simp;done)|(go_simp;rfl));intro gb157 hg w9 hbox hb;have n0_:=Aside0.mk (below_step (by repeat (first|(with_reducible first|exact HB.out|apply below_alloc|apply pw_below_drewN|apply below_drew1)|exact HB.out)) hb);have n1_:=Aside0.mk (hbox);have n2_:=Aside0.mk ((by rw [hg];exact (below_size (by repeat (first|(with_reducible first|exact HB.out|apply below_alloc|apply pw_below_drewN|apply below_drew1)|exact HB.out))) : w.heap.size ≤ gb157));have n3_:=Aside0.mk ((by rw [hg];exact (below_size (by repeat (first|(with_reducible first|exact HB.out|apply below_alloc|apply pw_below_drewN|apply below_drew1)|exact HB.out))) : w.heap.size ≤ gb157));clear HB;have HB:=n0_;have BK157:=n1_;have GW157:=n2_;have GE157:=n3_;clear n0_ n1_ n2_ n3_;clear hb hbox hg;have hcz10_0 : w9.cell? ⟨gb157,0,none⟩ = some (.int .i64 0):=(blk_cell BK157.out 0).trans rfl;have hcz10_1 : w9.cell? ⟨gb157,1,none⟩ = some (.int .i64 0):=(blk_cell BK157.out 1).trans rfl;have hcz10_2 : w9.cell? ⟨gb157,2,none⟩ = some (.int .i64 0):=(blk_cell BK157.out 2).trans rfl;have hcz10_3 : w9.cell? ⟨gb157,3,none⟩ = some (.string (⟨#[]⟩ : ByteArray)):=(blk_cell BK157.out 3).trans rfl;have hcz10_4 : w9.cell? ⟨gb157,4,none⟩ = some (.string (⟨#[]⟩ : ByteArray)):=(blk_cell BK157.out 4).trans rfl;have hfz10_0:=blk_frozen BK157.out 0;have hfz10_1:=blk_frozen BK157.out 1;have hfz10_2:=blk_frozen BK157.out 2;have hfz10_3:=blk_frozen BK157.out 3;have hfz10_4:=blk_frozen BK157.out 4))
   (try simp only [Act.put,List.setIfInBounds_toArray,List.set_cons_zero,List.set_cons_succ])
   go_cut [65] (fun v65 wc => ∃ (kq : Nat) (x65_7 : Bool),v65 = .bool x65_7 ∧ Aside0 (racewayref25_may.j0 kq l0 a1 a2 a4 x65_7 ((rd_T24 l0 a1).f0) ((rd_T24 l0 a1).f1) ((rd_T24 l0 a1).f2) ((rd_T24 l0 a1).f3) ((rd_T24 l0 a1).f4) = some r) ∧ Aside0 (kq ≤ k) ∧ Aside0 (wc.heap[gb157]? = some (.cells #[.int .i64 ((rd_T24 l0 a1).f0),.int .i64 ((rd_T24 l0 a1).f1),.int .i64 ((rd_T24 l0 a1).f2),.string ((rd_T24 l0 a1).f3),.string ((rd_T24 l0 a1).f4)] 24 (0,0))) ∧ Aside0 (Below w.heap.size w wc))
   case first =>
    have H:=HC8.out
    clear HC8
    by_cases c11 : a1 ≥ a2
    ·rw [if_pos c11] at H
     have c11b0 : decide (a2 ≤ a1) = true:=decide_eq_true c11
     clear c11
     (first|rw [c11b0]|(simp only [i64_w,i32_w];rw [c11b0])|skip)
     have H':=Aside0.mk H
     clear H
     go_wp2
     go_meet
     case rel => exact ⟨_,(true),(by first|rfl|(simp;done)|(simp;decide +kernel)|(simp [*];done)),(by first|exact H'|(subst_vars;exact H')),⟨by first|omega|exact Nat.le_refl _⟩,⟨by (with_reducible repeat (first|refine blk_drewN ?_ _|refine blk_drew ?_|refine blk_alloc ?_ _));refine blk_put (cs:=#[.int .i64 ((rd_T24 l0 a1).f0),.int .i64 ((rd_T24 l0 a1).f1),.int .i64 ((rd_T24 l0 a1).f2),.string ((rd_T24 l0 a1).f3),.string (⟨#[]⟩ : ByteArray)]) ?_ 4 _ rfl;(with_reducible repeat (first|refine blk_drewN ?_ _|refine blk_drew ?_|refine blk_alloc ?_ _));refine blk_put (cs:=#[.int .i64 ((rd_T24 l0 a1).f0),.int .i64 ((rd_T24 l0 a1).f1),.int .i64 ((rd_T24 l0 a1).f2),.string (⟨#[]⟩ : ByteArray),.string (⟨#[]⟩ : ByteArray)]) ?_ 3 _ rfl;(with_reducible repeat (first|refine blk_drewN ?_ _|refine blk_drew ?_|refine blk_alloc ?_ _));refine blk_put (cs:=#[.int .i64 ((rd_T24 l0 a1).f0),.int .i64 ((rd_T24 l0 a1).f1),.int .i64 0,.string (⟨#[]⟩ : ByteArray),.string (⟨#[]⟩ : ByteArray)]) ?_ 2 _ rfl;(with_reducible repeat (first|refine blk_drewN ?_ _|refine blk_drew ?_|refine blk_alloc ?_ _));refine blk_put (cs:=#[.int .i64 ((rd_T24 l0 a1).f0),.int .i64 0,.int .i64 0,.string (⟨#[]⟩ : ByteArray),.string (⟨#[]⟩ : ByteArray)]) ?_ 1 _ rfl;(with_reducible repeat (first|refine blk_drewN ?_ _|refine blk_drew ?_|refine blk_alloc ?_ _));refine blk_put (cs:=#[.int .i64 0,.int .i64 0,.int .i64 0,.string (⟨#[]⟩ : ByteArray),.string (⟨#[]⟩ : ByteArray)]) ?_ 0 _ rfl;(with_reducible repeat (first|refine blk_drewN ?_ _|refine blk_drew ?_|refine blk_alloc ?_ _));exact BK157.out⟩,⟨by repeat (first|(with_reducible first|exact HB.out|apply below_alloc|apply pw_below_drewN|apply below_drew1|refine below_set ?_ GE157.out)|exact HB.out)⟩⟩
    ·rw [if_neg c11] at H
     have c11b0 : decide (a2 ≤ a1) = false:=decide_eq_false c11
     clear c11
     (first|rw [c11b0]|(simp only [i64_w,i32_w];rw [c11b0])|skip)
     by_cases c12 : ((rd_T24 l0 a1).f0) < 1
     ·rw [if_pos c12] at H
      have c12b0 : decide (((rd_T24 l0 a1).f0) < 1) = true:=decide_eq_true c12
      clear c12
      have H':=Aside0.mk H
      clear H
      have hcz13_0 : w9.cell? ⟨gb157,0,none⟩ = some (.int .i64 0):=(blk_cell BK157.out 0).trans rfl
      have hcz13_1 : w9.cell? ⟨gb157,1,none⟩ = some (.int .i64 0):=(blk_cell BK157.out 1).trans rfl
      have hcz13_2 : w9.cell? ⟨gb157,2,none⟩ = some (.int .i64 0):=(blk_cell BK157.out 2).trans rfl
      have hcz13_3 : w9.cell? ⟨gb157,3,none⟩ = some (.string (⟨#[]⟩ : ByteArray)):=(blk_cell BK157.out 3).trans rfl
      have hcz13_4 : w9.cell? ⟨gb157,4,none⟩ = some (.string (⟨#[]⟩ : ByteArray)):=(blk_cell BK157.out 4).trans rfl
      have hfz13_0:=blk_frozen BK157.out 0
      have hfz13_1:=blk_frozen BK157.out 1
      have hfz13_2:=blk_frozen BK157.out 2
      have hfz13_3:=blk_frozen BK157.out 3
      have hfz13_4:=blk_frozen BK157.out 4
      go_wp2
      go_meet
      case rel => exact ⟨_,(true),(by first|rfl|(simp;done)|(simp;decide +kernel)|(simp [*];done)),(by first|exact H'|(subst_vars;exact H')),⟨by first|omega|exact Nat.le_refl _⟩,⟨by (with_reducible repeat (first|refine blk_drewN ?_ _|refine blk_drew ?_|refine blk_alloc ?_ _));refine blk_put (cs:=#[.int .i64 ((rd_T24 l0 a1).f0),.int .i64 ((rd_T24 l0 a1).f1),.int .i64 ((rd_T24 l0 a1).f2),.string ((rd_T24 l0 a1).f3),.string (⟨#[]⟩ : ByteArray)]) ?_ 4 _ rfl;(with_reducible repeat (first|refine blk_drewN ?_ _|refine blk_drew ?_|refine blk_alloc ?_ _));refine blk_put (cs:=#[.int .i64 ((rd_T24 l0 a1).f0),.int .i64 ((rd_T24 l0 a1).f1),.int .i64 ((rd_T24 l0 a1).f2),.string (⟨#[]⟩ : ByteArray),.string (⟨#[]⟩ : ByteArray)]) ?_ 3 _ rfl;(with_reducible repeat (first|refine blk_drewN ?_ _|refine blk_drew ?_|refine blk_alloc ?_ _));refine blk_put (cs:=#[.int .i64 ((rd_T24 l0 a1).f0),.int .i64 ((rd_T24 l0 a1).f1),.int .i64 0,.string (⟨#[]⟩ : ByteArray),.string (⟨#[]⟩ : ByteArray)]) ?_ 2 _ rfl;(with_reducible repeat (first|refine blk_drewN ?_ _|refine blk_drew ?_|refine blk_alloc ?_ _));refine blk_put (cs:=#[.int .i64 ((rd_T24 l0 a1).f0),.int .i64 0,.int .i64 0,.string (⟨#[]⟩ : ByteArray),.string (⟨#[]⟩ : ByteArray)]) ?_ 1 _ rfl;(with_reducible repeat (first|refine blk_drewN ?_ _|refine blk_drew ?_|refine blk_alloc ?_ _));refine blk_put (cs:=#[.int .i64 0,.int .i64 0,.int .i64 0,.string (⟨#[]⟩ : ByteArray),.string (⟨#[]⟩ : ByteArray)]) ?_ 0 _ rfl;(with_reducible repeat (first|refine blk_drewN ?_ _|refine blk_drew ?_|refine blk_alloc ?_ _));exact BK157.out⟩,⟨by repeat (first|(with_reducible first|exact HB.out|apply below_alloc|apply pw_below_drewN|apply below_drew1|refine below_set ?_ GE157.out)|exact HB.out)⟩⟩
     ·rw [if_neg c12] at H
      have c12b0 : decide (((rd_T24 l0 a1).f0) < 1) = false:=decide_eq_false c12
      clear c12
      by_cases c14 : ((rd_T24 l0 a1).f0) > 7
      ·rw [if_pos c14] at H
       have c14b0 : decide (7 < ((rd_T24 l0 a1).f0)) = true:=decide_eq_true c14
       clear c14
       have H':=Aside0.mk H
       clear H
       have hcz15_0 : w9.cell? ⟨gb157,0,none⟩ = some (.int .i64 0):=(blk_cell BK157.out 0).trans rfl
       have hcz15_1 : w9.cell? ⟨gb157,1,none⟩ = some (.int .i64 0):=(blk_cell BK157.out 1).trans rfl
       have hcz15_2 : w9.cell? ⟨gb157,2,none⟩ = some (.int .i64 0):=(blk_cell BK157.out 2).trans rfl
       have hcz15_3 : w9.cell? ⟨gb157,3,none⟩ = some (.string (⟨#[]⟩ : ByteArray)):=(blk_cell BK157.out 3).trans rfl
       have hcz15_4 : w9.cell? ⟨gb157,4,none⟩ = some (.string (⟨#[]⟩ : ByteArray)):=(blk_cell BK157.out 4).trans rfl
       have hfz15_0:=blk_frozen BK157.out 0
       have hfz15_1:=blk_frozen BK157.out 1
       have hfz15_2:=blk_frozen BK157.out 2
       have hfz15_3:=blk_frozen BK157.out 3
       have hfz15_4:=blk_frozen BK157.out 4
       go_wp2
       go_meet
       case rel => exact ⟨_,(true),(by first|rfl|(simp;done)|(simp;decide +kernel)|(simp [*];done)),(by first|exact H'|(subst_vars;exact H')),⟨by first|omega|exact Nat.le_refl _⟩,⟨by (with_reducible repeat (first|refine blk_drewN ?_ _|refine blk_drew ?_|refine blk_alloc ?_ _));refine blk_put (cs:=#[.int .i64 ((rd_T24 l0 a1).f0),.int .i64 ((rd_T24 l0 a1).f1),.int .i64 ((rd_T24 l0 a1).f2),.string ((rd_T24 l0 a1).f3),.string (⟨#[]⟩ : ByteArray)]) ?_ 4 _ rfl;(with_reducible repeat (first|refine blk_drewN ?_ _|refine blk_drew ?_|refine blk_alloc ?_ _));refine blk_put (cs:=#[.int .i64 ((rd_T24 l0 a1).f0),.int .i64 ((rd_T24 l0 a1).f1),.int .i64 ((rd_T24 l0 a1).f2),.string (⟨#[]⟩ : ByteArray),.string (⟨#[]⟩ : ByteArray)]) ?_ 3 _ rfl;(with_reducible repeat (first|refine blk_drewN ?_ _|refine blk_drew ?_|refine blk_alloc ?_ _));refine blk_put (cs:=#[.int .i64 ((rd_T24 l0 a1).f0),.int .i64 ((rd_T24 l0 a1).f1),.int .i64 0,.string (⟨#[]⟩ : ByteArray),.string (⟨#[]⟩ : ByteArray)]) ?_ 2 _ rfl;(with_reducible repeat (first|refine blk_drewN ?_ _|refine blk_drew ?_|refine blk_alloc ?_ _));refine blk_put (cs:=#[.int .i64 ((rd_T24 l0 a1).f0),.int .i64 0,.int .i64 0,.string (⟨#[]⟩ : ByteArray),.string (⟨#[]⟩ : ByteArray)]) ?_ 1 _ rfl;(with_reducible repeat (first|refine blk_drewN ?_ _|refine blk_drew ?_|refine blk_alloc ?_ _));refine blk_put (cs:=#[.int .i64 0,.int .i64 0,.int .i64 0,.string (⟨#[]⟩ : ByteArray),.string (⟨#[]⟩ : ByteArray)]) ?_ 0 _ rfl;(with_reducible repeat (first|refine blk_drewN ?_ _|refine blk_drew ?_|refine blk_alloc ?_ _));exact BK157.out⟩,⟨by repeat (first|(with_reducible first|exact HB.out|apply below_alloc|apply pw_below_drewN|apply below_drew1|refine below_set ?_ GE157.out)|exact HB.out)⟩⟩
      ·rw [if_neg c14] at H
       have c14b0 : decide (7 < ((rd_T24 l0 a1).f0)) = false:=decide_eq_false c14
       clear c14
       by_cases c16 : ((rd_T24 l0 a1).f2) < 0
       ·rw [if_pos c16] at H
        have c16b0 : decide (((rd_T24 l0 a1).f2) < 0) = true:=decide_eq_true c16
        clear c16
        have H':=Aside0.mk H
        clear H
        have hcz17_0 : w9.cell? ⟨gb157,0,none⟩ = some (.int .i64 0):=(blk_cell BK157.out 0).trans rfl
        have hcz17_1 : w9.cell? ⟨gb157,1,none⟩ = some (.int .i64 0):=(blk_cell BK157.out 1).trans rfl
        have hcz17_2 : w9.cell? ⟨gb157,2,none⟩ = some (.int .i64 0):=(blk_cell BK157.out 2).trans rfl
        have hcz17_3 : w9.cell? ⟨gb157,3,none⟩ = some (.string (⟨#[]⟩ : ByteArray)):=(blk_cell BK157.out 3).trans rfl
        have hcz17_4 : w9.cell? ⟨gb157,4,none⟩ = some (.string (⟨#[]⟩ : ByteArray)):=(blk_cell BK157.out 4).trans rfl
        have hfz17_0:=blk_frozen BK157.out 0
        have hfz17_1:=blk_frozen BK157.out 1
        have hfz17_2:=blk_frozen BK157.out 2
        have hfz17_3:=blk_frozen BK157.out 3
        have hfz17_4:=blk_frozen BK157.out 4
        go_wp2
        go_meet
        case rel => exact ⟨_,(true),(by first|rfl|(simp;done)|(simp;decide +kernel)|(simp [*];done)),(by first|exact H'|(subst_vars;exact H')),⟨by first|omega|exact Nat.le_refl _⟩,⟨by (with_reducible repeat (first|refine blk_drewN ?_ _|refine blk_drew ?_|refine blk_alloc ?_ _));refine blk_put (cs:=#[.int .i64 ((rd_T24 l0 a1).f0),.int .i64 ((rd_T24 l0 a1).f1),.int .i64 ((rd_T24 l0 a1).f2),.string ((rd_T24 l0 a1).f3),.string (⟨#[]⟩ : ByteArray)]) ?_ 4 _ rfl;(with_reducible repeat (first|refine blk_drewN ?_ _|refine blk_drew ?_|refine blk_alloc ?_ _));refine blk_put (cs:=#[.int .i64 ((rd_T24 l0 a1).f0),.int .i64 ((rd_T24 l0 a1).f1),.int .i64 ((rd_T24 l0 a1).f2),.string (⟨#[]⟩ : ByteArray),.string (⟨#[]⟩ : ByteArray)]) ?_ 3 _ rfl;(with_reducible repeat (first|refine blk_drewN ?_ _|refine blk_drew ?_|refine blk_alloc ?_ _));refine blk_put (cs:=#[.int .i64 ((rd_T24 l0 a1).f0),.int .i64 ((rd_T24 l0 a1).f1),.int .i64 0,.string (⟨#[]⟩ : ByteArray),.string (⟨#[]⟩ : ByteArray)]) ?_ 2 _ rfl;(with_reducible repeat (first|refine blk_drewN ?_ _|refine blk_drew ?_|refine blk_alloc ?_ _));refine blk_put (cs:=#[.int .i64 ((rd_T24 l0 a1).f0),.int .i64 0,.int .i64 0,.string (⟨#[]⟩ : ByteArray),.string (⟨#[]⟩ : ByteArray)]) ?_ 1 _ rfl;(with_reducible repeat (first|refine blk_drewN ?_ _|refine blk_drew ?_|refine blk_alloc ?_ _));refine blk_put (cs:=#[.int .i64 0,.int .i64 0,.int .i64 0,.string (⟨#[]⟩ : ByteArray),.string (⟨#[]⟩ : ByteArray)]) ?_ 0 _ rfl;(with_reducible repeat (first|refine blk_drewN ?_ _|refine blk_drew ?_|refine blk_alloc ?_ _));exact BK157.out⟩,⟨by repeat (first|(with_reducible first|exact HB.out|apply below_alloc|apply pw_below_drewN|apply below_drew1|refine below_set ?_ GE157.out)|exact HB.out)⟩⟩
       ·rw [if_neg c16] at H
        have c16b0 : decide (((rd_T24 l0 a1).f2) < 0) = false:=decide_eq_false c16
        clear c16
        by_cases c18 : a4 ≥ 32
        ·rw [if_pos c18] at H
         have c18b0 : decide (32 ≤ a4) = true:=decide_eq_true c18
         clear c18
         have H':=Aside0.mk H
         clear H
         have hcz19_0 : w9.cell? ⟨gb157,0,none⟩ = some (.int .i64 0):=(blk_cell BK157.out 0).trans rfl
         have hcz19_1 : w9.cell? ⟨gb157,1,none⟩ = some (.int .i64 0):=(blk_cell BK157.out 1).trans rfl
         have hcz19_2 : w9.cell? ⟨gb157,2,none⟩ = some (.int .i64 0):=(blk_cell BK157.out 2).trans rfl
         have hcz19_3 : w9.cell? ⟨gb157,3,none⟩ = some (.string (⟨#[]⟩ : ByteArray)):=(blk_cell BK157.out 3).trans rfl
         have hcz19_4 : w9.cell? ⟨gb157,4,none⟩ = some (.string (⟨#[]⟩ : ByteArray)):=(blk_cell BK157.out 4).trans rfl
         have hfz19_0:=blk_frozen BK157.out 0
         have hfz19_1:=blk_frozen BK157.out 1
         have hfz19_2:=blk_frozen BK157.out 2
         have hfz19_3:=blk_frozen BK157.out 3
         have hfz19_4:=blk_frozen BK157.out 4
         go_wp2
         go_meet
         case rel => exact ⟨_,(true),(by first|rfl|(simp;done)|(simp;decide +kernel)|(simp [*];done)),(by first|exact H'|(subst_vars;exact H')),⟨by first|omega|exact Nat.le_refl _⟩,⟨by (with_reducible repeat (first|refine blk_drewN ?_ _|refine blk_drew ?_|refine blk_alloc ?_ _));refine blk_put (cs:=#[.int .i64 ((rd_T24 l0 a1).f0),.int .i64 ((rd_T24 l0 a1).f1),.int .i64 ((rd_T24 l0 a1).f2),.string ((rd_T24 l0 a1).f3),.string (⟨#[]⟩ : ByteArray)]) ?_ 4 _ rfl;(with_reducible repeat (first|refine blk_drewN ?_ _|refine blk_drew ?_|refine blk_alloc ?_ _));refine blk_put (cs:=#[.int .i64 ((rd_T24 l0 a1).f0),.int .i64 ((rd_T24 l0 a1).f1),.int .i64 ((rd_T24 l0 a1).f2),.string (⟨#[]⟩ : ByteArray),.string (⟨#[]⟩ : ByteArray)]) ?_ 3 _ rfl;(with_reducible repeat (first|refine blk_drewN ?_ _|refine blk_drew ?_|refine blk_alloc ?_ _));refine blk_put (cs:=#[.int .i64 ((rd_T24 l0 a1).f0),.int .i64 ((rd_T24 l0 a1).f1),.int .i64 0,.string (⟨#[]⟩ : ByteArray),.string (⟨#[]⟩ : ByteArray)]) ?_ 2 _ rfl;(with_reducible repeat (first|refine blk_drewN ?_ _|refine blk_drew ?_|refine blk_alloc ?_ _));refine blk_put (cs:=#[.int .i64 ((rd_T24 l0 a1).f0),.int .i64 0,.int .i64 0,.string (⟨#[]⟩ : ByteArray),.string (⟨#[]⟩ : ByteArray)]) ?_ 1 _ rfl;(with_reducible repeat (first|refine blk_drewN ?_ _|refine blk_drew ?_|refine blk_alloc ?_ _));refine blk_put (cs:=#[.int .i64 0,.int .i64 0,.int .i64 0,.string (⟨#[]⟩ : ByteArray),.string (⟨#[]⟩ : ByteArray)]) ?_ 0 _ rfl;(with_reducible repeat (first|refine blk_drewN ?_ _|refine blk_drew ?_|refine blk_alloc ?_ _));exact BK157.out⟩,⟨by repeat (first|(with_reducible first|exact HB.out|apply below_alloc|apply pw_below_drewN|apply below_drew1|refine below_set ?_ GE157.out)|exact HB.out)⟩⟩
        ·rw [if_neg c18] at H
         have c18b0 : decide (32 ≤ a4) = false:=decide_eq_false c18
         clear c18
         by_cases c20 : ((rd_T24 l0 a1).f2) > 0
         ·rw [if_pos c20] at H
          have c20b0 : decide (0 < ((rd_T24 l0 a1).f2)) = true:=decide_eq_true c20
          clear c20
          by_cases c21 : ((rd_T24 l0 a1).f0) < 6
          ·rw [if_pos c21] at H
           have c21b0 : decide (((rd_T24 l0 a1).f0) < 6) = true:=decide_eq_true c21
           clear c21
           have H':=Aside0.mk H
           clear H
           have hcz22_0 : w9.cell? ⟨gb157,0,none⟩ = some (.int .i64 0):=(blk_cell BK157.out 0).trans rfl
           have hcz22_1 : w9.cell? ⟨gb157,1,none⟩ = some (.int .i64 0):=(blk_cell BK157.out 1).trans rfl
           have hcz22_2 : w9.cell? ⟨gb157,2,none⟩ = some (.int .i64 0):=(blk_cell BK157.out 2).trans rfl
           have hcz22_3 : w9.cell? ⟨gb157,3,none⟩ = some (.string (⟨#[]⟩ : ByteArray)):=(blk_cell BK157.out 3).trans rfl
           have hcz22_4 : w9.cell? ⟨gb157,4,none⟩ = some (.string (⟨#[]⟩ : ByteArray)):=(blk_cell BK157.out 4).trans rfl
           have hfz22_0:=blk_frozen BK157.out 0
           have hfz22_1:=blk_frozen BK157.out 1
           have hfz22_2:=blk_frozen BK157.out 2
           have hfz22_3:=blk_frozen BK157.out 3
           have hfz22_4:=blk_frozen BK157.out 4
           go_wp2
           go_meet
           case rel => exact ⟨_,(true),(by first|rfl|(simp;done)|(simp;decide +kernel)|(simp [*];done)),(by first|exact H'|(subst_vars;exact H')),⟨by first|omega|exact Nat.le_refl _⟩,⟨by (with_reducible repeat (first|refine blk_drewN ?_ _|refine blk_drew ?_|refine blk_alloc ?_ _));refine blk_put (cs:=#[.int .i64 ((rd_T24 l0 a1).f0),.int .i64 ((rd_T24 l0 a1).f1),.int .i64 ((rd_T24 l0 a1).f2),.string ((rd_T24 l0 a1).f3),.string (⟨#[]⟩ : ByteArray)]) ?_ 4 _ rfl;(with_reducible repeat (first|refine blk_drewN ?_ _|refine blk_drew ?_|refine blk_alloc ?_ _));refine blk_put (cs:=#[.int .i64 ((rd_T24 l0 a1).f0),.int .i64 ((rd_T24 l0 a1).f1),.int .i64 ((rd_T24 l0 a1).f2),.string (⟨#[]⟩ : ByteArray),.string (⟨#[]⟩ : ByteArray)]) ?_ 3 _ rfl;(with_reducible repeat (first|refine blk_drewN ?_ _|refine blk_drew ?_|refine blk_alloc ?_ _));refine blk_put (cs:=#[.int .i64 ((rd_T24 l0 a1).f0),.int .i64 ((rd_T24 l0 a1).f1),.int .i64 0,.string (⟨#[]⟩ : ByteArray),.string (⟨#[]⟩ : ByteArray)]) ?_ 2 _ rfl;(with_reducible repeat (first|refine blk_drewN ?_ _|refine blk_drew ?_|refine blk_alloc ?_ _));refine blk_put (cs:=#[.int .i64 ((rd_T24 l0 a1).f0),.int .i64 0,.int .i64 0,.string (⟨#[]⟩ : ByteArray),.string (⟨#[]⟩ : ByteArray)]) ?_ 1 _ rfl;(with_reducible repeat (first|refine blk_drewN ?_ _|refine blk_drew ?_|refine blk_alloc ?_ _));refine blk_put (cs:=#[.int .i64 0,.int .i64 0,.int .i64 0,.string (⟨#[]⟩ : ByteArray),.string (⟨#[]⟩ : ByteArray)]) ?_ 0 _ rfl;(with_reducible repeat (first|refine blk_drewN ?_ _|refine blk_drew ?_|refine blk_alloc ?_ _));exact BK157.out⟩,⟨by repeat (first|(with_reducible first|exact HB.out|apply below_alloc|apply pw_below_drewN|apply below_drew1|refine below_set ?_ GE157.out)|exact HB.out)⟩⟩
          ·rw [if_neg c21] at H
           have c21b0 : decide (((rd_T24 l0 a1).f0) < 6) = false:=decide_eq_false c21
           clear c21
           by_cases c23 : ((rd_T24 l0 a1).f3).toList = ([] : List UInt8)
           ·rw [if_pos c23] at H
            have c23b0 : (((rd_T24 l0 a1).f3).toList == ([] : List UInt8)) = true:=beq_iff_eq.mpr c23
            have c23b1 : (((rd_T24 l0 a1).f3).toList != ([] : List UInt8)) = false:=bne_eq_false_iff_eq.mpr c23
            clear c23
            replace H:=Option.bind_eq_some_iff.mp H
            obtain ⟨t158,A240,H⟩:=H
            replace H : (racewayref25_may.j0 k l0 a1 a2 a4 (!t158) ((rd_T24 l0 a1).f0) ((rd_T24 l0 a1).f1) ((rd_T24 l0 a1).f2) ((rd_T24 l0 a1).f3) ((rd_T24 l0 a1).f4)) = some r:=H
            have A24:=Aside0.mk A240
            clear A240
            have H':=Aside0.mk H
            clear H
            have hcz25_0 : w9.cell? ⟨gb157,0,none⟩ = some (.int .i64 0):=(blk_cell BK157.out 0).trans rfl
            have hcz25_1 : w9.cell? ⟨gb157,1,none⟩ = some (.int .i64 0):=(blk_cell BK157.out 1).trans rfl
            have hcz25_2 : w9.cell? ⟨gb157,2,none⟩ = some (.int .i64 0):=(blk_cell BK157.out 2).trans rfl
            have hcz25_3 : w9.cell? ⟨gb157,3,none⟩ = some (.string (⟨#[]⟩ : ByteArray)):=(blk_cell BK157.out 3).trans rfl
            have hcz25_4 : w9.cell? ⟨gb157,4,none⟩ = some (.string (⟨#[]⟩ : ByteArray)):=(blk_cell BK157.out 4).trans rfl
            have hfz25_0:=blk_frozen BK157.out 0
            have hfz25_1:=blk_frozen BK157.out 1
            have hfz25_2:=blk_frozen BK157.out 2
            have hfz25_3:=blk_frozen BK157.out 3
            have hfz25_4:=blk_frozen BK157.out 4
            go_wp2_with (first|(go_at_call 31;(with_reducible refine (racewayref25_Valid.calls k ((rd_T24 l0 a1).f3) t158 _ A24.out).mono ?_);rintro e w' ⟨rfl,⟨nd,rfl⟩⟩))
            go_meet
            case rel => exact ⟨_,(!t158),(by first|rfl|(simp;done)|(simp;decide +kernel)|(simp [*];done)),(by first|exact H'|(subst_vars;exact H')),⟨by first|omega|exact Nat.le_refl _⟩,⟨by (with_reducible repeat (first|refine blk_drewN ?_ _|refine blk_drew ?_|refine blk_alloc ?_ _));refine blk_put (cs:=#[.int .i64 ((rd_T24 l0 a1).f0),.int .i64 ((rd_T24 l0 a1).f1),.int .i64 ((rd_T24 l0 a1).f2),.string ((rd_T24 l0 a1).f3),.string (⟨#[]⟩ : ByteArray)]) ?_ 4 _ rfl;(with_reducible repeat (first|refine blk_drewN ?_ _|refine blk_drew ?_|refine blk_alloc ?_ _));refine blk_put (cs:=#[.int .i64 ((rd_T24 l0 a1).f0),.int .i64 ((rd_T24 l0 a1).f1),.int .i64 ((rd_T24 l0 a1).f2),.string (⟨#[]⟩ : ByteArray),.string (⟨#[]⟩ : ByteArray)]) ?_ 3 _ rfl;(with_reducible repeat (first|refine blk_drewN ?_ _|refine blk_drew ?_|refine blk_alloc ?_ _));refine blk_put (cs:=#[.int .i64 ((rd_T24 l0 a1).f0),.int .i64 ((rd_T24 l0 a1).f1),.int .i64 0,.string (⟨#[]⟩ : ByteArray),.string (⟨#[]⟩ : ByteArray)]) ?_ 2 _ rfl;(with_reducible repeat (first|refine blk_drewN ?_ _|refine blk_drew ?_|refine blk_alloc ?_ _));refine blk_put (cs:=#[.int .i64 ((rd_T24 l0 a1).f0),.int .i64 0,.int .i64 0,.string (⟨#[]⟩ : ByteArray),.string (⟨#[]⟩ : ByteArray)]) ?_ 1 _ rfl;(with_reducible repeat (first|refine blk_drewN ?_ _|refine blk_drew ?_|refine blk_alloc ?_ _));refine blk_put (cs:=#[.int .i64 0,.int .i64 0,.int .i64 0,.string (⟨#[]⟩ : ByteArray),.string (⟨#[]⟩ : ByteArray)]) ?_ 0 _ rfl;(with_reducible repeat (first|refine blk_drewN ?_ _|refine blk_drew ?_|refine blk_alloc ?_ _));exact BK157.out⟩,⟨by repeat (first|(with_reducible first|exact HB.out|apply below_alloc|apply pw_below_drewN|apply below_drew1|refine below_set ?_ GE157.out)|exact HB.out)⟩⟩
           ·rw [if_neg c23] at H
            have c23b0 : (((rd_T24 l0 a1).f3).toList == ([] : List UInt8)) = false:=beq_eq_false_iff_ne.mpr c23
            have c23b1 : (((rd_T24 l0 a1).f3).toList != ([] : List UInt8)) = true:=bne_iff_ne.mpr c23
            by_cases c26 : a3 = true
            ·subst c26
             have H1 : ((racewayref25_Valid.f k ((rd_T24 l0 a1).f3)).bind fun t159 => (racewayref25_may.j0 k l0 a1 a2 a4 (!t159) ((rd_T24 l0 a1).f0) ((rd_T24 l0 a1).f1) ((rd_T24 l0 a1).f2) ((rd_T24 l0 a1).f3) ((rd_T24 l0 a1).f4))) = some r:=by rw [if_pos rfl] at H;exact H
             clear H
             have H:=H1
             clear H1
             replace H:=Option.bind_eq_some_iff.mp H
             obtain ⟨t159,A270,H⟩:=H
             replace H : (racewayref25_may.j0 k l0 a1 a2 a4 (!t159) ((rd_T24 l0 a1).f0) ((rd_T24 l0 a1).f1) ((rd_T24 l0 a1).f2) ((rd_T24 l0 a1).f3) ((rd_T24 l0 a1).f4)) = some r:=H
             have A27:=Aside0.mk A270
             clear A270
             have H':=Aside0.mk H
             clear H
             have hcz28_0 : w9.cell? ⟨gb157,0,none⟩ = some (.int .i64 0):=(blk_cell BK157.out 0).trans rfl
             have hcz28_1 : w9.cell? ⟨gb157,1,none⟩ = some (.int .i64 0):=(blk_cell BK157.out 1).trans rfl
             have hcz28_2 : w9.cell? ⟨gb157,2,none⟩ = some (.int .i64 0):=(blk_cell BK157.out 2).trans rfl
             have hcz28_3 : w9.cell? ⟨gb157,3,none⟩ = some (.string (⟨#[]⟩ : ByteArray)):=(blk_cell BK157.out 3).trans rfl
             have hcz28_4 : w9.cell? ⟨gb157,4,none⟩ = some (.string (⟨#[]⟩ : ByteArray)):=(blk_cell BK157.out 4).trans rfl
             have hfz28_0:=blk_frozen BK157.out 0
             have hfz28_1:=blk_frozen BK157.out 1
             have hfz28_2:=blk_frozen BK157.out 2
             have hfz28_3:=blk_frozen BK157.out 3
             have hfz28_4:=blk_frozen BK157.out 4
             go_wp2_with (first|(go_at_call 31;(with_reducible refine (racewayref25_Valid.calls k ((rd_T24 l0 a1).f3) t159 _ A27.out).mono ?_);rintro e w' ⟨rfl,⟨nd,rfl⟩⟩))
             go_meet
             case rel => exact ⟨_,(!t159),(by first|rfl|(simp;done)|(simp;decide +kernel)|(simp [*];done)),(by first|exact H'|(subst_vars;exact H')),⟨by first|omega|exact Nat.le_refl _⟩,⟨by (with_reducible repeat (first|refine blk_drewN ?_ _|refine blk_drew ?_|refine blk_alloc ?_ _));refine blk_put (cs:=#[.int .i64 ((rd_T24 l0 a1).f0),.int .i64 ((rd_T24 l0 a1).f1),.int .i64 ((rd_T24 l0 a1).f2),.string ((rd_T24 l0 a1).f3),.string (⟨#[]⟩ : ByteArray)]) ?_ 4 _ rfl;(with_reducible repeat (first|refine blk_drewN ?_ _|refine blk_drew ?_|refine blk_alloc ?_ _));refine blk_put (cs:=#[.int .i64 ((rd_T24 l0 a1).f0),.int .i64 ((rd_T24 l0 a1).f1),.int .i64 ((rd_T24 l0 a1).f2),.string (⟨#[]⟩ : ByteArray),.string (⟨#[]⟩ : ByteArray)]) ?_ 3 _ rfl;(with_reducible repeat (first|refine blk_drewN ?_ _|refine blk_drew ?_|refine blk_alloc ?_ _));refine blk_put (cs:=#[.int .i64 ((rd_T24 l0 a1).f0),.int .i64 ((rd_T24 l0 a1).f1),.int .i64 0,.string (⟨#[]⟩ : ByteArray),.string (⟨#[]⟩ : ByteArray)]) ?_ 2 _ rfl;(with_reducible repeat (first|refine blk_drewN ?_ _|refine blk_drew ?_|refine blk_alloc ?_ _));refine blk_put (cs:=#[.int .i64 ((rd_T24 l0 a1).f0),.int .i64 0,.int .i64 0,.string (⟨#[]⟩ : ByteArray),.string (⟨#[]⟩ : ByteArray)]) ?_ 1 _ rfl;(with_reducible repeat (first|refine blk_drewN ?_ _|refine blk_drew ?_|refine blk_alloc ?_ _));refine blk_put (cs:=#[.int .i64 0,.int .i64 0,.int .i64 0,.string (⟨#[]⟩ : ByteArray),.string (⟨#[]⟩ : ByteArray)]) ?_ 0 _ rfl;(with_reducible repeat (first|refine blk_drewN ?_ _|refine blk_drew ?_|refine blk_alloc ?_ _));exact BK157.out⟩,⟨by repeat (first|(with_reducible first|exact HB.out|apply below_alloc|apply pw_below_drewN|apply below_drew1|refine below_set ?_ GE157.out)|exact HB.out)⟩⟩
            ·replace c26:=Bool.eq_false_iff.mpr c26
             subst c26
             have H1 : (racewayref25_may.j0 k l0 a1 a2 a4 true ((rd_T24 l0 a1).f0) ((rd_T24 l0 a1).f1) ((rd_T24 l0 a1).f2) ((rd_T24 l0 a1).f3) ((rd_T24 l0 a1).f4)) = some r:=by rw [if_neg (show ¬ (false = true) by decide)] at H;exact H
             clear H
             have H:=H1
             clear H1
             have H':=Aside0.mk H
             clear H
             have hcz29_0 : w9.cell? ⟨gb157,0,none⟩ = some (.int .i64 0):=(blk_cell BK157.out 0).trans rfl
             have hcz29_1 : w9.cell? ⟨gb157,1,none⟩ = some (.int .i64 0):=(blk_cell BK157.out 1).trans rfl
             have hcz29_2 : w9.cell? ⟨gb157,2,none⟩ = some (.int .i64 0):=(blk_cell BK157.out 2).trans rfl
             have hcz29_3 : w9.cell? ⟨gb157,3,none⟩ = some (.string (⟨#[]⟩ : ByteArray)):=(blk_cell BK157.out 3).trans rfl
             have hcz29_4 : w9.cell? ⟨gb157,4,none⟩ = some (.string (⟨#[]⟩ : ByteArray)):=(blk_cell BK157.out 4).trans rfl
             have hfz29_0:=blk_frozen BK157.out 0
             have hfz29_1:=blk_frozen BK157.out 1
             have hfz29_2:=blk_frozen BK157.out 2
             have hfz29_3:=blk_frozen BK157.out 3
             have hfz29_4:=blk_frozen BK157.out 4
             go_wp2
             go_meet
             case rel => exact ⟨_,(true),(by first|rfl|(simp;done)|(simp;decide +kernel)|(simp [*];done)),(by first|exact H'|(subst_vars;exact H')),⟨by first|omega|exact Nat.le_refl _⟩,⟨by (with_reducible repeat (first|refine blk_drewN ?_ _|refine blk_drew ?_|refine blk_alloc ?_ _));refine blk_put (cs:=#[.int .i64 ((rd_T24 l0 a1).f0),.int .i64 ((rd_T24 l0 a1).f1),.int .i64 ((rd_T24 l0 a1).f2),.string ((rd_T24 l0 a1).f3),.string (⟨#[]⟩ : ByteArray)]) ?_ 4 _ rfl;(with_reducible repeat (first|refine blk_drewN ?_ _|refine blk_drew ?_|refine blk_alloc ?_ _));refine blk_put (cs:=#[.int .i64 ((rd_T24 l0 a1).f0),.int .i64 ((rd_T24 l0 a1).f1),.int .i64 ((rd_T24 l0 a1).f2),.string (⟨#[]⟩ : ByteArray),.string (⟨#[]⟩ : ByteArray)]) ?_ 3 _ rfl;(with_reducible repeat (first|refine blk_drewN ?_ _|refine blk_drew ?_|refine blk_alloc ?_ _));refine blk_put (cs:=#[.int .i64 ((rd_T24 l0 a1).f0),.int .i64 ((rd_T24 l0 a1).f1),.int .i64 0,.string (⟨#[]⟩ : ByteArray),.string (⟨#[]⟩ : ByteArray)]) ?_ 2 _ rfl;(with_reducible repeat (first|refine blk_drewN ?_ _|refine blk_drew ?_|refine blk_alloc ?_ _));refine blk_put (cs:=#[.int .i64 ((rd_T24 l0 a1).f0),.int .i64 0,.int .i64 0,.string (⟨#[]⟩ : ByteArray),.string (⟨#[]⟩ : ByteArray)]) ?_ 1 _ rfl;(with_reducible repeat (first|refine blk_drewN ?_ _|refine blk_drew ?_|refine blk_alloc ?_ _));refine blk_put (cs:=#[.int .i64 0,.int .i64 0,.int .i64 0,.string (⟨#[]⟩ : ByteArray),.string (⟨#[]⟩ : ByteArray)]) ?_ 0 _ rfl;(with_reducible repeat (first|refine blk_drewN ?_ _|refine blk_drew ?_|refine blk_alloc ?_ _));exact BK157.out⟩,⟨by repeat (first|(with_reducible first|exact HB.out|apply below_alloc|apply pw_below_drewN|apply below_drew1|refine below_set ?_ GE157.out)|exact HB.out)⟩⟩
         ·rw [if_neg c20] at H
          have c20b0 : decide (0 < ((rd_T24 l0 a1).f2)) = false:=decide_eq_false c20
          clear c20
          by_cases c30 : ((rd_T24 l0 a1).f3).toList = ([] : List UInt8)
          ·rw [if_pos c30] at H
           have c30b0 : (((rd_T24 l0 a1).f3).toList == ([] : List UInt8)) = true:=beq_iff_eq.mpr c30
           have c30b1 : (((rd_T24 l0 a1).f3).toList != ([] : List UInt8)) = false:=bne_eq_false_iff_eq.mpr c30
           clear c30
           replace H:=Option.bind_eq_some_iff.mp H
           obtain ⟨t160,A310,H⟩:=H
           replace H : (racewayref25_may.j0 k l0 a1 a2 a4 (!t160) ((rd_T24 l0 a1).f0) ((rd_T24 l0 a1).f1) ((rd_T24 l0 a1).f2) ((rd_T24 l0 a1).f3) ((rd_T24 l0 a1).f4)) = some r:=H
           have A31:=Aside0.mk A310
           clear A310
           have H':=Aside0.mk H
           clear H
           have hcz32_0 : w9.cell? ⟨gb157,0,none⟩ = some (.int .i64 0):=(blk_cell BK157.out 0).trans rfl
           have hcz32_1 : w9.cell? ⟨gb157,1,none⟩ = some (.int .i64 0):=(blk_cell BK157.out 1).trans rfl
           have hcz32_2 : w9.cell? ⟨gb157,2,none⟩ = some (.int .i64 0):=(blk_cell BK157.out 2).trans rfl
           have hcz32_3 : w9.cell? ⟨gb157,3,none⟩ = some (.string (⟨#[]⟩ : ByteArray)):=(blk_cell BK157.out 3).trans rfl
           have hcz32_4 : w9.cell? ⟨gb157,4,none⟩ = some (.string (⟨#[]⟩ : ByteArray)):=(blk_cell BK157.out 4).trans rfl
           have hfz32_0:=blk_frozen BK157.out 0
           have hfz32_1:=blk_frozen BK157.out 1
           have hfz32_2:=blk_frozen BK157.out 2
           have hfz32_3:=blk_frozen BK157.out 3
           have hfz32_4:=blk_frozen BK157.out 4
           go_wp2_with (first|(go_at_call 31;(with_reducible refine (racewayref25_Valid.calls k ((rd_T24 l0 a1).f3) t160 _ A31.out).mono ?_);rintro e w' ⟨rfl,⟨nd,rfl⟩⟩))
           go_meet
           case rel => exact ⟨_,(!t160),(by first|rfl|(simp;done)|(simp;decide +kernel)|(simp [*];done)),(by first|exact H'|(subst_vars;exact H')),⟨by first|omega|exact Nat.le_refl _⟩,⟨by (with_reducible repeat (first|refine blk_drewN ?_ _|refine blk_drew ?_|refine blk_alloc ?_ _));refine blk_put (cs:=#[.int .i64 ((rd_T24 l0 a1).f0),.int .i64 ((rd_T24 l0 a1).f1),.int .i64 ((rd_T24 l0 a1).f2),.string ((rd_T24 l0 a1).f3),.string (⟨#[]⟩ : ByteArray)]) ?_ 4 _ rfl;(with_reducible repeat (first|refine blk_drewN ?_ _|refine blk_drew ?_|refine blk_alloc ?_ _));refine blk_put (cs:=#[.int .i64 ((rd_T24 l0 a1).f0),.int .i64 ((rd_T24 l0 a1).f1),.int .i64 ((rd_T24 l0 a1).f2),.string (⟨#[]⟩ : ByteArray),.string (⟨#[]⟩ : ByteArray)]) ?_ 3 _ rfl;(with_reducible repeat (first|refine blk_drewN ?_ _|refine blk_drew ?_|refine blk_alloc ?_ _));refine blk_put (cs:=#[.int .i64 ((rd_T24 l0 a1).f0),.int .i64 ((rd_T24 l0 a1).f1),.int .i64 0,.string (⟨#[]⟩ : ByteArray),.string (⟨#[]⟩ : ByteArray)]) ?_ 2 _ rfl;(with_reducible repeat (first|refine blk_drewN ?_ _|refine blk_drew ?_|refine blk_alloc ?_ _));refine blk_put (cs:=#[.int .i64 ((rd_T24 l0 a1).f0),.int .i64 0,.int .i64 0,.string (⟨#[]⟩ : ByteArray),.string (⟨#[]⟩ : ByteArray)]) ?_ 1 _ rfl;(with_reducible repeat (first|refine blk_drewN ?_ _|refine blk_drew ?_|refine blk_alloc ?_ _));refine blk_put (cs:=#[.int .i64 0,.int .i64 0,.int .i64 0,.string (⟨#[]⟩ : ByteArray),.string (⟨#[]⟩ : ByteArray)]) ?_ 0 _ rfl;(with_reducible repeat (first|refine blk_drewN ?_ _|refine blk_drew ?_|refine blk_alloc ?_ _));exact BK157.out⟩,⟨by repeat (first|(with_reducible first|exact HB.out|apply below_alloc|apply pw_below_drewN|apply below_drew1|refine below_set ?_ GE157.out)|exact HB.out)⟩⟩
          ·rw [if_neg c30] at H
           have c30b0 : (((rd_T24 l0 a1).f3).toList == ([] : List UInt8)) = false:=beq_eq_false_iff_ne.mpr c30
           have c30b1 : (((rd_T24 l0 a1).f3).toList != ([] : List UInt8)) = true:=bne_iff_ne.mpr c30
           by_cases c33 : a3 = true
           ·subst c33
            have H1 : ((racewayref25_Valid.f k ((rd_T24 l0 a1).f3)).bind fun t161 => (racewayref25_may.j0 k l0 a1 a2 a4 (!t161) ((rd_T24 l0 a1).f0) ((rd_T24 l0 a1).f1) ((rd_T24 l0 a1).f2) ((rd_T24 l0 a1).f3) ((rd_T24 l0 a1).f4))) = some r:=by rw [if_pos rfl] at H;exact H
            clear H
            have H:=H1
            clear H1
            replace H:=Option.bind_eq_some_iff.mp H
            obtain ⟨t161,A340,H⟩:=H
            replace H : (racewayref25_may.j0 k l0 a1 a2 a4 (!t161) ((rd_T24 l0 a1).f0) ((rd_T24 l0 a1).f1) ((rd_T24 l0 a1).f2) ((rd_T24 l0 a1).f3) ((rd_T24 l0 a1).f4)) = some r:=H
            have A34:=Aside0.mk A340
            clear A340
            have H':=Aside0.mk H
            clear H
            have hcz35_0 : w9.cell? ⟨gb157,0,none⟩ = some (.int .i64 0):=(blk_cell BK157.out 0).trans rfl
            have hcz35_1 : w9.cell? ⟨gb157,1,none⟩ = some (.int .i64 0):=(blk_cell BK157.out 1).trans rfl
            have hcz35_2 : w9.cell? ⟨gb157,2,none⟩ = some (.int .i64 0):=(blk_cell BK157.out 2).trans rfl
            have hcz35_3 : w9.cell? ⟨gb157,3,none⟩ = some (.string (⟨#[]⟩ : ByteArray)):=(blk_cell BK157.out 3).trans rfl
            have hcz35_4 : w9.cell? ⟨gb157,4,none⟩ = some (.string (⟨#[]⟩ : ByteArray)):=(blk_cell BK157.out 4).trans rfl
            have hfz35_0:=blk_frozen BK157.out 0
            have hfz35_1:=blk_frozen BK157.out 1
            have hfz35_2:=blk_frozen BK157.out 2
            have hfz35_3:=blk_frozen BK157.out 3
            have hfz35_4:=blk_frozen BK157.out 4
            go_wp2_with (first|(go_at_call 31;(with_reducible refine (racewayref25_Valid.calls k ((rd_T24 l0 a1).f3) t161 _ A34.out).mono ?_);rintro e w' ⟨rfl,⟨nd,rfl⟩⟩))
            go_meet
            case rel => exact ⟨_,(!t161),(by first|rfl|(simp;done)|(simp;decide +kernel)|(simp [*];done)),(by first|exact H'|(subst_vars;exact H')),⟨by first|omega|exact Nat.le_refl _⟩,⟨by (with_reducible repeat (first|refine blk_drewN ?_ _|refine blk_drew ?_|refine blk_alloc ?_ _));refine blk_put (cs:=#[.int .i64 ((rd_T24 l0 a1).f0),.int .i64 ((rd_T24 l0 a1).f1),.int .i64 ((rd_T24 l0 a1).f2),.string ((rd_T24 l0 a1).f3),.string (⟨#[]⟩ : ByteArray)]) ?_ 4 _ rfl;(with_reducible repeat (first|refine blk_drewN ?_ _|refine blk_drew ?_|refine blk_alloc ?_ _));refine blk_put (cs:=#[.int .i64 ((rd_T24 l0 a1).f0),.int .i64 ((rd_T24 l0 a1).f1),.int .i64 ((rd_T24 l0 a1).f2),.string (⟨#[]⟩ : ByteArray),.string (⟨#[]⟩ : ByteArray)]) ?_ 3 _ rfl;(with_reducible repeat (first|refine blk_drewN ?_ _|refine blk_drew ?_|refine blk_alloc ?_ _));refine blk_put (cs:=#[.int .i64 ((rd_T24 l0 a1).f0),.int .i64 ((rd_T24 l0 a1).f1),.int .i64 0,.string (⟨#[]⟩ : ByteArray),.string (⟨#[]⟩ : ByteArray)]) ?_ 2 _ rfl;(with_reducible repeat (first|refine blk_drewN ?_ _|refine blk_drew ?_|refine blk_alloc ?_ _));refine blk_put (cs:=#[.int .i64 ((rd_T24 l0 a1).f0),.int .i64 0,.int .i64 0,.string (⟨#[]⟩ : ByteArray),.string (⟨#[]⟩ : ByteArray)]) ?_ 1 _ rfl;(with_reducible repeat (first|refine blk_drewN ?_ _|refine blk_drew ?_|refine blk_alloc ?_ _));refine blk_put (cs:=#[.int .i64 0,.int .i64 0,.int .i64 0,.string (⟨#[]⟩ : ByteArray),.string (⟨#[]⟩ : ByteArray)]) ?_ 0 _ rfl;(with_reducible repeat (first|refine blk_drewN ?_ _|refine blk_drew ?_|refine blk_alloc ?_ _));exact BK157.out⟩,⟨by repeat (first|(with_reducible first|exact HB.out|apply below_alloc|apply pw_below_drewN|apply below_drew1|refine below_set ?_ GE157.out)|exact HB.out)⟩⟩
           ·replace c33:=Bool.eq_false_iff.mpr c33
            subst c33
            have H1 : (racewayref25_may.j0 k l0 a1 a2 a4 true ((rd_T24 l0 a1).f0) ((rd_T24 l0 a1).f1) ((rd_T24 l0 a1).f2) ((rd_T24 l0 a1).f3) ((rd_T24 l0 a1).f4)) = some r:=by rw [if_neg (show ¬ (false = true) by decide)] at H;exact H
            clear H
            have H:=H1
            clear H1
            have H':=Aside0.mk H
            clear H
            have hcz36_0 : w9.cell? ⟨gb157,0,none⟩ = some (.int .i64 0):=(blk_cell BK157.out 0).trans rfl
            have hcz36_1 : w9.cell? ⟨gb157,1,none⟩ = some (.int .i64 0):=(blk_cell BK157.out 1).trans rfl
            have hcz36_2 : w9.cell? ⟨gb157,2,none⟩ = some (.int .i64 0):=(blk_cell BK157.out 2).trans rfl
            have hcz36_3 : w9.cell? ⟨gb157,3,none⟩ = some (.string (⟨#[]⟩ : ByteArray)):=(blk_cell BK157.out 3).trans rfl
            have hcz36_4 : w9.cell? ⟨gb157,4,none⟩ = some (.string (⟨#[]⟩ : ByteArray)):=(blk_cell BK157.out 4).trans rfl
            have hfz36_0:=blk_frozen BK157.out 0
            have hfz36_1:=blk_frozen BK157.out 1
            have hfz36_2:=blk_frozen BK157.out 2
            have hfz36_3:=blk_frozen BK157.out 3
            have hfz36_4:=blk_frozen BK157.out 4
            go_wp2
            go_meet
            case rel => exact ⟨_,(true),(by first|rfl|(simp;done)|(simp;decide +kernel)|(simp [*];done)),(by first|exact H'|(subst_vars;exact H')),⟨by first|omega|exact Nat.le_refl _⟩,⟨by (with_reducible repeat (first|refine blk_drewN ?_ _|refine blk_drew ?_|refine blk_alloc ?_ _));refine blk_put (cs:=#[.int .i64 ((rd_T24 l0 a1).f0),.int .i64 ((rd_T24 l0 a1).f1),.int .i64 ((rd_T24 l0 a1).f2),.string ((rd_T24 l0 a1).f3),.string (⟨#[]⟩ : ByteArray)]) ?_ 4 _ rfl;(with_reducible repeat (first|refine blk_drewN ?_ _|refine blk_drew ?_|refine blk_alloc ?_ _));refine blk_put (cs:=#[.int .i64 ((rd_T24 l0 a1).f0),.int .i64 ((rd_T24 l0 a1).f1),.int .i64 ((rd_T24 l0 a1).f2),.string (⟨#[]⟩ : ByteArray),.string (⟨#[]⟩ : ByteArray)]) ?_ 3 _ rfl;(with_reducible repeat (first|refine blk_drewN ?_ _|refine blk_drew ?_|refine blk_alloc ?_ _));refine blk_put (cs:=#[.int .i64 ((rd_T24 l0 a1).f0),.int .i64 ((rd_T24 l0 a1).f1),.int .i64 0,.string (⟨#[]⟩ : ByteArray),.string (⟨#[]⟩ : ByteArray)]) ?_ 2 _ rfl;(with_reducible repeat (first|refine blk_drewN ?_ _|refine blk_drew ?_|refine blk_alloc ?_ _));refine blk_put (cs:=#[.int .i64 ((rd_T24 l0 a1).f0),.int .i64 0,.int .i64 0,.string (⟨#[]⟩ : ByteArray),.string (⟨#[]⟩ : ByteArray)]) ?_ 1 _ rfl;(with_reducible repeat (first|refine blk_drewN ?_ _|refine blk_drew ?_|refine blk_alloc ?_ _));refine blk_put (cs:=#[.int .i64 0,.int .i64 0,.int .i64 0,.string (⟨#[]⟩ : ByteArray),.string (⟨#[]⟩ : ByteArray)]) ?_ 0 _ rfl;(with_reducible repeat (first|refine blk_drewN ?_ _|refine blk_drew ?_|refine blk_alloc ?_ _));exact BK157.out⟩,⟨by repeat (first|(with_reducible first|exact HB.out|apply below_alloc|apply pw_below_drewN|apply below_drew1|refine below_set ?_ GE157.out)|exact HB.out)⟩⟩
   case rest =>
    clear HC8
    try clear c1
    try clear p1
    try clear q1
    try clear hx1
    try clear c2
    try clear p2
    try clear c3
    try clear c6
    try clear c6b0
    try clear c7
    try clear c7b0
    try clear c11
    try clear c11b0
    try clear c12
    try clear c12b0
    try clear c14
    try clear c14b0
    try clear p15
    try clear q15
    try clear hx15
    try clear c16
    try clear c16b0
    try clear c18
    try clear c18b0
    try clear c20
    try clear c20b0
    try clear c21
    try clear c21b0
    try clear c23
    try clear c23b0
    try clear c23b1
    try clear c26
    try clear c30
    try clear c30b0
    try clear c30b1
    try clear c33
    try clear c35
    try clear hcz10_0
    try clear hcz10_1
    try clear hcz10_2
    try clear hcz10_3
    try clear hcz10_4
    try clear hcz13_0
    try clear hcz13_1
    try clear hcz13_2
    try clear hcz13_3
    try clear hcz13_4
    try clear hcz15_0
    try clear hcz15_1
    try clear hcz15_2
    try clear hcz15_3
    try clear hcz15_4
    try clear hcz17_0
    try clear hcz17_1
    try clear hcz17_2
    try clear hcz17_3
    try clear hcz17_4
    try clear hcz19_0
    try clear hcz19_1
    try clear hcz19_2
    try clear hcz19_3
    try clear hcz19_4
    try clear hcz22_0
    try clear hcz22_1
    try clear hcz22_2
    try clear hcz22_3
    try clear hcz22_4
    try clear hcz25_0
    try clear hcz25_1
    try clear hcz25_2
    try clear hcz25_3
    try clear hcz25_4
    try clear hcz28_0
    try clear hcz28_1
    try clear hcz28_2
    try clear hcz28_3
    try clear hcz28_4
    try clear hcz29_0
    try clear hcz29_1
    try clear hcz29_2
    try clear hcz29_3
    try clear hcz29_4
    try clear hcz32_0
    try clear hcz32_1
    try clear hcz32_2
    try clear hcz32_3
    try clear hcz32_4
    try clear hcz35_0
    try clear hcz35_1
    try clear hcz35_2
    try clear hcz35_3
    try clear hcz35_4
    try clear hcz36_0
    try clear hcz36_1
    try clear hcz36_2
    try clear hcz36_3
    try clear hcz36_4
    try clear hfz10_0
    try clear hfz10_1
    try clear hfz10_2
    try clear hfz10_3
    try clear hfz10_4
    try clear hfz13_0
    try clear hfz13_1
    try clear hfz13_2
    try clear hfz13_3
    try clear hfz13_4
    try clear hfz15_0
    try clear hfz15_1
    try clear hfz15_2
    try clear hfz15_3
    try clear hfz15_4
    try clear hfz17_0
    try clear hfz17_1
    try clear hfz17_2
    try clear hfz17_3
    try clear hfz17_4
    try clear hfz19_0
    try clear hfz19_1
    try clear hfz19_2
    try clear hfz19_3
    try clear hfz19_4
    try clear hfz22_0
    try clear hfz22_1
    try clear hfz22_2
    try clear hfz22_3
    try clear hfz22_4
    try clear hfz25_0
    try clear hfz25_1
    try clear hfz25_2
    try clear hfz25_3
    try clear hfz25_4
    try clear hfz28_0
    try clear hfz28_1
    try clear hfz28_2
    try clear hfz28_3
    try clear hfz28_4
    try clear hfz29_0
    try clear hfz29_1
    try clear hfz29_2
    try clear hfz29_3
    try clear hfz29_4
    try clear hfz32_0
    try clear hfz32_1
    try clear hfz32_2
    try clear hfz32_3
    try clear hfz32_4
    try clear hfz35_0
    try clear hfz35_1
    try clear hfz35_2
    try clear hfz35_3
    try clear hfz35_4
    try clear hfz36_0
    try clear hfz36_1
    try clear hfz36_2
    try clear hfz36_3
    try clear hfz36_4
    try clear hx156_0
    try clear hx156_1
    try clear hx156_2
    try clear hx156_3
    try clear hx156_4
    try clear p156
    try clear q156
    obtain ⟨kq,x65_7,rfl,HA,HJ7,BK157,HB⟩:=hcut
    cases kq with
    | zero => exact absurd HA.out (by simp [racewayref25_may.j0])
    | succ kj7 =>
     have H:=HA.out
     clear HA
     simp only [racewayref25_may.j0] at H
     by_cases c37 : x65_7 = true
     ·subst c37
      have H1 : (some (-1)) = some r:=by rw [if_pos rfl] at H;exact H
      clear H
      have H:=H1
      clear H1
      obtain rfl:=Option.some.inj H
      go_wp2
      go_ret
      exact ⟨by first|rfl|(simp [errW_none,errW_some] <;> rfl)|(simp [*,errW_none,errW_some] <;> rfl),by repeat (first|(with_reducible first|exact HB.out|apply below_alloc|apply pw_below_drewN|apply below_drew1|refine below_set ?_ GE157.out)|exact HB.out)⟩
     ·replace c37:=Bool.eq_false_iff.mpr c37
      subst c37
      have H1 : (if ((rd_T24 l0 a1).f0) = 4 then (if (((rd_T24 l0 a1).f4).size : Int) > 65536 then (some (-1)) else ((racewayref25_number.f kj7 ((rd_T24 l0 a1).f4) 0).bind fun bt162 => (if bt162.2.1 = 0 then (if bt162.1 = (((rd_T24 l0 a1).f4).size : Int) then (racewayref25_may.j1 kj7 l0 a1 a2 a4 ((rd_T24 l0 a1).f0) ((rd_T24 l0 a1).f1) ((rd_T24 l0 a1).f2) ((rd_T24 l0 a1).f3) ((rd_T24 l0 a1).f4)) else (some (-1))) else (some (-1))))) else (racewayref25_may.j1 kj7 l0 a1 a2 a4 ((rd_T24 l0 a1).f0) ((rd_T24 l0 a1).f1) ((rd_T24 l0 a1).f2) ((rd_T24 l0 a1).f3) ((rd_T24 l0 a1).f4))) = some r:=by rw [if_neg (show ¬ (false = true) by decide)] at H;exact H
      clear H
      have H:=H1
      clear H1
      have HC38:=Aside0.mk H
      clear H
      have hcz39_0 : wc.cell? ⟨gb157,0,none⟩ = some (.int .i64 ((rd_T24 l0 a1).f0)):=(blk_cell BK157.out 0).trans rfl
      have hcz39_1 : wc.cell? ⟨gb157,1,none⟩ = some (.int .i64 ((rd_T24 l0 a1).f1)):=(blk_cell BK157.out 1).trans rfl
      have hcz39_2 : wc.cell? ⟨gb157,2,none⟩ = some (.int .i64 ((rd_T24 l0 a1).f2)):=(blk_cell BK157.out 2).trans rfl
      have hcz39_3 : wc.cell? ⟨gb157,3,none⟩ = some (.string ((rd_T24 l0 a1).f3)):=(blk_cell BK157.out 3).trans rfl
      have hcz39_4 : wc.cell? ⟨gb157,4,none⟩ = some (.string ((rd_T24 l0 a1).f4)):=(blk_cell BK157.out 4).trans rfl
      have hfz39_0:=blk_frozen BK157.out 0
      have hfz39_1:=blk_frozen BK157.out 1
      have hfz39_2:=blk_frozen BK157.out 2
      have hfz39_3:=blk_frozen BK157.out 3
      have hfz39_4:=blk_frozen BK157.out 4
      go_upto_if 68 with (fail)
      go_cut [] (fun wc => ∃ (kq : Nat),Aside0 (racewayref25_may.j1 kq l0 a1 a2 a4 ((rd_T24 l0 a1).f0) ((rd_T24 l0 a1).f1) ((rd_T24 l0 a1).f2) ((rd_T24 l0 a1).f3) ((rd_T24 l0 a1).f4) = some r) ∧ Aside0 (kq ≤ kj7) ∧ Aside0 (wc.heap[gb157]? = some (.cells #[.int .i64 ((rd_T24 l0 a1).f0),.int .i64 ((rd_T24 l0 a1).f1),.int .i64 ((rd_T24 l0 a1).f2),.string ((rd_T24 l0 a1).f3),.string ((rd_T24 l0 a1).f4)] 24 (0,0))) ∧ Aside0 (Below w.heap.size w wc))
      case first =>
       have H:=HC38.out
       clear HC38
       by_cases c40 : ((rd_T24 l0 a1).f0) = 4
       ·rw [if_pos c40] at H
        have c40b0 : (((rd_T24 l0 a1).f0) == 4) = true:=beq_iff_eq.mpr c40
        have c40b1 : (((rd_T24 l0 a1).f0) != 4) = false:=bne_eq_false_iff_eq.mpr c40
        clear c40
        (first|rw [c40b0]|(simp only [i64_w,i32_w];rw [c40b0])|skip)
        by_cases c41 : (((rd_T24 l0 a1).f4).size : Int) > 65536
        ·rw [if_pos c41] at H
         have c41b0 : decide (65536 < (((rd_T24 l0 a1).f4).size : Int)) = true:=decide_eq_true c41
         have c41b1 : decide (65536 < ((rd_T24 l0 a1).f4).size) = true:=decide_eq_true (by omega)
         clear c41
         obtain rfl:=Option.some.inj H
         have hcz42_0 : wc.cell? ⟨gb157,0,none⟩ = some (.int .i64 ((rd_T24 l0 a1).f0)):=(blk_cell BK157.out 0).trans rfl
         have hcz42_1 : wc.cell? ⟨gb157,1,none⟩ = some (.int .i64 ((rd_T24 l0 a1).f1)):=(blk_cell BK157.out 1).trans rfl
         have hcz42_2 : wc.cell? ⟨gb157,2,none⟩ = some (.int .i64 ((rd_T24 l0 a1).f2)):=(blk_cell BK157.out 2).trans rfl
         have hcz42_3 : wc.cell? ⟨gb157,3,none⟩ = some (.string ((rd_T24 l0 a1).f3)):=(blk_cell BK157.out 3).trans rfl
         have hcz42_4 : wc.cell? ⟨gb157,4,none⟩ = some (.string ((rd_T24 l0 a1).f4)):=(blk_cell BK157.out 4).trans rfl
         have hfz42_0:=blk_frozen BK157.out 0
         have hfz42_1:=blk_frozen BK157.out 1
         have hfz42_2:=blk_frozen BK157.out 2
         have hfz42_3:=blk_frozen BK157.out 3
         have hfz42_4:=blk_frozen BK157.out 4
         go_wp2
         go_ret
         exact ⟨by first|rfl|(simp [errW_none,errW_some] <;> rfl)|(simp [*,errW_none,errW_some] <;> rfl),by repeat (first|(with_reducible first|exact HB.out|apply below_alloc|apply pw_below_drewN|apply below_drew1|refine below_set ?_ GE157.out)|exact HB.out)⟩
        ·rw [if_neg c41] at H
         have c41b0 : decide (65536 < (((rd_T24 l0 a1).f4).size : Int)) = false:=decide_eq_false c41
         have c41b1 : decide (65536 < ((rd_T24 l0 a1).f4).size) = false:=decide_eq_false (by omega)
         clear c41
         replace H:=Option.bind_eq_some_iff.mp H
         obtain ⟨⟨t162,t163,t164,t167⟩,A430,H⟩:=H
         replace H : (if t163 = 0 then (if t162 = (((rd_T24 l0 a1).f4).size : Int) then (racewayref25_may.j1 kj7 l0 a1 a2 a4 ((rd_T24 l0 a1).f0) ((rd_T24 l0 a1).f1) ((rd_T24 l0 a1).f2) ((rd_T24 l0 a1).f3) ((rd_T24 l0 a1).f4)) else (some (-1))) else (some (-1))) = some r:=H
         have A43:=Aside0.mk A430
         clear A430
         by_cases c44 : t163 = 0
         ·rw [if_pos c44] at H
          have c44b0 : (t163 == 0) = true:=beq_iff_eq.mpr c44
          have c44b1 : (t163 != 0) = false:=bne_eq_false_iff_eq.mpr c44
          clear c44
          by_cases c45 : t162 = (((rd_T24 l0 a1).f4).size : Int)
          ·rw [if_pos c45] at H
           have c45b0 : (t162 == (((rd_T24 l0 a1).f4).size : Int)) = true:=beq_iff_eq.mpr c45
           have c45b1 : (t162 != (((rd_T24 l0 a1).f4).size : Int)) = false:=bne_eq_false_iff_eq.mpr c45
           clear c45
           have H':=Aside0.mk H
           clear H
           have hcz46_0 : wc.cell? ⟨gb157,0,none⟩ = some (.int .i64 ((rd_T24 l0 a1).f0)):=(blk_cell BK157.out 0).trans rfl
           have hcz46_1 : wc.cell? ⟨gb157,1,none⟩ = some (.int .i64 ((rd_T24 l0 a1).f1)):=(blk_cell BK157.out 1).trans rfl
           have hcz46_2 : wc.cell? ⟨gb157,2,none⟩ = some (.int .i64 ((rd_T24 l0 a1).f2)):=(blk_cell BK157.out 2).trans rfl
           have hcz46_3 : wc.cell? ⟨gb157,3,none⟩ = some (.string ((rd_T24 l0 a1).f3)):=(blk_cell BK157.out 3).trans rfl
           have hcz46_4 : wc.cell? ⟨gb157,4,none⟩ = some (.string ((rd_T24 l0 a1).f4)):=(blk_cell BK157.out 4).trans rfl
           have hfz46_0:=blk_frozen BK157.out 0
           have hfz46_1:=blk_frozen BK157.out 1
           have hfz46_2:=blk_frozen BK157.out 2
           have hfz46_3:=blk_frozen BK157.out 3
           have hfz46_4:=blk_frozen BK157.out 4
           go_wp2_with (first|((with_reducible refine gate_callee (f:=51) rfl ?_);refine goesL_ (some 75) rfl rfl Tryd.func51 (by kernel_rfl) rfl #[.string ((rd_T24 l0 a1).f4),.int .i64 0] rfl (by (try simp only [List.map_toArray,List.map_cons,List.map_nil]);first|done|rfl|(simp only [List.length_drop,List.length_take];rfl)) ?_;(with_reducible refine (racewayref25_number.calls kj7 ((rd_T24 l0 a1).f4) 0 t162 t163 t164 t167 _ A43.out).mono ?_);rintro e w47 ⟨v165,rfl,ho0,hb⟩;refine ⟨_,rfl,?_⟩;have n0_:=Aside0.mk (Kd.R_lower (Kd.R_newB ho0 (g:=gb157) (o:=.cells #[.int .i64 ((rd_T24 l0 a1).f0),.int .i64 ((rd_T24 l0 a1).f1),.int .i64 ((rd_T24 l0 a1).f2),.string ((rd_T24 l0 a1).f3),.string ((rd_T24 l0 a1).f4)] 24 (0,0)) (by (with_reducible repeat (first|refine blk_drewN ?_ _|refine blk_drew ?_|refine blk_alloc ?_ _));exact BK157.out)) (below_size (by repeat (first|(with_reducible first|exact HB.out|apply below_alloc|apply pw_below_drewN|apply below_drew1|refine below_set ?_ GE157.out)|exact HB.out))));have n1_:=Aside0.mk (blk_below (g:=gb157) (o:=.cells #[.int .i64 ((rd_T24 l0 a1).f0),.int .i64 ((rd_T24 l0 a1).f1),.int .i64 ((rd_T24 l0 a1).f2),.string ((rd_T24 l0 a1).f3),.string ((rd_T24 l0 a1).f4)] 24 (0,0)) (by (with_reducible repeat (first|refine blk_drewN ?_ _|refine blk_drew ?_|refine blk_alloc ?_ _));exact BK157.out) hb);have n2_:=Aside0.mk (below_step (by repeat (first|(with_reducible first|exact HB.out|apply below_alloc|apply pw_below_drewN|apply below_drew1|refine below_set ?_ GE157.out)|exact HB.out)) hb);clear BK157;clear HB;have HO166:=n0_;have BK157:=n1_;have HB:=n2_;clear n0_ n1_ n2_;(try clear hb);(try clear hb2);(try clear hk);(try clear hi);(try clear ho0))|((with_reducible refine gate_dst (N:=12) rfl ?_);(try (refine gate_guard (by rfl) ?_;dsimp only));refine box_event ?hg (N:=12) ?hd (cs:=#[.int .i64 0,.int .i64 0,.slice none 0 0,.string (⟨#[]⟩ : ByteArray)]) (t:=92) ?hr ?_;(case hd => rfl);(case hg => rfl);(case hr => first|(go_simp;done)|(go_simp;rfl));intro gb168 hg w48 hbox hb;have n0_:=Aside0.mk (Kd.R_below (by (with_reducible repeat (first|apply Kd.R_alloc|apply Kd.R_drewN|apply Kd.R_drew));exact HO166.out) hb);have n1_:=Aside0.mk (blk_below (g:=gb157) (o:=.cells #[.int .i64 ((rd_T24 l0 a1).f0),.int .i64 ((rd_T24 l0 a1).f1),.int .i64 ((rd_T24 l0 a1).f2),.string ((rd_T24 l0 a1).f3),.string ((rd_T24 l0 a1).f4)] 24 (0,0)) (by (with_reducible repeat (first|refine blk_drewN ?_ _|refine blk_drew ?_|refine blk_alloc ?_ _));exact BK157.out) hb);have n2_:=Aside0.mk (below_step (by repeat (first|(with_reducible first|exact HB.out|apply below_alloc|apply pw_below_drewN|apply below_drew1|refine below_set ?_ GE157.out)|exact HB.out)) hb);have n3_:=Aside0.mk (hbox);have n4_:=Aside0.mk ((by rw [hg];exact (below_size (by repeat (first|(with_reducible first|exact HB.out|apply below_alloc|apply pw_below_drewN|apply below_drew1|refine below_set ?_ GE157.out)|exact HB.out))) : w.heap.size ≤ gb168));have n5_:=Aside0.mk ((by rw [hg];exact (below_size (by repeat (first|(with_reducible first|exact HB.out|apply below_alloc|apply pw_below_drewN|apply below_drew1|refine below_set ?_ GE157.out)|exact HB.out))) : w.heap.size ≤ gb168));have n6_:=Aside0.mk ((by rw [hg];exact Nat.ne_of_lt (blk_lt (g:=gb157) (o:=.cells #[.int .i64 ((rd_T24 l0 a1).f0),.int .i64 ((rd_T24 l0 a1).f1),.int .i64 ((rd_T24 l0 a1).f2),.string ((rd_T24 l0 a1).f3),.string ((rd_T24 l0 a1).f4)] 24 (0,0)) (by (with_reducible repeat (first|refine blk_drewN ?_ _|refine blk_drew ?_|refine blk_alloc ?_ _));exact BK157.out)) : gb157 ≠ gb168));have n7_:=Aside0.mk ((by rw [hg];exact Nat.ne_of_gt (blk_lt (g:=gb157) (o:=.cells #[.int .i64 ((rd_T24 l0 a1).f0),.int .i64 ((rd_T24 l0 a1).f1),.int .i64 ((rd_T24 l0 a1).f2),.string ((rd_T24 l0 a1).f3),.string ((rd_T24 l0 a1).f4)] 24 (0,0)) (by (with_reducible repeat (first|refine blk_drewN ?_ _|refine blk_drew ?_|refine blk_alloc ?_ _));exact BK157.out)) : gb168 ≠ gb157));clear HO166;clear BK157;clear HB;have HO166:=n0_;have BK157:=n1_;have HB:=n2_;have BK168:=n3_;have GW168:=n4_;have GE168:=n5_;have NB157_168:=n6_;have NB168_157:=n7_;clear n0_ n1_ n2_ n3_ n4_ n5_ n6_ n7_;clear hb hbox hg;have hnb49:=NB168_157.out;have hnc49:=NB157_168.out;have hcz50_0 : w48.cell? ⟨gb168,0,none⟩ = some (.int .i64 0):=(blk_cell BK168.out 0).trans rfl;have hcz50_1 : w48.cell? ⟨gb168,1,none⟩ = some (.int .i64 0):=(blk_cell BK168.out 1).trans rfl;have hcz50_2 : w48.cell? ⟨gb168,2,none⟩ = some (.slice none 0 0):=(blk_cell BK168.out 2).trans rfl;have hcz50_3 : w48.cell? ⟨gb168,3,none⟩ = some (.string (⟨#[]⟩ : ByteArray)):=(blk_cell BK168.out 3).trans rfl;have hfz50_0:=blk_frozen BK168.out 0;have hfz50_1:=blk_frozen BK168.out 1;have hfz50_2:=blk_frozen BK168.out 2;have hfz50_3:=blk_frozen BK168.out 3;obtain ⟨Ao51,co51,eo51⟩:=Kd.R_slice HO166.out;subst eo51;have hcz52_0 : w48.cell? ⟨gb157,0,none⟩ = some (.int .i64 ((rd_T24 l0 a1).f0)):=(blk_cell BK157.out 0).trans rfl;have hcz52_1 : w48.cell? ⟨gb157,1,none⟩ = some (.int .i64 ((rd_T24 l0 a1).f1)):=(blk_cell BK157.out 1).trans rfl;have hcz52_2 : w48.cell? ⟨gb157,2,none⟩ = some (.int .i64 ((rd_T24 l0 a1).f2)):=(blk_cell BK157.out 2).trans rfl;have hcz52_3 : w48.cell? ⟨gb157,3,none⟩ = some (.string ((rd_T24 l0 a1).f3)):=(blk_cell BK157.out 3).trans rfl;have hcz52_4 : w48.cell? ⟨gb157,4,none⟩ = some (.string ((rd_T24 l0 a1).f4)):=(blk_cell BK157.out 4).trans rfl;have hfz52_0:=blk_frozen BK157.out 0;have hfz52_1:=blk_frozen BK157.out 1;have hfz52_2:=blk_frozen BK157.out 2;have hfz52_3:=blk_frozen BK157.out 3;have hfz52_4:=blk_frozen BK157.out 4))
           go_meet
           case rel => exact ⟨_,(by first|exact H'|(subst_vars;exact H')),⟨by have:=HJ7.out;first|omega|exact Nat.le_refl _⟩,⟨by (with_reducible repeat (first|refine blk_drewN ?_ _|refine blk_drew ?_|refine blk_alloc ?_ _));refine blk_far ?_ NB157_168.out _;(with_reducible repeat (first|refine blk_drewN ?_ _|refine blk_drew ?_|refine blk_alloc ?_ _));refine blk_far ?_ NB157_168.out _;(with_reducible repeat (first|refine blk_drewN ?_ _|refine blk_drew ?_|refine blk_alloc ?_ _));refine blk_far ?_ NB157_168.out _;(with_reducible repeat (first|refine blk_drewN ?_ _|refine blk_drew ?_|refine blk_alloc ?_ _));refine blk_far ?_ NB157_168.out _;(with_reducible repeat (first|refine blk_drewN ?_ _|refine blk_drew ?_|refine blk_alloc ?_ _));exact BK157.out⟩,⟨by repeat (first|(with_reducible first|exact HB.out|apply below_alloc|apply pw_below_drewN|apply below_drew1|refine below_set ?_ GE157.out|refine below_set ?_ GE168.out)|exact HB.out)⟩⟩
          ·rw [if_neg c45] at H
           have c45b0 : (t162 == (((rd_T24 l0 a1).f4).size : Int)) = false:=beq_eq_false_iff_ne.mpr c45
           have c45b1 : (t162 != (((rd_T24 l0 a1).f4).size : Int)) = true:=bne_iff_ne.mpr c45
           obtain rfl:=Option.some.inj H
           have hcz53_0 : wc.cell? ⟨gb157,0,none⟩ = some (.int .i64 ((rd_T24 l0 a1).f0)):=(blk_cell BK157.out 0).trans rfl
           have hcz53_1 : wc.cell? ⟨gb157,1,none⟩ = some (.int .i64 ((rd_T24 l0 a1).f1)):=(blk_cell BK157.out 1).trans rfl
           have hcz53_2 : wc.cell? ⟨gb157,2,none⟩ = some (.int .i64 ((rd_T24 l0 a1).f2)):=(blk_cell BK157.out 2).trans rfl
           have hcz53_3 : wc.cell? ⟨gb157,3,none⟩ = some (.string ((rd_T24 l0 a1).f3)):=(blk_cell BK157.out 3).trans rfl
           have hcz53_4 : wc.cell? ⟨gb157,4,none⟩ = some (.string ((rd_T24 l0 a1).f4)):=(blk_cell BK157.out 4).trans rfl
           have hfz53_0:=blk_frozen BK157.out 0
           have hfz53_1:=blk_frozen BK157.out 1
           have hfz53_2:=blk_frozen BK157.out 2
           have hfz53_3:=blk_frozen BK157.out 3
           have hfz53_4:=blk_frozen BK157.out 4
           go_wp2_with (first|((with_reducible refine gate_callee (f:=51) rfl ?_);refine goesL_ (some 75) rfl rfl Tryd.func51 (by kernel_rfl) rfl #[.string ((rd_T24 l0 a1).f4),.int .i64 0] rfl (by (try simp only [List.map_toArray,List.map_cons,List.map_nil]);first|done|rfl|(simp only [List.length_drop,List.length_take];rfl)) ?_;(with_reducible refine (racewayref25_number.calls kj7 ((rd_T24 l0 a1).f4) 0 t162 t163 t164 t167 _ A43.out).mono ?_);rintro e w54 ⟨v165,rfl,ho0,hb⟩;refine ⟨_,rfl,?_⟩;have n0_:=Aside0.mk (Kd.R_lower (Kd.R_newB ho0 (g:=gb157) (o:=.cells #[.int .i64 ((rd_T24 l0 a1).f0),.int .i64 ((rd_T24 l0 a1).f1),.int .i64 ((rd_T24 l0 a1).f2),.string ((rd_T24 l0 a1).f3),.string ((rd_T24 l0 a1).f4)] 24 (0,0)) (by (with_reducible repeat (first|refine blk_drewN ?_ _|refine blk_drew ?_|refine blk_alloc ?_ _));exact BK157.out)) (below_size (by repeat (first|(with_reducible first|exact HB.out|apply below_alloc|apply pw_below_drewN|apply below_drew1|refine below_set ?_ GE157.out)|exact HB.out))));have n1_:=Aside0.mk (blk_below (g:=gb157) (o:=.cells #[.int .i64 ((rd_T24 l0 a1).f0),.int .i64 ((rd_T24 l0 a1).f1),.int .i64 ((rd_T24 l0 a1).f2),.string ((rd_T24 l0 a1).f3),.string ((rd_T24 l0 a1).f4)] 24 (0,0)) (by (with_reducible repeat (first|refine blk_drewN ?_ _|refine blk_drew ?_|refine blk_alloc ?_ _));exact BK157.out) hb);have n2_:=Aside0.mk (below_step (by repeat (first|(with_reducible first|exact HB.out|apply below_alloc|apply pw_below_drewN|apply below_drew1|refine below_set ?_ GE157.out)|exact HB.out)) hb);clear BK157;clear HB;have HO166:=n0_;have BK157:=n1_;have HB:=n2_;clear n0_ n1_ n2_;(try clear hb);(try clear hb2);(try clear hk);(try clear hi);(try clear ho0))|((with_reducible refine gate_dst (N:=12) rfl ?_);(try (refine gate_guard (by rfl) ?_;dsimp only));refine box_event ?hg (N:=12) ?hd (cs:=#[.int .i64 0,.int .i64 0,.slice none 0 0,.string (⟨#[]⟩ : ByteArray)]) (t:=92) ?hr ?_;(case hd => rfl);(case hg => rfl);(case hr => first|(go_simp;done)|(go_simp;rfl));intro gb168 hg w55 hbox hb;have n0_:=Aside0.mk (Kd.R_below (by (with_reducible repeat (first|apply Kd.R_alloc|apply Kd.R_drewN|apply Kd.R_drew));exact HO166.out) hb);have n1_:=Aside0.mk (blk_below (g:=gb157) (o:=.cells #[.int .i64 ((rd_T24 l0 a1).f0),.int .i64 ((rd_T24 l0 a1).f1),.int .i64 ((rd_T24 l0 a1).f2),.string ((rd_T24 l0 a1).f3),.string ((rd_T24 l0 a1).f4)] 24 (0,0)) (by (with_reducible repeat (first|refine blk_drewN ?_ _|refine blk_drew ?_|refine blk_alloc ?_ _));exact BK157.out) hb);have n2_:=Aside0.mk (below_step (by repeat (first|(with_reducible first|exact HB.out|apply below_alloc|apply pw_below_drewN|apply below_drew1|refine below_set ?_ GE157.out)|exact HB.out)) hb);have n3_:=Aside0.mk (hbox);have n4_:=Aside0.mk ((by rw [hg];exact (below_size (by repeat (first|(with_reducible first|exact HB.out|apply below_alloc|apply pw_below_drewN|apply below_drew1|refine below_set ?_ GE157.out)|exact HB.out))) : w.heap.size ≤ gb168));have n5_:=Aside0.mk ((by rw [hg];exact (below_size (by repeat (first|(with_reducible first|exact HB.out|apply below_alloc|apply pw_below_drewN|apply below_drew1|refine below_set ?_ GE157.out)|exact HB.out))) : w.heap.size ≤ gb168));have n6_:=Aside0.mk ((by rw [hg];exact Nat.ne_of_lt (blk_lt (g:=gb157) (o:=.cells #[.int .i64 ((rd_T24 l0 a1).f0),.int .i64 ((rd_T24 l0 a1).f1),.int .i64 ((rd_T24 l0 a1).f2),.string ((rd_T24 l0 a1).f3),.string ((rd_T24 l0 a1).f4)] 24 (0,0)) (by (with_reducible repeat (first|refine blk_drewN ?_ _|refine blk_drew ?_|refine blk_alloc ?_ _));exact BK157.out)) : gb157 ≠ gb168));have n7_:=Aside0.mk ((by rw [hg];exact Nat.ne_of_gt (blk_lt (g:=gb157) (o:=.cells #[.int .i64 ((rd_T24 l0 a1).f0),.int .i64 ((rd_T24 l0 a1).f1),.int .i64 ((rd_T24 l0 a1).f2),.string ((rd_T24 l0 a1).f3),.string ((rd_T24 l0 a1).f4)] 24 (0,0)) (by (with_reducible repeat (first|refine blk_drewN ?_ _|refine blk_drew ?_|refine blk_alloc ?_ _));exact BK157.out)) : gb168 ≠ gb157));clear HO166;clear BK157;clear HB;have HO166:=n0_;have BK157:=n1_;have HB:=n2_;have BK168:=n3_;have GW168:=n4_;have GE168:=n5_;have NB157_168:=n6_;have NB168_157:=n7_;clear n0_ n1_ n2_ n3_ n4_ n5_ n6_ n7_;clear hb hbox hg;have hnb56:=NB168_157.out;have hnc56:=NB157_168.out;have hcz57_0 : w55.cell? ⟨gb168,0,none⟩ = some (.int .i64 0):=(blk_cell BK168.out 0).trans rfl;have hcz57_1 : w55.cell? ⟨gb168,1,none⟩ = some (.int .i64 0):=(blk_cell BK168.out 1).trans rfl;have hcz57_2 : w55.cell? ⟨gb168,2,none⟩ = some (.slice none 0 0):=(blk_cell BK168.out 2).trans rfl;have hcz57_3 : w55.cell? ⟨gb168,3,none⟩ = some (.string (⟨#[]⟩ : ByteArray)):=(blk_cell BK168.out 3).trans rfl;have hfz57_0:=blk_frozen BK168.out 0;have hfz57_1:=blk_frozen BK168.out 1;have hfz57_2:=blk_frozen BK168.out 2;have hfz57_3:=blk_frozen BK168.out 3;obtain ⟨Ao58,co58,eo58⟩:=Kd.R_slice HO166.out;subst eo58;have hcz59_0 : w55.cell? ⟨gb157,0,none⟩ = some (.int .i64 ((rd_T24 l0 a1).f0)):=(blk_cell BK157.out 0).trans rfl;have hcz59_1 : w55.cell? ⟨gb157,1,none⟩ = some (.int .i64 ((rd_T24 l0 a1).f1)):=(blk_cell BK157.out 1).trans rfl;have hcz59_2 : w55.cell? ⟨gb157,2,none⟩ = some (.int .i64 ((rd_T24 l0 a1).f2)):=(blk_cell BK157.out 2).trans rfl;have hcz59_3 : w55.cell? ⟨gb157,3,none⟩ = some (.string ((rd_T24 l0 a1).f3)):=(blk_cell BK157.out 3).trans rfl;have hcz59_4 : w55.cell? ⟨gb157,4,none⟩ = some (.string ((rd_T24 l0 a1).f4)):=(blk_cell BK157.out 4).trans rfl;have hfz59_0:=blk_frozen BK157.out 0;have hfz59_1:=blk_frozen BK157.out 1;have hfz59_2:=blk_frozen BK157.out 2;have hfz59_3:=blk_frozen BK157.out 3;have hfz59_4:=blk_frozen BK157.out 4))
           go_ret
           exact ⟨by first|rfl|(simp [errW_none,errW_some] <;> rfl)|(simp [*,errW_none,errW_some] <;> rfl),by repeat (first|(with_reducible first|exact HB.out|apply below_alloc|apply pw_below_drewN|apply below_drew1|refine below_set ?_ GE157.out|refine below_set ?_ GE168.out)|exact HB.out)⟩
         ·rw [if_neg c44] at H
          have c44b0 : (t163 == 0) = false:=beq_eq_false_iff_ne.mpr c44
          have c44b1 : (t163 != 0) = true:=bne_iff_ne.mpr c44
          obtain rfl:=Option.some.inj H
          have hcz60_0 : wc.cell? ⟨gb157,0,none⟩ = some (.int .i64 ((rd_T24 l0 a1).f0)):=(blk_cell BK157.out 0).trans rfl
          have hcz60_1 : wc.cell? ⟨gb157,1,none⟩ = some (.int .i64 ((rd_T24 l0 a1).f1)):=(blk_cell BK157.out 1).trans rfl
          have hcz60_2 : wc.cell? ⟨gb157,2,none⟩ = some (.int .i64 ((rd_T24 l0 a1).f2)):=(blk_cell BK157.out 2).trans rfl
          have hcz60_3 : wc.cell? ⟨gb157,3,none⟩ = some (.string ((rd_T24 l0 a1).f3)):=(blk_cell BK157.out 3).trans rfl
          have hcz60_4 : wc.cell? ⟨gb157,4,none⟩ = some (.string ((rd_T24 l0 a1).f4)):=(blk_cell BK157.out 4).trans rfl
          have hfz60_0:=blk_frozen BK157.out 0
          have hfz60_1:=blk_frozen BK157.out 1
          have hfz60_2:=blk_frozen BK157.out 2
          have hfz60_3:=blk_frozen BK157.out 3
          have hfz60_4:=blk_frozen BK157.out 4
          go_wp2_with (first|((with_reducible refine gate_callee (f:=51) rfl ?_);refine goesL_ (some 75) rfl rfl Tryd.func51 (by kernel_rfl) rfl #[.string ((rd_T24 l0 a1).f4),.int .i64 0] rfl (by (try simp only [List.map_toArray,List.map_cons,List.map_nil]);first|done|rfl|(simp only [List.length_drop,List.length_take];rfl)) ?_;(with_reducible refine (racewayref25_number.calls kj7 ((rd_T24 l0 a1).f4) 0 t162 t163 t164 t167 _ A43.out).mono ?_);rintro e w61 ⟨v165,rfl,ho0,hb⟩;refine ⟨_,rfl,?_⟩;have n0_:=Aside0.mk (Kd.R_lower (Kd.R_newB ho0 (g:=gb157) (o:=.cells #[.int .i64 ((rd_T24 l0 a1).f0),.int .i64 ((rd_T24 l0 a1).f1),.int .i64 ((rd_T24 l0 a1).f2),.string ((rd_T24 l0 a1).f3),.string ((rd_T24 l0 a1).f4)] 24 (0,0)) (by (with_reducible repeat (first|refine blk_drewN ?_ _|refine blk_drew ?_|refine blk_alloc ?_ _));exact BK157.out)) (below_size (by repeat (first|(with_reducible first|exact HB.out|apply below_alloc|apply pw_below_drewN|apply below_drew1|refine below_set ?_ GE157.out)|exact HB.out))));have n1_:=Aside0.mk (blk_below (g:=gb157) (o:=.cells #[.int .i64 ((rd_T24 l0 a1).f0),.int .i64 ((rd_T24 l0 a1).f1),.int .i64 ((rd_T24 l0 a1).f2),.string ((rd_T24 l0 a1).f3),.string ((rd_T24 l0 a1).f4)] 24 (0,0)) (by (with_reducible repeat (first|refine blk_drewN ?_ _|refine blk_drew ?_|refine blk_alloc ?_ _));exact BK157.out) hb);have n2_:=Aside0.mk (below_step (by repeat (first|(with_reducible first|exact HB.out|apply below_alloc|apply pw_below_drewN|apply below_drew1|refine below_set ?_ GE157.out)|exact HB.out)) hb);clear BK157;clear HB;have HO166:=n0_;have BK157:=n1_;have HB:=n2_;clear n0_ n1_ n2_;(try clear hb);(try clear hb2);(try clear hk);(try clear hi);(try clear ho0))|((with_reducible refine gate_dst (N:=12) rfl ?_);(try (refine gate_guard (by rfl) ?_;dsimp only));refine box_event ?hg (N:=12) ?hd (cs:=#[.int .i64 0,.int .i64 0,.slice none 0 0,.string (⟨#[]⟩ : ByteArray)]) (t:=92) ?hr ?_;(case hd => rfl);(case hg => rfl);(case hr => first|(go_simp;done)|(go_simp;rfl));intro gb168 hg w62 hbox hb;have n0_:=Aside0.mk (Kd.R_below (by (with_reducible repeat (first|apply Kd.R_alloc|apply Kd.R_drewN|apply Kd.R_drew));exact HO166.out) hb);have n1_:=Aside0.mk (blk_below (g:=gb157) (o:=.cells #[.int .i64 ((rd_T24 l0 a1).f0),.int .i64 ((rd_T24 l0 a1).f1),.int .i64 ((rd_T24 l0 a1).f2),.string ((rd_T24 l0 a1).f3),.string ((rd_T24 l0 a1).f4)] 24 (0,0)) (by (with_reducible repeat (first|refine blk_drewN ?_ _|refine blk_drew ?_|refine blk_alloc ?_ _));exact BK157.out) hb);have n2_:=Aside0.mk (below_step (by repeat (first|(with_reducible first|exact HB.out|apply below_alloc|apply pw_below_drewN|apply below_drew1|refine below_set ?_ GE157.out)|exact HB.out)) hb);have n3_:=Aside0.mk (hbox);have n4_:=Aside0.mk ((by rw [hg];exact (below_size (by repeat (first|(with_reducible first|exact HB.out|apply below_alloc|apply pw_below_drewN|apply below_drew1|refine below_set ?_ GE157.out)|exact HB.out))) : w.heap.size ≤ gb168));have n5_:=Aside0.mk ((by rw [hg];exact (below_size (by repeat (first|(with_reducible first|exact HB.out|apply below_alloc|apply pw_below_drewN|apply below_drew1|refine below_set ?_ GE157.out)|exact HB.out))) : w.heap.size ≤ gb168));have n6_:=Aside0.mk ((by rw [hg];exact Nat.ne_of_lt (blk_lt (g:=gb157) (o:=.cells #[.int .i64 ((rd_T24 l0 a1).f0),.int .i64 ((rd_T24 l0 a1).f1),.int .i64 ((rd_T24 l0 a1).f2),.string ((rd_T24 l0 a1).f3),.string ((rd_T24 l0 a1).f4)] 24 (0,0)) (by (with_reducible repeat (first|refine blk_drewN ?_ _|refine blk_drew ?_|refine blk_alloc ?_ _));exact BK157.out)) : gb157 ≠ gb168));have n7_:=Aside0.mk ((by rw [hg];exact Nat.ne_of_gt (blk_lt (g:=gb157) (o:=.cells #[.int .i64 ((rd_T24 l0 a1).f0),.int .i64 ((rd_T24 l0 a1).f1),.int .i64 ((rd_T24 l0 a1).f2),.string ((rd_T24 l0 a1).f3),.string ((rd_T24 l0 a1).f4)] 24 (0,0)) (by (with_reducible repeat (first|refine blk_drewN ?_ _|refine blk_drew ?_|refine blk_alloc ?_ _));exact BK157.out)) : gb168 ≠ gb157));clear HO166;clear BK157;clear HB;have HO166:=n0_;have BK157:=n1_;have HB:=n2_;have BK168:=n3_;have GW168:=n4_;have GE168:=n5_;have NB157_168:=n6_;have NB168_157:=n7_;clear n0_ n1_ n2_ n3_ n4_ n5_ n6_ n7_;clear hb hbox hg;have hnb63:=NB168_157.out;have hnc63:=NB157_168.out;have hcz64_0 : w62.cell? ⟨gb168,0,none⟩ = some (.int .i64 0):=(blk_cell BK168.out 0).trans rfl;have hcz64_1 : w62.cell? ⟨gb168,1,none⟩ = some (.int .i64 0):=(blk_cell BK168.out 1).trans rfl;have hcz64_2 : w62.cell? ⟨gb168,2,none⟩ = some (.slice none 0 0):=(blk_cell BK168.out 2).trans rfl;have hcz64_3 : w62.cell? ⟨gb168,3,none⟩ = some (.string (⟨#[]⟩ : ByteArray)):=(blk_cell BK168.out 3).trans rfl;have hfz64_0:=blk_frozen BK168.out 0;have hfz64_1:=blk_frozen BK168.out 1;have hfz64_2:=blk_frozen BK168.out 2;have hfz64_3:=blk_frozen BK168.out 3;obtain ⟨Ao65,co65,eo65⟩:=Kd.R_slice HO166.out;subst eo65))
          go_ret
          exact ⟨by first|rfl|(simp [errW_none,errW_some] <;> rfl)|(simp [*,errW_none,errW_some] <;> rfl),by repeat (first|(with_reducible first|exact HB.out|apply below_alloc|apply pw_below_drewN|apply below_drew1|refine below_set ?_ GE157.out|refine below_set ?_ GE168.out)|exact HB.out)⟩
       ·rw [if_neg c40] at H
        have c40b0 : (((rd_T24 l0 a1).f0) == 4) = false:=beq_eq_false_iff_ne.mpr c40
        have c40b1 : (((rd_T24 l0 a1).f0) != 4) = true:=bne_iff_ne.mpr c40
        (first|rw [c40b0]|(simp only [i64_w,i32_w];rw [c40b0])|skip)
        have H':=Aside0.mk H
        clear H
        go_wp2
        go_meet
        case rel => exact ⟨_,(by first|exact H'|(subst_vars;exact H')),⟨by have:=HJ7.out;first|omega|exact Nat.le_refl _⟩,⟨by (with_reducible repeat (first|refine blk_drewN ?_ _|refine blk_drew ?_|refine blk_alloc ?_ _));exact BK157.out⟩,⟨by repeat (first|(with_reducible first|exact HB.out|apply below_alloc|apply pw_below_drewN|apply below_drew1|refine below_set ?_ GE157.out)|exact HB.out)⟩⟩
      case rest =>
       clear HC38
       try clear c1
       try clear p1
       try clear q1
       try clear hx1
       try clear c2
       try clear p2
       try clear c3
       try clear c4
       try clear c5
       try clear c6
       try clear c6b0
       try clear c7
       try clear c7b0
       try clear c11
       try clear c11b0
       try clear c12
       try clear c12b0
       try clear c14
       try clear c14b0
       try clear p15
       try clear q15
       try clear hx15
       try clear c16
       try clear c16b0
       try clear c18
       try clear c18b0
       try clear c20
       try clear c20b0
       try clear c21
       try clear c21b0
       try clear c23
       try clear c23b0
       try clear c23b1
       try clear c26
       try clear c30
       try clear c30b0
       try clear c30b1
       try clear c33
       try clear c35
       try clear c37
       try clear c40
       try clear c40b0
       try clear c40b1
       try clear c41
       try clear c41b0
       try clear c41b1
       try clear c44
       try clear c44b0
       try clear c44b1
       try clear c45
       try clear c45b0
       try clear c45b1
       try clear c49
       try clear c51
       try clear c56
       try clear c63
       try clear hcz10_0
       try clear hcz10_1
       try clear hcz10_2
       try clear hcz10_3
       try clear hcz10_4
       try clear hcz13_0
       try clear hcz13_1
       try clear hcz13_2
       try clear hcz13_3
       try clear hcz13_4
       try clear hcz15_0
       try clear hcz15_1
       try clear hcz15_2
       try clear hcz15_3
       try clear hcz15_4
       try clear hcz17_0
       try clear hcz17_1
       try clear hcz17_2
       try clear hcz17_3
       try clear hcz17_4
       try clear hcz19_0
       try clear hcz19_1
       try clear hcz19_2
       try clear hcz19_3
       try clear hcz19_4
       try clear hcz22_0
       try clear hcz22_1
       try clear hcz22_2
       try clear hcz22_3
       try clear hcz22_4
       try clear hcz25_0
       try clear hcz25_1
       try clear hcz25_2
       try clear hcz25_3
       try clear hcz25_4
       try clear hcz28_0
       try clear hcz28_1
       try clear hcz28_2
       try clear hcz28_3
       try clear hcz28_4
       try clear hcz29_0
       try clear hcz29_1
       try clear hcz29_2
       try clear hcz29_3
       try clear hcz29_4
       try clear hcz32_0
       try clear hcz32_1
       try clear hcz32_2
       try clear hcz32_3
       try clear hcz32_4
       try clear hcz35_0
       try clear hcz35_1
       try clear hcz35_2
       try clear hcz35_3
       try clear hcz35_4
       try clear hcz36_0
       try clear hcz36_1
       try clear hcz36_2
       try clear hcz36_3
       try clear hcz36_4
       try clear hcz39_0
       try clear hcz39_1
       try clear hcz39_2
       try clear hcz39_3
       try clear hcz39_4
       try clear hcz42_0
       try clear hcz42_1
       try clear hcz42_2
       try clear hcz42_3
       try clear hcz42_4
       try clear hcz46_0
       try clear hcz46_1
       try clear hcz46_2
       try clear hcz46_3
       try clear hcz46_4
       try clear hcz50_0
       try clear hcz50_1
       try clear hcz50_2
       try clear hcz50_3
       try clear hcz52_0
       try clear hcz52_1
       try clear hcz52_2
       try clear hcz52_3
       try clear hcz52_4
       try clear hcz53_0
       try clear hcz53_1
       try clear hcz53_2
       try clear hcz53_3
       try clear hcz53_4
       try clear hcz57_0
       try clear hcz57_1
       try clear hcz57_2
       try clear hcz57_3
       try clear hcz59_0
       try clear hcz59_1
       try clear hcz59_2
       try clear hcz59_3
       try clear hcz59_4
       try clear hcz60_0
       try clear hcz60_1
       try clear hcz60_2
       try clear hcz60_3
       try clear hcz60_4
       try clear hcz64_0
       try clear hcz64_1
       try clear hcz64_2
       try clear hcz64_3
       try clear hfz10_0
       try clear hfz10_1
       try clear hfz10_2
       try clear hfz10_3
       try clear hfz10_4
       try clear hfz13_0
       try clear hfz13_1
       try clear hfz13_2
       try clear hfz13_3
       try clear hfz13_4
       try clear hfz15_0
       try clear hfz15_1
       try clear hfz15_2
       try clear hfz15_3
       try clear hfz15_4
       try clear hfz17_0
       try clear hfz17_1
       try clear hfz17_2
       try clear hfz17_3
       try clear hfz17_4
       try clear hfz19_0
       try clear hfz19_1
       try clear hfz19_2
       try clear hfz19_3
       try clear hfz19_4
       try clear hfz22_0
       try clear hfz22_1
       try clear hfz22_2
       try clear hfz22_3
       try clear hfz22_4
       try clear hfz25_0
       try clear hfz25_1
       try clear hfz25_2
       try clear hfz25_3
       try clear hfz25_4
       try clear hfz28_0
       try clear hfz28_1
       try clear hfz28_2
       try clear hfz28_3
       try clear hfz28_4
       try clear hfz29_0
       try clear hfz29_1
       try clear hfz29_2
       try clear hfz29_3
       try clear hfz29_4
       try clear hfz32_0
       try clear hfz32_1
       try clear hfz32_2
       try clear hfz32_3
       try clear hfz32_4
       try clear hfz35_0
       try clear hfz35_1
       try clear hfz35_2
       try clear hfz35_3
       try clear hfz35_4
       try clear hfz36_0
       try clear hfz36_1
       try clear hfz36_2
       try clear hfz36_3
       try clear hfz36_4
       try clear hfz39_0
       try clear hfz39_1
       try clear hfz39_2
       try clear hfz39_3
       try clear hfz39_4
       try clear hfz42_0
       try clear hfz42_1
       try clear hfz42_2
       try clear hfz42_3
       try clear hfz42_4
       try clear hfz46_0
       try clear hfz46_1
       try clear hfz46_2
       try clear hfz46_3
       try clear hfz46_4
       try clear hfz50_0
       try clear hfz50_1
       try clear hfz50_2
       try clear hfz50_3
       try clear hfz52_0
       try clear hfz52_1
       try clear hfz52_2
       try clear hfz52_3
       try clear hfz52_4
       try clear hfz53_0
       try clear hfz53_1
       try clear hfz53_2
       try clear hfz53_3
       try clear hfz53_4
       try clear hfz57_0
       try clear hfz57_1
       try clear hfz57_2
       try clear hfz57_3
       try clear hfz59_0
       try clear hfz59_1
       try clear hfz59_2
       try clear hfz59_3
       try clear hfz59_4
       try clear hfz60_0
       try clear hfz60_1
       try clear hfz60_2
       try clear hfz60_3
       try clear hfz60_4
       try clear hfz64_0
       try clear hfz64_1
       try clear hfz64_2
       try clear hfz64_3
       try clear hx156_0
       try clear hx156_1
       try clear hx156_2
       try clear hx156_3
       try clear hx156_4
       try clear p1
       try clear p15
       try clear p156
       try clear p2
       try clear q1
       try clear q15
       try clear q156
       obtain ⟨kq,HA,HJ37,BK157,HB⟩:=hcut
       cases kq with
       | zero => exact absurd HA.out (by simp [racewayref25_may.j1])
       | succ kj37 =>
        have H:=HA.out
        clear HA
        simp only [racewayref25_may.j1] at H
        have HC66:=Aside0.mk H
        clear H
        go_upto_region 10 with (fail)
        go_cut [110] (fun v110 wc => ∃ (kq : Nat) (x110_65 : Bool),v110 = .bool x110_65 ∧ Aside0 (racewayref25_may.j2 kq l0 a1 a2 a4 x110_65 ((rd_T24 l0 a1).f0) ((rd_T24 l0 a1).f1) ((rd_T24 l0 a1).f2) ((rd_T24 l0 a1).f3) ((rd_T24 l0 a1).f4) = some r) ∧ Aside0 (kq ≤ kj37) ∧ Aside0 (wc.heap[gb157]? = some (.cells #[.int .i64 ((rd_T24 l0 a1).f0),.int .i64 ((rd_T24 l0 a1).f1),.int .i64 ((rd_T24 l0 a1).f2),.string ((rd_T24 l0 a1).f3),.string ((rd_T24 l0 a1).f4)] 24 (0,0))) ∧ Aside0 (Below w.heap.size w wc))
        case first =>
         have H:=HC66.out
         clear HC66
         by_cases c67 : ((rd_T24 l0 a1).f0) = 5
         ·rw [if_pos c67] at H
          have c67b0 : (((rd_T24 l0 a1).f0) == 5) = true:=beq_iff_eq.mpr c67
          have c67b1 : (((rd_T24 l0 a1).f0) != 5) = false:=bne_eq_false_iff_eq.mpr c67
          clear c67
          (first|rw [c67b0]|(simp only [i64_w,i32_w];rw [c67b0])|skip)
          replace H:=Option.bind_eq_some_iff.mp H
          obtain ⟨t169,A680,H⟩:=H
          replace H : (if t169 = true then (if ((rd_T24 l0 a1).f0) = 4 then (racewayref25_may.j2 kj37 l0 a1 a2 a4 false ((rd_T24 l0 a1).f0) ((rd_T24 l0 a1).f1) ((rd_T24 l0 a1).f2) ((rd_T24 l0 a1).f3) ((rd_T24 l0 a1).f4)) else (racewayref25_may.j2 kj37 l0 a1 a2 a4 false ((rd_T24 l0 a1).f0) ((rd_T24 l0 a1).f1) ((rd_T24 l0 a1).f2) ((rd_T24 l0 a1).f3) ((rd_T24 l0 a1).f4))) else (racewayref25_may.j2 kj37 l0 a1 a2 a4 true ((rd_T24 l0 a1).f0) ((rd_T24 l0 a1).f1) ((rd_T24 l0 a1).f2) ((rd_T24 l0 a1).f3) ((rd_T24 l0 a1).f4))) = some r:=H
          have A68:=Aside0.mk A680
          clear A680
          by_cases c69 : t169 = true
          ·subst c69
           have H1 : (if ((rd_T24 l0 a1).f0) = 4 then (racewayref25_may.j2 kj37 l0 a1 a2 a4 false ((rd_T24 l0 a1).f0) ((rd_T24 l0 a1).f1) ((rd_T24 l0 a1).f2) ((rd_T24 l0 a1).f3) ((rd_T24 l0 a1).f4)) else (racewayref25_may.j2 kj37 l0 a1 a2 a4 false ((rd_T24 l0 a1).f0) ((rd_T24 l0 a1).f1) ((rd_T24 l0 a1).f2) ((rd_T24 l0 a1).f3) ((rd_T24 l0 a1).f4))) = some r:=by rw [if_pos rfl] at H;exact H
           clear H
           have H:=H1
           clear H1
           by_cases c70 : ((rd_T24 l0 a1).f0) = 4
           ·rw [if_pos c70] at H
            have c70b0 : (((rd_T24 l0 a1).f0) == 4) = true:=beq_iff_eq.mpr c70
            have c70b1 : (((rd_T24 l0 a1).f0) != 4) = false:=bne_eq_false_iff_eq.mpr c70
            clear c70
            have H':=Aside0.mk H
            clear H
            have hcz71_0 : wc.cell? ⟨gb157,0,none⟩ = some (.int .i64 ((rd_T24 l0 a1).f0)):=(blk_cell BK157.out 0).trans rfl
            have hcz71_1 : wc.cell? ⟨gb157,1,none⟩ = some (.int .i64 ((rd_T24 l0 a1).f1)):=(blk_cell BK157.out 1).trans rfl
            have hcz71_2 : wc.cell? ⟨gb157,2,none⟩ = some (.int .i64 ((rd_T24 l0 a1).f2)):=(blk_cell BK157.out 2).trans rfl
            have hcz71_3 : wc.cell? ⟨gb157,3,none⟩ = some (.string ((rd_T24 l0 a1).f3)):=(blk_cell BK157.out 3).trans rfl
            have hcz71_4 : wc.cell? ⟨gb157,4,none⟩ = some (.string ((rd_T24 l0 a1).f4)):=(blk_cell BK157.out 4).trans rfl
            have hfz71_0:=blk_frozen BK157.out 0
            have hfz71_1:=blk_frozen BK157.out 1
            have hfz71_2:=blk_frozen BK157.out 2
            have hfz71_3:=blk_frozen BK157.out 3
            have hfz71_4:=blk_frozen BK157.out 4
            go_wp2_with (first|(go_at_call 31;(with_reducible refine (racewayref25_Valid.calls kj37 ((rd_T24 l0 a1).f4) true _ A68.out).mono ?_);rintro e w' ⟨rfl,⟨nd,rfl⟩⟩))
            go_meet
            case rel => exact ⟨_,(false),(by first|rfl|(simp;done)|(simp;decide +kernel)|(simp [*];done)),(by first|exact H'|(subst_vars;exact H')),⟨by have:=HJ7.out;have:=HJ37.out;first|omega|exact Nat.le_refl _⟩,⟨by (with_reducible repeat (first|refine blk_drewN ?_ _|refine blk_drew ?_|refine blk_alloc ?_ _));exact BK157.out⟩,⟨by repeat (first|(with_reducible first|exact HB.out|apply below_alloc|apply pw_below_drewN|apply below_drew1|refine below_set ?_ GE157.out)|exact HB.out)⟩⟩
           ·rw [if_neg c70] at H
            have c70b0 : (((rd_T24 l0 a1).f0) == 4) = false:=beq_eq_false_iff_ne.mpr c70
            have c70b1 : (((rd_T24 l0 a1).f0) != 4) = true:=bne_iff_ne.mpr c70
            have H':=Aside0.mk H
            clear H
            have hcz72_0 : wc.cell? ⟨gb157,0,none⟩ = some (.int .i64 ((rd_T24 l0 a1).f0)):=(blk_cell BK157.out 0).trans rfl
            have hcz72_1 : wc.cell? ⟨gb157,1,none⟩ = some (.int .i64 ((rd_T24 l0 a1).f1)):=(blk_cell BK157.out 1).trans rfl
            have hcz72_2 : wc.cell? ⟨gb157,2,none⟩ = some (.int .i64 ((rd_T24 l0 a1).f2)):=(blk_cell BK157.out 2).trans rfl
            have hcz72_3 : wc.cell? ⟨gb157,3,none⟩ = some (.string ((rd_T24 l0 a1).f3)):=(blk_cell BK157.out 3).trans rfl
            have hcz72_4 : wc.cell? ⟨gb157,4,none⟩ = some (.string ((rd_T24 l0 a1).f4)):=(blk_cell BK157.out 4).trans rfl
            have hfz72_0:=blk_frozen BK157.out 0
            have hfz72_1:=blk_frozen BK157.out 1
            have hfz72_2:=blk_frozen BK157.out 2
            have hfz72_3:=blk_frozen BK157.out 3
            have hfz72_4:=blk_frozen BK157.out 4
            go_wp2_with (first|(go_at_call 31;(with_reducible refine (racewayref25_Valid.calls kj37 ((rd_T24 l0 a1).f4) true _ A68.out).mono ?_);rintro e w' ⟨rfl,⟨nd,rfl⟩⟩))
            go_meet
            case rel => exact ⟨_,(false),(by first|rfl|(simp;done)|(simp;decide +kernel)|(simp [*];done)),(by first|exact H'|(subst_vars;exact H')),⟨by have:=HJ7.out;have:=HJ37.out;first|omega|exact Nat.le_refl _⟩,⟨by (with_reducible repeat (first|refine blk_drewN ?_ _|refine blk_drew ?_|refine blk_alloc ?_ _));exact BK157.out⟩,⟨by repeat (first|(with_reducible first|exact HB.out|apply below_alloc|apply pw_below_drewN|apply below_drew1|refine below_set ?_ GE157.out)|exact HB.out)⟩⟩
          ·replace c69:=Bool.eq_false_iff.mpr c69
           subst c69
           have H1 : (racewayref25_may.j2 kj37 l0 a1 a2 a4 true ((rd_T24 l0 a1).f0) ((rd_T24 l0 a1).f1) ((rd_T24 l0 a1).f2) ((rd_T24 l0 a1).f3) ((rd_T24 l0 a1).f4)) = some r:=by rw [if_neg (show ¬ (false = true) by decide)] at H;exact H
           clear H
           have H:=H1
           clear H1
           have H':=Aside0.mk H
           clear H
           have hcz73_0 : wc.cell? ⟨gb157,0,none⟩ = some (.int .i64 ((rd_T24 l0 a1).f0)):=(blk_cell BK157.out 0).trans rfl
           have hcz73_1 : wc.cell? ⟨gb157,1,none⟩ = some (.int .i64 ((rd_T24 l0 a1).f1)):=(blk_cell BK157.out 1).trans rfl
           have hcz73_2 : wc.cell? ⟨gb157,2,none⟩ = some (.int .i64 ((rd_T24 l0 a1).f2)):=(blk_cell BK157.out 2).trans rfl
           have hcz73_3 : wc.cell? ⟨gb157,3,none⟩ = some (.string ((rd_T24 l0 a1).f3)):=(blk_cell BK157.out 3).trans rfl
           have hcz73_4 : wc.cell? ⟨gb157,4,none⟩ = some (.string ((rd_T24 l0 a1).f4)):=(blk_cell BK157.out 4).trans rfl
           have hfz73_0:=blk_frozen BK157.out 0
           have hfz73_1:=blk_frozen BK157.out 1
           have hfz73_2:=blk_frozen BK157.out 2
           have hfz73_3:=blk_frozen BK157.out 3
           have hfz73_4:=blk_frozen BK157.out 4
           go_wp2_with (first|(go_at_call 31;(with_reducible refine (racewayref25_Valid.calls kj37 ((rd_T24 l0 a1).f4) false _ A68.out).mono ?_);rintro e w' ⟨rfl,⟨nd,rfl⟩⟩))
           go_meet
           case rel => exact ⟨_,(true),(by first|rfl|(simp;done)|(simp;decide +kernel)|(simp [*];done)),(by first|exact H'|(subst_vars;exact H')),⟨by have:=HJ7.out;have:=HJ37.out;first|omega|exact Nat.le_refl _⟩,⟨by (with_reducible repeat (first|refine blk_drewN ?_ _|refine blk_drew ?_|refine blk_alloc ?_ _));exact BK157.out⟩,⟨by repeat (first|(with_reducible first|exact HB.out|apply below_alloc|apply pw_below_drewN|apply below_drew1|refine below_set ?_ GE157.out)|exact HB.out)⟩⟩
         ·rw [if_neg c67] at H
          have c67b0 : (((rd_T24 l0 a1).f0) == 5) = false:=beq_eq_false_iff_ne.mpr c67
          have c67b1 : (((rd_T24 l0 a1).f0) != 5) = true:=bne_iff_ne.mpr c67
          (first|rw [c67b0]|(simp only [i64_w,i32_w];rw [c67b0])|skip)
          by_cases c74 : ((rd_T24 l0 a1).f0) = 4
          ·rw [if_pos c74] at H
           have c74b0 : (((rd_T24 l0 a1).f0) == 4) = true:=beq_iff_eq.mpr c74
           have c74b1 : (((rd_T24 l0 a1).f0) != 4) = false:=bne_eq_false_iff_eq.mpr c74
           clear c74
           have H':=Aside0.mk H
           clear H
           have hcz75_0 : wc.cell? ⟨gb157,0,none⟩ = some (.int .i64 ((rd_T24 l0 a1).f0)):=(blk_cell BK157.out 0).trans rfl
           have hcz75_1 : wc.cell? ⟨gb157,1,none⟩ = some (.int .i64 ((rd_T24 l0 a1).f1)):=(blk_cell BK157.out 1).trans rfl
           have hcz75_2 : wc.cell? ⟨gb157,2,none⟩ = some (.int .i64 ((rd_T24 l0 a1).f2)):=(blk_cell BK157.out 2).trans rfl
           have hcz75_3 : wc.cell? ⟨gb157,3,none⟩ = some (.string ((rd_T24 l0 a1).f3)):=(blk_cell BK157.out 3).trans rfl
           have hcz75_4 : wc.cell? ⟨gb157,4,none⟩ = some (.string ((rd_T24 l0 a1).f4)):=(blk_cell BK157.out 4).trans rfl
           have hfz75_0:=blk_frozen BK157.out 0
           have hfz75_1:=blk_frozen BK157.out 1
           have hfz75_2:=blk_frozen BK157.out 2
           have hfz75_3:=blk_frozen BK157.out 3
           have hfz75_4:=blk_frozen BK157.out 4
           go_wp2
           go_meet
           case rel => exact ⟨_,(false),(by first|rfl|(simp;done)|(simp;decide +kernel)|(simp [*];done)),(by first|exact H'|(subst_vars;exact H')),⟨by have:=HJ7.out;have:=HJ37.out;first|omega|exact Nat.le_refl _⟩,⟨by (with_reducible repeat (first|refine blk_drewN ?_ _|refine blk_drew ?_|refine blk_alloc ?_ _));exact BK157.out⟩,⟨by repeat (first|(with_reducible first|exact HB.out|apply below_alloc|apply pw_below_drewN|apply below_drew1|refine below_set ?_ GE157.out)|exact HB.out)⟩⟩
          ·rw [if_neg c74] at H
           have c74b0 : (((rd_T24 l0 a1).f0) == 4) = false:=beq_eq_false_iff_ne.mpr c74
           have c74b1 : (((rd_T24 l0 a1).f0) != 4) = true:=bne_iff_ne.mpr c74
           have H':=Aside0.mk H
           clear H
           have hcz76_0 : wc.cell? ⟨gb157,0,none⟩ = some (.int .i64 ((rd_T24 l0 a1).f0)):=(blk_cell BK157.out 0).trans rfl
           have hcz76_1 : wc.cell? ⟨gb157,1,none⟩ = some (.int .i64 ((rd_T24 l0 a1).f1)):=(blk_cell BK157.out 1).trans rfl
           have hcz76_2 : wc.cell? ⟨gb157,2,none⟩ = some (.int .i64 ((rd_T24 l0 a1).f2)):=(blk_cell BK157.out 2).trans rfl
           have hcz76_3 : wc.cell? ⟨gb157,3,none⟩ = some (.string ((rd_T24 l0 a1).f3)):=(blk_cell BK157.out 3).trans rfl
           have hcz76_4 : wc.cell? ⟨gb157,4,none⟩ = some (.string ((rd_T24 l0 a1).f4)):=(blk_cell BK157.out 4).trans rfl
           have hfz76_0:=blk_frozen BK157.out 0
           have hfz76_1:=blk_frozen BK157.out 1
           have hfz76_2:=blk_frozen BK157.out 2
           have hfz76_3:=blk_frozen BK157.out 3
           have hfz76_4:=blk_frozen BK157.out 4
           go_wp2
           go_meet
           case rel => exact ⟨_,((((rd_T24 l0 a1).f4).toList != ([] : List UInt8))),(by first|(simp [show ∀ l : List UInt8,(l != []) = !l.isEmpty from fun l => by cases l <;> rfl];done)|rfl|(simp;done)|(simp;decide +kernel)|(simp [*];done)),(by first|exact H'|(subst_vars;exact H')),⟨by have:=HJ7.out;have:=HJ37.out;first|omega|exact Nat.le_refl _⟩,⟨by (with_reducible repeat (first|refine blk_drewN ?_ _|refine blk_drew ?_|refine blk_alloc ?_ _));exact BK157.out⟩,⟨by repeat (first|(with_reducible first|exact HB.out|apply below_alloc|apply pw_below_drewN|apply below_drew1|refine below_set ?_ GE157.out)|exact HB.out)⟩⟩
        case rest =>
         clear HC66
         try clear c1
         try clear p1
         try clear q1
         try clear hx1
         try clear c2
         try clear p2
         try clear c3
         try clear c4
         try clear c5
         try clear c6
         try clear c6b0
         try clear c7
         try clear c7b0
         try clear c11
         try clear c11b0
         try clear c12
         try clear c12b0
         try clear c14
         try clear c14b0
         try clear p15
         try clear q15
         try clear hx15
         try clear c16
         try clear c16b0
         try clear c18
         try clear c18b0
         try clear c20
         try clear c20b0
         try clear c21
         try clear c21b0
         try clear c23
         try clear c23b0
         try clear c23b1
         try clear c26
         try clear c30
         try clear c30b0
         try clear c30b1
         try clear c33
         try clear c35
         try clear c37
         try clear c40
         try clear c40b0
         try clear c40b1
         try clear c41
         try clear c41b0
         try clear c41b1
         try clear c44
         try clear c44b0
         try clear c44b1
         try clear c45
         try clear c45b0
         try clear c45b1
         try clear c49
         try clear c51
         try clear c56
         try clear c63
         try clear c67
         try clear c67b0
         try clear c67b1
         try clear c69
         try clear c70
         try clear c70b0
         try clear c70b1
         try clear c74
         try clear c74b0
         try clear c74b1
         try clear hcz10_0
         try clear hcz10_1
         try clear hcz10_2
         try clear hcz10_3
         try clear hcz10_4
         try clear hcz13_0
         try clear hcz13_1
         try clear hcz13_2
         try clear hcz13_3
         try clear hcz13_4
         try clear hcz15_0
         try clear hcz15_1
         try clear hcz15_2
         try clear hcz15_3
         try clear hcz15_4
         try clear hcz17_0
         try clear hcz17_1
         try clear hcz17_2
         try clear hcz17_3
         try clear hcz17_4
         try clear hcz19_0
         try clear hcz19_1
         try clear hcz19_2
         try clear hcz19_3
         try clear hcz19_4
         try clear hcz22_0
         try clear hcz22_1
         try clear hcz22_2
         try clear hcz22_3
         try clear hcz22_4
         try clear hcz25_0
         try clear hcz25_1
         try clear hcz25_2
         try clear hcz25_3
         try clear hcz25_4
         try clear hcz28_0
         try clear hcz28_1
         try clear hcz28_2
         try clear hcz28_3
         try clear hcz28_4
         try clear hcz29_0
         try clear hcz29_1
         try clear hcz29_2
         try clear hcz29_3
         try clear hcz29_4
         try clear hcz32_0
         try clear hcz32_1
         try clear hcz32_2
         try clear hcz32_3
         try clear hcz32_4
         try clear hcz35_0
         try clear hcz35_1
         try clear hcz35_2
         try clear hcz35_3
         try clear hcz35_4
         try clear hcz36_0
         try clear hcz36_1
         try clear hcz36_2
         try clear hcz36_3
         try clear hcz36_4
         try clear hcz39_0
         try clear hcz39_1
         try clear hcz39_2
         try clear hcz39_3
         try clear hcz39_4
         try clear hcz42_0
         try clear hcz42_1
         try clear hcz42_2
         try clear hcz42_3
         try clear hcz42_4
         try clear hcz46_0
         try clear hcz46_1
         try clear hcz46_2
         try clear hcz46_3
         try clear hcz46_4
         try clear hcz50_0
         try clear hcz50_1
         try clear hcz50_2
         try clear hcz50_3
         try clear hcz52_0
         try clear hcz52_1
         try clear hcz52_2
         try clear hcz52_3
         try clear hcz52_4
         try clear hcz53_0
         try clear hcz53_1
         try clear hcz53_2
         try clear hcz53_3
         try clear hcz53_4
         try clear hcz57_0
         try clear hcz57_1
         try clear hcz57_2
         try clear hcz57_3
         try clear hcz59_0
         try clear hcz59_1
         try clear hcz59_2
         try clear hcz59_3
         try clear hcz59_4
         try clear hcz60_0
         try clear hcz60_1
         try clear hcz60_2
         try clear hcz60_3
         try clear hcz60_4
         try clear hcz64_0
         try clear hcz64_1
         try clear hcz64_2
         try clear hcz64_3
         try clear hcz71_0
         try clear hcz71_1
         try clear hcz71_2
         try clear hcz71_3
         try clear hcz71_4
         try clear hcz72_0
         try clear hcz72_1
         try clear hcz72_2
         try clear hcz72_3
         try clear hcz72_4
         try clear hcz73_0
         try clear hcz73_1
         try clear hcz73_2
         try clear hcz73_3
         try clear hcz73_4
         try clear hcz75_0
         try clear hcz75_1
         try clear hcz75_2
         try clear hcz75_3
         try clear hcz75_4
         try clear hcz76_0
         try clear hcz76_1
         try clear hcz76_2
         try clear hcz76_3
         try clear hcz76_4
         try clear hfz10_0
         try clear hfz10_1
         try clear hfz10_2
         try clear hfz10_3
         try clear hfz10_4
         try clear hfz13_0
         try clear hfz13_1
         try clear hfz13_2
         try clear hfz13_3
         try clear hfz13_4
         try clear hfz15_0
         try clear hfz15_1
         try clear hfz15_2
         try clear hfz15_3
         try clear hfz15_4
         try clear hfz17_0
         try clear hfz17_1
         try clear hfz17_2
         try clear hfz17_3
         try clear hfz17_4
         try clear hfz19_0
         try clear hfz19_1
         try clear hfz19_2
         try clear hfz19_3
         try clear hfz19_4
         try clear hfz22_0
         try clear hfz22_1
         try clear hfz22_2
         try clear hfz22_3
         try clear hfz22_4
         try clear hfz25_0
         try clear hfz25_1
         try clear hfz25_2
         try clear hfz25_3
         try clear hfz25_4
         try clear hfz28_0
         try clear hfz28_1
         try clear hfz28_2
         try clear hfz28_3
         try clear hfz28_4
         try clear hfz29_0
         try clear hfz29_1
         try clear hfz29_2
         try clear hfz29_3
         try clear hfz29_4
         try clear hfz32_0
         try clear hfz32_1
         try clear hfz32_2
         try clear hfz32_3
         try clear hfz32_4
         try clear hfz35_0
         try clear hfz35_1
         try clear hfz35_2
         try clear hfz35_3
         try clear hfz35_4
         try clear hfz36_0
         try clear hfz36_1
         try clear hfz36_2
         try clear hfz36_3
         try clear hfz36_4
         try clear hfz39_0
         try clear hfz39_1
         try clear hfz39_2
         try clear hfz39_3
         try clear hfz39_4
         try clear hfz42_0
         try clear hfz42_1
         try clear hfz42_2
         try clear hfz42_3
         try clear hfz42_4
         try clear hfz46_0
         try clear hfz46_1
         try clear hfz46_2
         try clear hfz46_3
         try clear hfz46_4
         try clear hfz50_0
         try clear hfz50_1
         try clear hfz50_2
         try clear hfz50_3
         try clear hfz52_0
         try clear hfz52_1
         try clear hfz52_2
         try clear hfz52_3
         try clear hfz52_4
         try clear hfz53_0
         try clear hfz53_1
         try clear hfz53_2
         try clear hfz53_3
         try clear hfz53_4
         try clear hfz57_0
         try clear hfz57_1
         try clear hfz57_2
         try clear hfz57_3
         try clear hfz59_0
         try clear hfz59_1
         try clear hfz59_2
         try clear hfz59_3
         try clear hfz59_4
         try clear hfz60_0
         try clear hfz60_1
         try clear hfz60_2
         try clear hfz60_3
         try clear hfz60_4
         try clear hfz64_0
         try clear hfz64_1
         try clear hfz64_2
         try clear hfz64_3
         try clear hfz71_0
         try clear hfz71_1
         try clear hfz71_2
         try clear hfz71_3
         try clear hfz71_4
         try clear hfz72_0
         try clear hfz72_1
         try clear hfz72_2
         try clear hfz72_3
         try clear hfz72_4
         try clear hfz73_0
         try clear hfz73_1
         try clear hfz73_2
         try clear hfz73_3
         try clear hfz73_4
         try clear hfz75_0
         try clear hfz75_1
         try clear hfz75_2
         try clear hfz75_3
         try clear hfz75_4
         try clear hfz76_0
         try clear hfz76_1
         try clear hfz76_2
         try clear hfz76_3
         try clear hfz76_4
         try clear hx156_0
         try clear hx156_1
         try clear hx156_2
         try clear hx156_3
         try clear hx156_4
         try clear p1
         try clear p15
         try clear p156
         try clear p2
         try clear q1
         try clear q15
         try clear q156
         obtain ⟨kq,x110_65,rfl,HA,HJ65,BK157,HB⟩:=hcut
         cases kq with
         | zero => exact absurd HA.out (by simp [racewayref25_may.j2])
         | succ kj65 =>
          have H:=HA.out
          clear HA
          simp only [racewayref25_may.j2] at H
          by_cases c77 : x110_65 = true
          ·subst c77
           have H1 : (some (-1)) = some r:=by rw [if_pos rfl] at H;exact H
           clear H
           have H:=H1
           clear H1
           obtain rfl:=Option.some.inj H
           go_wp2
           go_ret
           exact ⟨by first|rfl|(simp [errW_none,errW_some] <;> rfl)|(simp [*,errW_none,errW_some] <;> rfl),by repeat (first|(with_reducible first|exact HB.out|apply below_alloc|apply pw_below_drewN|apply below_drew1|refine below_set ?_ GE157.out)|exact HB.out)⟩
          ·replace c77:=Bool.eq_false_iff.mpr c77
           subst c77
           have H1 : (racewayref25_may.l0 kj65 l0 a1 a2 a4 (wrap64 (a1 + 1)) 0 ((rd_T24 l0 a1).f0) ((rd_T24 l0 a1).f1) ((rd_T24 l0 a1).f2) ((rd_T24 l0 a1).f3) ((rd_T24 l0 a1).f4)) = some r:=by rw [if_neg (show ¬ (false = true) by decide)] at H;exact H
           clear H
           have H:=H1
           clear H1
           have H':=Aside0.mk H
           clear H
           go_wp2
           go_loopg [13,14] kj65 (fun kq v13 v14 w' => ∃ (x13_4 : Int) (x14_4 : Int),v13 = .int .i64 x13_4 ∧ v14 = .int .i64 x14_4 ∧ Aside0 (racewayref25_may.l0 kq l0 a1 a2 a4 x13_4 x14_4 ((rd_T24 l0 a1).f0) ((rd_T24 l0 a1).f1) ((rd_T24 l0 a1).f2) ((rd_T24 l0 a1).f3) ((rd_T24 l0 a1).f4) = some r) ∧ Aside0 (kq ≤ kj65) ∧ Aside0 (w'.heap[gb157]? = some (.cells #[.int .i64 ((rd_T24 l0 a1).f0),.int .i64 ((rd_T24 l0 a1).f1),.int .i64 ((rd_T24 l0 a1).f2),.string ((rd_T24 l0 a1).f3),.string ((rd_T24 l0 a1).f4)] 24 (0,0))) ∧ Aside0 (Below w.heap.size w w'))
           case atStart => exact ⟨(wrap64 (a1 + 1)),(0),(by first|rfl|(simp;done)|(simp;decide +kernel)|(simp [*];done)),(by first|rfl|(simp;done)|(simp;decide +kernel)|(simp [*];done)),(by first|exact H'|(subst_vars;exact H')),⟨Nat.le_refl _⟩,⟨by (with_reducible repeat (first|refine blk_drewN ?_ _|refine blk_drew ?_|refine blk_alloc ?_ _));exact BK157.out⟩,⟨by repeat (first|(with_reducible first|exact HB.out|apply below_alloc|apply pw_below_drewN|apply below_drew1|refine below_set ?_ GE157.out)|exact HB.out)⟩⟩
           case round =>
            clear H'
            try clear c1
            try clear p1
            try clear q1
            try clear hx1
            try clear c2
            try clear p2
            try clear c3
            try clear c4
            try clear c5
            try clear c6
            try clear c6b0
            try clear p6
            try clear c7
            try clear c7b0
            try clear c11
            try clear c11b0
            try clear c12
            try clear c12b0
            try clear c14
            try clear c14b0
            try clear p15
            try clear q15
            try clear hx15
            try clear c16
            try clear c16b0
            try clear c18
            try clear c18b0
            try clear c20
            try clear c20b0
            try clear c21
            try clear c21b0
            try clear c23
            try clear c23b0
            try clear c23b1
            try clear c26
            try clear c30
            try clear c30b0
            try clear c30b1
            try clear c33
            try clear c35
            try clear c37
            try clear c40
            try clear c40b0
            try clear c40b1
            try clear c41
            try clear c41b0
            try clear c41b1
            try clear c44
            try clear c44b0
            try clear c44b1
            try clear c45
            try clear c45b0
            try clear c45b1
            try clear c49
            try clear c51
            try clear c56
            try clear c63
            try clear p64
            try clear c67
            try clear c67b0
            try clear c67b1
            try clear c69
            try clear c70
            try clear c70b0
            try clear c70b1
            try clear c74
            try clear c74b0
            try clear c74b1
            try clear c77
            try clear hcz10_0
            try clear hcz10_1
            try clear hcz10_2
            try clear hcz10_3
            try clear hcz10_4
            try clear hcz13_0
            try clear hcz13_1
            try clear hcz13_2
            try clear hcz13_3
            try clear hcz13_4
            try clear hcz15_0
            try clear hcz15_1
            try clear hcz15_2
            try clear hcz15_3
            try clear hcz15_4
            try clear hcz17_0
            try clear hcz17_1
            try clear hcz17_2
            try clear hcz17_3
            try clear hcz17_4
            try clear hcz19_0
            try clear hcz19_1
            try clear hcz19_2
            try clear hcz19_3
            try clear hcz19_4
            try clear hcz22_0
            try clear hcz22_1
            try clear hcz22_2
            try clear hcz22_3
            try clear hcz22_4
            try clear hcz25_0
            try clear hcz25_1
            try clear hcz25_2
            try clear hcz25_3
            try clear hcz25_4
            try clear hcz28_0
            try clear hcz28_1
            try clear hcz28_2
            try clear hcz28_3
            try clear hcz28_4
            try clear hcz29_0
            try clear hcz29_1
            try clear hcz29_2
            try clear hcz29_3
            try clear hcz29_4
            try clear hcz32_0
            try clear hcz32_1
            try clear hcz32_2
            try clear hcz32_3
            try clear hcz32_4
            try clear hcz35_0
            try clear hcz35_1
            try clear hcz35_2
            try clear hcz35_3
            try clear hcz35_4
            try clear hcz36_0
            try clear hcz36_1
            try clear hcz36_2
            try clear hcz36_3
            try clear hcz36_4
            try clear hcz39_0
            try clear hcz39_1
            try clear hcz39_2
            try clear hcz39_3
            try clear hcz39_4
            try clear hcz42_0
            try clear hcz42_1
            try clear hcz42_2
            try clear hcz42_3
            try clear hcz42_4
            try clear hcz46_0
            try clear hcz46_1
            try clear hcz46_2
            try clear hcz46_3
            try clear hcz46_4
            try clear hcz50_0
            try clear hcz50_1
            try clear hcz50_2
            try clear hcz50_3
            try clear hcz52_0
            try clear hcz52_1
            try clear hcz52_2
            try clear hcz52_3
            try clear hcz52_4
            try clear hcz53_0
            try clear hcz53_1
            try clear hcz53_2
            try clear hcz53_3
            try clear hcz53_4
            try clear hcz57_0
            try clear hcz57_1
            try clear hcz57_2
            try clear hcz57_3
            try clear hcz59_0
            try clear hcz59_1
            try clear hcz59_2
            try clear hcz59_3
            try clear hcz59_4
            try clear hcz60_0
            try clear hcz60_1
            try clear hcz60_2
            try clear hcz60_3
            try clear hcz60_4
            try clear hcz64_0
            try clear hcz64_1
            try clear hcz64_2
            try clear hcz64_3
            try clear hcz71_0
            try clear hcz71_1
            try clear hcz71_2
            try clear hcz71_3
            try clear hcz71_4
            try clear hcz72_0
            try clear hcz72_1
            try clear hcz72_2
            try clear hcz72_3
            try clear hcz72_4
            try clear hcz73_0
            try clear hcz73_1
            try clear hcz73_2
            try clear hcz73_3
            try clear hcz73_4
            try clear hcz75_0
            try clear hcz75_1
            try clear hcz75_2
            try clear hcz75_3
            try clear hcz75_4
            try clear hcz76_0
            try clear hcz76_1
            try clear hcz76_2
            try clear hcz76_3
            try clear hcz76_4
            try clear hfz10_0
            try clear hfz10_1
            try clear hfz10_2
            try clear hfz10_3
            try clear hfz10_4
            try clear hfz13_0
            try clear hfz13_1
            try clear hfz13_2
            try clear hfz13_3
            try clear hfz13_4
            try clear hfz15_0
            try clear hfz15_1
            try clear hfz15_2
            try clear hfz15_3
            try clear hfz15_4
            try clear hfz17_0
            try clear hfz17_1
            try clear hfz17_2
            try clear hfz17_3
            try clear hfz17_4
            try clear hfz19_0
            try clear hfz19_1
            try clear hfz19_2
            try clear hfz19_3
            try clear hfz19_4
            try clear hfz22_0
            try clear hfz22_1
            try clear hfz22_2
            try clear hfz22_3
            try clear hfz22_4
            try clear hfz25_0
            try clear hfz25_1
            try clear hfz25_2
            try clear hfz25_3
            try clear hfz25_4
            try clear hfz28_0
            try clear hfz28_1
            try clear hfz28_2
            try clear hfz28_3
            try clear hfz28_4
            try clear hfz29_0
            try clear hfz29_1
            try clear hfz29_2
            try clear hfz29_3
            try clear hfz29_4
            try clear hfz32_0
            try clear hfz32_1
            try clear hfz32_2
            try clear hfz32_3
            try clear hfz32_4
            try clear hfz35_0
            try clear hfz35_1
            try clear hfz35_2
            try clear hfz35_3
            try clear hfz35_4
            try clear hfz36_0
            try clear hfz36_1
            try clear hfz36_2
            try clear hfz36_3
            try clear hfz36_4
            try clear hfz39_0
            try clear hfz39_1
            try clear hfz39_2
            try clear hfz39_3
            try clear hfz39_4
            try clear hfz42_0
            try clear hfz42_1
            try clear hfz42_2
            try clear hfz42_3
            try clear hfz42_4
            try clear hfz46_0
            try clear hfz46_1
            try clear hfz46_2
            try clear hfz46_3
            try clear hfz46_4
            try clear hfz50_0
            try clear hfz50_1
            try clear hfz50_2
            try clear hfz50_3
            try clear hfz52_0
            try clear hfz52_1
            try clear hfz52_2
            try clear hfz52_3
            try clear hfz52_4
            try clear hfz53_0
            try clear hfz53_1
            try clear hfz53_2
            try clear hfz53_3
            try clear hfz53_4
            try clear hfz57_0
            try clear hfz57_1
            try clear hfz57_2
            try clear hfz57_3
            try clear hfz59_0
            try clear hfz59_1
            try clear hfz59_2
            try clear hfz59_3
            try clear hfz59_4
            try clear hfz60_0
            try clear hfz60_1
            try clear hfz60_2
            try clear hfz60_3
            try clear hfz60_4
            try clear hfz64_0
            try clear hfz64_1
            try clear hfz64_2
            try clear hfz64_3
            try clear hfz71_0
            try clear hfz71_1
            try clear hfz71_2
            try clear hfz71_3
            try clear hfz71_4
            try clear hfz72_0
            try clear hfz72_1
            try clear hfz72_2
            try clear hfz72_3
            try clear hfz72_4
            try clear hfz73_0
            try clear hfz73_1
            try clear hfz73_2
            try clear hfz73_3
            try clear hfz73_4
            try clear hfz75_0
            try clear hfz75_1
            try clear hfz75_2
            try clear hfz75_3
            try clear hfz75_4
            try clear hfz76_0
            try clear hfz76_1
            try clear hfz76_2
            try clear hfz76_3
            try clear hfz76_4
            try clear hx156_0
            try clear hx156_1
            try clear hx156_2
            try clear hx156_3
            try clear hx156_4
            try clear p1
            try clear p15
            try clear p156
            try clear p2
            try clear q1
            try clear q15
            try clear q156
            obtain ⟨x13_4,x14_4,rfl,rfl,HA,HK4,BK157,HB⟩:=hrel
            cases gk with
            | zero => exact absurd HA.out (by simp [racewayref25_may.l0])
            | succ k4 =>
             have H:=HA.out
             clear HA
             simp only [racewayref25_may.l0] at H
             by_cases c78 : x14_4 < ((rd_T24 l0 a1).f2)
             ·rw [if_pos c78] at H
              have c78b0 : decide (x14_4 < ((rd_T24 l0 a1).f2)) = true:=decide_eq_true c78
              clear c78
              by_cases c79 : x13_4 ≥ a2
              ·rw [if_pos c79] at H
               have c79b0 : decide (a2 ≤ x13_4) = true:=decide_eq_true c79
               clear c79
               obtain rfl:=Option.some.inj H
               have hcz80_0 : wr.cell? ⟨gb157,0,none⟩ = some (.int .i64 ((rd_T24 l0 a1).f0)):=(blk_cell BK157.out 0).trans rfl
               have hcz80_1 : wr.cell? ⟨gb157,1,none⟩ = some (.int .i64 ((rd_T24 l0 a1).f1)):=(blk_cell BK157.out 1).trans rfl
               have hcz80_2 : wr.cell? ⟨gb157,2,none⟩ = some (.int .i64 ((rd_T24 l0 a1).f2)):=(blk_cell BK157.out 2).trans rfl
               have hcz80_3 : wr.cell? ⟨gb157,3,none⟩ = some (.string ((rd_T24 l0 a1).f3)):=(blk_cell BK157.out 3).trans rfl
               have hcz80_4 : wr.cell? ⟨gb157,4,none⟩ = some (.string ((rd_T24 l0 a1).f4)):=(blk_cell BK157.out 4).trans rfl
               have hfz80_0:=blk_frozen BK157.out 0
               have hfz80_1:=blk_frozen BK157.out 1
               have hfz80_2:=blk_frozen BK157.out 2
               have hfz80_3:=blk_frozen BK157.out 3
               have hfz80_4:=blk_frozen BK157.out 4
               go_wp2
               go_ret
               exact ⟨by first|rfl|(simp [errW_none,errW_some] <;> rfl)|(simp [*,errW_none,errW_some] <;> rfl),by repeat (first|(with_reducible first|exact HB.out|apply below_alloc|apply pw_below_drewN|apply below_drew1|refine below_set ?_ GE157.out)|exact HB.out)⟩
              ·rw [if_neg c79] at H
               have c79b0 : decide (a2 ≤ x13_4) = false:=decide_eq_false c79
               clear c79
               replace H:=Option.bind_eq_some_iff.mp H
               obtain ⟨t170,A810,H⟩:=H
               replace H : (if t170 < 0 then (some (-1)) else (racewayref25_may.l0 k4 l0 a1 a2 a4 t170 (wrap64 (x14_4 + 1)) ((rd_T24 l0 a1).f0) ((rd_T24 l0 a1).f1) ((rd_T24 l0 a1).f2) ((rd_T24 l0 a1).f3) ((rd_T24 l0 a1).f4))) = some r:=H
               have A81:=Aside0.mk A810
               clear A810
               by_cases c82 : t170 < 0
               ·rw [if_pos c82] at H
                have c82b0 : decide (t170 < 0) = true:=decide_eq_true c82
                clear c82
                obtain rfl:=Option.some.inj H
                have hcz83_0 : wr.cell? ⟨gb157,0,none⟩ = some (.int .i64 ((rd_T24 l0 a1).f0)):=(blk_cell BK157.out 0).trans rfl
                have hcz83_1 : wr.cell? ⟨gb157,1,none⟩ = some (.int .i64 ((rd_T24 l0 a1).f1)):=(blk_cell BK157.out 1).trans rfl
                have hcz83_2 : wr.cell? ⟨gb157,2,none⟩ = some (.int .i64 ((rd_T24 l0 a1).f2)):=(blk_cell BK157.out 2).trans rfl
                have hcz83_3 : wr.cell? ⟨gb157,3,none⟩ = some (.string ((rd_T24 l0 a1).f3)):=(blk_cell BK157.out 3).trans rfl
                have hcz83_4 : wr.cell? ⟨gb157,4,none⟩ = some (.string ((rd_T24 l0 a1).f4)):=(blk_cell BK157.out 4).trans rfl
                have hfz83_0:=blk_frozen BK157.out 0
                have hfz83_1:=blk_frozen BK157.out 1
                have hfz83_2:=blk_frozen BK157.out 2
                have hfz83_3:=blk_frozen BK157.out 3
                have hfz83_4:=blk_frozen BK157.out 4
                go_wp2_with (first|((with_reducible refine gate_callee (f:=35) rfl ?_);refine goesL_ (some 130) rfl rfl Tryd.func35 (by kernel_rfl) rfl #[.slice (some ad156) l0.length c0,.int .i64 x13_4,.int .i64 a2,.bool (((rd_T24 l0 a1).f0) == 7),.int .i64 (wrap64 (a4 + 1))] rfl (by (try simp only [List.map_toArray,List.map_cons,List.map_nil]);first|done|rfl|(simp only [List.length_drop,List.length_take];rfl)) ?_;(with_reducible refine (ih k4 (by have:=HJ7.out;have:=HJ37.out;have:=HJ65.out;have:=HK4.out;omega) _ _ l0 x13_4 a2 (((rd_T24 l0 a1).f0) == 7) (wrap64 (a4 + 1)) t170 _ ?side1 ?side2 A81.out).mono ?_);(case side1 => repeat (first|exact (Kd.C_below HR0.out HB.out)|(with_reducible refine Kd.C_alloc ?_ _)|(with_reducible refine Kd.C_drewN ?_ _)|(with_reducible refine Kd.C_drew ?_)));(case side2 => exact HC0.out);rintro e w84 ⟨rfl,hb⟩;refine ⟨_,rfl,?_⟩;have n0_:=Aside0.mk (blk_below (g:=gb157) (o:=.cells #[.int .i64 ((rd_T24 l0 a1).f0),.int .i64 ((rd_T24 l0 a1).f1),.int .i64 ((rd_T24 l0 a1).f2),.string ((rd_T24 l0 a1).f3),.string ((rd_T24 l0 a1).f4)] 24 (0,0)) (by (with_reducible repeat (first|refine blk_drewN ?_ _|refine blk_drew ?_|refine blk_alloc ?_ _));exact BK157.out) hb);have n1_:=Aside0.mk (below_step (by repeat (first|(with_reducible first|exact HB.out|apply below_alloc|apply pw_below_drewN|apply below_drew1|refine below_set ?_ GE157.out)|exact HB.out)) hb);clear BK157;clear HB;have BK157:=n0_;have HB:=n1_;clear n0_ n1_;(try clear hb);(try clear hb2);(try clear hk);(try clear hi)))
                go_ret
                exact ⟨by first|rfl|(simp [errW_none,errW_some] <;> rfl)|(simp [*,errW_none,errW_some] <;> rfl),by repeat (first|(with_reducible first|exact HB.out|apply below_alloc|apply pw_below_drewN|apply below_drew1|refine below_set ?_ GE157.out)|exact HB.out)⟩
               ·rw [if_neg c82] at H
                have c82b0 : decide (t170 < 0) = false:=decide_eq_false c82
                clear c82
                have H':=Aside0.mk H
                clear H
                have hcz85_0 : wr.cell? ⟨gb157,0,none⟩ = some (.int .i64 ((rd_T24 l0 a1).f0)):=(blk_cell BK157.out 0).trans rfl
                have hcz85_1 : wr.cell? ⟨gb157,1,none⟩ = some (.int .i64 ((rd_T24 l0 a1).f1)):=(blk_cell BK157.out 1).trans rfl
                have hcz85_2 : wr.cell? ⟨gb157,2,none⟩ = some (.int .i64 ((rd_T24 l0 a1).f2)):=(blk_cell BK157.out 2).trans rfl
                have hcz85_3 : wr.cell? ⟨gb157,3,none⟩ = some (.string ((rd_T24 l0 a1).f3)):=(blk_cell BK157.out 3).trans rfl
                have hcz85_4 : wr.cell? ⟨gb157,4,none⟩ = some (.string ((rd_T24 l0 a1).f4)):=(blk_cell BK157.out 4).trans rfl
                have hfz85_0:=blk_frozen BK157.out 0
                have hfz85_1:=blk_frozen BK157.out 1
                have hfz85_2:=blk_frozen BK157.out 2
                have hfz85_3:=blk_frozen BK157.out 3
                have hfz85_4:=blk_frozen BK157.out 4
                go_wp2_with (first|((with_reducible refine gate_callee (f:=35) rfl ?_);refine goesL_ (some 130) rfl rfl Tryd.func35 (by kernel_rfl) rfl #[.slice (some ad156) l0.length c0,.int .i64 x13_4,.int .i64 a2,.bool (((rd_T24 l0 a1).f0) == 7),.int .i64 (wrap64 (a4 + 1))] rfl (by (try simp only [List.map_toArray,List.map_cons,List.map_nil]);first|done|rfl|(simp only [List.length_drop,List.length_take];rfl)) ?_;(with_reducible refine (ih k4 (by have:=HJ7.out;have:=HJ37.out;have:=HJ65.out;have:=HK4.out;omega) _ _ l0 x13_4 a2 (((rd_T24 l0 a1).f0) == 7) (wrap64 (a4 + 1)) t170 _ ?side1 ?side2 A81.out).mono ?_);(case side1 => repeat (first|exact (Kd.C_below HR0.out HB.out)|(with_reducible refine Kd.C_alloc ?_ _)|(with_reducible refine Kd.C_drewN ?_ _)|(with_reducible refine Kd.C_drew ?_)));(case side2 => exact HC0.out);rintro e w86 ⟨rfl,hb⟩;refine ⟨_,rfl,?_⟩;have n0_:=Aside0.mk (blk_below (g:=gb157) (o:=.cells #[.int .i64 ((rd_T24 l0 a1).f0),.int .i64 ((rd_T24 l0 a1).f1),.int .i64 ((rd_T24 l0 a1).f2),.string ((rd_T24 l0 a1).f3),.string ((rd_T24 l0 a1).f4)] 24 (0,0)) (by (with_reducible repeat (first|refine blk_drewN ?_ _|refine blk_drew ?_|refine blk_alloc ?_ _));exact BK157.out) hb);have n1_:=Aside0.mk (below_step (by repeat (first|(with_reducible first|exact HB.out|apply below_alloc|apply pw_below_drewN|apply below_drew1|refine below_set ?_ GE157.out)|exact HB.out)) hb);clear BK157;clear HB;have BK157:=n0_;have HB:=n1_;clear n0_ n1_;(try clear hb);(try clear hb2);(try clear hk);(try clear hi)))
                go_roundg k4
                case measure => have:=HJ7.out;have:=HJ37.out;have:=HJ65.out;have:=HK4.out;omega
                case rel => exact ⟨(t170),(wrap64 (x14_4 + 1)),(by first|rfl|(simp;done)|(simp;decide +kernel)|(simp [*];done)),(by first|rfl|(simp;done)|(simp;decide +kernel)|(simp [*];done)),(by first|exact H'|(subst_vars;exact H')),⟨by have:=HJ7.out;have:=HJ37.out;have:=HJ65.out;have:=HK4.out;omega⟩,⟨by (with_reducible repeat (first|refine blk_drewN ?_ _|refine blk_drew ?_|refine blk_alloc ?_ _));exact BK157.out⟩,⟨by repeat (first|(with_reducible first|exact HB.out|apply below_alloc|apply pw_below_drewN|apply below_drew1|refine below_set ?_ GE157.out)|exact HB.out)⟩⟩
             ·rw [if_neg c78] at H
              have c78b0 : decide (x14_4 < ((rd_T24 l0 a1).f2)) = false:=decide_eq_false c78
              clear c78
              by_cases c87 : ((rd_T24 l0 a1).f1) = (wrap64 (x13_4 - a1))
              ·rw [if_pos c87] at H
               have c87b0 : (((rd_T24 l0 a1).f1) == (wrap64 (x13_4 - a1))) = true:=beq_iff_eq.mpr c87
               have c87b1 : (((rd_T24 l0 a1).f1) != (wrap64 (x13_4 - a1))) = false:=bne_eq_false_iff_eq.mpr c87
               clear c87
               obtain rfl:=Option.some.inj H
               have hcz88_0 : wr.cell? ⟨gb157,0,none⟩ = some (.int .i64 ((rd_T24 l0 a1).f0)):=(blk_cell BK157.out 0).trans rfl
               have hcz88_1 : wr.cell? ⟨gb157,1,none⟩ = some (.int .i64 ((rd_T24 l0 a1).f1)):=(blk_cell BK157.out 1).trans rfl
               have hcz88_2 : wr.cell? ⟨gb157,2,none⟩ = some (.int .i64 ((rd_T24 l0 a1).f2)):=(blk_cell BK157.out 2).trans rfl
               have hcz88_3 : wr.cell? ⟨gb157,3,none⟩ = some (.string ((rd_T24 l0 a1).f3)):=(blk_cell BK157.out 3).trans rfl
               have hcz88_4 : wr.cell? ⟨gb157,4,none⟩ = some (.string ((rd_T24 l0 a1).f4)):=(blk_cell BK157.out 4).trans rfl
               have hfz88_0:=blk_frozen BK157.out 0
               have hfz88_1:=blk_frozen BK157.out 1
               have hfz88_2:=blk_frozen BK157.out 2
               have hfz88_3:=blk_frozen BK157.out 3
               have hfz88_4:=blk_frozen BK157.out 4
               go_wp2
               go_ret
               exact ⟨by first|rfl|(simp [errW_none,errW_some] <;> rfl)|(simp [*,errW_none,errW_some] <;> rfl),by repeat (first|(with_reducible first|exact HB.out|apply below_alloc|apply pw_below_drewN|apply below_drew1|refine below_set ?_ GE157.out)|exact HB.out)⟩
              ·rw [if_neg c87] at H
               have c87b0 : (((rd_T24 l0 a1).f1) == (wrap64 (x13_4 - a1))) = false:=beq_eq_false_iff_ne.mpr c87
               have c87b1 : (((rd_T24 l0 a1).f1) != (wrap64 (x13_4 - a1))) = true:=bne_iff_ne.mpr c87
               obtain rfl:=Option.some.inj H
               have hcz89_0 : wr.cell? ⟨gb157,0,none⟩ = some (.int .i64 ((rd_T24 l0 a1).f0)):=(blk_cell BK157.out 0).trans rfl
               have hcz89_1 : wr.cell? ⟨gb157,1,none⟩ = some (.int .i64 ((rd_T24 l0 a1).f1)):=(blk_cell BK157.out 1).trans rfl
               have hcz89_2 : wr.cell? ⟨gb157,2,none⟩ = some (.int .i64 ((rd_T24 l0 a1).f2)):=(blk_cell BK157.out 2).trans rfl
               have hcz89_3 : wr.cell? ⟨gb157,3,none⟩ = some (.string ((rd_T24 l0 a1).f3)):=(blk_cell BK157.out 3).trans rfl
               have hcz89_4 : wr.cell? ⟨gb157,4,none⟩ = some (.string ((rd_T24 l0 a1).f4)):=(blk_cell BK157.out 4).trans rfl
               have hfz89_0:=blk_frozen BK157.out 0
               have hfz89_1:=blk_frozen BK157.out 1
               have hfz89_2:=blk_frozen BK157.out 2
               have hfz89_3:=blk_frozen BK157.out 3
               have hfz89_4:=blk_frozen BK157.out 4
               go_wp2
               go_ret
               exact ⟨by first|rfl|(simp [errW_none,errW_some] <;> rfl)|(simp [*,errW_none,errW_some] <;> rfl),by repeat (first|(with_reducible first|exact HB.out|apply below_alloc|apply pw_below_drewN|apply below_drew1|refine below_set ?_ GE157.out)|exact HB.out)⟩
  ·rw [if_neg c7] at H
   exact absurd H (by simp)
 ·rw [if_neg c6] at H
  exact absurd H (by simp)
end Go.Proofs.YtjehflambbjoaaaDoor.X
namespace Go.Proofs.YtjehflambbjoaaaDoor.X
open Go.RowKit Go.Proofs.YtjehflambbjoaaaDoorW.PrintWords Go.Proofs.YtjehflambbjoaaaDoorW.PrintLast Go.Proofs.YtjehflambbjoaaaDoorW.PrintMore
attribute [local go_sem] max2_int min2_int max_two min_two max_three min_three max_four min_four
set_option linter.unusedVariables false
set_option linter.unusedSimpArgs false
def racewayref25_Check.f (k : Nat) (l0 : List (S24)) : Option (Int):=if (l0.length : Int) = 0 then (some 2) else ((racewayref25_may.f k l0 0 (l0.length : Int) false 0).bind fun t171 => (if t171 = (l0.length : Int) then (some 0) else (some 2)))
set_option maxHeartbeats 8000000 in
set_option maxRecDepth 100000 in
theorem racewayref25_Check.calls (k : Nat) (A0 : Option Addr) (c0 : Nat) (l0 : List (S24)) (r : Int) (w : World) (hr0 : Kd.C k24 w A0 l0.length l0) (hc0 : l0.length ≤ c0) (h : racewayref25_Check.f k l0 = some r) :
  Calls Tryd.prog 18 #[.slice A0 l0.length c0] w fun e w' => e = .returned (.int .i64 r) ∧ Below w.heap.size w w':=by
 have HR0:=Aside0.mk hr0
 have HC0:=Aside0.mk hc0
 clear hr0 hc0
 have HB:=Aside0.mk (Below.refl w.heap.size w)
 have H : (if (l0.length : Int) = 0 then (some 2) else ((racewayref25_may.f k l0 0 (l0.length : Int) false 0).bind fun t171 => (if t171 = (l0.length : Int) then (some 0) else (some 2)))) = some r:=h
 clear h
 by_cases c2 : (l0.length : Int) = 0
 ·rw [if_pos c2] at H
  have c2b0 : ((l0.length : Int) == 0) = true:=beq_iff_eq.mpr c2
  have c2b1 : ((l0.length : Int) != 0) = false:=bne_eq_false_iff_eq.mpr c2
  clear c2
  obtain rfl:=Option.some.inj H
  go_enter Tryd.func18,Tryd.ntmps18
  go_wp2
  go_ret
  exact ⟨by first|rfl|(simp [errW_none,errW_some] <;> rfl)|(simp [*,errW_none,errW_some] <;> rfl),by repeat (first|(with_reducible first|exact HB.out|apply below_alloc|apply pw_below_drewN|apply below_drew1)|exact HB.out)⟩
 ·rw [if_neg c2] at H
  have c2b0 : ((l0.length : Int) == 0) = false:=beq_eq_false_iff_ne.mpr c2
  have c2b1 : ((l0.length : Int) != 0) = true:=bne_iff_ne.mpr c2
  have c2b2 : ¬ (l0 = []):=fun h_ => c2 (by rw [h_];rfl)
  replace H:=Option.bind_eq_some_iff.mp H
  obtain ⟨t171,A30,H⟩:=H
  replace H : (if t171 = (l0.length : Int) then (some 0) else (some 2)) = some r:=H
  have A3:=Aside0.mk A30
  clear A30
  by_cases c4 : t171 = (l0.length : Int)
  ·rw [if_pos c4] at H
   have c4b0 : (t171 == (l0.length : Int)) = true:=beq_iff_eq.mpr c4
   have c4b1 : (t171 != (l0.length : Int)) = false:=bne_eq_false_iff_eq.mpr c4
   clear c4
   obtain rfl:=Option.some.inj H
   go_enter Tryd.func18,Tryd.ntmps18
   go_wp2_with (first|(go_at_call 35;(with_reducible refine (racewayref25_may.calls k _ _ l0 0 (l0.length : Int) false 0 t171 _ ?side1 ?side2 A3.out).mono ?_);(case side1 => repeat (first|exact HR0.out|(with_reducible refine Kd.C_alloc ?_ _)|(with_reducible refine Kd.C_drewN ?_ _)|(with_reducible refine Kd.C_drew ?_)));(case side2 => exact HC0.out);rintro e w5 ⟨rfl,hb⟩;have n0_:=Aside0.mk (below_step (by repeat (first|(with_reducible first|exact HB.out|apply below_alloc|apply pw_below_drewN|apply below_drew1)|exact HB.out)) hb);clear HB;have HB:=n0_;clear n0_;(try clear hb);(try clear hb2);(try clear hk);(try clear hi)))
   go_ret
   exact ⟨by first|rfl|(simp [errW_none,errW_some] <;> rfl)|(simp [*,errW_none,errW_some] <;> rfl),by repeat (first|(with_reducible first|exact HB.out|apply below_alloc|apply pw_below_drewN|apply below_drew1)|exact HB.out)⟩
  ·rw [if_neg c4] at H
   have c4b0 : (t171 == (l0.length : Int)) = false:=beq_eq_false_iff_ne.mpr c4
   have c4b1 : (t171 != (l0.length : Int)) = true:=bne_iff_ne.mpr c4
   obtain rfl:=Option.some.inj H
   go_enter Tryd.func18,Tryd.ntmps18
   go_wp2_with (first|(go_at_call 35;(with_reducible refine (racewayref25_may.calls k _ _ l0 0 (l0.length : Int) false 0 t171 _ ?side1 ?side2 A3.out).mono ?_);(case side1 => repeat (first|exact HR0.out|(with_reducible refine Kd.C_alloc ?_ _)|(with_reducible refine Kd.C_drewN ?_ _)|(with_reducible refine Kd.C_drew ?_)));(case side2 => exact HC0.out);rintro e w6 ⟨rfl,hb⟩;have n0_:=Aside0.mk (below_step (by repeat (first|(with_reducible first|exact HB.out|apply below_alloc|apply pw_below_drewN|apply below_drew1)|exact HB.out)) hb);clear HB;have HB:=n0_;clear n0_;(try clear hb);(try clear hb2);(try clear hk);(try clear hi)))
   go_ret
   exact ⟨by first|rfl|(simp [errW_none,errW_some] <;> rfl)|(simp [*,errW_none,errW_some] <;> rfl),by repeat (first|(with_reducible first|exact HB.out|apply below_alloc|apply pw_below_drewN|apply below_drew1)|exact HB.out)⟩
end Go.Proofs.YtjehflambbjoaaaDoor.X
namespace Go.Proofs.YtjehflambbjoaaaDoor.Pure
open Go.Proofs.YtjehflambbjoaaaDoor.X
set_option linter.unusedVariables false
set_option linter.unusedSimpArgs false
def stops : Bs → Bool
 | [] => true
 | c :: _ => !isDig c && c != 46 && c != 101 && c != 69
theorem len1 {l : Bs} {c : UInt8} (h : isC c l = true) : 1 ≤ l.length:=by
 cases l with
 | nil => cases h
 | cons => simp
theorem map_ok {f : F → F} {x : Rs F} {r : Bs} {g : F} (h : x.map f = .ok r g) : ∃ g0,x = .ok r g0 ∧ f g0 = g:=by
 cases x with
 | bad a b => cases h
 | ok a b =>
  injection h with h1 h2
  exact ⟨b,by rw [h1],h2⟩
end Go.Proofs.YtjehflambbjoaaaDoor.Pure
namespace Go.Proofs.YtjehflambbjoaaaDoor.Pure
open Go.Proofs.YtjehflambbjoaaaDoor.X Go.RowKit Go.Proofs.YtjehflambbjoaaaDoorW.PrintWords
set_option linter.unusedVariables false
set_option linter.unusedSimpArgs false
theorem decN_one (n b0 b1 b2 b3 : Nat) (h0 : ¬ b0 < 128) (h : (Lib.decodeN n b0 b1 b2 b3).2 = 1) : (Lib.decodeN n b0 b1 b2 b3).1 = 65533:=by
 unfold Lib.decodeN at *
 rw [if_neg h0] at h ⊢
 by_cases a1 : b0 / 32 = 6 ∧ (1 < n ∧ b1 / 64 = 2)
 ·rw [if_pos a1] at h ⊢
  split at h
  ·cases h
  ·rename_i g
   rw [if_neg g]
 ·rw [if_neg a1] at h ⊢
  by_cases a2 : b0 / 16 = 14 ∧ (1 < n ∧ b1 / 64 = 2) ∧ (2 < n ∧ b2 / 64 = 2)
  ·rw [if_pos a2] at h ⊢
   split at h
   ·cases h
   ·rename_i g
    rw [if_neg g]
  ·rw [if_neg a2] at h ⊢
   by_cases a3 : b0 / 8 = 30 ∧ (1 < n ∧ b1 / 64 = 2) ∧ (2 < n ∧ b2 / 64 = 2) ∧ (3 < n ∧ b3 / 64 = 2)
   ·rw [if_pos a3] at h ⊢
    split at h
    ·cases h
    ·rename_i g
     rw [if_neg g]
   ·rw [if_neg a3]
end Go.Proofs.YtjehflambbjoaaaDoor.Pure
namespace Go.Proofs.YtjehflambbjoaaaDoor.Pure
open Go.Proofs.YtjehflambbjoaaaDoor.X Go.RowKit Go.Proofs.YtjehflambbjoaaaDoorW.PrintWords
set_option linter.unusedVariables false
set_option linter.unusedSimpArgs false
end Go.Proofs.YtjehflambbjoaaaDoor.Pure
namespace Go.Proofs.YtjehflambbjoaaaDoor.Pure
open Go.Proofs.YtjehflambbjoaaaDoor.X Go.RowKit Go.Proofs.YtjehflambbjoaaaDoorW.PrintWords
set_option linter.unusedVariables false
set_option linter.unusedSimpArgs false
def key : F → Bs
 | .leaf k _ _ _ => k
 | .node k _ _ _ => k
 | .nil => []
end Go.Proofs.YtjehflambbjoaaaDoor.Pure
namespace Go.Proofs.YtjehflambbjoaaaDoor.Pure
open Go.Proofs.YtjehflambbjoaaaDoor.X Go.RowKit Go.Proofs.YtjehflambbjoaaaDoorW.PrintWords
set_option linter.unusedVariables false
set_option linter.unusedSimpArgs false
end Go.Proofs.YtjehflambbjoaaaDoor.Pure
namespace Go.Proofs.YtjehflambbjoaaaDoor.Pure
open Go.Proofs.YtjehflambbjoaaaDoor.X Go.RowKit Go.Proofs.YtjehflambbjoaaaDoorW.PrintWords
set_option linter.unusedVariables false
set_option linter.unusedSimpArgs false
def nd : Bs → Bool
 | [] => true
 | c :: _ => !isDig c
end Go.Proofs.YtjehflambbjoaaaDoor.Pure
namespace Go.Proofs.YtjehflambbjoaaaDoor.Pure
open Go.Proofs.YtjehflambbjoaaaDoor.X Go.RowKit Go.Proofs.YtjehflambbjoaaaDoorW.PrintWords
set_option linter.unusedVariables false
set_option linter.unusedSimpArgs false
end Go.Proofs.YtjehflambbjoaaaDoor.Pure
namespace Go.Proofs.YtjehflambbjoaaaDoor.Pure
open Go.Proofs.YtjehflambbjoaaaDoor.X Go.RowKit Go.Proofs.YtjehflambbjoaaaDoorW.PrintWords
set_option linter.unusedVariables false
set_option linter.unusedSimpArgs false
def E57 {α : Type} (x : Rs α) : Prop:=∀ r e,x = .bad r e → e = 5 ∨ e = 7
theorem E57.map {α β : Type} {f : α → β} {x : Rs α} (h : E57 x) : E57 (x.map f):=by
 intro r e h'
 cases x with
 | bad a b =>
  injection h' with _ h2
  exact h2 ▸ h a b rfl
 | ok a b => cases h'
end Go.Proofs.YtjehflambbjoaaaDoor.Pure
namespace Go.Proofs.YtjehflambbjoaaaDoor.Pure
open Go.Proofs.YtjehflambbjoaaaDoor.X Go.RowKit Go.Proofs.YtjehflambbjoaaaDoorW.PrintWords
set_option linter.unusedVariables false
set_option linter.unusedSimpArgs false
end Go.Proofs.YtjehflambbjoaaaDoor.Pure
namespace Go.Proofs.YtjehflambbjoaaaDoor.Pure
open Go.Proofs.YtjehflambbjoaaaDoor.X Go.RowKit Go.Proofs.YtjehflambbjoaaaDoorW.PrintWords Go.Proofs.YtjehflambbjoaaaDoorW.PrintMore
set_option linter.unusedVariables false
set_option linter.unusedSimpArgs false
theorem valid_step (c : UInt8) (r : Bs) : Lib.validD (c :: r) = if sgn (c :: r) = 0 then false else Lib.validD ((c :: r).drop (sgn (c :: r))):=by
 by_cases hc : c.toNat < 128
 ·have e : sgn (c :: r) = 1:=by simp only [sgn];rw [if_pos hc]
  rw [Lib.validD_cons c r hc,e,if_neg (by decide)]
  rfl
 ·have hN : (Lib.decodeL (c :: r)).2 = 1 → (Lib.decodeL (c :: r)).1 = 65533:=by
   rw [Lib.decodeL_N]
   exact decN_one _ _ _ _ _ (by simpa using hc)
  rw [Lib.validD_step _ (by simp)]
  by_cases h1 : (Lib.decodeL (c :: r)).2 = 1
  ·have e : sgn (c :: r) = 0:=by simp only [sgn];rw [if_neg hc,if_pos h1]
   rw [if_pos ⟨hN h1,h1⟩,if_pos e]
  ·have e : sgn (c :: r) = (Lib.decodeL (c :: r)).2:=by simp only [sgn];rw [if_neg hc,if_neg h1]
   have hw:=Lib.decodeL_width (c :: r)
   rw [if_neg (fun h => h1 h.2),e,if_neg (by omega)]
theorem valid_l0 (s : ByteArray) (hs : s.size ≤ 1000000) : ∀ (n : Nat) (l : Bs) (p k : Nat),l.length ≤ n → At s p l → n + 30 ≤ k → racewayref25_Valid.l0 k s (p : Int) = some (Lib.validD l)
 | n,[],p,0,hn,ha,hk => by omega
 | n,[],p,k + 1,hn,ha,hk => by
  rw [racewayref25_Valid.l0,if_neg ha.ge]
  rfl
 | n,c :: r,p,0,hn,ha,hk => by omega
 | 0,c :: r,p,k + 1,hn,ha,hk => by simp at hn
 | n + 1,c :: r,p,k + 1,hn,ha,hk => by
  rw [racewayref25_Valid.l0,if_pos ha.lti,sign_is s p (c :: r) ha (by simp) (by omega) k (by omega),Option.bind_some,valid_step]
  by_cases h : sgn (c :: r) = 0
  ·rw [if_pos h,if_pos (by omega)]
  ·have hsl:=sgn_le (c :: r)
   have had:=ha.add _ hsl
   have hdl:=had.le
   rw [if_neg h,if_neg (by omega),w64v (by omega) (by omega),show ((p : Int) + ((sgn (c :: r) : Nat) : Int)) = ((p + sgn (c :: r) : Nat) : Int) by omega]
   exact valid_l0 s hs n _ _ k (by rw [List.length_drop];simp only [List.length_cons] at hn ⊢;omega) had (by omega)
theorem valid_is (s : ByteArray) (hs : s.size ≤ 1000000) (k : Nat) (hk : s.size + 30 ≤ k) : racewayref25_Valid.f k s = some (Lib.validD s.data.toList):=by
 rw [racewayref25_Valid.f]
 exact valid_l0 s hs s.size _ 0 k (by simp) (At.start s) hk
theorem number_is0 (s : ByteArray) (hs : s.size ≤ 1000000) (k : Nat) (hk : 3 * s.size + 20 ≤ k) : ∃ (a e : Int) (T : List S24) (S : ByteArray),racewayref25_number.f k s 0 = some (a,e,T,S) ∧ (isNum s.data.toList = true ↔ e = 0 ∧ a = (s.size : Int)):=by
 have hl : s.data.toList.length = s.size:=by simp
 have h : racewayref25_number.f k s 0 = nres s 0 (num s.data.toList):=number_R (At.start s) (by omega) k (by omega)
 rw [h]
 cases hn : num s.data.toList with
 | bad r e =>
  have h5:=num_five _ _ _ hn
  refine ⟨_,_,_,_,rfl,?_⟩
  rw [isNum,hn]
  simp only
  constructor
  ·intro h;cases h
  ·intro h;omega
 | ok r u =>
  have hlt:=num_len _ _ _ hn
  refine ⟨_,_,_,_,rfl,?_⟩
  rw [isNum,hn]
  cases r with
  | nil =>
   simp only [List.length_nil,Nat.sub_zero,true_iff]
   exact ⟨trivial,trivial⟩
  | cons c r =>
   simp only [List.length_cons] at hlt ⊢
   constructor
   ·intro h;cases h
   ·intro h;omega
def okHead (x : S24) (keyed : Bool) : Bool:=decide (1 ≤ x.f0) && decide (x.f0 ≤ 7) && decide (0 ≤ x.f2) && (decide (x.f2 ≤ 0) || decide (6 ≤ x.f0)) && (x.f3.data.toList.isEmpty || keyed) && Lib.validD x.f3.data.toList
def okTail (x : S24) : Bool:=if x.f0 = 4 then decide (x.f4.size ≤ 65536) && isNum x.f4.data.toList else if x.f0 = 5 then Lib.validD x.f4.data.toList else x.f4.data.toList.isEmpty
theorem ok_two (x : S24) (keyed : Bool) : okN x keyed = (okHead x keyed && okTail x):=rfl
theorem may_head (l : List S24) (p en k : Nat) (keyed : Bool) (deep : Int) (x : S24) (hx : rd_T24 l (p : Int) = x) (hp : p < en) (hl : p < l.length) (h3 : x.f3.size ≤ 1000000) (hk : x.f3.size + 30 ≤ k) :
  racewayref25_may.f (k + 1) l (p : Int) (en : Int) keyed deep = racewayref25_may.j0 k l (p : Int) (en : Int) deep (!(okHead x keyed && decide (deep < 32))) x.f0 x.f1 x.f2 x.f3 x.f4:=by
 rw [racewayref25_may.f,if_pos (by omega),if_pos (by omega),if_neg (by omega),hx,valid_is x.f3 h3 k hk,tl]
 simp only [Option.bind_some]
 unfold okHead
 generalize Lib.validD x.f3.data.toList = V
 by_cases a1 : x.f0 < 1
 ·rw [if_pos a1,decide_eq_false (by omega)];rfl
 ·rw [if_neg a1,decide_eq_true (show 1 ≤ x.f0 by omega)]
  by_cases a2 : x.f0 > 7
  ·rw [if_pos a2,decide_eq_false (show ¬ x.f0 ≤ 7 by omega)];rfl
  ·rw [if_neg a2,decide_eq_true (show x.f0 ≤ 7 by omega)]
   by_cases a4 : x.f2 < 0
   ·rw [if_pos a4,decide_eq_false (show ¬ 0 ≤ x.f2 by omega)];rfl
   ·rw [if_neg a4,decide_eq_true (show 0 ≤ x.f2 by omega)]
    by_cases a5 : deep ≥ 32
    ·rw [if_pos a5,decide_eq_false (show ¬ deep < 32 by omega),Bool.and_false];rfl
    ·rw [if_neg a5,decide_eq_true (show deep < 32 by omega),Bool.and_true]
     by_cases a6 : x.f2 > 0
     ·rw [if_pos a6,decide_eq_false (show ¬ x.f2 ≤ 0 by omega)]
      by_cases a7 : x.f0 < 6
      ·rw [if_pos a7,decide_eq_false (show ¬ 6 ≤ x.f0 by omega)];rfl
      ·rw [if_neg a7,decide_eq_true (show 6 ≤ x.f0 by omega)]
       cases hk2 : x.f3.data.toList with
       | nil => rw [if_pos rfl];simp
       | cons c r =>
        rw [if_neg (by simp)]
        cases keyed with
        | true => rw [if_pos rfl];simp
        | false => rw [if_neg (by decide)];simp
     ·rw [if_neg a6,decide_eq_true (show x.f2 ≤ 0 by omega)]
      cases hk2 : x.f3.data.toList with
      | nil => rw [if_pos rfl];simp
      | cons c r =>
       rw [if_neg (by simp)]
       cases keyed with
       | true => rw [if_pos rfl];simp
       | false => rw [if_neg (by decide)];simp
theorem may_tail (l : List S24) (p en k : Nat) (deep : Int) (x : S24) (h4 : x.f4.size ≤ 1000000) (hk : 3 * x.f4.size + 30 ≤ k) :
  racewayref25_may.j0 (k + 3) l (p : Int) (en : Int) deep false x.f0 x.f1 x.f2 x.f3 x.f4 = if okTail x then racewayref25_may.l0 k l (p : Int) (en : Int) deep (wrap64 ((p : Int) + 1)) 0 x.f0 x.f1 x.f2 x.f3 x.f4 else some (-1):=by
 obtain ⟨f0,f1,f2,f3,f4⟩:=x
 simp only at h4 hk ⊢
 unfold okTail
 simp only
 have j2f : racewayref25_may.j2 (k + 1) l (p : Int) (en : Int) deep false f0 f1 f2 f3 f4 = racewayref25_may.l0 k l (p : Int) (en : Int) deep (wrap64 ((p : Int) + 1)) 0 f0 f1 f2 f3 f4:=by rw [racewayref25_may.j2,if_neg (by decide)]
 have j2t : racewayref25_may.j2 (k + 1) l (p : Int) (en : Int) deep true f0 f1 f2 f3 f4 = some (-1):=by rw [racewayref25_may.j2,if_pos rfl]
 rw [racewayref25_may.j0,if_neg (by decide)]
 by_cases c4 : f0 = 4
 ·rw [if_pos c4,if_pos c4]
  by_cases c5 : (f4.size : Int) > 65536
  ·rw [if_pos c5,decide_eq_false (show ¬ f4.size ≤ 65536 by omega)]
   rfl
  ·rw [if_neg c5,decide_eq_true (show f4.size ≤ 65536 by omega),Bool.true_and]
   obtain ⟨a,e,T,S,hn,hiff⟩:=number_is0 f4 h4 (k + 2) (by omega)
   rw [hn,Option.bind_some]
   simp only
   by_cases hN : isNum f4.data.toList = true
   ·obtain ⟨e0,ea⟩:=hiff.mp hN
    rw [if_pos e0,if_pos ea,if_pos hN,racewayref25_may.j1,if_neg (by omega),if_pos c4,j2f]
   ·rw [if_neg hN]
    by_cases e0 : e = 0
    ·rw [if_pos e0,if_neg (fun ea => hN (hiff.mpr ⟨e0,ea⟩))]
    ·rw [if_neg e0]
 ·rw [if_neg c4,if_neg c4,racewayref25_may.j1,valid_is f4 h4 (k + 1) (by omega),Option.bind_some,tl]
  by_cases c5 : f0 = 5
  ·rw [if_pos c5,if_pos c5]
   cases Lib.validD f4.data.toList with
   | true => rw [if_pos rfl,if_neg c4,j2f];rfl
   | false => rw [if_neg (by decide),j2t];rfl
  ·rw [if_neg c5,if_neg c5,if_neg c4]
   cases f4.data.toList with
   | nil => exact j2f
   | cons c r => exact j2t
def mayA (o : Option (F × List S24)) (p en : Nat) : Int:=match o with
 | some (t,_) => if p + t.flat.length ≤ en then ((p + t.flat.length : Nat) : Int) else -1
 | none => -1
def MayOk (l : List S24) (d : Nat) : Prop:=∀ (deep : Nat) (keyed : Bool) (p en k : Nat),d + deep = 32 → p < en → en ≤ l.length → 10 * (l.length - p) + 4000000 ≤ k → racewayref25_may.f k l (p : Int) (en : Int) keyed (deep : Int) = some (mayA (dec d keyed (l.drop p)) p en)
def mayB (o : Option (F × List S24)) (at_ : Nat) (f1 : Int) (p en : Nat) : Int:=match o with
 | some (t,_) => if p + t.flat.length ≤ en then (if f1 = ((p + t.flat.length - at_ : Nat) : Int) then ((p + t.flat.length : Nat) : Int) else -1) else -1
 | none => -1
theorem may_loop (l : List S24) (hl : l.length ≤ 1000000) (d : Nat) (hd : MayOk l d) (deep : Nat) (hdd : d + 1 + deep = 32) (f0 f1 f2 : Int) (f3 f4 : ByteArray) (at_ en : Nat) (hen : en ≤ l.length) (hN : f2 ≤ 9223372036854775807) :
  ∀ (n p : Nat) (i : Int) (k : Nat),0 ≤ i → i + n = f2 → at_ ≤ p → p ≤ en → 10 * (l.length - p) + 4000005 ≤ k →
   racewayref25_may.l0 k l (at_ : Int) (en : Int) (deep : Int) (p : Int) i f0 f1 f2 f3 f4 = some (mayB (kids (dec d (f0 == 7)) n (l.drop p)) at_ f1 p en)
 | 0,p,i,k,h0,hi,hap,hp,hk => by
  obtain ⟨k,rfl⟩ : ∃ k',k = k' + 1:=⟨k - 1,by omega⟩
  rw [racewayref25_may.l0,if_neg (by omega),w64v (by omega) (by omega)]
  have e : mayB (kids (dec d (f0 == 7)) 0 (l.drop p)) at_ f1 p en = if p ≤ en then (if f1 = ((p - at_ : Nat) : Int) then (p : Int) else -1) else -1:=rfl
  rw [e,if_pos hp,show (p : Int) - (at_ : Int) = ((p - at_ : Nat) : Int) by omega]
  split <;> rfl
 | n + 1,p,i,k,h0,hi,hap,hp,hk => by
  obtain ⟨k,rfl⟩ : ∃ k',k = k' + 1:=⟨k - 1,by omega⟩
  rw [racewayref25_may.l0,if_pos (by omega)]
  by_cases hpe : (p : Int) ≥ (en : Int)
  ·rw [if_pos hpe]
   congr 1
   simp only [kids,mayB]
   cases h1 : dec d (f0 == 7) (l.drop p) with
   | none => rfl
   | some x =>
    obtain ⟨t,r⟩:=x
    obtain ⟨a1,a2,a3⟩:=dec_ok _ _ _ _ _ h1
    have:=one_pos a2
    simp only
    cases h2 : kids (dec d (f0 == 7)) n r with
    | none => rfl
    | some y =>
     simp only [F.flat_app,List.length_append]
     rw [if_neg (by omega)]
  ·rw [if_neg hpe,w64v (x:=(deep : Int) + 1) (by omega) (by omega)]
   have hc:=hd (deep + 1) (f0 == 7) p en k (by omega) (by omega) hen (by omega)
   rw [show ((deep : Int) + 1) = ((deep + 1 : Nat) : Int) by omega,hc]
   simp only [Option.bind_some,kids,mayA]
   cases h1 : dec d (f0 == 7) (l.drop p) with
   | none => rfl
   | some x =>
    obtain ⟨t,r⟩:=x
    obtain ⟨a1,a2,a3⟩:=dec_ok _ _ _ _ _ h1
    have hpos:=one_pos a2
    simp only
    by_cases hle : p + t.flat.length ≤ en
    ·rw [if_pos hle,if_neg (by omega),w64v (x:=i + 1) (by omega) (by omega)]
     have hr : r = l.drop (p + t.flat.length):=by
      rw [← List.drop_drop,a1]
      simp
     have:=may_loop l hl d hd deep hdd f0 f1 f2 f3 f4 at_ en hen hN n (p + t.flat.length) (i + 1) k (by omega) (by omega) (by omega) hle (by omega)
     rw [this,← hr]
     simp only [mayB]
     cases h2 : kids (dec d (f0 == 7)) n r with
     | none => rfl
     | some y =>
      simp only [F.flat_app,List.length_append,Nat.add_assoc]
    ·rw [if_neg hle,if_pos (by decide)]
     congr 1
     simp only [mayB]
     cases h2 : kids (dec d (f0 == 7)) n r with
     | none => rfl
     | some y =>
      simp only [F.flat_app,List.length_append]
      rw [if_neg (by omega)]
theorem may_law (l : List S24) (hl : fit l = true) (hlen : l.length ≤ 1000000) : ∀ d,MayOk l d
 | d,deep,keyed,p,en,k,hdd,hp,hen,hk => by
  obtain ⟨k,rfl⟩ : ∃ k',k = k' + 4:=⟨k - 4,by omega⟩
  obtain ⟨x,r,hx⟩ : ∃ x r,l.drop p = x :: r:=⟨_,_,List.drop_eq_getElem_cons (show p < l.length by omega)⟩
  obtain ⟨e1,e2,e3,e4⟩:=rd_cast l p x r hx
  obtain ⟨s3,s4,hn2,hs0,hs1⟩:=fit_at hl e4
  rw [may_head l p en (k + 3) keyed deep x e1 hp e2 s3 (by omega)]
  match d,hdd with
  | 0,hdd =>
   rw [decide_eq_false (show ¬ (deep : Int) < 32 by omega),Bool.and_false,racewayref25_may.j0,if_pos (by decide)]
   rfl
  | d + 1,hdd =>
   have hdec : dec (d + 1) keyed (x :: r) = if okN x keyed then match kids (dec d (x.f0 == 7)) x.f2.toNat r with
    | none => none
    | some (ks,r') => if x.f1 = ((r.length - r'.length + 1 : Nat) : Int) then some (if x.f0 < 6 then .leaf x.f3.data.toList x.f0 x.f4.data.toList .nil else .node x.f3.data.toList x.f0 ks .nil,r') else none
    else none:=rfl
   rw [hx,decide_eq_true (show (deep : Int) < 32 by omega),Bool.and_true,hdec,ok_two]
   by_cases hh : okHead x keyed = true
   ·rw [hh,Bool.true_and]
    show racewayref25_may.j0 (k + 3) l (p : Int) (en : Int) (deep : Int) false x.f0 x.f1 x.f2 x.f3 x.f4 = _
    rw [may_tail l p en k deep x s4 (by omega)]
    by_cases ht : okTail x = true
    ·rw [if_pos ht,if_pos ht,w64v (by omega) (by omega),show ((p : Int) + 1) = ((p + 1 : Nat) : Int) by omega]
     have h0 : 0 ≤ x.f2:=by
      simp only [okHead,Bool.and_eq_true,decide_eq_true_eq] at hh
      omega
     rw [may_loop l hlen d (may_law l hl hlen d) deep hdd x.f0 x.f1 x.f2 x.f3 x.f4 p en hen hn2 x.f2.toNat (p + 1) 0 k (by omega) (by omega) (by omega) (by omega) (by omega),e3]
     congr 1
     cases hk2 : kids (dec d (x.f0 == 7)) x.f2.toNat r with
     | none => rfl
     | some y =>
      obtain ⟨ks,r'⟩:=y
      have h6:=(kids_ok (dec_ok d (x.f0 == 7)) _ _ _ _ hk2).1
      have h7:=congrArg List.length h6
      simp only [List.length_append] at h7
      simp only [mayB]
      by_cases hsz : x.f1 = ((r.length - r'.length + 1 : Nat) : Int)
      ·rw [if_pos hsz]
       have hfl:=(dec_ok (d + 1) keyed (x :: r) _ r' (by rw [hdec,ok_two,hh,ht,if_pos (by rfl),hk2];simp only;rw [if_pos hsz])).1
       have h8:=congrArg List.length hfl
       simp only [List.length_append,List.length_cons] at h8
       simp only [mayA]
       rw [if_pos (show x.f1 = ((p + 1 + ks.flat.length - p : Nat) : Int) by omega)]
       by_cases hle : p + 1 + ks.flat.length ≤ en
       ·rw [if_pos hle,if_pos (by omega)]
        congr 1
        omega
       ·rw [if_neg hle,if_neg (by omega)]
      ·rw [if_neg hsz,if_neg (show ¬ x.f1 = ((p + 1 + ks.flat.length - p : Nat) : Int) by omega)]
       split <;> rfl
    ·rw [if_neg ht,if_neg ht]
     rfl
   ·have hf : okHead x keyed = false:=by simpa using hh
    rw [hf,racewayref25_may.j0,if_pos (by decide)]
    rfl
theorem rCheck_law (l : List S24) (hl : fit l = true) (hlen : l.length ≤ 1000000) (k : Nat) (hk : 10 * l.length + 4000000 ≤ k) : racewayref25_Check.f k l = some (if (tree? l).isSome then 0 else 2):=by
 rw [racewayref25_Check.f]
 cases l with
 | nil => rfl
 | cons x r =>
  rw [if_neg (by simp only [List.length_cons];omega)]
  have hc : racewayref25_may.f k (x :: r) 0 (((x :: r).length : Nat) : Int) false 0 = some (mayA (dec 32 false ((x :: r).drop 0)) 0 (x :: r).length):=may_law (x :: r) hl hlen 32 0 false 0 (x :: r).length k rfl (by simp) (Nat.le_refl _) (by omega)
  rw [hc,List.drop_zero,Option.bind_some]
  cases hd : dec 32 false (x :: r) with
  | none =>
   have ht : tree? (x :: r) = none:=by unfold tree?;rw [hd]
   have e : mayA none 0 (x :: r).length = -1:=rfl
   rw [ht,e,if_neg (by omega)]
   rfl
  | some y =>
   obtain ⟨t,r'⟩:=y
   have hf:=congrArg List.length (dec_ok _ _ _ _ _ hd).1
   simp only [List.length_append] at hf
   have e : mayA (some (t,r')) 0 (x :: r).length = ((t.flat.length : Nat) : Int):=by
    show (if 0 + t.flat.length ≤ (x :: r).length then ((0 + t.flat.length : Nat) : Int) else -1) = _
    rw [if_pos (by omega),Nat.zero_add]
   rw [e]
   cases r' with
   | nil =>
    have ht : tree? (x :: r) = some t:=by unfold tree?;rw [hd]
    rw [ht,if_pos (by simp only [List.length_nil] at hf;omega)]
    rfl
   | cons a b =>
    have ht : tree? (x :: r) = none:=by unfold tree?;rw [hd]
    rw [ht,if_neg (by simp only [List.length_cons] at hf ⊢;omega)]
    rfl
end Go.Proofs.YtjehflambbjoaaaDoor.Pure
namespace Go.Proofs.YtjehflambbjoaaaDoor.Pure
open Go.Proofs.YtjehflambbjoaaaDoor.X Go.RowKit Go.Proofs.YtjehflambbjoaaaDoorW.PrintWords Go.Proofs.YtjehflambbjoaaaDoorW.PrintMore
set_option linter.unusedVariables false
set_option linter.unusedSimpArgs false
def starts : Nat → F → List Int
 | p,.nil => []
 | p,.leaf _ _ _ r => (p : Int) :: starts (p + 1) r
 | p,.node _ _ ks r => (p : Int) :: starts (p + (ks.flat.length + 1)) r
theorem first_of (l : List Nd) (p : Nat) (f : F) (r : List Nd) (h : l.drop p = f.flat ++ r) (hc : f.count ≠ 0) :
  ∃ (sz : Nat) (g : F),(rd_T24 l (p : Int)).f1 = (sz : Int) ∧ 1 ≤ sz ∧ l.drop (p + sz) = g.flat ++ r ∧ f.count = g.count + 1 ∧ starts p f = (p : Int) :: starts (p + sz) g ∧ p + sz + g.flat.length + r.length = l.length ∧ f.flat.length = sz + g.flat.length:=by
 have hlen:=congrArg List.length h
 simp only [List.length_drop,List.length_append] at hlen
 match f,hc with
 | .nil,hc => exact absurd rfl hc
 | .leaf k d t g,hc =>
  simp only [F.flat,List.cons_append] at h
  obtain ⟨e1,e2,e3,e4⟩:=rd_cast l p _ _ h
  refine ⟨1,g,by rw [e1];rfl,Nat.le_refl _,e3,rfl,rfl,?_,?_⟩
  ·simp only [F.flat,List.length_cons] at hlen
   omega
  ·simp only [F.flat,List.length_cons]
   omega
 | .node k d ks g,hc =>
  simp only [F.flat,List.cons_append] at h
  obtain ⟨e1,e2,e3,e4⟩:=rd_cast l p _ _ h
  refine ⟨ks.flat.length + 1,g,by rw [e1],by omega,?_,rfl,rfl,?_,?_⟩
  ·rw [show p + (ks.flat.length + 1) = (p + 1) + ks.flat.length by omega,← List.drop_drop,e3]
   simp
  ·simp only [F.flat,List.length_cons,List.length_append] at hlen
   omega
  ·simp only [F.flat,List.length_cons,List.length_append]
   omega
theorem starts_len : ∀ (f : F) (p : Nat),(starts p f).length = f.count
 | .nil,p => rfl
 | .leaf k d t r,p => by simp [starts,F.count,starts_len r]
 | .node k d ks r,p => by simp [starts,F.count,starts_len r]
end Go.Proofs.YtjehflambbjoaaaDoor.Pure
namespace Go.Proofs.YtjehflambbjoaaaDoor.Pure
open Go.Proofs.YtjehflambbjoaaaDoor.X Go.RowKit Go.Proofs.YtjehflambbjoaaaDoorW.PrintWords Go.Proofs.YtjehflambbjoaaaDoorW.PrintMore
set_option linter.unusedVariables false
set_option linter.unusedSimpArgs false
theorem count_nil {f : F} (h : f.count = 0) : f = .nil:=by
 match f,h with
 | .nil,_ => rfl
theorem kids_l0 (l : List S24) (hlen : l.length ≤ 1000000) (N : Int) : ∀ (n : Nat) (f : F) (rest : List S24) (out : List Int) (next cnt k : Nat),f.count = n → l.drop next = f.flat ++ rest → ((cnt + n : Nat) : Int) = N → n + 1 ≤ k → out.length + n ≤ 10000000 → cnt + n ≤ 10000000 →
  jsontext_Kids.l0 k l out (next : Int) N (cnt : Int) = some (out ++ starts next f)
 | n,f,rest,out,next,cnt,0,hf,h,hN,hk,ho,hc => by omega
 | 0,f,rest,out,next,cnt,k + 1,hf,h,hN,hk,ho,hc => by
  rw [jsontext_Kids.l0,if_neg (by omega),count_nil hf]
  simp [starts]
 | n + 1,f,rest,out,next,cnt,k + 1,hf,h,hN,hk,ho,hc => by
  obtain ⟨sz,g,e1,e2,e3,e4,e5,e6,e7⟩:=first_of l next f rest h (by omega)
  rw [jsontext_Kids.l0,if_pos (by omega),if_pos (by omega),if_pos (by omega),if_pos (by omega),e1,w64v (by omega) (by omega),w64v (by omega) (by omega),show ((next : Int) + (sz : Int)) = ((next + sz : Nat) : Int) by omega,show ((cnt : Int) + 1) = ((cnt + 1 : Nat) : Int) by omega,
   kids_l0 l hlen N n g rest (out ++ [(next : Int)]) (next + sz) (cnt + 1) k (by omega) e3 (by omega) (by omega) (by simp only [List.length_append,List.length_cons,List.length_nil];omega) (by omega),e5]
  simp
end Go.Proofs.YtjehflambbjoaaaDoor.Pure
namespace Go.Proofs.YtjehflambbjoaaaDoor.Pure
open Go.Proofs.YtjehflambbjoaaaDoor.X Go.RowKit Go.Lib Go.Proofs.YtjehflambbjoaaaDoorW.PrintWords Go.Proofs.YtjehflambbjoaaaDoorW.PrintMore
set_option linter.unusedVariables false
set_option linter.unusedSimpArgs false
theorem rd_at2 (L : List Int) (j : Nat) (q : Int) (r : List Int) (h : L.drop j = q :: r) : rd L (j : Int) = q ∧ j < L.length ∧ L.drop (j + 1) = r ∧ q ∈ L:=by
 have hj : j < L.length:=by
  have:=congrArg List.length h
  simp at this
  omega
 rw [List.drop_eq_getElem_cons hj] at h
 injection h with h1 h2
 refine ⟨?_,hj,h2,?_⟩
 ·unfold rd
  rw [Int.toNat_natCast,List.getD_eq_getElem?_getD,List.getElem?_eq_getElem hj]
  exact h1
 ·rw [← h1]
  exact List.getElem_mem hj
theorem ones_size (c : UInt8) (new : Bs) (hn : new.length ≤ 6) : ∀ s : Bs,(s.flatMap (one c new)).length ≤ 6 * s.length
 | [] => by simp
 | b :: l => by
  have:=ones_size c new hn l
  have h1 : (one c new b).length ≤ 6:=by
   unfold one
   split
   ·exact hn
   ·simp
  simp only [List.flatMap_cons,List.length_append,List.length_cons]
  omega
theorem rall (s : Bs) (c : UInt8) (new : Bs) (hs : s.length ≤ 4000000000) (hn : new.length ≤ 6) : strings_ReplaceAll.f (str s) (str [c]) (str new) = some (str (replaceAll s [c] new)):=by
 have h1 : (str s).size < 4294967281:=by rw [msize];omega
 unfold strings_ReplaceAll.f strings_Replace.f
 rw [if_pos ⟨h1,by rw [msize];exact Nat.le_refl _,by rw [msize];omega⟩]
 rfl
theorem safe_law (t : Bs) (h : t.length ≤ 1000000) (k : Nat) (hk : 5 ≤ k) : response_safe.f k (str t) = some (str (t.flatMap esc)):=by
 obtain ⟨k,rfl⟩ : ∃ k',k = k' + 5:=⟨k - 5,by omega⟩
 have w0 : wrap64 (0 + 1) = 1:=by unfold wrap64;omega
 have w1 : wrap64 (1 + 1) = 2:=by unfold wrap64;omega
 have w2 : wrap64 (2 + 1) = 3:=by unfold wrap64;omega
 have w3 : wrap64 (3 + 1) = 4:=by unfold wrap64;omega
 have r1:=replaceAll_one 38 [38,97,109,112,59] t (by decide)
 have l1 : (replaceAll t [38] [38,97,109,112,59]).length ≤ 6 * t.length:=by rw [r1];exact ones_size _ _ (by decide) t
 have r2:=replaceAll_one 60 [38,108,116,59] (replaceAll t [38] [38,97,109,112,59]) (by decide)
 have l2 : (replaceAll (replaceAll t [38] [38,97,109,112,59]) [60] [38,108,116,59]).length ≤ 36 * t.length:=by
  rw [r2]
  have:=ones_size 60 [38,108,116,59] (by decide) (replaceAll t [38] [38,97,109,112,59])
  omega
 have r3:=replaceAll_one 62 [38,103,116,59] (replaceAll (replaceAll t [38] [38,97,109,112,59]) [60] [38,108,116,59]) (by decide)
 have l3 : (replaceAll (replaceAll (replaceAll t [38] [38,97,109,112,59]) [60] [38,108,116,59]) [62] [38,103,116,59]).length ≤ 216 * t.length:=by
  rw [r3]
  have:=ones_size 62 [38,103,116,59] (by decide) (replaceAll (replaceAll t [38] [38,97,109,112,59]) [60] [38,108,116,59])
  omega
 have e1:=rall t 38 [38,97,109,112,59] (by omega) (by decide)
 have e2:=rall _ 60 [38,108,116,59] (Nat.le_trans l1 (by omega)) (by decide)
 have e3:=rall _ 62 [38,103,116,59] (Nat.le_trans l2 (by omega)) (by decide)
 have e4:=rall _ 34 [38,113,117,111,116,59] (Nat.le_trans l3 (by omega)) (by decide)
 rw [← esc_all]
 have key : ∀ tbl : List S100,tbl.length = 4 → rd_T100 tbl 0 = ⟨str [38],str [38,97,109,112,59]⟩ → rd_T100 tbl 1 = ⟨str [60],str [38,108,116,59]⟩ → rd_T100 tbl 2 = ⟨str [62],str [38,103,116,59]⟩ → rd_T100 tbl 3 = ⟨str [34],str [38,113,117,111,116,59]⟩ →
   response_safe.l0 (k + 5) (str t) tbl (tbl.length : Int) 0 = some (str (replaceAll (replaceAll (replaceAll (replaceAll t [38] [38,97,109,112,59]) [60] [38,108,116,59]) [62] [38,103,116,59]) [34] [38,113,117,111,116,59])):=by
  intro tbl hl a0 a1 a2 a3
  rw [hl,response_safe.l0,if_pos (by decide),if_pos (by decide),if_pos (by rw [hl];decide),w0,a0,e1,Option.bind_some]
  rw [response_safe.l0,if_pos (by decide),if_pos (by decide),if_pos (by rw [hl];decide),w1,a1,e2,Option.bind_some]
  rw [response_safe.l0,if_pos (by decide),if_pos (by decide),if_pos (by rw [hl];decide),w2,a2,e3,Option.bind_some]
  rw [response_safe.l0,if_pos (by decide),if_pos (by decide),if_pos (by rw [hl];decide),w3,a3,e4,Option.bind_some]
  rw [response_safe.l0,if_neg (by decide)]
 unfold response_safe.f
 rw [Option.bind_some]
 exact key _ rfl rfl rfl rfl rfl
theorem parts2 : ∀ f : F,f = .nil ∨ ∃ (u g : F) (x : Nd) (tl : List Nd) (key : Bs),u.count = 1 ∧ f.flat = u.flat ++ g.flat ∧ f.count = g.count + 1 ∧ (∀ nm : Option Bs,mkup nm f = mkup (some (nm.getD key)) u ++ mkup nm g) ∧
  (∀ p,starts p f = (p : Int) :: starts (p + u.flat.length) g) ∧ dep u ≤ dep f ∧ dep g ≤ dep f ∧ (∀ M T,fine M T f → key.length ≤ M ∧ fine M T u ∧ fine M T g) ∧ (∀ K,cost K f = cost K u + cost K g) ∧ u.flat = x :: tl ∧ x.f3 = str key
 | .nil => .inl rfl
 | .leaf k d t r => .inr ⟨.leaf k d t .nil,r,⟨d,1,0,str k,str t⟩,[],k,rfl,by simp [F.flat],rfl,fun nm => by simp [mkup],fun p => by simp [starts,F.flat],by simp only [dep];omega,by simp only [dep];omega,
   fun M T h => ⟨h.1,⟨h.1,h.2.1,h.2.2.1,h.2.2.2.1,trivial⟩,h.2.2.2.2⟩,fun K => by simp only [cost];omega,by simp [F.flat],rfl⟩
 | .node k d ks r => .inr ⟨.node k d ks .nil,r,⟨d,(ks.flat.length + 1 : Nat),(ks.count : Nat),str k,str []⟩,ks.flat,k,rfl,by simp [F.flat],rfl,fun nm => by simp [mkup],fun p => by simp [starts,F.flat],by simp only [dep];omega,by simp only [dep];omega,
   fun M T h => ⟨h.1,⟨h.1,h.2.1,h.2.2.1,trivial⟩,h.2.2.2⟩,fun K => by simp only [cost];omega,by simp [F.flat],rfl⟩
def nmOf (d : Int) (name : Bs) : Option Bs:=if d = 6 then some name else none
theorem kids_at (l : List S24) (hlen : l.length ≤ 1000000) (p k N : Nat) (f : F) (r : List S24) (hp : p < l.length) (h : l.drop (p + 1) = f.flat ++ r) (hN : (rd_T24 l (p : Int)).f2 = (f.count : Nat)) (hC : jsontext_Check.f k l = some 0) (hk : l.length + 5 ≤ k) :
  jsontext_Kids.f k l (p : Int) = some (starts (p + 1) f):=by
 have hcl:=flat_count f
 have hfl:=congrArg List.length h
 simp only [List.length_drop,List.length_append] at hfl
 obtain ⟨k',rfl⟩ : ∃ k',k = k' + 1:=⟨k - 1,by omega⟩
 rw [jsontext_Kids.f,hC,Option.bind_some,if_pos (show (0 : Int) = 0 from rfl),if_neg (by omega),jsontext_Kids.j0,if_neg (by simp;omega),if_pos (by omega),if_pos (by omega),w64v (by omega) (by omega),hN]
 exact kids_l0 l hlen _ f.count f r [] (p + 1) 0 k' rfl h (by omega) (by omega) (by simp;omega) (by omega)
end Go.Proofs.YtjehflambbjoaaaDoor.Pure
namespace Go.Proofs.YtjehflambbjoaaaDoor.Pure
open Go.Proofs.YtjehflambbjoaaaDoor.X Go.RowKit Go.Proofs.YtjehflambbjoaaaDoorW.PrintWords Go.Proofs.YtjehflambbjoaaaDoorW.PrintLast Go.Proofs.YtjehflambbjoaaaDoorW.PrintMore
set_option linter.unusedVariables false
set_option linter.unusedSimpArgs false
def inVal (name : Bs) : F → Bs
 | .nil => []
 | .leaf _ d t _ => leafIn d t
 | .node _ d ks _ => mkup (nmOf d name) ks
def ElOk (l : List S24) (d M T : Nat) : Prop:=∀ (A : Option Addr) (cp : Nat) (w : World) (u : F) (r : List S24) (p : Nat) (name : Bs),l.length ≤ cp → Kd.C k24 w A l.length l → GlobMax w → GlobU8 w → u.count = 1 → dep u ≤ d → l.drop p = u.flat ++ r → fine M T u → name.length ≤ M → cost M u ≤ 100000000 →
 Calls Tryd.prog 17 #[.string (str name),.slice A l.length cp,.int .i64 (p : Int)] w fun e w' => e = .returned (.string (str (mkup (some name) u))) ∧ Below w.heap.size w w'
def InOk (l : List S24) (d M T : Nat) : Prop:=∀ (A : Option Addr) (cp : Nat) (w : World) (u : F) (r : List S24) (p : Nat) (name : Bs),l.length ≤ cp → Kd.C k24 w A l.length l → GlobMax w → GlobU8 w → u.count = 1 → dep u ≤ d → l.drop p = u.flat ++ r → fine M T u → name.length ≤ M → cost M u ≤ 100000000 →
 Calls Tryd.prog 34 #[.string (str name),.slice A l.length cp,.int .i64 (p : Int)] w fun e w' => e = .returned (.string (str (inVal name u))) ∧ Below w.heap.size w w'
theorem one_parts {u : F} (h : u.count = 1) : ∃ (x : Nd) (ks : F) (k : Bs),u.flat = x :: ks.flat ∧ x.f2 = (ks.count : Nat) ∧ x.f3 = str k ∧ ((∃ d t,u = .leaf k d t .nil ∧ ks = .nil ∧ x.f0 = d ∧ x.f4 = str t) ∨ (∃ d,u = .node k d ks .nil ∧ x.f0 = d)):=by
 match u,h with
 | .leaf k d t g,h =>
  obtain rfl:=flat_nil g (by simpa [F.count] using h)
  exact ⟨⟨d,1,0,str k,str t⟩,.nil,k,by simp [F.flat],rfl,rfl,.inl ⟨d,t,rfl,rfl,rfl,rfl⟩⟩
 | .node k d ks g,h =>
  obtain rfl:=flat_nil g (by simpa [F.count] using h)
  exact ⟨⟨d,(ks.flat.length + 1 : Nat),(ks.count : Nat),str k,str []⟩,ks,k,by simp [F.flat],rfl,rfl,.inr ⟨d,rfl,rfl⟩⟩
theorem str_app (a b : Bs) : str a ++ str b = str (a ++ b):=mstr_app a b
set_option maxHeartbeats 8000000 in
set_option maxRecDepth 100000 in
theorem elem_step (l : List S24) (hlen : l.length ≤ 1000000) (d M T : Nat) (hM : M ≤ 1000000) (hI : InOk l d M T) : ElOk l d M T:=by
 intro A cp w u r p name hcp hC hGM hGU h1 hd h hf hn hc
 obtain ⟨x,ks,k,e1,e2,e3,e4⟩:=one_parts h1
 have h':=h
 rw [e1,List.cons_append] at h'
 obtain ⟨q1,q2,q3⟩:=rd_here l p _ _ h'
 obtain ⟨ad,rfl,k0,k1,k2,k3,k4⟩:=at_T24 hC (p : Int) (by omega) (by omega)
 rw [q1,Int.toNat_natCast] at k0
 clear k1 k2 k3 k4
 have HIN:=Lib.hid (fun w' (hb : Below w.heap.size w w') => hI (some ad) cp w' u r p name hcp (Kd.C_below hC hb) (hGM.below hb) (hGU.below hb) h1 hd h hf hn hc)
 have hms:=mkup_size M u (some name) (fine_keys M T u hf) (fun n e => by cases e;exact hn)
 have p1 : (0 ≤ (p : Int)) = True:=eq_true (by omega)
 have p2 : ((p : Int) < (l.length : Int)) = True:=eq_true (by omega)
 have HMS:=Lib.hid hms
 have HCO:=Lib.hid hc
 have HLE:=Lib.hid hlen
 have hmk : (x.f0 = 6 → mkup (some name) u = inVal name u) ∧ (x.f0 ≠ 6 → mkup (some name) u = tag name (inVal name u)):=by
  rcases e4 with ⟨d0,t,rfl,rfl,rfl,_⟩|⟨d0,rfl,rfl⟩
  ·have:=hf.2.2.2.1
   refine ⟨fun e => by omega,fun _ => by simp [mkup,inVal]⟩
  ·exact ⟨fun e => by simp [mkup,inVal,nmOf,e],fun e => by simp [mkup,inVal,nmOf,e]⟩
 have HMK:=Lib.hid hmk
 clear hC hGM hGU h hf hc h' q1 q3 e1 e2 e3 e4 hms hlen hmk hI
 generalize hN : l.length = N at *
 by_cases h6 : x.f0 = 6
 ·have d1 : (x.f0 == 6) = true:=beq_iff_eq.2 h6
  rw [h6] at k0
  have HR:=Lib.hid (HMK.out.1 h6)
  rw [HR.out]
  clear h6 d1 hN
  go_enter Tryd.func17,Tryd.ntmps17
  go_wp2_with (go_at_call 34;(with_reducible refine (HIN.out _ (Below.refl _ _)).mono ?_);rintro e w1 ⟨rfl,hb1⟩;have HB1:=Lib.hid hb1;clear hb1)
  go_ret
  exact ⟨rfl,HB1.out⟩
 ·have d1 : (x.f0 == 6) = false:=beq_eq_false_iff_ne.2 h6
  have HR:=Lib.hid (HMK.out.2 h6)
  have hsz : 2 * name.length + 5 + (inVal name u).length ≤ 100000000:=by
   have h2:=HMS.out
   rw [HR.out,tag_size] at h2
   have:=HCO.out
   omega
  rw [HR.out]
  generalize inVal name u = v at *
  have s1 : (str name).size = name.length:=msize name
  have s2 : (str v).size = v.length:=msize v
  have HSZ:=Lib.hid hsz
  clear hsz hn hN
  have t1 : (9223372036854775807 < 1 + name.length) = False:=eq_false (by have:=HSZ.out;omega)
  have t2 : (9223372036854775807 < 1 + name.length + 1) = False:=eq_false (by have:=HSZ.out;omega)
  have t3 : (9223372036854775807 < 1 + name.length + 1 + v.length) = False:=eq_false (by have:=HSZ.out;omega)
  have t4 : (9223372036854775807 < 1 + name.length + 1 + v.length + 2) = False:=eq_false (by have:=HSZ.out;omega)
  have t5 : (9223372036854775807 < 1 + name.length + 1 + v.length + 2 + name.length) = False:=eq_false (by have:=HSZ.out;omega)
  have t6 : (9223372036854775807 < 1 + name.length + 1 + v.length + 2 + name.length + 1) = False:=eq_false (by have:=HSZ.out;omega)
  go_enter Tryd.func17,Tryd.ntmps17
  go_wp2_with (go_at_call 34;(with_reducible refine (HIN.out _ (Below.refl _ _)).mono ?_);rintro e w1 ⟨rfl,hb1⟩;have HB1:=Lib.hid hb1;clear hb1)
  go_ret
  refine ⟨?_,HB1.out⟩
  have hz : str [60] ++ str name ++ str [62] ++ str v ++ str [60,47] ++ str name ++ str [62] = str (tag name v):=by
   rw [str_app,str_app,str_app,str_app,str_app,str_app]
   rfl
  exact congrArg (fun z => Ending.returned (Value.string z)) hz
theorem R_spare {w w' : World} {b : Nat} {v : Value} {L : List Int} (hs : Spare b w w') (h : Kd.R (Kd.int .i64) 3 w 0 (fun k => k ≠ b) v L) : Kd.R (Kd.int .i64) 3 w' 0 (fun k => k ≠ b) v L:=by
 refine Kd.R_mono (Kd.R_move (Kd.R_bound h) (fun k hk => ?_)) (fun _ hk => hk.1)
 obtain ⟨h1,h2,h3,q,hq,cells,hc⟩:=hk
 have hq' : q = 3:=by simpa [Kd.int,Kd.scalar] using hq
 subst hq'
 rw [hs.cells hc (by decide) h1,hc]
set_option maxHeartbeats 8000000 in
set_option maxRecDepth 100000 in
theorem in_kids (l : List S24) (hlen : l.length ≤ 1000000) (kk : Nat) (hCk : jsontext_Check.f kk l = some 0) (hkk : l.length + 5 ≤ kk) (d M T : Nat) (hM : M ≤ 1000000) (hE : ElOk l d M T)
  (A : Option Addr) (cp : Nat) (w : World) (x : Nd) (ks : F) (r : List S24) (p : Nat) (name : Bs) (hcp : l.length ≤ cp) (hC : Kd.C k24 w A l.length l) (hGM : GlobMax w) (hGU : GlobU8 w) (hx : x.f0 = 1 ∨ x.f0 = 6 ∨ x.f0 = 7) (hx2 : x.f2 = (ks.count : Nat)) (hd : dep ks ≤ d)
  (h : l.drop p = x :: (ks.flat ++ r)) (hf : fine M T ks) (hn : name.length ≤ M) (hc : cost M ks ≤ 100000000) :
  Calls Tryd.prog 34 #[.string (str name),.slice A l.length cp,.int .i64 (p : Int)] w fun e w' => e = .returned (.string (str (mkup (nmOf x.f0 name) ks))) ∧ Below w.heap.size w w':=by
 obtain ⟨q1,q2,q3⟩:=rd_here l p _ _ h
 have hkids:=kids_at l hlen p kk ks.count ks r q2 q3 (by rw [q1];exact hx2) hCk hkk
 obtain ⟨ad,rfl,k0,_⟩:=at_T24 hC (p : Int) (by omega) (by omega)
 rw [q1,Int.toNat_natCast] at k0
 have hX : ∀ w',Below w.heap.size w w' → w'.cell? (ad.add (p * 5)) = some (.int .i64 x.f0):=fun w' hb => by
  obtain ⟨ad',e,k0',_⟩:=at_T24 (Kd.C_below hC hb) (p : Int) (by omega) (by omega)
  obtain rfl:=Option.some.inj e
  rw [q1,Int.toNat_natCast] at k0'
  exact k0'
 have hsz:=mkup_size M ks (nmOf x.f0 name) (fine_keys M T ks hf) (fun n e => by unfold nmOf at e;split at e <;> simp at e;subst e;exact hn)
 have p1 : (0 ≤ (p : Int)) = True:=eq_true (by omega)
 have p2 : ((p : Int) < (l.length : Int)) = True:=eq_true (by omega)
 have hLlen : (starts (p + 1) ks).length = ks.count:=starts_len ks (p + 1)
 have hcnt : ks.count ≤ 1000000:=by
  have h1:=flat_count ks
  have h2:=congrArg List.length h
  simp only [List.length_drop,List.length_cons,List.length_append] at h2
  omega
 have hba : Below w.heap.size w (w.alloc (.cells #[.pointer none,.slice none 0 0] 64 (0,0))):=(Below.refl _ _).alloc (Nat.le_refl _) _
 have HBA:=Lib.hid hba
 have HBN : Hid (Bld w.heap.size w.heap.size [] (w.alloc (.cells #[.pointer none,.slice none 0 0] 64 (0,0)))):=Lib.hid (bld_new w _ rfl)
 have HK:=Lib.hid (fun w' (hb : Below w.heap.size w w') => jsontext_Kids.calls kk (some ad) cp l (p : Int) _ w' (hGU.below hb) (Kd.C_below hC hb) hcp hkids)
 have HE:=Lib.hid (fun w' (hb : Below w.heap.size w w') => hE (some ad) cp w')
 have HC:=Lib.hid hC
 have HGM:=Lib.hid hGM
 have HGU:=Lib.hid hGU
 have HX:=Lib.hid hX
 have HQ3:=Lib.hid q3
 have HSZ:=Lib.hid hsz
 have HCO:=Lib.hid hc
 have HF:=Lib.hid hf
 have HDP:=Lib.hid hd
 have HNM:=Lib.hid hn
 have HCP:=Lib.hid hcp
 have HLL:=Lib.hid hLlen
 have HCN:=Lib.hid hcnt
 have HLE:=Lib.hid hlen
 have HEE:=Lib.hid hE
 generalize hL : starts (p + 1) ks = L at *
 have HL:=Lib.hid hL
 generalize hN : l.length = N at *
 generalize hMK : mkup (nmOf x.f0 name) ks = mk at *
 generalize hNV : nmOf x.f0 name = nmv at *
 have HMK:=Lib.hid hMK
 have HNV:=Lib.hid hNV
 have HN:=Lib.hid hN
 clear hkids hCk hkk hC hGM hGU hX q1 q3 hsz hc hf hd hn hcp hLlen hcnt hba hx2 h hE hL hN hMK hlen hNV
 rename_i HCELLS
 clear HCELLS
 generalize hd0 : x.f0 = d0 at *
 clear hd0
 rcases hx with rfl|rfl|rfl
 ·skip
  go_enter Tryd.func34,Tryd.ntmps34
  go_wp2_with (go_at_call 49;(with_reducible refine (HK.out _ HBA.out).mono ?_);rintro e w1 ⟨v0,rfl,hr1,hb1⟩;have HB1:=Lib.hid hb1;have HBW1:=Lib.hid (HBA.out.trans (hb1.mono HBA.out.size));obtain ⟨Ak,ck,rfl⟩:=Kd.R_slice hr1;have HR1 : Hid (Kd.R (Kd.int .i64) 3 w1 0 (fun k => k ≠ w.heap.size) (.slice Ak L.length ck) L):=Lib.hid (Kd.R_lower (Kd.R_mono (Kd.R_bound hr1) (fun k hk => (by have h1:=hk.2.1;have h2:=(Array.getElem?_eq_some_iff.mp (heap_alloc_new w (.cells #[.pointer none,.slice none 0 0] 64 (0,0)))).1;omega))) (Nat.zero_le _));have HBD1 : Hid (Bld w.heap.size w.heap.size [] w1):=Lib.hid (HBN.out.below hb1);clear hb1 hr1)
  go_loopg [33] L.length (fun n x33 wr => ∃ (i q : Nat) (f : F) (o : Bs),x33 = .int .i64 (i : Int) ∧ Hid (L.drop i = starts q f ∧ l.drop q = f.flat ++ r ∧ i + f.count = L.length ∧ f.count ≤ n ∧ o ++ mkup nmv f = mk ∧ dep f ≤ d ∧ fine M T f ∧ cost M f ≤ 100000000) ∧ Hid (Bld w.heap.size w.heap.size o wr) ∧ Hid (Below w.heap.size w wr) ∧ Hid (Kd.R (Kd.int .i64) 3 wr 0 (fun k => k ≠ w.heap.size) (.slice Ak L.length ck) L))
  case atStart => exact ⟨0,p + 1,ks,[],rfl,Lib.hid ⟨HL.out.symm,HQ3.out,by rw [HLL.out,Nat.zero_add],by rw [HLL.out];exact Nat.le_refl _,HMK.out,HDP.out,HF.out,HCO.out⟩,HBD1,HBW1,HR1⟩
  case round =>
   obtain ⟨i,q,f,o,rfl,HM,HBR,HBE,HRR⟩:=hrel
   rcases parts2 f with hf|⟨u,g,y,tl,key,g1,g2,g3,g4,g5,g6,g7,g8,g9,g10,g11⟩
   ·have HM0:=HM.out
    rw [hf] at HM0
    have HM2:=Lib.hid HM0
    have d1 : decide (i < L.length) = false:=decide_eq_false (by have:=HM0.2.2.1;simp [F.count] at this;omega)
    have HO : Hid (o = mk):=Lib.hid (by have:=HM0.2.2.2.2.1;simpa [mkup] using this)
    clear HM0 hf
    go_wp2_with (go_at_call 38;refine (Tryd.Builder_String_any w.heap.size w.heap.size o _ HBR.out HBR.out.lt).mono ?_;rintro e w4 ⟨rfl,hb4⟩;have HB4:=Lib.hid hb4;clear hb4)
    go_ret
    rw [HO.out]
    exact ⟨rfl,HBE.out.trans HB4.out⟩
   ·obtain ⟨m1,m2,m3,m4,m5,m6,m7,m8⟩:=HM.out
    have d1 : decide (i < L.length) = true:=decide_eq_true (by omega)
    have d2 : (i < L.length) = True:=eq_true (by omega)
    rw [g5 q] at m1
    obtain ⟨c1,c2,c3,c4⟩:=rd_at2 L i _ _ m1
    obtain ⟨adk,rfl,k5⟩:=Kd.at_int (Kd.R_reads' HRR.out).2.2 (i : Int) (by omega) (by omega)
    rw [c1,Int.toNat_natCast] at k5
    have m2':=m2
    rw [g2,g10,List.cons_append,List.cons_append] at m2'
    obtain ⟨b1,b2,b3⟩:=rd_here l q _ _ m2'
    obtain ⟨ad2,e2,_,_,_,k6,_⟩:=at_T24 (Kd.C_below HC.out HBE.out) (q : Int) (by omega) (by have:=HN.out;omega)
    obtain rfl:=Option.some.inj e2
    rw [b1,g11,Int.toNat_natCast] at k6
    have k7:=HX.out wr HBE.out
    have v1 : (0 ≤ (q : Int)) = True:=eq_true (by omega)
    have v2 : ((q : Int) < (N : Int)) = True:=eq_true (by have:=HN.out;omega)
    obtain ⟨f1,f2,f3⟩:=g8 M T m7
    have hc9:=g9 M
    have HE2:=Lib.hid (fun (nn : Bs) (hnn : nn = nmv.getD key) => (HE.out wr HBE.out u (g.flat ++ r) q nn HCP.out (Kd.C_below HC.out HBE.out) (HGM.out.below HBE.out) (HGU.out.below HBE.out) g1 (by omega) (by rw [m2,g2,List.append_assoc]) f2
     (by rw [hnn];have:=HNV.out;unfold nmOf at this;split at this <;> (subst this;first|exact HNM.out|exact f1)) (by omega)))
    have hmz : ∀ nn : Bs,nn = nmv.getD key → (mkup (some nn) u) = mkup (some (nmv.getD key)) u:=fun nn e => by rw [e]
    have HE3 : Hid (∀ nn : Bs,nn = nmv.getD key → Calls Tryd.prog 17 #[.string (str nn),.slice (some ad) N cp,.int .i64 (q : Int)] wr fun e w' => e = .returned (.string (str (mkup (some (nmv.getD key)) u))) ∧ Below wr.heap.size wr w'):=Lib.hid (fun nn hnn => by have h:=HE2.out nn hnn;rw [hmz nn hnn] at h;exact h)
    have g4':=g4 nmv
    rw [g4',← List.append_assoc] at m5
    generalize hmu : mkup (some (nmv.getD key)) u = mu at *
    have HSM : Hid (o.length + mu.length ≤ 100000000):=Lib.hid (by have h1:=congrArg List.length m5;simp only [List.length_append] at h1;have:=HSZ.out;have:=HCO.out;omega)
    have HMM:=Lib.hid m5
    have HD2 : Hid (L.drop (i + 1) = starts (q + u.flat.length) g ∧ l.drop (q + u.flat.length) = g.flat ++ r ∧ (i + 1) + g.count = L.length ∧ dep g ≤ d ∧ fine M T g ∧ cost M g ≤ 100000000 ∧ g.count < f.count):=Lib.hid ⟨c3,by rw [← List.drop_drop,m2,g2,List.append_assoc,List.drop_left],by omega,by omega,f3,by omega,by omega⟩
    have HM4:=Lib.hid m4
    have hw1 : wrap64 ((i : Int) + 1) = ((i + 1 : Nat) : Int):=by have:=HLL.out;have:=HCN.out;unfold wrap64;omega
    have HW1:=Lib.hid hw1
    have HKN : Hid (key = nmv.getD key):=Lib.hid (by rw [← HNV.out] <;> simp [nmOf])
    clear HE2 hmu g4' g4 g1 g2 g3 g5 g6 g7 g8 g9 g10 g11 m1 m2 m3 m4 m5 m6 m7 m8 c1 c2 c3 c4 b1 b2 b3 m2' f1 f2 f3 hc9 hmz hw1
    go_wp2_with (first
     | (go_at_call 17;(with_reducible refine (HE3.out key HKN.out).mono ?_);rintro e w4 ⟨rfl,hb4⟩;have HB4:=Lib.hid hb4;have HBR4 : Hid (Bld w.heap.size w.heap.size o w4):=Lib.hid (HBR.out.below hb4);have HBE4 : Hid (Below w.heap.size w w4):=Lib.hid (HBE.out.trans (hb4.mono HBE.out.size));have HRR4:=Lib.hid (Kd.R_below HRR.out hb4);clear hb4)
     | (go_at_call 50;refine (writeStr_spare w.heap.size w.heap.size o mu _ _ HBR4.out rfl (by have:=HSM.out;omega) HBR4.out.lt).mono ?_;rintro e w5 ⟨⟨y5,rfl⟩,hb5,hbel5,hs5⟩;have HBR5 : Hid (Bld w.heap.size w.heap.size (o ++ mu) w5):=Lib.hid hb5;have HBE5 : Hid (Below w.heap.size w w5):=Lib.hid (HBE4.out.trans hbel5);have HRR5:=Lib.hid (R_spare hs5 HRR4.out);clear hb5 hbel5 hs5))
    go_roundg g.count
    case measure => have:=HD2.out.2.2.2.2.2.2;have:=HM4.out;omega
    case rel => exact ⟨i + 1,q + u.flat.length,g,o ++ mu,by rw [HW1.out],Lib.hid ⟨HD2.out.1,HD2.out.2.1,HD2.out.2.2.1,Nat.le_refl _,HMM.out,HD2.out.2.2.2.1,HD2.out.2.2.2.2.1,HD2.out.2.2.2.2.2.1⟩,HBR5,HBE5,HRR5⟩
 ·skip
  go_enter Tryd.func34,Tryd.ntmps34
  go_wp2_with (go_at_call 49;(with_reducible refine (HK.out _ HBA.out).mono ?_);rintro e w1 ⟨v0,rfl,hr1,hb1⟩;have HB1:=Lib.hid hb1;have HBW1:=Lib.hid (HBA.out.trans (hb1.mono HBA.out.size));obtain ⟨Ak,ck,rfl⟩:=Kd.R_slice hr1;have HR1 : Hid (Kd.R (Kd.int .i64) 3 w1 0 (fun k => k ≠ w.heap.size) (.slice Ak L.length ck) L):=Lib.hid (Kd.R_lower (Kd.R_mono (Kd.R_bound hr1) (fun k hk => (by have h1:=hk.2.1;have h2:=(Array.getElem?_eq_some_iff.mp (heap_alloc_new w (.cells #[.pointer none,.slice none 0 0] 64 (0,0)))).1;omega))) (Nat.zero_le _));have HBD1 : Hid (Bld w.heap.size w.heap.size [] w1):=Lib.hid (HBN.out.below hb1);clear hb1 hr1)
  go_loopg [33] L.length (fun n x33 wr => ∃ (i q : Nat) (f : F) (o : Bs),x33 = .int .i64 (i : Int) ∧ Hid (L.drop i = starts q f ∧ l.drop q = f.flat ++ r ∧ i + f.count = L.length ∧ f.count ≤ n ∧ o ++ mkup nmv f = mk ∧ dep f ≤ d ∧ fine M T f ∧ cost M f ≤ 100000000) ∧ Hid (Bld w.heap.size w.heap.size o wr) ∧ Hid (Below w.heap.size w wr) ∧ Hid (Kd.R (Kd.int .i64) 3 wr 0 (fun k => k ≠ w.heap.size) (.slice Ak L.length ck) L))
  case atStart => exact ⟨0,p + 1,ks,[],rfl,Lib.hid ⟨HL.out.symm,HQ3.out,by rw [HLL.out,Nat.zero_add],by rw [HLL.out];exact Nat.le_refl _,HMK.out,HDP.out,HF.out,HCO.out⟩,HBD1,HBW1,HR1⟩
  case round =>
   obtain ⟨i,q,f,o,rfl,HM,HBR,HBE,HRR⟩:=hrel
   rcases parts2 f with hf|⟨u,g,y,tl,key,g1,g2,g3,g4,g5,g6,g7,g8,g9,g10,g11⟩
   ·have HM0:=HM.out
    rw [hf] at HM0
    have HM2:=Lib.hid HM0
    have d1 : decide (i < L.length) = false:=decide_eq_false (by have:=HM0.2.2.1;simp [F.count] at this;omega)
    have HO : Hid (o = mk):=Lib.hid (by have:=HM0.2.2.2.2.1;simpa [mkup] using this)
    clear HM0 hf
    go_wp2_with (go_at_call 38;refine (Tryd.Builder_String_any w.heap.size w.heap.size o _ HBR.out HBR.out.lt).mono ?_;rintro e w4 ⟨rfl,hb4⟩;have HB4:=Lib.hid hb4;clear hb4)
    go_ret
    rw [HO.out]
    exact ⟨rfl,HBE.out.trans HB4.out⟩
   ·obtain ⟨m1,m2,m3,m4,m5,m6,m7,m8⟩:=HM.out
    have d1 : decide (i < L.length) = true:=decide_eq_true (by omega)
    have d2 : (i < L.length) = True:=eq_true (by omega)
    rw [g5 q] at m1
    obtain ⟨c1,c2,c3,c4⟩:=rd_at2 L i _ _ m1
    obtain ⟨adk,rfl,k5⟩:=Kd.at_int (Kd.R_reads' HRR.out).2.2 (i : Int) (by omega) (by omega)
    rw [c1,Int.toNat_natCast] at k5
    have m2':=m2
    rw [g2,g10,List.cons_append,List.cons_append] at m2'
    obtain ⟨b1,b2,b3⟩:=rd_here l q _ _ m2'
    obtain ⟨ad2,e2,_,_,_,k6,_⟩:=at_T24 (Kd.C_below HC.out HBE.out) (q : Int) (by omega) (by have:=HN.out;omega)
    obtain rfl:=Option.some.inj e2
    rw [b1,g11,Int.toNat_natCast] at k6
    have k7:=HX.out wr HBE.out
    have v1 : (0 ≤ (q : Int)) = True:=eq_true (by omega)
    have v2 : ((q : Int) < (N : Int)) = True:=eq_true (by have:=HN.out;omega)
    obtain ⟨f1,f2,f3⟩:=g8 M T m7
    have hc9:=g9 M
    have HE2:=Lib.hid (fun (nn : Bs) (hnn : nn = nmv.getD key) => (HE.out wr HBE.out u (g.flat ++ r) q nn HCP.out (Kd.C_below HC.out HBE.out) (HGM.out.below HBE.out) (HGU.out.below HBE.out) g1 (by omega) (by rw [m2,g2,List.append_assoc]) f2
     (by rw [hnn];have:=HNV.out;unfold nmOf at this;split at this <;> (subst this;first|exact HNM.out|exact f1)) (by omega)))
    have hmz : ∀ nn : Bs,nn = nmv.getD key → (mkup (some nn) u) = mkup (some (nmv.getD key)) u:=fun nn e => by rw [e]
    have HE3 : Hid (∀ nn : Bs,nn = nmv.getD key → Calls Tryd.prog 17 #[.string (str nn),.slice (some ad) N cp,.int .i64 (q : Int)] wr fun e w' => e = .returned (.string (str (mkup (some (nmv.getD key)) u))) ∧ Below wr.heap.size wr w'):=Lib.hid (fun nn hnn => by have h:=HE2.out nn hnn;rw [hmz nn hnn] at h;exact h)
    have g4':=g4 nmv
    rw [g4',← List.append_assoc] at m5
    generalize hmu : mkup (some (nmv.getD key)) u = mu at *
    have HSM : Hid (o.length + mu.length ≤ 100000000):=Lib.hid (by have h1:=congrArg List.length m5;simp only [List.length_append] at h1;have:=HSZ.out;have:=HCO.out;omega)
    have HMM:=Lib.hid m5
    have HD2 : Hid (L.drop (i + 1) = starts (q + u.flat.length) g ∧ l.drop (q + u.flat.length) = g.flat ++ r ∧ (i + 1) + g.count = L.length ∧ dep g ≤ d ∧ fine M T g ∧ cost M g ≤ 100000000 ∧ g.count < f.count):=Lib.hid ⟨c3,by rw [← List.drop_drop,m2,g2,List.append_assoc,List.drop_left],by omega,by omega,f3,by omega,by omega⟩
    have HM4:=Lib.hid m4
    have hw1 : wrap64 ((i : Int) + 1) = ((i + 1 : Nat) : Int):=by have:=HLL.out;have:=HCN.out;unfold wrap64;omega
    have HW1:=Lib.hid hw1
    have HKN : Hid (name = nmv.getD key):=Lib.hid (by rw [← HNV.out] <;> simp [nmOf])
    clear HE2 hmu g4' g4 g1 g2 g3 g5 g6 g7 g8 g9 g10 g11 m1 m2 m3 m4 m5 m6 m7 m8 c1 c2 c3 c4 b1 b2 b3 m2' f1 f2 f3 hc9 hmz hw1
    go_wp2_with (first
     | (go_at_call 17;(with_reducible refine (HE3.out name HKN.out).mono ?_);rintro e w4 ⟨rfl,hb4⟩;have HB4:=Lib.hid hb4;have HBR4 : Hid (Bld w.heap.size w.heap.size o w4):=Lib.hid (HBR.out.below hb4);have HBE4 : Hid (Below w.heap.size w w4):=Lib.hid (HBE.out.trans (hb4.mono HBE.out.size));have HRR4:=Lib.hid (Kd.R_below HRR.out hb4);clear hb4)
     | (go_at_call 50;refine (writeStr_spare w.heap.size w.heap.size o mu _ _ HBR4.out rfl (by have:=HSM.out;omega) HBR4.out.lt).mono ?_;rintro e w5 ⟨⟨y5,rfl⟩,hb5,hbel5,hs5⟩;have HBR5 : Hid (Bld w.heap.size w.heap.size (o ++ mu) w5):=Lib.hid hb5;have HBE5 : Hid (Below w.heap.size w w5):=Lib.hid (HBE4.out.trans hbel5);have HRR5:=Lib.hid (R_spare hs5 HRR4.out);clear hb5 hbel5 hs5))
    go_roundg g.count
    case measure => have:=HD2.out.2.2.2.2.2.2;have:=HM4.out;omega
    case rel => exact ⟨i + 1,q + u.flat.length,g,o ++ mu,by rw [HW1.out],Lib.hid ⟨HD2.out.1,HD2.out.2.1,HD2.out.2.2.1,Nat.le_refl _,HMM.out,HD2.out.2.2.2.1,HD2.out.2.2.2.2.1,HD2.out.2.2.2.2.2.1⟩,HBR5,HBE5,HRR5⟩
 ·skip
  go_enter Tryd.func34,Tryd.ntmps34
  go_wp2_with (go_at_call 49;(with_reducible refine (HK.out _ HBA.out).mono ?_);rintro e w1 ⟨v0,rfl,hr1,hb1⟩;have HB1:=Lib.hid hb1;have HBW1:=Lib.hid (HBA.out.trans (hb1.mono HBA.out.size));obtain ⟨Ak,ck,rfl⟩:=Kd.R_slice hr1;have HR1 : Hid (Kd.R (Kd.int .i64) 3 w1 0 (fun k => k ≠ w.heap.size) (.slice Ak L.length ck) L):=Lib.hid (Kd.R_lower (Kd.R_mono (Kd.R_bound hr1) (fun k hk => (by have h1:=hk.2.1;have h2:=(Array.getElem?_eq_some_iff.mp (heap_alloc_new w (.cells #[.pointer none,.slice none 0 0] 64 (0,0)))).1;omega))) (Nat.zero_le _));have HBD1 : Hid (Bld w.heap.size w.heap.size [] w1):=Lib.hid (HBN.out.below hb1);clear hb1 hr1)
  go_loopg [33] L.length (fun n x33 wr => ∃ (i q : Nat) (f : F) (o : Bs),x33 = .int .i64 (i : Int) ∧ Hid (L.drop i = starts q f ∧ l.drop q = f.flat ++ r ∧ i + f.count = L.length ∧ f.count ≤ n ∧ o ++ mkup nmv f = mk ∧ dep f ≤ d ∧ fine M T f ∧ cost M f ≤ 100000000) ∧ Hid (Bld w.heap.size w.heap.size o wr) ∧ Hid (Below w.heap.size w wr) ∧ Hid (Kd.R (Kd.int .i64) 3 wr 0 (fun k => k ≠ w.heap.size) (.slice Ak L.length ck) L))
  case atStart => exact ⟨0,p + 1,ks,[],rfl,Lib.hid ⟨HL.out.symm,HQ3.out,by rw [HLL.out,Nat.zero_add],by rw [HLL.out];exact Nat.le_refl _,HMK.out,HDP.out,HF.out,HCO.out⟩,HBD1,HBW1,HR1⟩
  case round =>
   obtain ⟨i,q,f,o,rfl,HM,HBR,HBE,HRR⟩:=hrel
   rcases parts2 f with hf|⟨u,g,y,tl,key,g1,g2,g3,g4,g5,g6,g7,g8,g9,g10,g11⟩
   ·have HM0:=HM.out
    rw [hf] at HM0
    have HM2:=Lib.hid HM0
    have d1 : decide (i < L.length) = false:=decide_eq_false (by have:=HM0.2.2.1;simp [F.count] at this;omega)
    have HO : Hid (o = mk):=Lib.hid (by have:=HM0.2.2.2.2.1;simpa [mkup] using this)
    clear HM0 hf
    go_wp2_with (go_at_call 38;refine (Tryd.Builder_String_any w.heap.size w.heap.size o _ HBR.out HBR.out.lt).mono ?_;rintro e w4 ⟨rfl,hb4⟩;have HB4:=Lib.hid hb4;clear hb4)
    go_ret
    rw [HO.out]
    exact ⟨rfl,HBE.out.trans HB4.out⟩
   ·obtain ⟨m1,m2,m3,m4,m5,m6,m7,m8⟩:=HM.out
    have d1 : decide (i < L.length) = true:=decide_eq_true (by omega)
    have d2 : (i < L.length) = True:=eq_true (by omega)
    rw [g5 q] at m1
    obtain ⟨c1,c2,c3,c4⟩:=rd_at2 L i _ _ m1
    obtain ⟨adk,rfl,k5⟩:=Kd.at_int (Kd.R_reads' HRR.out).2.2 (i : Int) (by omega) (by omega)
    rw [c1,Int.toNat_natCast] at k5
    have m2':=m2
    rw [g2,g10,List.cons_append,List.cons_append] at m2'
    obtain ⟨b1,b2,b3⟩:=rd_here l q _ _ m2'
    obtain ⟨ad2,e2,_,_,_,k6,_⟩:=at_T24 (Kd.C_below HC.out HBE.out) (q : Int) (by omega) (by have:=HN.out;omega)
    obtain rfl:=Option.some.inj e2
    rw [b1,g11,Int.toNat_natCast] at k6
    have k7:=HX.out wr HBE.out
    have v1 : (0 ≤ (q : Int)) = True:=eq_true (by omega)
    have v2 : ((q : Int) < (N : Int)) = True:=eq_true (by have:=HN.out;omega)
    obtain ⟨f1,f2,f3⟩:=g8 M T m7
    have hc9:=g9 M
    have HE2:=Lib.hid (fun (nn : Bs) (hnn : nn = nmv.getD key) => (HE.out wr HBE.out u (g.flat ++ r) q nn HCP.out (Kd.C_below HC.out HBE.out) (HGM.out.below HBE.out) (HGU.out.below HBE.out) g1 (by omega) (by rw [m2,g2,List.append_assoc]) f2
     (by rw [hnn];have:=HNV.out;unfold nmOf at this;split at this <;> (subst this;first|exact HNM.out|exact f1)) (by omega)))
    have hmz : ∀ nn : Bs,nn = nmv.getD key → (mkup (some nn) u) = mkup (some (nmv.getD key)) u:=fun nn e => by rw [e]
    have HE3 : Hid (∀ nn : Bs,nn = nmv.getD key → Calls Tryd.prog 17 #[.string (str nn),.slice (some ad) N cp,.int .i64 (q : Int)] wr fun e w' => e = .returned (.string (str (mkup (some (nmv.getD key)) u))) ∧ Below wr.heap.size wr w'):=Lib.hid (fun nn hnn => by have h:=HE2.out nn hnn;rw [hmz nn hnn] at h;exact h)
    have g4':=g4 nmv
    rw [g4',← List.append_assoc] at m5
    generalize hmu : mkup (some (nmv.getD key)) u = mu at *
    have HSM : Hid (o.length + mu.length ≤ 100000000):=Lib.hid (by have h1:=congrArg List.length m5;simp only [List.length_append] at h1;have:=HSZ.out;have:=HCO.out;omega)
    have HMM:=Lib.hid m5
    have HD2 : Hid (L.drop (i + 1) = starts (q + u.flat.length) g ∧ l.drop (q + u.flat.length) = g.flat ++ r ∧ (i + 1) + g.count = L.length ∧ dep g ≤ d ∧ fine M T g ∧ cost M g ≤ 100000000 ∧ g.count < f.count):=Lib.hid ⟨c3,by rw [← List.drop_drop,m2,g2,List.append_assoc,List.drop_left],by omega,by omega,f3,by omega,by omega⟩
    have HM4:=Lib.hid m4
    have hw1 : wrap64 ((i : Int) + 1) = ((i + 1 : Nat) : Int):=by have:=HLL.out;have:=HCN.out;unfold wrap64;omega
    have HW1:=Lib.hid hw1
    have HKN : Hid (key = nmv.getD key):=Lib.hid (by rw [← HNV.out] <;> simp [nmOf])
    clear HE2 hmu g4' g4 g1 g2 g3 g5 g6 g7 g8 g9 g10 g11 m1 m2 m3 m4 m5 m6 m7 m8 c1 c2 c3 c4 b1 b2 b3 m2' f1 f2 f3 hc9 hmz hw1
    go_wp2_with (first
     | (go_at_call 17;(with_reducible refine (HE3.out key HKN.out).mono ?_);rintro e w4 ⟨rfl,hb4⟩;have HB4:=Lib.hid hb4;have HBR4 : Hid (Bld w.heap.size w.heap.size o w4):=Lib.hid (HBR.out.below hb4);have HBE4 : Hid (Below w.heap.size w w4):=Lib.hid (HBE.out.trans (hb4.mono HBE.out.size));have HRR4:=Lib.hid (Kd.R_below HRR.out hb4);clear hb4)
     | (go_at_call 50;refine (writeStr_spare w.heap.size w.heap.size o mu _ _ HBR4.out rfl (by have:=HSM.out;omega) HBR4.out.lt).mono ?_;rintro e w5 ⟨⟨y5,rfl⟩,hb5,hbel5,hs5⟩;have HBR5 : Hid (Bld w.heap.size w.heap.size (o ++ mu) w5):=Lib.hid hb5;have HBE5 : Hid (Below w.heap.size w w5):=Lib.hid (HBE4.out.trans hbel5);have HRR5:=Lib.hid (R_spare hs5 HRR4.out);clear hb5 hbel5 hs5))
    go_roundg g.count
    case measure => have:=HD2.out.2.2.2.2.2.2;have:=HM4.out;omega
    case rel => exact ⟨i + 1,q + u.flat.length,g,o ++ mu,by rw [HW1.out],Lib.hid ⟨HD2.out.1,HD2.out.2.1,HD2.out.2.2.1,Nat.le_refl _,HMM.out,HD2.out.2.2.2.1,HD2.out.2.2.2.2.1,HD2.out.2.2.2.2.2.1⟩,HBR5,HBE5,HRR5⟩
set_option maxHeartbeats 8000000 in
set_option maxRecDepth 100000 in
theorem in_flag (l : List S24) (A : Option Addr) (cp : Nat) (w : World) (x : Nd) (r : List S24) (p : Nat) (name t : Bs) (hC : Kd.C k24 w A l.length l) (hx : x.f0 = 2 ∨ x.f0 = 3) (h : l.drop p = x :: r) :
  Calls Tryd.prog 34 #[.string (str name),.slice A l.length cp,.int .i64 (p : Int)] w fun e w' => e = .returned (.string (str (leafIn x.f0 t))) ∧ Below w.heap.size w w':=by
 obtain ⟨q1,q2,q3⟩:=rd_here l p _ _ h
 obtain ⟨ad,rfl,k0,_⟩:=at_T24 hC (p : Int) (by omega) (by omega)
 rw [q1,Int.toNat_natCast] at k0
 have p1 : (0 ≤ (p : Int)) = True:=eq_true (by omega)
 have p2 : ((p : Int) < (l.length : Int)) = True:=eq_true (by omega)
 generalize hN : l.length = N at *
 generalize hd0 : x.f0 = d0 at *
 clear hd0 hN h q1 q2 q3 hC
 rcases hx with rfl|rfl
 all_goals
  go_enter Tryd.func34,Tryd.ntmps34
  go_wp2
  go_ret
  exact ⟨rfl,Below.refl _ _⟩
set_option maxHeartbeats 8000000 in
set_option maxRecDepth 100000 in
theorem in_text (l : List S24) (A : Option Addr) (cp : Nat) (w : World) (x : Nd) (r : List S24) (p : Nat) (name t : Bs) (hC : Kd.C k24 w A l.length l) (hGM : GlobMax w) (hx : x.f0 = 4 ∨ x.f0 = 5) (ht : x.f4 = str t) (htl : t.length ≤ 1000000) (h : l.drop p = x :: r) :
  Calls Tryd.prog 34 #[.string (str name),.slice A l.length cp,.int .i64 (p : Int)] w fun e w' => e = .returned (.string (str (t.flatMap esc))) ∧ Below w.heap.size w w':=by
 obtain ⟨q1,q2,q3⟩:=rd_here l p _ _ h
 obtain ⟨ad,rfl,k0,_,_,_,k4⟩:=at_T24 hC (p : Int) (by omega) (by omega)
 rw [q1,Int.toNat_natCast] at k0
 rw [q1,Int.toNat_natCast,ht] at k4
 have HS:=Lib.hid (response_safe.calls 5 (str t) (str (t.flatMap esc)) w hGM (safe_law t htl 5 (Nat.le_refl _)))
 have p1 : (0 ≤ (p : Int)) = True:=eq_true (by omega)
 have p2 : ((p : Int) < (l.length : Int)) = True:=eq_true (by omega)
 generalize hN : l.length = N at *
 generalize hd0 : x.f0 = d0 at *
 rename_i u1 u2 u3
 clear hd0 hN h q1 q2 q3 hC ht htl hGM u1 u2 u3
 rcases hx with rfl|rfl
 all_goals
  go_enter Tryd.func34,Tryd.ntmps34
  go_wp2_with (go_at_call 48;(with_reducible refine HS.out.mono ?_);rintro e w1 ⟨rfl,hb1⟩;have HB1:=Lib.hid hb1;clear hb1)
  go_ret
  exact ⟨rfl,HB1.out⟩
theorem in_step (l : List S24) (hlen : l.length ≤ 1000000) (kk : Nat) (hCk : jsontext_Check.f kk l = some 0) (hkk : l.length + 5 ≤ kk) (d M T : Nat) (hM : M ≤ 1000000) (hT : T ≤ 1000000) (hE : ElOk l d M T) : InOk l (d + 1) M T:=by
 intro A cp w u r p name hcp hC hGM hGU h1 hd h hf hn hc
 obtain ⟨x,ks,k,e1,e2,e3,e4⟩:=one_parts h1
 have h':=h
 rw [e1,List.cons_append] at h'
 rcases e4 with ⟨d0,t,rfl,rfl,hx,hx4⟩|⟨d0,rfl,hx⟩
 ·have hd1:=hf.2.2.1
  have hd5:=hf.2.2.2.1
  have ht:=hf.2.1
  show Calls Tryd.prog 34 _ w fun e w' => e = .returned (.string (str (leafIn d0 t))) ∧ Below w.heap.size w w'
  have hcase : d0 = 1 ∨ (d0 = 2 ∨ d0 = 3) ∨ (d0 = 4 ∨ d0 = 5):=by omega
  rcases hcase with h1'|h23|h45
  ·have:=in_kids l hlen kk hCk hkk d M T hM hE A cp w x .nil r p name hcp hC hGM hGU (.inl (by rw [hx];exact h1')) e2 (Nat.zero_le _) (by simpa [F.flat] using h') trivial hn (Nat.zero_le _)
   rw [hx,h1'] at this
   rw [h1']
   simpa [leafIn,mkup] using this
  ·have:=in_flag l A cp w x _ p name t hC (by rw [hx];exact h23) h'
   rwa [hx] at this
  ·have:=in_text l A cp w x _ p name t hC hGM (by rw [hx];exact h45) hx4 (by omega) h'
   have e : leafIn d0 t = t.flatMap esc:=by
    unfold leafIn
    rw [if_neg (by omega),if_neg (by omega),if_pos h45]
   rwa [e]
 ·have:=in_kids l hlen kk hCk hkk d M T hM hE A cp w x ks r p name hcp hC hGM hGU (.inr (by rw [hx];exact hf.2.1)) e2 (by simp only [dep] at hd;omega) h' hf.2.2.1 hn (by simp only [cost] at hc;omega)
  rw [hx] at this
  exact this
theorem el_all (l : List S24) (hlen : l.length ≤ 1000000) (kk : Nat) (hCk : jsontext_Check.f kk l = some 0) (hkk : l.length + 5 ≤ kk) (M T : Nat) (hM : M ≤ 1000000) (hT : T ≤ 1000000) : ∀ d : Nat,InOk l d M T ∧ ElOk l d M T
 | 0 => by
  have hI : InOk l 0 M T:=by
   intro A cp w u r p name hcp hC hGM hGU h1 hd h hf hn hc
   cases u with
   | nil => simp [F.count] at h1
   | leaf => simp only [dep] at hd;omega
   | node => simp only [dep] at hd;omega
  exact ⟨hI,elem_step l hlen 0 M T hM hI⟩
 | d + 1 => by
  have hI:=in_step l hlen kk hCk hkk d M T hM hT (el_all l hlen kk hCk hkk M T hM hT d).2
  exact ⟨hI,elem_step l hlen (d + 1) M T hM hI⟩
end Go.Proofs.YtjehflambbjoaaaDoor.Pure
namespace Go.Proofs.YtjehflambbjoaaaDoor.Pure
open Go.Proofs.YtjehflambbjoaaaDoor.X Go.RowKit Go.Proofs.YtjehflambbjoaaaDoorW.PrintWords Go.Proofs.YtjehflambbjoaaaDoorW.PrintMore
set_option linter.unusedVariables false
set_option linter.unusedSimpArgs false
theorem fine_of (M T : Nat) : ∀ u : F,u.kinds = true → (∀ x ∈ u.flat,x.f3.size ≤ M ∧ x.f4.size ≤ T) → fine M T u
 | .nil,_,_ => trivial
 | .leaf k d t r,h,hx => by
  simp only [F.kinds,Bool.and_eq_true,decide_eq_true_eq] at h
  have h0:=hx _ (by simp only [F.flat];exact List.mem_cons_self)
  simp only [msize] at h0
  exact ⟨h0.1,h0.2,h.1.1,h.1.2,fine_of M T r h.2 (fun x hm => hx x (by simp only [F.flat];exact List.mem_cons_of_mem _ hm))⟩
 | .node k d ks r,h,hx => by
  simp only [F.kinds,Bool.and_eq_true,Bool.or_eq_true,beq_iff_eq] at h
  have h0:=hx _ (by simp only [F.flat];exact List.mem_cons_self)
  simp only [msize] at h0
  exact ⟨h0.1,h.1.1,fine_of M T ks h.1.2 (fun x hm => hx x (by simp only [F.flat];exact List.mem_cons_of_mem _ (List.mem_append_left _ hm))),fine_of M T r h.2 (fun x hm => hx x (by simp only [F.flat];exact List.mem_cons_of_mem _ (List.mem_append_right _ hm)))⟩
theorem cost_le (M T C : Nat) (hC : 2 * M + 10 + 6 * T ≤ C) : ∀ u : F,fine M T u → cost M u ≤ u.flat.length * C
 | .nil,_ => Nat.zero_le _
 | .leaf k d t r,h => by
  have h1:=cost_le M T C hC r h.2.2.2.2
  have h2:=h.2.1
  have e : (r.flat.length + 1) * C = r.flat.length * C + C:=Nat.succ_mul _ _
  simp only [cost,F.flat,List.length_cons]
  rw [e]
  omega
 | .node k d ks r,h => by
  have h1:=cost_le M T C hC r h.2.2.2
  have h2:=cost_le M T C hC ks h.2.2.1
  have e : (ks.flat.length + r.flat.length + 1) * C = ks.flat.length * C + r.flat.length * C + C:=by rw [Nat.succ_mul,Nat.add_mul]
  simp only [cost,F.flat,List.length_cons,List.length_append]
  rw [e]
  omega
theorem dep_le : ∀ u : F,dep u ≤ u.flat.length
 | .nil => Nat.le_refl _
 | .leaf k d t r => by have:=dep_le r;simp only [dep,F.flat,List.length_cons];omega
 | .node k d ks r => by have h1:=dep_le r;have h2:=dep_le ks;simp only [dep,F.flat,List.length_cons,List.length_append];omega
def markOk (name : ByteArray) (l : List S24) : Prop:=l.length ≤ 70 ∧ name.size ≤ 1000 ∧ (∀ x ∈ l,x.f3.size ≤ 1000 ∧ x.f4.size ≤ 100000) ∧ fit l = true
instance (name : ByteArray) (l : List S24) : Decidable (markOk name l):=by unfold markOk;infer_instance
theorem mark_parts {name : ByteArray} {l : List S24} {u : F} (h : markOk name l) (ht : tree? l = some u) : u.count = 1 ∧ dep u ≤ 70 ∧ l.drop 0 = u.flat ++ [] ∧ fine 1000 100000 u ∧ name.data.toList.length ≤ 1000 ∧ cost 1000 u ≤ 100000000 ∧ l.length ≤ 1000000:=by
 obtain ⟨h1,h2,h3,h4⟩:=h
 obtain ⟨e1,e2,e3⟩:=tree_flat ht
 have hd:=dep_le u
 have hf:=fine_of 1000 100000 u e3 (by rw [← e1];exact h3)
 have hc:=cost_le 1000 100000 602010 (by omega) u hf
 have hl:=congrArg List.length e1
 refine ⟨F.one_count e2,by omega,by simpa using e1,hf,by simpa using h2,?_,by omega⟩
 have : u.flat.length * 602010 ≤ 70 * 602010:=Nat.mul_le_mul_right _ (by omega)
 omega
end Go.Proofs.YtjehflambbjoaaaDoor.Pure
namespace Go.Proofs.YtjehflambbjoaaaDoor.X
open Go.RowKit Go.Proofs.YtjehflambbjoaaaDoor.Pure Go.Proofs.YtjehflambbjoaaaDoorW.PrintWords Go.Proofs.YtjehflambbjoaaaDoorW.PrintMore
set_option linter.unusedVariables false
set_option linter.unusedSimpArgs false
def response_element.f (k : Nat) (a0 : ByteArray) (l1 : List S24) (a2 : Int) : Option ByteArray:=if a2 = 0 ∧ markOk a0 l1 then (tree? l1).map (fun u => str (mkup (some a0.data.toList) u)) else none
theorem response_element.calls (k : Nat) (a0 : ByteArray) (A1 : Option Addr) (c1 : Nat) (l1 : List (S24)) (a2 : Int) (r : ByteArray) (w : World) (hGMax : GlobMax w) (hGU8 : GlobU8 w) (hr1 : Kd.C k24 w A1 l1.length l1) (hc1 : l1.length ≤ c1) (h : response_element.f k a0 l1 a2 = some r) :
  Calls Tryd.prog 17 #[.string a0,.slice A1 l1.length c1,.int .i64 a2] w fun e w' => e = .returned (.string r) ∧ Below w.heap.size w w':=by
 unfold response_element.f at h
 split at h
 ·rename_i hok
  obtain ⟨rfl,hm⟩:=hok
  obtain ⟨u,hu,rfl⟩:=Option.map_eq_some_iff.1 h
  obtain ⟨p1,p2,p3,p4,p5,p6,p7⟩:=mark_parts hm hu
  have hC:=Check_law l1 hm.2.2.2 1000 (by have:=hm.1;omega)
  rw [hu] at hC
  have:=(el_all l1 p7 1000 hC (by have:=hm.1;omega) 1000 100000 (by omega) (by omega) 70).2 A1 c1 w u [] 0 a0.data.toList hc1 hr1 hGMax hGU8 p1 p2 p3 p4 p5 p6
  rwa [str_back] at this
 ·cases h
end Go.Proofs.YtjehflambbjoaaaDoor.X
namespace Go.Proofs.YtjehflambbjoaaaDoor.X
open Go.RowKit Go.Proofs.YtjehflambbjoaaaDoorW.PrintWords Go.Proofs.YtjehflambbjoaaaDoorW.PrintLast Go.Proofs.YtjehflambbjoaaaDoorW.PrintMore
attribute [local go_sem] max2_int min2_int max_two min_two max_three min_three max_four min_four
set_option linter.unusedVariables false
set_option linter.unusedSimpArgs false
def response_Markup.f (k : Nat) (a0 : ByteArray) (l1 : List (S24)) : Option (ByteArray):=(jsontext_Check.f k l1).bind fun t121 => (if t121 = 0 then ((response_element.f k a0 l1 0).bind fun t122 => (some t122)) else (some (⟨#[]⟩ : ByteArray)))
set_option maxHeartbeats 8000000 in
set_option maxRecDepth 100000 in
theorem response_Markup.calls (k : Nat) (a0 : ByteArray) (A1 : Option Addr) (c1 : Nat) (l1 : List (S24)) (r : ByteArray) (w : World) (hGMax : GlobMax w) (hGU8 : GlobU8 w) (hr1 : Kd.C k24 w A1 l1.length l1) (hc1 : l1.length ≤ c1) (h : response_Markup.f k a0 l1 = some r) :
  Calls Tryd.prog 5 #[.string a0,.slice A1 l1.length c1] w fun e w' => e = .returned (.string r) ∧ Below w.heap.size w w':=by
 have HGMax:=Aside0.mk hGMax
 clear hGMax
 have HGU8:=Aside0.mk hGU8
 clear hGU8
 have HR1:=Aside0.mk hr1
 have HC1:=Aside0.mk hc1
 clear hr1 hc1
 have HB:=Aside0.mk (Below.refl w.heap.size w)
 have H : ((jsontext_Check.f k l1).bind fun t121 => (if t121 = 0 then ((response_element.f k a0 l1 0).bind fun t122 => (some t122)) else (some (⟨#[]⟩ : ByteArray)))) = some r:=h
 clear h
 replace H:=Option.bind_eq_some_iff.mp H
 obtain ⟨t121,A30,H⟩:=H
 replace H : (if t121 = 0 then ((response_element.f k a0 l1 0).bind fun t122 => (some t122)) else (some (⟨#[]⟩ : ByteArray))) = some r:=H
 have A3:=Aside0.mk A30
 clear A30
 by_cases c4 : t121 = 0
 ·rw [if_pos c4] at H
  have c4b0 : (t121 == 0) = true:=beq_iff_eq.mpr c4
  have c4b1 : (t121 != 0) = false:=bne_eq_false_iff_eq.mpr c4
  clear c4
  replace H:=Option.bind_eq_some_iff.mp H
  obtain ⟨t122,A50,H⟩:=H
  replace H : (some t122) = some r:=H
  have A5:=Aside0.mk A50
  clear A50
  obtain rfl:=Option.some.inj H
  go_enter Tryd.func5,Tryd.ntmps5
  go_wp2_with (first|((with_reducible refine gate_callee (f:=16) rfl ?_);refine goesL_ (some 6) rfl rfl Tryd.func16 (by kernel_rfl) rfl #[.slice A1 l1.length c1] rfl (by (try simp only [List.map_toArray,List.map_cons,List.map_nil]);first|done|rfl|(simp only [List.length_drop,List.length_take];rfl)) ?_;(with_reducible refine (jsontext_Check.calls k _ _ l1 t121 _ ?side3 ?side1 ?side2 A3.out).mono ?_);(case side1 => repeat (first|exact HR1.out|(with_reducible refine Kd.C_alloc ?_ _)|(with_reducible refine Kd.C_drewN ?_ _)|(with_reducible refine Kd.C_drew ?_)));(case side2 => exact HC1.out);(case side3 => first|exact HGU8.out|exact GlobU8.below HGU8.out (by repeat (first|(with_reducible first|exact HB.out|apply below_alloc|apply pw_below_drewN|apply below_drew1)|exact HB.out))|exact GlobU8.drawn HGU8.out (by repeat (first|exact Drawn0.refl _|apply Drawn0.step)));rintro e w6 ⟨rfl,hb⟩;refine ⟨_,rfl,?_⟩;have n0_:=Aside0.mk (below_step (by repeat (first|(with_reducible first|exact HB.out|apply below_alloc|apply pw_below_drewN|apply below_drew1)|exact HB.out)) hb);clear HB;have HB:=n0_;clear n0_;(try clear hb);(try clear hb2);(try clear hk);(try clear hi))|((with_reducible refine gate_callee (f:=17) rfl ?_);refine goesL_ (some 10) rfl rfl Tryd.func17 (by kernel_rfl) rfl #[.string a0,.slice A1 l1.length c1,.int .i64 0] rfl (by (try simp only [List.map_toArray,List.map_cons,List.map_nil]);first|done|rfl|(simp only [List.length_drop,List.length_take];rfl)) ?_;(with_reducible refine (response_element.calls k a0 _ _ l1 0 t122 _ ?side3 ?side4 ?side1 ?side2 A5.out).mono ?_);(case side1 => repeat (first|exact (Kd.C_below HR1.out HB.out)|(with_reducible refine Kd.C_alloc ?_ _)|(with_reducible refine Kd.C_drewN ?_ _)|(with_reducible refine Kd.C_drew ?_)));(case side2 => exact HC1.out);(case side3 => first|exact HGMax.out|exact GlobMax.below HGMax.out (by repeat (first|(with_reducible first|exact HB.out|apply below_alloc|apply pw_below_drewN|apply below_drew1)|exact HB.out))|exact GlobMax.drawn HGMax.out (by repeat (first|exact Drawn0.refl _|apply Drawn0.step)));(case side4 => first|exact HGU8.out|exact GlobU8.below HGU8.out (by repeat (first|(with_reducible first|exact HB.out|apply below_alloc|apply pw_below_drewN|apply below_drew1)|exact HB.out))|exact GlobU8.drawn HGU8.out (by repeat (first|exact Drawn0.refl _|apply Drawn0.step)));rintro e w7 ⟨rfl,hb⟩;refine ⟨_,rfl,?_⟩;have n0_:=Aside0.mk (below_step (by repeat (first|(with_reducible first|exact HB.out|apply below_alloc|apply pw_below_drewN|apply below_drew1)|exact HB.out)) hb);clear HB;have HB:=n0_;clear n0_;(try clear hb);(try clear hb2);(try clear hk);(try clear hi)))
  go_ret
  exact ⟨by first|rfl|(simp [errW_none,errW_some] <;> rfl)|(simp [*,errW_none,errW_some] <;> rfl),by repeat (first|(with_reducible first|exact HB.out|apply below_alloc|apply pw_below_drewN|apply below_drew1)|exact HB.out)⟩
 ·rw [if_neg c4] at H
  have c4b0 : (t121 == 0) = false:=beq_eq_false_iff_ne.mpr c4
  have c4b1 : (t121 != 0) = true:=bne_iff_ne.mpr c4
  obtain rfl:=Option.some.inj H
  go_enter Tryd.func5,Tryd.ntmps5
  go_wp2_with (first|((with_reducible refine gate_callee (f:=16) rfl ?_);refine goesL_ (some 6) rfl rfl Tryd.func16 (by kernel_rfl) rfl #[.slice A1 l1.length c1] rfl (by (try simp only [List.map_toArray,List.map_cons,List.map_nil]);first|done|rfl|(simp only [List.length_drop,List.length_take];rfl)) ?_;(with_reducible refine (jsontext_Check.calls k _ _ l1 t121 _ ?side3 ?side1 ?side2 A3.out).mono ?_);(case side1 => repeat (first|exact HR1.out|(with_reducible refine Kd.C_alloc ?_ _)|(with_reducible refine Kd.C_drewN ?_ _)|(with_reducible refine Kd.C_drew ?_)));(case side2 => exact HC1.out);(case side3 => first|exact HGU8.out|exact GlobU8.below HGU8.out (by repeat (first|(with_reducible first|exact HB.out|apply below_alloc|apply pw_below_drewN|apply below_drew1)|exact HB.out))|exact GlobU8.drawn HGU8.out (by repeat (first|exact Drawn0.refl _|apply Drawn0.step)));rintro e w8 ⟨rfl,hb⟩;refine ⟨_,rfl,?_⟩;have n0_:=Aside0.mk (below_step (by repeat (first|(with_reducible first|exact HB.out|apply below_alloc|apply pw_below_drewN|apply below_drew1)|exact HB.out)) hb);clear HB;have HB:=n0_;clear n0_;(try clear hb);(try clear hb2);(try clear hk);(try clear hi)))
  go_ret
  exact ⟨by first|rfl|(simp [errW_none,errW_some] <;> rfl)|(simp [*,errW_none,errW_some] <;> rfl),by repeat (first|(with_reducible first|exact HB.out|apply below_alloc|apply pw_below_drewN|apply below_drew1)|exact HB.out)⟩
end Go.Proofs.YtjehflambbjoaaaDoor.X
namespace Go.Proofs.YtjehflambbjoaaaDoor.X
open Go.RowKit Go.Proofs.YtjehflambbjoaaaDoorW.PrintWords Go.Proofs.YtjehflambbjoaaaDoorW.PrintLast Go.Proofs.YtjehflambbjoaaaDoorW.PrintMore
attribute [local go_sem] max2_int min2_int max_two min_two max_three min_three max_four min_four
set_option linter.unusedVariables false
set_option linter.unusedSimpArgs false
def racewayref29_Markup.f (k : Nat) (a0 : ByteArray) (l1 : List (S24)) : Option (ByteArray):=(racewayref25_Check.f k l1).bind fun t172 => (if t172 = 0 then ((racewayref29_element.f k a0 l1 0).bind fun t173 => (some t173)) else (some (⟨#[]⟩ : ByteArray)))
set_option maxHeartbeats 8000000 in
set_option maxRecDepth 100000 in
theorem racewayref29_Markup.calls (k : Nat) (a0 : ByteArray) (A1 : Option Addr) (c1 : Nat) (l1 : List (S24)) (r : ByteArray) (w : World) (hr1 : Kd.C k24 w A1 l1.length l1) (hc1 : l1.length ≤ c1) (h : racewayref29_Markup.f k a0 l1 = some r) :
  Calls Tryd.prog 6 #[.string a0,.slice A1 l1.length c1] w fun e w' => e = .returned (.string r) ∧ Below w.heap.size w w':=by
 have HR1:=Aside0.mk hr1
 have HC1:=Aside0.mk hc1
 clear hr1 hc1
 have HB:=Aside0.mk (Below.refl w.heap.size w)
 have H : ((racewayref25_Check.f k l1).bind fun t172 => (if t172 = 0 then ((racewayref29_element.f k a0 l1 0).bind fun t173 => (some t173)) else (some (⟨#[]⟩ : ByteArray)))) = some r:=h
 clear h
 replace H:=Option.bind_eq_some_iff.mp H
 obtain ⟨t172,A30,H⟩:=H
 replace H : (if t172 = 0 then ((racewayref29_element.f k a0 l1 0).bind fun t173 => (some t173)) else (some (⟨#[]⟩ : ByteArray))) = some r:=H
 have A3:=Aside0.mk A30
 clear A30
 by_cases c4 : t172 = 0
 ·rw [if_pos c4] at H
  have c4b0 : (t172 == 0) = true:=beq_iff_eq.mpr c4
  have c4b1 : (t172 != 0) = false:=bne_eq_false_iff_eq.mpr c4
  clear c4
  replace H:=Option.bind_eq_some_iff.mp H
  obtain ⟨t173,A50,H⟩:=H
  replace H : (some t173) = some r:=H
  have A5:=Aside0.mk A50
  clear A50
  obtain rfl:=Option.some.inj H
  go_enter Tryd.func6,Tryd.ntmps6
  go_wp2_with (first|((with_reducible refine gate_callee (f:=18) rfl ?_);refine goesL_ (some 6) rfl rfl Tryd.func18 (by kernel_rfl) rfl #[.slice A1 l1.length c1] rfl (by (try simp only [List.map_toArray,List.map_cons,List.map_nil]);first|done|rfl|(simp only [List.length_drop,List.length_take];rfl)) ?_;(with_reducible refine (racewayref25_Check.calls k _ _ l1 t172 _ ?side1 ?side2 A3.out).mono ?_);(case side1 => repeat (first|exact HR1.out|(with_reducible refine Kd.C_alloc ?_ _)|(with_reducible refine Kd.C_drewN ?_ _)|(with_reducible refine Kd.C_drew ?_)));(case side2 => exact HC1.out);rintro e w6 ⟨rfl,hb⟩;refine ⟨_,rfl,?_⟩;have n0_:=Aside0.mk (below_step (by repeat (first|(with_reducible first|exact HB.out|apply below_alloc|apply pw_below_drewN|apply below_drew1)|exact HB.out)) hb);clear HB;have HB:=n0_;clear n0_;(try clear hb);(try clear hb2);(try clear hk);(try clear hi))|((with_reducible refine gate_callee (f:=19) rfl ?_);refine goesL_ (some 10) rfl rfl Tryd.func19 (by kernel_rfl) rfl #[.string a0,.slice A1 l1.length c1,.int .i64 0] rfl (by (try simp only [List.map_toArray,List.map_cons,List.map_nil]);first|done|rfl|(simp only [List.length_drop,List.length_take];rfl)) ?_;(with_reducible refine (racewayref29_element.calls k a0 _ _ l1 0 t173 _ ?side1 ?side2 A5.out).mono ?_);(case side1 => repeat (first|exact (Kd.C_below HR1.out HB.out)|(with_reducible refine Kd.C_alloc ?_ _)|(with_reducible refine Kd.C_drewN ?_ _)|(with_reducible refine Kd.C_drew ?_)));(case side2 => exact HC1.out);rintro e w7 ⟨rfl,hb⟩;refine ⟨_,rfl,?_⟩;have n0_:=Aside0.mk (below_step (by repeat (first|(with_reducible first|exact HB.out|apply below_alloc|apply pw_below_drewN|apply below_drew1)|exact HB.out)) hb);clear HB;have HB:=n0_;clear n0_;(try clear hb);(try clear hb2);(try clear hk);(try clear hi)))
  go_ret
  exact ⟨by first|rfl|(simp [errW_none,errW_some] <;> rfl)|(simp [*,errW_none,errW_some] <;> rfl),by repeat (first|(with_reducible first|exact HB.out|apply below_alloc|apply pw_below_drewN|apply below_drew1)|exact HB.out)⟩
 ·rw [if_neg c4] at H
  have c4b0 : (t172 == 0) = false:=beq_eq_false_iff_ne.mpr c4
  have c4b1 : (t172 != 0) = true:=bne_iff_ne.mpr c4
  obtain rfl:=Option.some.inj H
  go_enter Tryd.func6,Tryd.ntmps6
  go_wp2_with (first|((with_reducible refine gate_callee (f:=18) rfl ?_);refine goesL_ (some 6) rfl rfl Tryd.func18 (by kernel_rfl) rfl #[.slice A1 l1.length c1] rfl (by (try simp only [List.map_toArray,List.map_cons,List.map_nil]);first|done|rfl|(simp only [List.length_drop,List.length_take];rfl)) ?_;(with_reducible refine (racewayref25_Check.calls k _ _ l1 t172 _ ?side1 ?side2 A3.out).mono ?_);(case side1 => repeat (first|exact HR1.out|(with_reducible refine Kd.C_alloc ?_ _)|(with_reducible refine Kd.C_drewN ?_ _)|(with_reducible refine Kd.C_drew ?_)));(case side2 => exact HC1.out);rintro e w8 ⟨rfl,hb⟩;refine ⟨_,rfl,?_⟩;have n0_:=Aside0.mk (below_step (by repeat (first|(with_reducible first|exact HB.out|apply below_alloc|apply pw_below_drewN|apply below_drew1)|exact HB.out)) hb);clear HB;have HB:=n0_;clear n0_;(try clear hb);(try clear hb2);(try clear hk);(try clear hi)))
  go_ret
  exact ⟨by first|rfl|(simp [errW_none,errW_some] <;> rfl)|(simp [*,errW_none,errW_some] <;> rfl),by repeat (first|(with_reducible first|exact HB.out|apply below_alloc|apply pw_below_drewN|apply below_drew1)|exact HB.out)⟩
end Go.Proofs.YtjehflambbjoaaaDoor.X
