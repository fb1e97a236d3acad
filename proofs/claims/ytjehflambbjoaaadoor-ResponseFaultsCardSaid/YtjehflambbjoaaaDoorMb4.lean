/-
  What the claim's law rests on, part 4 of 7: printed walks, externals, plain lemmas; conditions: none of its own.
-/
import Derived.Deep.RegionHeld3
import Derived.Lib.TrimUEq
import Derived.Lib.ValidLaws
import Derived.StillTailTactics
import Derived.Test.YtjehflambbjoaaaDoorMb3
set_option linter.unusedVariables false
set_option linter.unusedSimpArgs false
namespace Go.Proofs.YtjehflambbjoaaaDoor.X
open Go.RowKit Go.Proofs.YtjehflambbjoaaaDoorW.PrintWords Go.Proofs.YtjehflambbjoaaaDoorW.PrintLast Go.Proofs.YtjehflambbjoaaaDoorW.PrintMore
attribute [local go_sem] max2_int min2_int max_two min_two max_three min_three max_four min_four
mutual
def racewayref25_may.j0:Nat→List (S24)→Int→Int→Int→Bool→Int→Int→Int→ByteArray→ByteArray→Option (Int)
 | 0,_,_,_,_,_,_,_,_,_,_=>none
 | k+1,x0,x1,x2,x4,x65,x158000,x158001,x158002,x158003,x158004=>if x65=true then(some (-1)) else(if x158000=4 then(if(x158004.size:Int) > 65536 then(some (-1)) else((racewayref25_number.f k x158004 0).bind fun bt162=>(if bt162.2.1=0 then(if bt162.1=(x158004.size:Int) then(racewayref25_may.j1 k x0 x1 x2 x4 x158000 x158001 x158002 x158003 x158004) else(some (-1))) else(some (-1))))) else(racewayref25_may.j1 k x0 x1 x2 x4 x158000 x158001 x158002 x158003 x158004))
def racewayref25_may.j1:Nat→List (S24)→Int→Int→Int→Int→Int→Int→ByteArray→ByteArray→Option (Int)
 | 0,_,_,_,_,_,_,_,_,_=>none
 | k+1,x0,x1,x2,x4,x158000,x158001,x158002,x158003,x158004=>if x158000=5 then((racewayref25_Valid.f k x158004).bind fun t169=>(if t169=true then(if x158000=4 then(racewayref25_may.j2 k x0 x1 x2 x4 false x158000 x158001 x158002 x158003 x158004) else(racewayref25_may.j2 k x0 x1 x2 x4 false x158000 x158001 x158002 x158003 x158004)) else(racewayref25_may.j2 k x0 x1 x2 x4 true x158000 x158001 x158002 x158003 x158004))) else(if x158000=4 then(racewayref25_may.j2 k x0 x1 x2 x4 false x158000 x158001 x158002 x158003 x158004) else(racewayref25_may.j2 k x0 x1 x2 x4 (x158004.toList != ([]:List UInt8)) x158000 x158001 x158002 x158003 x158004))
def racewayref25_may.j2:Nat→List (S24)→Int→Int→Int→Bool→Int→Int→Int→ByteArray→ByteArray→Option (Int)
 | 0,_,_,_,_,_,_,_,_,_,_=>none
 | k+1,x0,x1,x2,x4,x110,x158000,x158001,x158002,x158003,x158004=>if x110=true then(some (-1)) else(racewayref25_may.l0 k x0 x1 x2 x4 (wrap64 (x1+1)) 0 x158000 x158001 x158002 x158003 x158004)
def racewayref25_may.l0:Nat→List (S24)→Int→Int→Int→Int→Int→Int→Int→Int→ByteArray→ByteArray→Option (Int)
 | 0,_,_,_,_,_,_,_,_,_,_,_=>none
 | k+1,x0,x1,x2,x4,x13,x14,x158000,x158001,x158002,x158003,x158004=>if x14<x158002 then(if x13≥x2 then(some (-1)) else((racewayref25_may.f k x0 x13 x2 (x158000==7) (wrap64 (x4+1))).bind fun t170=>(if t170<0 then(some (-1)) else(racewayref25_may.l0 k x0 x1 x2 x4 t170 (wrap64 (x14+1)) x158000 x158001 x158002 x158003 x158004)))) else(if x158001=(wrap64 (x13 - x1)) then(some x13) else(some (-1)))
def racewayref25_may.f:Nat→List (S24)→Int→Int→Bool→Int→Option (Int)
 | 0,_,_,_,_,_=>none
 | k+1,l0,a1,a2,a3,a4=>if 0≤a1 then(if a1<(l0.length:Int) then(if a1≥a2 then(racewayref25_may.j0 k l0 a1 a2 a4 true ((rd_T24 l0 a1).f0) ((rd_T24 l0 a1).f1) ((rd_T24 l0 a1).f2) ((rd_T24 l0 a1).f3) ((rd_T24 l0 a1).f4)) else(if((rd_T24 l0 a1).f0)<1 then(racewayref25_may.j0 k l0 a1 a2 a4 true ((rd_T24 l0 a1).f0) ((rd_T24 l0 a1).f1) ((rd_T24 l0 a1).f2) ((rd_T24 l0 a1).f3) ((rd_T24 l0 a1).f4)) else(if((rd_T24 l0 a1).f0) > 7 then(racewayref25_may.j0 k l0 a1 a2 a4 true ((rd_T24 l0 a1).f0) ((rd_T24 l0 a1).f1) ((rd_T24 l0 a1).f2) ((rd_T24 l0 a1).f3) ((rd_T24 l0 a1).f4)) else(if((rd_T24 l0 a1).f2)<0 then(racewayref25_may.j0 k l0 a1 a2 a4 true ((rd_T24 l0 a1).f0) ((rd_T24 l0 a1).f1) ((rd_T24 l0 a1).f2) ((rd_T24 l0 a1).f3) ((rd_T24 l0 a1).f4)) else(if a4≥32 then(racewayref25_may.j0 k l0 a1 a2 a4 true ((rd_T24 l0 a1).f0) ((rd_T24 l0 a1).f1) ((rd_T24 l0 a1).f2) ((rd_T24 l0 a1).f3) ((rd_T24 l0 a1).f4)) else(if((rd_T24 l0 a1).f2) > 0 then(if((rd_T24 l0 a1).f0)<6 then(racewayref25_may.j0 k l0 a1 a2 a4 true ((rd_T24 l0 a1).f0) ((rd_T24 l0 a1).f1) ((rd_T24 l0 a1).f2) ((rd_T24 l0 a1).f3) ((rd_T24 l0 a1).f4)) else(if((rd_T24 l0 a1).f3).toList=([]:List UInt8) then((racewayref25_Valid.f k ((rd_T24 l0 a1).f3)).bind fun t158=>(racewayref25_may.j0 k l0 a1 a2 a4 (!t158) ((rd_T24 l0 a1).f0) ((rd_T24 l0 a1).f1) ((rd_T24 l0 a1).f2) ((rd_T24 l0 a1).f3) ((rd_T24 l0 a1).f4))) else(if a3=true then((racewayref25_Valid.f k ((rd_T24 l0 a1).f3)).bind fun t159=>(racewayref25_may.j0 k l0 a1 a2 a4 (!t159) ((rd_T24 l0 a1).f0) ((rd_T24 l0 a1).f1) ((rd_T24 l0 a1).f2) ((rd_T24 l0 a1).f3) ((rd_T24 l0 a1).f4))) else(racewayref25_may.j0 k l0 a1 a2 a4 true ((rd_T24 l0 a1).f0) ((rd_T24 l0 a1).f1) ((rd_T24 l0 a1).f2) ((rd_T24 l0 a1).f3) ((rd_T24 l0 a1).f4))))) else(if((rd_T24 l0 a1).f3).toList=([]:List UInt8) then((racewayref25_Valid.f k ((rd_T24 l0 a1).f3)).bind fun t160=>(racewayref25_may.j0 k l0 a1 a2 a4 (!t160) ((rd_T24 l0 a1).f0) ((rd_T24 l0 a1).f1) ((rd_T24 l0 a1).f2) ((rd_T24 l0 a1).f3) ((rd_T24 l0 a1).f4))) else(if a3=true then((racewayref25_Valid.f k ((rd_T24 l0 a1).f3)).bind fun t161=>(racewayref25_may.j0 k l0 a1 a2 a4 (!t161) ((rd_T24 l0 a1).f0) ((rd_T24 l0 a1).f1) ((rd_T24 l0 a1).f2) ((rd_T24 l0 a1).f3) ((rd_T24 l0 a1).f4))) else(racewayref25_may.j0 k l0 a1 a2 a4 true ((rd_T24 l0 a1).f0) ((rd_T24 l0 a1).f1) ((rd_T24 l0 a1).f2) ((rd_T24 l0 a1).f3) ((rd_T24 l0 a1).f4)))))))))) else(none)) else(none)
end
set_option maxHeartbeats 8000000 in
set_option maxRecDepth 100000 in
theorem racewayref25_may.calls (k:Nat):∀(A0:Option Addr) (c0:Nat) (l0:List (S24)) (a1:Int) (a2:Int) (a3:Bool) (a4:Int) (r:Int) (w:World) (hr0:Kd.C k24 w A0 l0.length l0) (hc0:l0.length≤c0) (h:racewayref25_may.f k l0 a1 a2 a3 a4=some r),
  Calls Tryd.prog 35 #[.slice A0 l0.length c0,.int .i64 a1,.int .i64 a2,.bool a3,.int .i64 a4] w fun e w'=>e=.returned (.int .i64 r)∧Below w.heap.size w w':=by
 induction k using Nat.strongRecOn with
 | _ k ih =>
 intro A0 c0 l0 a1 a2 a3 a4 r w hr0 hc0 h
 cases k with
 | zero=>exact absurd h (by simp [racewayref25_may.f])
 | succ k =>
 simp only [racewayref25_may.f] at h
 have hu24:=Tryd.underlying24
 have hu92:=Tryd.underlying92
 have HR0:=Aside0.mk hr0
 have HC0:=Aside0.mk hc0
 clear hr0 hc0
 have HB:=Aside0.mk (Below.refl w.heap.size w)
 have H:(if 0≤a1 then(if a1<(l0.length:Int) then(if a1≥a2 then(racewayref25_may.j0 k l0 a1 a2 a4 true ((rd_T24 l0 a1).f0) ((rd_T24 l0 a1).f1) ((rd_T24 l0 a1).f2) ((rd_T24 l0 a1).f3) ((rd_T24 l0 a1).f4)) else(if((rd_T24 l0 a1).f0)<1 then(racewayref25_may.j0 k l0 a1 a2 a4 true ((rd_T24 l0 a1).f0) ((rd_T24 l0 a1).f1) ((rd_T24 l0 a1).f2) ((rd_T24 l0 a1).f3) ((rd_T24 l0 a1).f4)) else(if((rd_T24 l0 a1).f0) > 7 then(racewayref25_may.j0 k l0 a1 a2 a4 true ((rd_T24 l0 a1).f0) ((rd_T24 l0 a1).f1) ((rd_T24 l0 a1).f2) ((rd_T24 l0 a1).f3) ((rd_T24 l0 a1).f4)) else(if((rd_T24 l0 a1).f2)<0 then(racewayref25_may.j0 k l0 a1 a2 a4 true ((rd_T24 l0 a1).f0) ((rd_T24 l0 a1).f1) ((rd_T24 l0 a1).f2) ((rd_T24 l0 a1).f3) ((rd_T24 l0 a1).f4)) else(if a4≥32 then(racewayref25_may.j0 k l0 a1 a2 a4 true ((rd_T24 l0 a1).f0) ((rd_T24 l0 a1).f1) ((rd_T24 l0 a1).f2) ((rd_T24 l0 a1).f3) ((rd_T24 l0 a1).f4)) else(if((rd_T24 l0 a1).f2) > 0 then(if((rd_T24 l0 a1).f0)<6 then(racewayref25_may.j0 k l0 a1 a2 a4 true ((rd_T24 l0 a1).f0) ((rd_T24 l0 a1).f1) ((rd_T24 l0 a1).f2) ((rd_T24 l0 a1).f3) ((rd_T24 l0 a1).f4)) else(if((rd_T24 l0 a1).f3).toList=([]:List UInt8) then((racewayref25_Valid.f k ((rd_T24 l0 a1).f3)).bind fun t158=>(racewayref25_may.j0 k l0 a1 a2 a4 (!t158) ((rd_T24 l0 a1).f0) ((rd_T24 l0 a1).f1) ((rd_T24 l0 a1).f2) ((rd_T24 l0 a1).f3) ((rd_T24 l0 a1).f4))) else(if a3=true then((racewayref25_Valid.f k ((rd_T24 l0 a1).f3)).bind fun t159=>(racewayref25_may.j0 k l0 a1 a2 a4 (!t159) ((rd_T24 l0 a1).f0) ((rd_T24 l0 a1).f1) ((rd_T24 l0 a1).f2) ((rd_T24 l0 a1).f3) ((rd_T24 l0 a1).f4))) else(racewayref25_may.j0 k l0 a1 a2 a4 true ((rd_T24 l0 a1).f0) ((rd_T24 l0 a1).f1) ((rd_T24 l0 a1).f2) ((rd_T24 l0 a1).f3) ((rd_T24 l0 a1).f4))))) else(if((rd_T24 l0 a1).f3).toList=([]:List UInt8) then((racewayref25_Valid.f k ((rd_T24 l0 a1).f3)).bind fun t160=>(racewayref25_may.j0 k l0 a1 a2 a4 (!t160) ((rd_T24 l0 a1).f0) ((rd_T24 l0 a1).f1) ((rd_T24 l0 a1).f2) ((rd_T24 l0 a1).f3) ((rd_T24 l0 a1).f4))) else(if a3=true then((racewayref25_Valid.f k ((rd_T24 l0 a1).f3)).bind fun t161=>(racewayref25_may.j0 k l0 a1 a2 a4 (!t161) ((rd_T24 l0 a1).f0) ((rd_T24 l0 a1).f1) ((rd_T24 l0 a1).f2) ((rd_T24 l0 a1).f3) ((rd_T24 l0 a1).f4))) else(racewayref25_may.j0 k l0 a1 a2 a4 true ((rd_T24 l0 a1).f0) ((rd_T24 l0 a1).f1) ((rd_T24 l0 a1).f2) ((rd_T24 l0 a1).f3) ((rd_T24 l0 a1).f4)))))))))) else(none)) else(none))=some r:=h
 clear h
 by_cases c6:0≤a1
 ·rw [if_pos c6] at H
  have c6b0:decide (0≤a1)=true:=decide_eq_true c6
  clear c6
  by_cases c7:a1<(l0.length:Int)
  ·rw [if_pos c7] at H
   have c7b0:decide (a1<(l0.length:Int))=true:=decide_eq_true c7
   clear c7
   have HC8:=Aside0.mk H
   clear H
   have p156:0≤(a1:Int):=of_decide_eq_true au7
   have q156:a1<(l0.length:Int):=of_decide_eq_true au7
   obtain ⟨ad156,e156,hx156_0,hx156_1,hx156_2,hx156_3,hx156_4⟩:=at_T24 HR0.out a1 p156 q156
   cases e156
   replace p156:=eq_true p156
   replace q156:=eq_true q156
   go_enter Tryd.func35,Tryd.ntmps35
   go_upto_region 2 with(first|((with_reducible refine gate_dst (N:=11) rfl ?_);(try(refine gate_guard au6 ?_;dsimp only));refine box_event ?hg (N:=11) ?hd (cs:=#[.int .i64 0,.int .i64 0,.int .i64 0,.string (⟨#[]⟩:ByteArray),.string (⟨#[]⟩:ByteArray)]) (t:=24) ?hr ?_;(case hd=>rfl);(case hg=>rfl);(case hr=>first|(go_simp;done)|(go_simp;rfl));intro gb157 hg w9 hbox hb;have n0_:=Aside0.mk (below_step au3 hb);have n1_:=Aside0.mk (hbox);have n2_:=Aside0.mk ((by rw [hg];exact(below_size au3):w.heap.size≤gb157));have n3_:=Aside0.mk ((by rw [hg];exact(below_size au3):w.heap.size≤gb157));clear HB;have HB:=n0_;have BK157:=n1_;have GW157:=n2_;have GE157:=n3_;clear n0_ n1_ n2_ n3_;clear hb hbox hg;have hcz10_0:w9.cell? ⟨gb157,0,none⟩=some (.int .i64 0):=(blk_cell BK157.out 0).trans rfl;have hcz10_1:w9.cell? ⟨gb157,1,none⟩=some (.int .i64 0):=(blk_cell BK157.out 1).trans rfl;have hcz10_2:w9.cell? ⟨gb157,2,none⟩=some (.int .i64 0):=(blk_cell BK157.out 2).trans rfl;have hcz10_3:w9.cell? ⟨gb157,3,none⟩=some (.string (⟨#[]⟩:ByteArray)):=(blk_cell BK157.out 3).trans rfl;have hcz10_4:w9.cell? ⟨gb157,4,none⟩=some (.string (⟨#[]⟩:ByteArray)):=(blk_cell BK157.out 4).trans rfl;have hfz10_0:=blk_frozen BK157.out 0;have hfz10_1:=blk_frozen BK157.out 1;have hfz10_2:=blk_frozen BK157.out 2;have hfz10_3:=blk_frozen BK157.out 3;have hfz10_4:=blk_frozen BK157.out 4))
   (try simp only [Act.put,List.setIfInBounds_toArray,List.set_cons_zero,List.set_cons_succ])
   go_cut [65] (fun v65 wc=>∃(kq:Nat) (x65_7:Bool),v65=.bool x65_7∧Aside0 (racewayref25_may.j0 kq l0 a1 a2 a4 x65_7 ((rd_T24 l0 a1).f0) ((rd_T24 l0 a1).f1) ((rd_T24 l0 a1).f2) ((rd_T24 l0 a1).f3) ((rd_T24 l0 a1).f4)=some r)∧Aside0 (kq≤k)∧Aside0 (wc.heap[gb157]?=some (.cells #[.int .i64 ((rd_T24 l0 a1).f0),.int .i64 ((rd_T24 l0 a1).f1),.int .i64 ((rd_T24 l0 a1).f2),.string ((rd_T24 l0 a1).f3),.string ((rd_T24 l0 a1).f4)] 24 (0,0)))∧Aside0 (Below w.heap.size w wc))
   case first =>
    have H:=HC8.out
    clear HC8
    by_cases c11:a1≥a2
    ·rw [if_pos c11] at H
     have c11b0:decide (a2≤a1)=true:=decide_eq_true c11
     clear c11
     (first|rw [c11b0]|(simp only [i64_w,i32_w];rw [c11b0])|skip)
     have H':=Aside0.mk H
     clear H
     go_wp2
     go_meet
     case rel=>exact ⟨_,(true),au4,au9,⟨au14⟩,⟨by(with_reducible repeat(first|refine blk_drewN ?_ _|refine blk_drew ?_|refine blk_alloc ?_ _));refine blk_put (cs:=#[.int .i64 ((rd_T24 l0 a1).f0),.int .i64 ((rd_T24 l0 a1).f1),.int .i64 ((rd_T24 l0 a1).f2),.string ((rd_T24 l0 a1).f3),.string (⟨#[]⟩:ByteArray)]) ?_ 4 _ rfl;(with_reducible repeat(first|refine blk_drewN ?_ _|refine blk_drew ?_|refine blk_alloc ?_ _));refine blk_put (cs:=#[.int .i64 ((rd_T24 l0 a1).f0),.int .i64 ((rd_T24 l0 a1).f1),.int .i64 ((rd_T24 l0 a1).f2),.string (⟨#[]⟩:ByteArray),.string (⟨#[]⟩:ByteArray)]) ?_ 3 _ rfl;(with_reducible repeat(first|refine blk_drewN ?_ _|refine blk_drew ?_|refine blk_alloc ?_ _));refine blk_put (cs:=#[.int .i64 ((rd_T24 l0 a1).f0),.int .i64 ((rd_T24 l0 a1).f1),.int .i64 0,.string (⟨#[]⟩:ByteArray),.string (⟨#[]⟩:ByteArray)]) ?_ 2 _ rfl;(with_reducible repeat(first|refine blk_drewN ?_ _|refine blk_drew ?_|refine blk_alloc ?_ _));refine blk_put (cs:=#[.int .i64 ((rd_T24 l0 a1).f0),.int .i64 0,.int .i64 0,.string (⟨#[]⟩:ByteArray),.string (⟨#[]⟩:ByteArray)]) ?_ 1 _ rfl;(with_reducible repeat(first|refine blk_drewN ?_ _|refine blk_drew ?_|refine blk_alloc ?_ _));refine blk_put (cs:=#[.int .i64 0,.int .i64 0,.int .i64 0,.string (⟨#[]⟩:ByteArray),.string (⟨#[]⟩:ByteArray)]) ?_ 0 _ rfl;(with_reducible repeat(first|refine blk_drewN ?_ _|refine blk_drew ?_|refine blk_alloc ?_ _));exact BK157.out⟩,⟨by repeat(first|(with_reducible first|exact HB.out|apply below_alloc|apply pw_below_drewN|apply below_drew1|refine below_set ?_ GE157.out)|exact HB.out)⟩⟩
    ·rw [if_neg c11] at H
     have c11b0:decide (a2≤a1)=false:=decide_eq_false c11
     clear c11
     (first|rw [c11b0]|(simp only [i64_w,i32_w];rw [c11b0])|skip)
     by_cases c12:((rd_T24 l0 a1).f0)<1
     ·rw [if_pos c12] at H
      have c12b0:decide (((rd_T24 l0 a1).f0)<1)=true:=decide_eq_true c12
      clear c12
      have H':=Aside0.mk H
      clear H
      have hcz13_0:w9.cell? ⟨gb157,0,none⟩=some (.int .i64 0):=(blk_cell BK157.out 0).trans rfl
      have hcz13_1:w9.cell? ⟨gb157,1,none⟩=some (.int .i64 0):=(blk_cell BK157.out 1).trans rfl
      have hcz13_2:w9.cell? ⟨gb157,2,none⟩=some (.int .i64 0):=(blk_cell BK157.out 2).trans rfl
      have hcz13_3:w9.cell? ⟨gb157,3,none⟩=some (.string (⟨#[]⟩:ByteArray)):=(blk_cell BK157.out 3).trans rfl
      have hcz13_4:w9.cell? ⟨gb157,4,none⟩=some (.string (⟨#[]⟩:ByteArray)):=(blk_cell BK157.out 4).trans rfl
      go_wp2
      go_meet
      case rel=>exact ⟨_,(true),au4,au9,⟨au14⟩,⟨by(with_reducible repeat(first|refine blk_drewN ?_ _|refine blk_drew ?_|refine blk_alloc ?_ _));refine blk_put (cs:=#[.int .i64 ((rd_T24 l0 a1).f0),.int .i64 ((rd_T24 l0 a1).f1),.int .i64 ((rd_T24 l0 a1).f2),.string ((rd_T24 l0 a1).f3),.string (⟨#[]⟩:ByteArray)]) ?_ 4 _ rfl;(with_reducible repeat(first|refine blk_drewN ?_ _|refine blk_drew ?_|refine blk_alloc ?_ _));refine blk_put (cs:=#[.int .i64 ((rd_T24 l0 a1).f0),.int .i64 ((rd_T24 l0 a1).f1),.int .i64 ((rd_T24 l0 a1).f2),.string (⟨#[]⟩:ByteArray),.string (⟨#[]⟩:ByteArray)]) ?_ 3 _ rfl;(with_reducible repeat(first|refine blk_drewN ?_ _|refine blk_drew ?_|refine blk_alloc ?_ _));refine blk_put (cs:=#[.int .i64 ((rd_T24 l0 a1).f0),.int .i64 ((rd_T24 l0 a1).f1),.int .i64 0,.string (⟨#[]⟩:ByteArray),.string (⟨#[]⟩:ByteArray)]) ?_ 2 _ rfl;(with_reducible repeat(first|refine blk_drewN ?_ _|refine blk_drew ?_|refine blk_alloc ?_ _));refine blk_put (cs:=#[.int .i64 ((rd_T24 l0 a1).f0),.int .i64 0,.int .i64 0,.string (⟨#[]⟩:ByteArray),.string (⟨#[]⟩:ByteArray)]) ?_ 1 _ rfl;(with_reducible repeat(first|refine blk_drewN ?_ _|refine blk_drew ?_|refine blk_alloc ?_ _));refine blk_put (cs:=#[.int .i64 0,.int .i64 0,.int .i64 0,.string (⟨#[]⟩:ByteArray),.string (⟨#[]⟩:ByteArray)]) ?_ 0 _ rfl;(with_reducible repeat(first|refine blk_drewN ?_ _|refine blk_drew ?_|refine blk_alloc ?_ _));exact BK157.out⟩,⟨by repeat(first|(with_reducible first|exact HB.out|apply below_alloc|apply pw_below_drewN|apply below_drew1|refine below_set ?_ GE157.out)|exact HB.out)⟩⟩
     ·rw [if_neg c12] at H
      have c12b0:decide (((rd_T24 l0 a1).f0)<1)=false:=decide_eq_false c12
      clear c12
      by_cases c14:((rd_T24 l0 a1).f0) > 7
      ·rw [if_pos c14] at H
       have c14b0:decide (7<((rd_T24 l0 a1).f0))=true:=decide_eq_true c14
       clear c14
       have H':=Aside0.mk H
       clear H
       have hcz15_0:w9.cell? ⟨gb157,0,none⟩=some (.int .i64 0):=(blk_cell BK157.out 0).trans rfl
       have hcz15_1:w9.cell? ⟨gb157,1,none⟩=some (.int .i64 0):=(blk_cell BK157.out 1).trans rfl
       have hcz15_2:w9.cell? ⟨gb157,2,none⟩=some (.int .i64 0):=(blk_cell BK157.out 2).trans rfl
       have hcz15_3:w9.cell? ⟨gb157,3,none⟩=some (.string (⟨#[]⟩:ByteArray)):=(blk_cell BK157.out 3).trans rfl
       have hcz15_4:w9.cell? ⟨gb157,4,none⟩=some (.string (⟨#[]⟩:ByteArray)):=(blk_cell BK157.out 4).trans rfl
       go_wp2
       go_meet
       case rel=>exact ⟨_,(true),au4,au9,⟨au14⟩,⟨by(with_reducible repeat(first|refine blk_drewN ?_ _|refine blk_drew ?_|refine blk_alloc ?_ _));refine blk_put (cs:=#[.int .i64 ((rd_T24 l0 a1).f0),.int .i64 ((rd_T24 l0 a1).f1),.int .i64 ((rd_T24 l0 a1).f2),.string ((rd_T24 l0 a1).f3),.string (⟨#[]⟩:ByteArray)]) ?_ 4 _ rfl;(with_reducible repeat(first|refine blk_drewN ?_ _|refine blk_drew ?_|refine blk_alloc ?_ _));refine blk_put (cs:=#[.int .i64 ((rd_T24 l0 a1).f0),.int .i64 ((rd_T24 l0 a1).f1),.int .i64 ((rd_T24 l0 a1).f2),.string (⟨#[]⟩:ByteArray),.string (⟨#[]⟩:ByteArray)]) ?_ 3 _ rfl;(with_reducible repeat(first|refine blk_drewN ?_ _|refine blk_drew ?_|refine blk_alloc ?_ _));refine blk_put (cs:=#[.int .i64 ((rd_T24 l0 a1).f0),.int .i64 ((rd_T24 l0 a1).f1),.int .i64 0,.string (⟨#[]⟩:ByteArray),.string (⟨#[]⟩:ByteArray)]) ?_ 2 _ rfl;(with_reducible repeat(first|refine blk_drewN ?_ _|refine blk_drew ?_|refine blk_alloc ?_ _));refine blk_put (cs:=#[.int .i64 ((rd_T24 l0 a1).f0),.int .i64 0,.int .i64 0,.string (⟨#[]⟩:ByteArray),.string (⟨#[]⟩:ByteArray)]) ?_ 1 _ rfl;(with_reducible repeat(first|refine blk_drewN ?_ _|refine blk_drew ?_|refine blk_alloc ?_ _));refine blk_put (cs:=#[.int .i64 0,.int .i64 0,.int .i64 0,.string (⟨#[]⟩:ByteArray),.string (⟨#[]⟩:ByteArray)]) ?_ 0 _ rfl;(with_reducible repeat(first|refine blk_drewN ?_ _|refine blk_drew ?_|refine blk_alloc ?_ _));exact BK157.out⟩,⟨by repeat(first|(with_reducible first|exact HB.out|apply below_alloc|apply pw_below_drewN|apply below_drew1|refine below_set ?_ GE157.out)|exact HB.out)⟩⟩
      ·rw [if_neg c14] at H
       have c14b0:decide (7<((rd_T24 l0 a1).f0))=false:=decide_eq_false c14
       clear c14
       by_cases c16:((rd_T24 l0 a1).f2)<0
       ·rw [if_pos c16] at H
        have c16b0:decide (((rd_T24 l0 a1).f2)<0)=true:=decide_eq_true c16
        clear c16
        have H':=Aside0.mk H
        clear H
        have hcz17_0:w9.cell? ⟨gb157,0,none⟩=some (.int .i64 0):=(blk_cell BK157.out 0).trans rfl
        have hcz17_1:w9.cell? ⟨gb157,1,none⟩=some (.int .i64 0):=(blk_cell BK157.out 1).trans rfl
        have hcz17_2:w9.cell? ⟨gb157,2,none⟩=some (.int .i64 0):=(blk_cell BK157.out 2).trans rfl
        have hcz17_3:w9.cell? ⟨gb157,3,none⟩=some (.string (⟨#[]⟩:ByteArray)):=(blk_cell BK157.out 3).trans rfl
        have hcz17_4:w9.cell? ⟨gb157,4,none⟩=some (.string (⟨#[]⟩:ByteArray)):=(blk_cell BK157.out 4).trans rfl
        go_wp2
        go_meet
        case rel=>exact ⟨_,(true),au4,au9,⟨au14⟩,⟨by(with_reducible repeat(first|refine blk_drewN ?_ _|refine blk_drew ?_|refine blk_alloc ?_ _));refine blk_put (cs:=#[.int .i64 ((rd_T24 l0 a1).f0),.int .i64 ((rd_T24 l0 a1).f1),.int .i64 ((rd_T24 l0 a1).f2),.string ((rd_T24 l0 a1).f3),.string (⟨#[]⟩:ByteArray)]) ?_ 4 _ rfl;(with_reducible repeat(first|refine blk_drewN ?_ _|refine blk_drew ?_|refine blk_alloc ?_ _));refine blk_put (cs:=#[.int .i64 ((rd_T24 l0 a1).f0),.int .i64 ((rd_T24 l0 a1).f1),.int .i64 ((rd_T24 l0 a1).f2),.string (⟨#[]⟩:ByteArray),.string (⟨#[]⟩:ByteArray)]) ?_ 3 _ rfl;(with_reducible repeat(first|refine blk_drewN ?_ _|refine blk_drew ?_|refine blk_alloc ?_ _));refine blk_put (cs:=#[.int .i64 ((rd_T24 l0 a1).f0),.int .i64 ((rd_T24 l0 a1).f1),.int .i64 0,.string (⟨#[]⟩:ByteArray),.string (⟨#[]⟩:ByteArray)]) ?_ 2 _ rfl;(with_reducible repeat(first|refine blk_drewN ?_ _|refine blk_drew ?_|refine blk_alloc ?_ _));refine blk_put (cs:=#[.int .i64 ((rd_T24 l0 a1).f0),.int .i64 0,.int .i64 0,.string (⟨#[]⟩:ByteArray),.string (⟨#[]⟩:ByteArray)]) ?_ 1 _ rfl;(with_reducible repeat(first|refine blk_drewN ?_ _|refine blk_drew ?_|refine blk_alloc ?_ _));refine blk_put (cs:=#[.int .i64 0,.int .i64 0,.int .i64 0,.string (⟨#[]⟩:ByteArray),.string (⟨#[]⟩:ByteArray)]) ?_ 0 _ rfl;(with_reducible repeat(first|refine blk_drewN ?_ _|refine blk_drew ?_|refine blk_alloc ?_ _));exact BK157.out⟩,⟨by repeat(first|(with_reducible first|exact HB.out|apply below_alloc|apply pw_below_drewN|apply below_drew1|refine below_set ?_ GE157.out)|exact HB.out)⟩⟩
       ·rw [if_neg c16] at H
        have c16b0:decide (((rd_T24 l0 a1).f2)<0)=false:=decide_eq_false c16
        clear c16
        by_cases c18:a4≥32
        ·rw [if_pos c18] at H
         have c18b0:decide (32≤a4)=true:=decide_eq_true c18
         clear c18
         have H':=Aside0.mk H
         clear H
         have hcz19_0:w9.cell? ⟨gb157,0,none⟩=some (.int .i64 0):=(blk_cell BK157.out 0).trans rfl
         have hcz19_1:w9.cell? ⟨gb157,1,none⟩=some (.int .i64 0):=(blk_cell BK157.out 1).trans rfl
         have hcz19_2:w9.cell? ⟨gb157,2,none⟩=some (.int .i64 0):=(blk_cell BK157.out 2).trans rfl
         have hcz19_3:w9.cell? ⟨gb157,3,none⟩=some (.string (⟨#[]⟩:ByteArray)):=(blk_cell BK157.out 3).trans rfl
         have hcz19_4:w9.cell? ⟨gb157,4,none⟩=some (.string (⟨#[]⟩:ByteArray)):=(blk_cell BK157.out 4).trans rfl
         go_wp2
         go_meet
         case rel=>exact ⟨_,(true),au4,au9,⟨au14⟩,⟨by(with_reducible repeat(first|refine blk_drewN ?_ _|refine blk_drew ?_|refine blk_alloc ?_ _));refine blk_put (cs:=#[.int .i64 ((rd_T24 l0 a1).f0),.int .i64 ((rd_T24 l0 a1).f1),.int .i64 ((rd_T24 l0 a1).f2),.string ((rd_T24 l0 a1).f3),.string (⟨#[]⟩:ByteArray)]) ?_ 4 _ rfl;(with_reducible repeat(first|refine blk_drewN ?_ _|refine blk_drew ?_|refine blk_alloc ?_ _));refine blk_put (cs:=#[.int .i64 ((rd_T24 l0 a1).f0),.int .i64 ((rd_T24 l0 a1).f1),.int .i64 ((rd_T24 l0 a1).f2),.string (⟨#[]⟩:ByteArray),.string (⟨#[]⟩:ByteArray)]) ?_ 3 _ rfl;(with_reducible repeat(first|refine blk_drewN ?_ _|refine blk_drew ?_|refine blk_alloc ?_ _));refine blk_put (cs:=#[.int .i64 ((rd_T24 l0 a1).f0),.int .i64 ((rd_T24 l0 a1).f1),.int .i64 0,.string (⟨#[]⟩:ByteArray),.string (⟨#[]⟩:ByteArray)]) ?_ 2 _ rfl;(with_reducible repeat(first|refine blk_drewN ?_ _|refine blk_drew ?_|refine blk_alloc ?_ _));refine blk_put (cs:=#[.int .i64 ((rd_T24 l0 a1).f0),.int .i64 0,.int .i64 0,.string (⟨#[]⟩:ByteArray),.string (⟨#[]⟩:ByteArray)]) ?_ 1 _ rfl;(with_reducible repeat(first|refine blk_drewN ?_ _|refine blk_drew ?_|refine blk_alloc ?_ _));refine blk_put (cs:=#[.int .i64 0,.int .i64 0,.int .i64 0,.string (⟨#[]⟩:ByteArray),.string (⟨#[]⟩:ByteArray)]) ?_ 0 _ rfl;(with_reducible repeat(first|refine blk_drewN ?_ _|refine blk_drew ?_|refine blk_alloc ?_ _));exact BK157.out⟩,⟨by repeat(first|(with_reducible first|exact HB.out|apply below_alloc|apply pw_below_drewN|apply below_drew1|refine below_set ?_ GE157.out)|exact HB.out)⟩⟩
        ·rw [if_neg c18] at H
         have c18b0:decide (32≤a4)=false:=decide_eq_false c18
         clear c18
         by_cases c20:((rd_T24 l0 a1).f2) > 0
         ·rw [if_pos c20] at H
          have c20b0:decide (0<((rd_T24 l0 a1).f2))=true:=decide_eq_true c20
          clear c20
          by_cases c21:((rd_T24 l0 a1).f0)<6
          ·rw [if_pos c21] at H
           have c21b0:decide (((rd_T24 l0 a1).f0)<6)=true:=decide_eq_true c21
           clear c21
           have H':=Aside0.mk H
           clear H
           have hcz22_0:w9.cell? ⟨gb157,0,none⟩=some (.int .i64 0):=(blk_cell BK157.out 0).trans rfl
           have hcz22_1:w9.cell? ⟨gb157,1,none⟩=some (.int .i64 0):=(blk_cell BK157.out 1).trans rfl
           have hcz22_2:w9.cell? ⟨gb157,2,none⟩=some (.int .i64 0):=(blk_cell BK157.out 2).trans rfl
           have hcz22_3:w9.cell? ⟨gb157,3,none⟩=some (.string (⟨#[]⟩:ByteArray)):=(blk_cell BK157.out 3).trans rfl
           have hcz22_4:w9.cell? ⟨gb157,4,none⟩=some (.string (⟨#[]⟩:ByteArray)):=(blk_cell BK157.out 4).trans rfl
           go_wp2
           go_meet
           case rel=>exact ⟨_,(true),au4,au9,⟨au14⟩,⟨by(with_reducible repeat(first|refine blk_drewN ?_ _|refine blk_drew ?_|refine blk_alloc ?_ _));refine blk_put (cs:=#[.int .i64 ((rd_T24 l0 a1).f0),.int .i64 ((rd_T24 l0 a1).f1),.int .i64 ((rd_T24 l0 a1).f2),.string ((rd_T24 l0 a1).f3),.string (⟨#[]⟩:ByteArray)]) ?_ 4 _ rfl;(with_reducible repeat(first|refine blk_drewN ?_ _|refine blk_drew ?_|refine blk_alloc ?_ _));refine blk_put (cs:=#[.int .i64 ((rd_T24 l0 a1).f0),.int .i64 ((rd_T24 l0 a1).f1),.int .i64 ((rd_T24 l0 a1).f2),.string (⟨#[]⟩:ByteArray),.string (⟨#[]⟩:ByteArray)]) ?_ 3 _ rfl;(with_reducible repeat(first|refine blk_drewN ?_ _|refine blk_drew ?_|refine blk_alloc ?_ _));refine blk_put (cs:=#[.int .i64 ((rd_T24 l0 a1).f0),.int .i64 ((rd_T24 l0 a1).f1),.int .i64 0,.string (⟨#[]⟩:ByteArray),.string (⟨#[]⟩:ByteArray)]) ?_ 2 _ rfl;(with_reducible repeat(first|refine blk_drewN ?_ _|refine blk_drew ?_|refine blk_alloc ?_ _));refine blk_put (cs:=#[.int .i64 ((rd_T24 l0 a1).f0),.int .i64 0,.int .i64 0,.string (⟨#[]⟩:ByteArray),.string (⟨#[]⟩:ByteArray)]) ?_ 1 _ rfl;(with_reducible repeat(first|refine blk_drewN ?_ _|refine blk_drew ?_|refine blk_alloc ?_ _));refine blk_put (cs:=#[.int .i64 0,.int .i64 0,.int .i64 0,.string (⟨#[]⟩:ByteArray),.string (⟨#[]⟩:ByteArray)]) ?_ 0 _ rfl;(with_reducible repeat(first|refine blk_drewN ?_ _|refine blk_drew ?_|refine blk_alloc ?_ _));exact BK157.out⟩,⟨by repeat(first|(with_reducible first|exact HB.out|apply below_alloc|apply pw_below_drewN|apply below_drew1|refine below_set ?_ GE157.out)|exact HB.out)⟩⟩
          ·rw [if_neg c21] at H
           have c21b0:decide (((rd_T24 l0 a1).f0)<6)=false:=decide_eq_false c21
           clear c21
           by_cases c23:((rd_T24 l0 a1).f3).toList=([]:List UInt8)
           ·rw [if_pos c23] at H
            have c23b0:(((rd_T24 l0 a1).f3).toList==([]:List UInt8))=true:=beq_iff_eq.mpr c23
            have c23b1:(((rd_T24 l0 a1).f3).toList != ([]:List UInt8))=false:=bne_eq_false_iff_eq.mpr c23
            clear c23
            replace H:=Option.bind_eq_some_iff.mp H
            obtain ⟨t158,A240,H⟩:=H
            replace H:(racewayref25_may.j0 k l0 a1 a2 a4 (!t158) ((rd_T24 l0 a1).f0) ((rd_T24 l0 a1).f1) ((rd_T24 l0 a1).f2) ((rd_T24 l0 a1).f3) ((rd_T24 l0 a1).f4))=some r:=H
            have A24:=Aside0.mk A240
            clear A240
            have H':=Aside0.mk H
            clear H
            have hcz25_0:w9.cell? ⟨gb157,0,none⟩=some (.int .i64 0):=(blk_cell BK157.out 0).trans rfl
            have hcz25_1:w9.cell? ⟨gb157,1,none⟩=some (.int .i64 0):=(blk_cell BK157.out 1).trans rfl
            have hcz25_2:w9.cell? ⟨gb157,2,none⟩=some (.int .i64 0):=(blk_cell BK157.out 2).trans rfl
            have hcz25_3:w9.cell? ⟨gb157,3,none⟩=some (.string (⟨#[]⟩:ByteArray)):=(blk_cell BK157.out 3).trans rfl
            have hcz25_4:w9.cell? ⟨gb157,4,none⟩=some (.string (⟨#[]⟩:ByteArray)):=(blk_cell BK157.out 4).trans rfl
            go_wp2_with (first|(go_at_call 31;(with_reducible refine(racewayref25_Valid.calls k ((rd_T24 l0 a1).f3) t158 _ A24.out).mono ?_);rintro e w' ⟨rfl,⟨nd,rfl⟩⟩))
            go_meet
            case rel=>exact ⟨_,(!t158),au4,au9,⟨au14⟩,⟨by(with_reducible repeat(first|refine blk_drewN ?_ _|refine blk_drew ?_|refine blk_alloc ?_ _));refine blk_put (cs:=#[.int .i64 ((rd_T24 l0 a1).f0),.int .i64 ((rd_T24 l0 a1).f1),.int .i64 ((rd_T24 l0 a1).f2),.string ((rd_T24 l0 a1).f3),.string (⟨#[]⟩:ByteArray)]) ?_ 4 _ rfl;(with_reducible repeat(first|refine blk_drewN ?_ _|refine blk_drew ?_|refine blk_alloc ?_ _));refine blk_put (cs:=#[.int .i64 ((rd_T24 l0 a1).f0),.int .i64 ((rd_T24 l0 a1).f1),.int .i64 ((rd_T24 l0 a1).f2),.string (⟨#[]⟩:ByteArray),.string (⟨#[]⟩:ByteArray)]) ?_ 3 _ rfl;(with_reducible repeat(first|refine blk_drewN ?_ _|refine blk_drew ?_|refine blk_alloc ?_ _));refine blk_put (cs:=#[.int .i64 ((rd_T24 l0 a1).f0),.int .i64 ((rd_T24 l0 a1).f1),.int .i64 0,.string (⟨#[]⟩:ByteArray),.string (⟨#[]⟩:ByteArray)]) ?_ 2 _ rfl;(with_reducible repeat(first|refine blk_drewN ?_ _|refine blk_drew ?_|refine blk_alloc ?_ _));refine blk_put (cs:=#[.int .i64 ((rd_T24 l0 a1).f0),.int .i64 0,.int .i64 0,.string (⟨#[]⟩:ByteArray),.string (⟨#[]⟩:ByteArray)]) ?_ 1 _ rfl;(with_reducible repeat(first|refine blk_drewN ?_ _|refine blk_drew ?_|refine blk_alloc ?_ _));refine blk_put (cs:=#[.int .i64 0,.int .i64 0,.int .i64 0,.string (⟨#[]⟩:ByteArray),.string (⟨#[]⟩:ByteArray)]) ?_ 0 _ rfl;(with_reducible repeat(first|refine blk_drewN ?_ _|refine blk_drew ?_|refine blk_alloc ?_ _));exact BK157.out⟩,⟨by repeat(first|(with_reducible first|exact HB.out|apply below_alloc|apply pw_below_drewN|apply below_drew1|refine below_set ?_ GE157.out)|exact HB.out)⟩⟩
           ·rw [if_neg c23] at H
            have c23b0:(((rd_T24 l0 a1).f3).toList==([]:List UInt8))=false:=beq_eq_false_iff_ne.mpr c23
            have c23b1:(((rd_T24 l0 a1).f3).toList != ([]:List UInt8))=true:=bne_iff_ne.mpr c23
            by_cases c26:a3=true
            ·subst c26
             replace H:((racewayref25_Valid.f k ((rd_T24 l0 a1).f3)).bind fun t159=>(racewayref25_may.j0 k l0 a1 a2 a4 (!t159) ((rd_T24 l0 a1).f0) ((rd_T24 l0 a1).f1) ((rd_T24 l0 a1).f2) ((rd_T24 l0 a1).f3) ((rd_T24 l0 a1).f4)))=some r:=by rw [if_pos rfl] at H;exact H
             replace H:=Option.bind_eq_some_iff.mp H
             obtain ⟨t159,A270,H⟩:=H
             replace H:(racewayref25_may.j0 k l0 a1 a2 a4 (!t159) ((rd_T24 l0 a1).f0) ((rd_T24 l0 a1).f1) ((rd_T24 l0 a1).f2) ((rd_T24 l0 a1).f3) ((rd_T24 l0 a1).f4))=some r:=H
             have A27:=Aside0.mk A270
             clear A270
             have H':=Aside0.mk H
             clear H
             have hcz28_0:w9.cell? ⟨gb157,0,none⟩=some (.int .i64 0):=(blk_cell BK157.out 0).trans rfl
             have hcz28_1:w9.cell? ⟨gb157,1,none⟩=some (.int .i64 0):=(blk_cell BK157.out 1).trans rfl
             have hcz28_2:w9.cell? ⟨gb157,2,none⟩=some (.int .i64 0):=(blk_cell BK157.out 2).trans rfl
             have hcz28_3:w9.cell? ⟨gb157,3,none⟩=some (.string (⟨#[]⟩:ByteArray)):=(blk_cell BK157.out 3).trans rfl
             have hcz28_4:w9.cell? ⟨gb157,4,none⟩=some (.string (⟨#[]⟩:ByteArray)):=(blk_cell BK157.out 4).trans rfl
             go_wp2_with (first|(go_at_call 31;(with_reducible refine(racewayref25_Valid.calls k ((rd_T24 l0 a1).f3) t159 _ A27.out).mono ?_);rintro e w' ⟨rfl,⟨nd,rfl⟩⟩))
             go_meet
             case rel=>exact ⟨_,(!t159),au4,au9,⟨au14⟩,⟨by(with_reducible repeat(first|refine blk_drewN ?_ _|refine blk_drew ?_|refine blk_alloc ?_ _));refine blk_put (cs:=#[.int .i64 ((rd_T24 l0 a1).f0),.int .i64 ((rd_T24 l0 a1).f1),.int .i64 ((rd_T24 l0 a1).f2),.string ((rd_T24 l0 a1).f3),.string (⟨#[]⟩:ByteArray)]) ?_ 4 _ rfl;(with_reducible repeat(first|refine blk_drewN ?_ _|refine blk_drew ?_|refine blk_alloc ?_ _));refine blk_put (cs:=#[.int .i64 ((rd_T24 l0 a1).f0),.int .i64 ((rd_T24 l0 a1).f1),.int .i64 ((rd_T24 l0 a1).f2),.string (⟨#[]⟩:ByteArray),.string (⟨#[]⟩:ByteArray)]) ?_ 3 _ rfl;(with_reducible repeat(first|refine blk_drewN ?_ _|refine blk_drew ?_|refine blk_alloc ?_ _));refine blk_put (cs:=#[.int .i64 ((rd_T24 l0 a1).f0),.int .i64 ((rd_T24 l0 a1).f1),.int .i64 0,.string (⟨#[]⟩:ByteArray),.string (⟨#[]⟩:ByteArray)]) ?_ 2 _ rfl;(with_reducible repeat(first|refine blk_drewN ?_ _|refine blk_drew ?_|refine blk_alloc ?_ _));refine blk_put (cs:=#[.int .i64 ((rd_T24 l0 a1).f0),.int .i64 0,.int .i64 0,.string (⟨#[]⟩:ByteArray),.string (⟨#[]⟩:ByteArray)]) ?_ 1 _ rfl;(with_reducible repeat(first|refine blk_drewN ?_ _|refine blk_drew ?_|refine blk_alloc ?_ _));refine blk_put (cs:=#[.int .i64 0,.int .i64 0,.int .i64 0,.string (⟨#[]⟩:ByteArray),.string (⟨#[]⟩:ByteArray)]) ?_ 0 _ rfl;(with_reducible repeat(first|refine blk_drewN ?_ _|refine blk_drew ?_|refine blk_alloc ?_ _));exact BK157.out⟩,⟨by repeat(first|(with_reducible first|exact HB.out|apply below_alloc|apply pw_below_drewN|apply below_drew1|refine below_set ?_ GE157.out)|exact HB.out)⟩⟩
            ·replace c26:=Bool.eq_false_iff.mpr c26
             subst c26
             replace H:(racewayref25_may.j0 k l0 a1 a2 a4 true ((rd_T24 l0 a1).f0) ((rd_T24 l0 a1).f1) ((rd_T24 l0 a1).f2) ((rd_T24 l0 a1).f3) ((rd_T24 l0 a1).f4))=some r:=by rw [if_neg (show ¬ (false=true) by decide)] at H;exact H
             have H':=Aside0.mk H
             clear H
             have hcz29_0:w9.cell? ⟨gb157,0,none⟩=some (.int .i64 0):=(blk_cell BK157.out 0).trans rfl
             have hcz29_1:w9.cell? ⟨gb157,1,none⟩=some (.int .i64 0):=(blk_cell BK157.out 1).trans rfl
             have hcz29_2:w9.cell? ⟨gb157,2,none⟩=some (.int .i64 0):=(blk_cell BK157.out 2).trans rfl
             have hcz29_3:w9.cell? ⟨gb157,3,none⟩=some (.string (⟨#[]⟩:ByteArray)):=(blk_cell BK157.out 3).trans rfl
             have hcz29_4:w9.cell? ⟨gb157,4,none⟩=some (.string (⟨#[]⟩:ByteArray)):=(blk_cell BK157.out 4).trans rfl
             go_wp2
             go_meet
             case rel=>exact ⟨_,(true),au4,au9,⟨au14⟩,⟨by(with_reducible repeat(first|refine blk_drewN ?_ _|refine blk_drew ?_|refine blk_alloc ?_ _));refine blk_put (cs:=#[.int .i64 ((rd_T24 l0 a1).f0),.int .i64 ((rd_T24 l0 a1).f1),.int .i64 ((rd_T24 l0 a1).f2),.string ((rd_T24 l0 a1).f3),.string (⟨#[]⟩:ByteArray)]) ?_ 4 _ rfl;(with_reducible repeat(first|refine blk_drewN ?_ _|refine blk_drew ?_|refine blk_alloc ?_ _));refine blk_put (cs:=#[.int .i64 ((rd_T24 l0 a1).f0),.int .i64 ((rd_T24 l0 a1).f1),.int .i64 ((rd_T24 l0 a1).f2),.string (⟨#[]⟩:ByteArray),.string (⟨#[]⟩:ByteArray)]) ?_ 3 _ rfl;(with_reducible repeat(first|refine blk_drewN ?_ _|refine blk_drew ?_|refine blk_alloc ?_ _));refine blk_put (cs:=#[.int .i64 ((rd_T24 l0 a1).f0),.int .i64 ((rd_T24 l0 a1).f1),.int .i64 0,.string (⟨#[]⟩:ByteArray),.string (⟨#[]⟩:ByteArray)]) ?_ 2 _ rfl;(with_reducible repeat(first|refine blk_drewN ?_ _|refine blk_drew ?_|refine blk_alloc ?_ _));refine blk_put (cs:=#[.int .i64 ((rd_T24 l0 a1).f0),.int .i64 0,.int .i64 0,.string (⟨#[]⟩:ByteArray),.string (⟨#[]⟩:ByteArray)]) ?_ 1 _ rfl;(with_reducible repeat(first|refine blk_drewN ?_ _|refine blk_drew ?_|refine blk_alloc ?_ _));refine blk_put (cs:=#[.int .i64 0,.int .i64 0,.int .i64 0,.string (⟨#[]⟩:ByteArray),.string (⟨#[]⟩:ByteArray)]) ?_ 0 _ rfl;(with_reducible repeat(first|refine blk_drewN ?_ _|refine blk_drew ?_|refine blk_alloc ?_ _));exact BK157.out⟩,⟨by repeat(first|(with_reducible first|exact HB.out|apply below_alloc|apply pw_below_drewN|apply below_drew1|refine below_set ?_ GE157.out)|exact HB.out)⟩⟩
         ·rw [if_neg c20] at H
          have c20b0:decide (0<((rd_T24 l0 a1).f2))=false:=decide_eq_false c20
          clear c20
          by_cases c30:((rd_T24 l0 a1).f3).toList=([]:List UInt8)
          ·rw [if_pos c30] at H
           have c30b0:(((rd_T24 l0 a1).f3).toList==([]:List UInt8))=true:=beq_iff_eq.mpr c30
           have c30b1:(((rd_T24 l0 a1).f3).toList != ([]:List UInt8))=false:=bne_eq_false_iff_eq.mpr c30
           clear c30
           replace H:=Option.bind_eq_some_iff.mp H
           obtain ⟨t160,A310,H⟩:=H
           replace H:(racewayref25_may.j0 k l0 a1 a2 a4 (!t160) ((rd_T24 l0 a1).f0) ((rd_T24 l0 a1).f1) ((rd_T24 l0 a1).f2) ((rd_T24 l0 a1).f3) ((rd_T24 l0 a1).f4))=some r:=H
           have A31:=Aside0.mk A310
           clear A310
           have H':=Aside0.mk H
           clear H
           have hcz32_0:w9.cell? ⟨gb157,0,none⟩=some (.int .i64 0):=(blk_cell BK157.out 0).trans rfl
           have hcz32_1:w9.cell? ⟨gb157,1,none⟩=some (.int .i64 0):=(blk_cell BK157.out 1).trans rfl
           have hcz32_2:w9.cell? ⟨gb157,2,none⟩=some (.int .i64 0):=(blk_cell BK157.out 2).trans rfl
           have hcz32_3:w9.cell? ⟨gb157,3,none⟩=some (.string (⟨#[]⟩:ByteArray)):=(blk_cell BK157.out 3).trans rfl
           have hcz32_4:w9.cell? ⟨gb157,4,none⟩=some (.string (⟨#[]⟩:ByteArray)):=(blk_cell BK157.out 4).trans rfl
           go_wp2_with (first|(go_at_call 31;(with_reducible refine(racewayref25_Valid.calls k ((rd_T24 l0 a1).f3) t160 _ A31.out).mono ?_);rintro e w' ⟨rfl,⟨nd,rfl⟩⟩))
           go_meet
           case rel=>exact ⟨_,(!t160),au4,au9,⟨au14⟩,⟨by(with_reducible repeat(first|refine blk_drewN ?_ _|refine blk_drew ?_|refine blk_alloc ?_ _));refine blk_put (cs:=#[.int .i64 ((rd_T24 l0 a1).f0),.int .i64 ((rd_T24 l0 a1).f1),.int .i64 ((rd_T24 l0 a1).f2),.string ((rd_T24 l0 a1).f3),.string (⟨#[]⟩:ByteArray)]) ?_ 4 _ rfl;(with_reducible repeat(first|refine blk_drewN ?_ _|refine blk_drew ?_|refine blk_alloc ?_ _));refine blk_put (cs:=#[.int .i64 ((rd_T24 l0 a1).f0),.int .i64 ((rd_T24 l0 a1).f1),.int .i64 ((rd_T24 l0 a1).f2),.string (⟨#[]⟩:ByteArray),.string (⟨#[]⟩:ByteArray)]) ?_ 3 _ rfl;(with_reducible repeat(first|refine blk_drewN ?_ _|refine blk_drew ?_|refine blk_alloc ?_ _));refine blk_put (cs:=#[.int .i64 ((rd_T24 l0 a1).f0),.int .i64 ((rd_T24 l0 a1).f1),.int .i64 0,.string (⟨#[]⟩:ByteArray),.string (⟨#[]⟩:ByteArray)]) ?_ 2 _ rfl;(with_reducible repeat(first|refine blk_drewN ?_ _|refine blk_drew ?_|refine blk_alloc ?_ _));refine blk_put (cs:=#[.int .i64 ((rd_T24 l0 a1).f0),.int .i64 0,.int .i64 0,.string (⟨#[]⟩:ByteArray),.string (⟨#[]⟩:ByteArray)]) ?_ 1 _ rfl;(with_reducible repeat(first|refine blk_drewN ?_ _|refine blk_drew ?_|refine blk_alloc ?_ _));refine blk_put (cs:=#[.int .i64 0,.int .i64 0,.int .i64 0,.string (⟨#[]⟩:ByteArray),.string (⟨#[]⟩:ByteArray)]) ?_ 0 _ rfl;(with_reducible repeat(first|refine blk_drewN ?_ _|refine blk_drew ?_|refine blk_alloc ?_ _));exact BK157.out⟩,⟨by repeat(first|(with_reducible first|exact HB.out|apply below_alloc|apply pw_below_drewN|apply below_drew1|refine below_set ?_ GE157.out)|exact HB.out)⟩⟩
          ·rw [if_neg c30] at H
           have c30b0:(((rd_T24 l0 a1).f3).toList==([]:List UInt8))=false:=beq_eq_false_iff_ne.mpr c30
           have c30b1:(((rd_T24 l0 a1).f3).toList != ([]:List UInt8))=true:=bne_iff_ne.mpr c30
           by_cases c33:a3=true
           ·subst c33
            replace H:((racewayref25_Valid.f k ((rd_T24 l0 a1).f3)).bind fun t161=>(racewayref25_may.j0 k l0 a1 a2 a4 (!t161) ((rd_T24 l0 a1).f0) ((rd_T24 l0 a1).f1) ((rd_T24 l0 a1).f2) ((rd_T24 l0 a1).f3) ((rd_T24 l0 a1).f4)))=some r:=by rw [if_pos rfl] at H;exact H
            replace H:=Option.bind_eq_some_iff.mp H
            obtain ⟨t161,A340,H⟩:=H
            replace H:(racewayref25_may.j0 k l0 a1 a2 a4 (!t161) ((rd_T24 l0 a1).f0) ((rd_T24 l0 a1).f1) ((rd_T24 l0 a1).f2) ((rd_T24 l0 a1).f3) ((rd_T24 l0 a1).f4))=some r:=H
            have A34:=Aside0.mk A340
            clear A340
            have H':=Aside0.mk H
            clear H
            have hcz35_0:w9.cell? ⟨gb157,0,none⟩=some (.int .i64 0):=(blk_cell BK157.out 0).trans rfl
            have hcz35_1:w9.cell? ⟨gb157,1,none⟩=some (.int .i64 0):=(blk_cell BK157.out 1).trans rfl
            have hcz35_2:w9.cell? ⟨gb157,2,none⟩=some (.int .i64 0):=(blk_cell BK157.out 2).trans rfl
            have hcz35_3:w9.cell? ⟨gb157,3,none⟩=some (.string (⟨#[]⟩:ByteArray)):=(blk_cell BK157.out 3).trans rfl
            have hcz35_4:w9.cell? ⟨gb157,4,none⟩=some (.string (⟨#[]⟩:ByteArray)):=(blk_cell BK157.out 4).trans rfl
            go_wp2_with (first|(go_at_call 31;(with_reducible refine(racewayref25_Valid.calls k ((rd_T24 l0 a1).f3) t161 _ A34.out).mono ?_);rintro e w' ⟨rfl,⟨nd,rfl⟩⟩))
            go_meet
            case rel=>exact ⟨_,(!t161),au4,au9,⟨au14⟩,⟨by(with_reducible repeat(first|refine blk_drewN ?_ _|refine blk_drew ?_|refine blk_alloc ?_ _));refine blk_put (cs:=#[.int .i64 ((rd_T24 l0 a1).f0),.int .i64 ((rd_T24 l0 a1).f1),.int .i64 ((rd_T24 l0 a1).f2),.string ((rd_T24 l0 a1).f3),.string (⟨#[]⟩:ByteArray)]) ?_ 4 _ rfl;(with_reducible repeat(first|refine blk_drewN ?_ _|refine blk_drew ?_|refine blk_alloc ?_ _));refine blk_put (cs:=#[.int .i64 ((rd_T24 l0 a1).f0),.int .i64 ((rd_T24 l0 a1).f1),.int .i64 ((rd_T24 l0 a1).f2),.string (⟨#[]⟩:ByteArray),.string (⟨#[]⟩:ByteArray)]) ?_ 3 _ rfl;(with_reducible repeat(first|refine blk_drewN ?_ _|refine blk_drew ?_|refine blk_alloc ?_ _));refine blk_put (cs:=#[.int .i64 ((rd_T24 l0 a1).f0),.int .i64 ((rd_T24 l0 a1).f1),.int .i64 0,.string (⟨#[]⟩:ByteArray),.string (⟨#[]⟩:ByteArray)]) ?_ 2 _ rfl;(with_reducible repeat(first|refine blk_drewN ?_ _|refine blk_drew ?_|refine blk_alloc ?_ _));refine blk_put (cs:=#[.int .i64 ((rd_T24 l0 a1).f0),.int .i64 0,.int .i64 0,.string (⟨#[]⟩:ByteArray),.string (⟨#[]⟩:ByteArray)]) ?_ 1 _ rfl;(with_reducible repeat(first|refine blk_drewN ?_ _|refine blk_drew ?_|refine blk_alloc ?_ _));refine blk_put (cs:=#[.int .i64 0,.int .i64 0,.int .i64 0,.string (⟨#[]⟩:ByteArray),.string (⟨#[]⟩:ByteArray)]) ?_ 0 _ rfl;(with_reducible repeat(first|refine blk_drewN ?_ _|refine blk_drew ?_|refine blk_alloc ?_ _));exact BK157.out⟩,⟨by repeat(first|(with_reducible first|exact HB.out|apply below_alloc|apply pw_below_drewN|apply below_drew1|refine below_set ?_ GE157.out)|exact HB.out)⟩⟩
           ·replace c33:=Bool.eq_false_iff.mpr c33
            subst c33
            replace H:(racewayref25_may.j0 k l0 a1 a2 a4 true ((rd_T24 l0 a1).f0) ((rd_T24 l0 a1).f1) ((rd_T24 l0 a1).f2) ((rd_T24 l0 a1).f3) ((rd_T24 l0 a1).f4))=some r:=by rw [if_neg (show ¬ (false=true) by decide)] at H;exact H
            have H':=Aside0.mk H
            clear H
            have hcz36_0:w9.cell? ⟨gb157,0,none⟩=some (.int .i64 0):=(blk_cell BK157.out 0).trans rfl
            have hcz36_1:w9.cell? ⟨gb157,1,none⟩=some (.int .i64 0):=(blk_cell BK157.out 1).trans rfl
            have hcz36_2:w9.cell? ⟨gb157,2,none⟩=some (.int .i64 0):=(blk_cell BK157.out 2).trans rfl
            have hcz36_3:w9.cell? ⟨gb157,3,none⟩=some (.string (⟨#[]⟩:ByteArray)):=(blk_cell BK157.out 3).trans rfl
            have hcz36_4:w9.cell? ⟨gb157,4,none⟩=some (.string (⟨#[]⟩:ByteArray)):=(blk_cell BK157.out 4).trans rfl
            go_wp2
            go_meet
            case rel=>exact ⟨_,(true),au4,au9,⟨au14⟩,⟨by(with_reducible repeat(first|refine blk_drewN ?_ _|refine blk_drew ?_|refine blk_alloc ?_ _));refine blk_put (cs:=#[.int .i64 ((rd_T24 l0 a1).f0),.int .i64 ((rd_T24 l0 a1).f1),.int .i64 ((rd_T24 l0 a1).f2),.string ((rd_T24 l0 a1).f3),.string (⟨#[]⟩:ByteArray)]) ?_ 4 _ rfl;(with_reducible repeat(first|refine blk_drewN ?_ _|refine blk_drew ?_|refine blk_alloc ?_ _));refine blk_put (cs:=#[.int .i64 ((rd_T24 l0 a1).f0),.int .i64 ((rd_T24 l0 a1).f1),.int .i64 ((rd_T24 l0 a1).f2),.string (⟨#[]⟩:ByteArray),.string (⟨#[]⟩:ByteArray)]) ?_ 3 _ rfl;(with_reducible repeat(first|refine blk_drewN ?_ _|refine blk_drew ?_|refine blk_alloc ?_ _));refine blk_put (cs:=#[.int .i64 ((rd_T24 l0 a1).f0),.int .i64 ((rd_T24 l0 a1).f1),.int .i64 0,.string (⟨#[]⟩:ByteArray),.string (⟨#[]⟩:ByteArray)]) ?_ 2 _ rfl;(with_reducible repeat(first|refine blk_drewN ?_ _|refine blk_drew ?_|refine blk_alloc ?_ _));refine blk_put (cs:=#[.int .i64 ((rd_T24 l0 a1).f0),.int .i64 0,.int .i64 0,.string (⟨#[]⟩:ByteArray),.string (⟨#[]⟩:ByteArray)]) ?_ 1 _ rfl;(with_reducible repeat(first|refine blk_drewN ?_ _|refine blk_drew ?_|refine blk_alloc ?_ _));refine blk_put (cs:=#[.int .i64 0,.int .i64 0,.int .i64 0,.string (⟨#[]⟩:ByteArray),.string (⟨#[]⟩:ByteArray)]) ?_ 0 _ rfl;(with_reducible repeat(first|refine blk_drewN ?_ _|refine blk_drew ?_|refine blk_alloc ?_ _));exact BK157.out⟩,⟨by repeat(first|(with_reducible first|exact HB.out|apply below_alloc|apply pw_below_drewN|apply below_drew1|refine below_set ?_ GE157.out)|exact HB.out)⟩⟩
   case rest =>
    clear HC8
    obtain ⟨kq,x65_7,rfl,HA,HJ7,BK157,HB⟩:=hcut
    cases kq with
    | zero=>exact absurd HA.out (by simp [racewayref25_may.j0])
    | succ kj7 =>
     have H:=HA.out
     clear HA
     simp only [racewayref25_may.j0] at H
     by_cases c37:x65_7=true
     ·subst c37
      replace H:(some (-1))=some r:=by rw [if_pos rfl] at H;exact H
      obtain rfl:=Option.some.inj H
      go_wp2
      go_ret
      exact ⟨au12,by repeat(first|(with_reducible first|exact HB.out|apply below_alloc|apply pw_below_drewN|apply below_drew1|refine below_set ?_ GE157.out)|exact HB.out)⟩
     ·replace c37:=Bool.eq_false_iff.mpr c37
      subst c37
      replace H:(if((rd_T24 l0 a1).f0)=4 then(if(((rd_T24 l0 a1).f4).size:Int) > 65536 then(some (-1)) else((racewayref25_number.f kj7 ((rd_T24 l0 a1).f4) 0).bind fun bt162=>(if bt162.2.1=0 then(if bt162.1=(((rd_T24 l0 a1).f4).size:Int) then(racewayref25_may.j1 kj7 l0 a1 a2 a4 ((rd_T24 l0 a1).f0) ((rd_T24 l0 a1).f1) ((rd_T24 l0 a1).f2) ((rd_T24 l0 a1).f3) ((rd_T24 l0 a1).f4)) else(some (-1))) else(some (-1))))) else(racewayref25_may.j1 kj7 l0 a1 a2 a4 ((rd_T24 l0 a1).f0) ((rd_T24 l0 a1).f1) ((rd_T24 l0 a1).f2) ((rd_T24 l0 a1).f3) ((rd_T24 l0 a1).f4)))=some r:=by rw [if_neg (show ¬ (false=true) by decide)] at H;exact H
      have HC38:=Aside0.mk H
      clear H
      have hcz39_0:wc.cell? ⟨gb157,0,none⟩=some (.int .i64 ((rd_T24 l0 a1).f0)):=(blk_cell BK157.out 0).trans rfl
      have hcz39_1:wc.cell? ⟨gb157,1,none⟩=some (.int .i64 ((rd_T24 l0 a1).f1)):=(blk_cell BK157.out 1).trans rfl
      have hcz39_2:wc.cell? ⟨gb157,2,none⟩=some (.int .i64 ((rd_T24 l0 a1).f2)):=(blk_cell BK157.out 2).trans rfl
      have hcz39_3:wc.cell? ⟨gb157,3,none⟩=some (.string ((rd_T24 l0 a1).f3)):=(blk_cell BK157.out 3).trans rfl
      have hcz39_4:wc.cell? ⟨gb157,4,none⟩=some (.string ((rd_T24 l0 a1).f4)):=(blk_cell BK157.out 4).trans rfl
      go_upto_if 68 with(fail)
      go_cut [] (fun wc=>∃(kq:Nat),Aside0 (racewayref25_may.j1 kq l0 a1 a2 a4 ((rd_T24 l0 a1).f0) ((rd_T24 l0 a1).f1) ((rd_T24 l0 a1).f2) ((rd_T24 l0 a1).f3) ((rd_T24 l0 a1).f4)=some r)∧Aside0 (kq≤kj7)∧Aside0 (wc.heap[gb157]?=some (.cells #[.int .i64 ((rd_T24 l0 a1).f0),.int .i64 ((rd_T24 l0 a1).f1),.int .i64 ((rd_T24 l0 a1).f2),.string ((rd_T24 l0 a1).f3),.string ((rd_T24 l0 a1).f4)] 24 (0,0)))∧Aside0 (Below w.heap.size w wc))
      case first =>
       have H:=HC38.out
       clear HC38
       by_cases c40:((rd_T24 l0 a1).f0)=4
       ·rw [if_pos c40] at H
        have c40b0:(((rd_T24 l0 a1).f0)==4)=true:=beq_iff_eq.mpr c40
        have c40b1:(((rd_T24 l0 a1).f0) != 4)=false:=bne_eq_false_iff_eq.mpr c40
        clear c40
        (first|rw [c40b0]|(simp only [i64_w,i32_w];rw [c40b0])|skip)
        by_cases c41:(((rd_T24 l0 a1).f4).size:Int) > 65536
        ·rw [if_pos c41] at H
         have c41b0:decide (65536<(((rd_T24 l0 a1).f4).size:Int))=true:=decide_eq_true c41
         have c41b1:decide (65536<((rd_T24 l0 a1).f4).size)=true:=decide_eq_true au0
         clear c41
         obtain rfl:=Option.some.inj H
         have hcz42_0:wc.cell? ⟨gb157,0,none⟩=some (.int .i64 ((rd_T24 l0 a1).f0)):=(blk_cell BK157.out 0).trans rfl
         have hcz42_1:wc.cell? ⟨gb157,1,none⟩=some (.int .i64 ((rd_T24 l0 a1).f1)):=(blk_cell BK157.out 1).trans rfl
         have hcz42_2:wc.cell? ⟨gb157,2,none⟩=some (.int .i64 ((rd_T24 l0 a1).f2)):=(blk_cell BK157.out 2).trans rfl
         have hcz42_3:wc.cell? ⟨gb157,3,none⟩=some (.string ((rd_T24 l0 a1).f3)):=(blk_cell BK157.out 3).trans rfl
         have hcz42_4:wc.cell? ⟨gb157,4,none⟩=some (.string ((rd_T24 l0 a1).f4)):=(blk_cell BK157.out 4).trans rfl
         go_wp2
         go_ret
         exact ⟨au12,by repeat(first|(with_reducible first|exact HB.out|apply below_alloc|apply pw_below_drewN|apply below_drew1|refine below_set ?_ GE157.out)|exact HB.out)⟩
        ·rw [if_neg c41] at H
         have c41b0:decide (65536<(((rd_T24 l0 a1).f4).size:Int))=false:=decide_eq_false c41
         have c41b1:decide (65536<((rd_T24 l0 a1).f4).size)=false:=decide_eq_false au0
         clear c41
         replace H:=Option.bind_eq_some_iff.mp H
         obtain ⟨⟨t162,t163,t164,t167⟩,A430,H⟩:=H
         replace H:(if t163=0 then(if t162=(((rd_T24 l0 a1).f4).size:Int) then(racewayref25_may.j1 kj7 l0 a1 a2 a4 ((rd_T24 l0 a1).f0) ((rd_T24 l0 a1).f1) ((rd_T24 l0 a1).f2) ((rd_T24 l0 a1).f3) ((rd_T24 l0 a1).f4)) else(some (-1))) else(some (-1)))=some r:=H
         have A43:=Aside0.mk A430
         clear A430
         by_cases c44:t163=0
         ·rw [if_pos c44] at H
          have c44b0:(t163==0)=true:=beq_iff_eq.mpr c44
          have c44b1:(t163 != 0)=false:=bne_eq_false_iff_eq.mpr c44
          clear c44
          by_cases c45:t162=(((rd_T24 l0 a1).f4).size:Int)
          ·rw [if_pos c45] at H
           have c45b0:(t162==(((rd_T24 l0 a1).f4).size:Int))=true:=beq_iff_eq.mpr c45
           have c45b1:(t162 != (((rd_T24 l0 a1).f4).size:Int))=false:=bne_eq_false_iff_eq.mpr c45
           clear c45
           have H':=Aside0.mk H
           clear H
           have hcz46_0:wc.cell? ⟨gb157,0,none⟩=some (.int .i64 ((rd_T24 l0 a1).f0)):=(blk_cell BK157.out 0).trans rfl
           have hcz46_1:wc.cell? ⟨gb157,1,none⟩=some (.int .i64 ((rd_T24 l0 a1).f1)):=(blk_cell BK157.out 1).trans rfl
           have hcz46_2:wc.cell? ⟨gb157,2,none⟩=some (.int .i64 ((rd_T24 l0 a1).f2)):=(blk_cell BK157.out 2).trans rfl
           have hcz46_3:wc.cell? ⟨gb157,3,none⟩=some (.string ((rd_T24 l0 a1).f3)):=(blk_cell BK157.out 3).trans rfl
           have hcz46_4:wc.cell? ⟨gb157,4,none⟩=some (.string ((rd_T24 l0 a1).f4)):=(blk_cell BK157.out 4).trans rfl
           go_wp2_with (first|((with_reducible refine gate_callee (f:=51) rfl ?_);refine goesL_ (some 75) rfl rfl Tryd.func51 au2 rfl #[.string ((rd_T24 l0 a1).f4),.int .i64 0] rfl au10 ?_;(with_reducible refine(racewayref25_number.calls kj7 ((rd_T24 l0 a1).f4) 0 t162 t163 t164 t167 _ A43.out).mono ?_);rintro e w47 ⟨v165,rfl,ho0,hb⟩;refine ⟨_,rfl,?_⟩;have n0_:=Aside0.mk (Kd.R_lower (Kd.R_newB ho0 (g:=gb157) (o:=.cells #[.int .i64 ((rd_T24 l0 a1).f0),.int .i64 ((rd_T24 l0 a1).f1),.int .i64 ((rd_T24 l0 a1).f2),.string ((rd_T24 l0 a1).f3),.string ((rd_T24 l0 a1).f4)] 24 (0,0)) (by(with_reducible repeat(first|refine blk_drewN ?_ _|refine blk_drew ?_|refine blk_alloc ?_ _));exact BK157.out)) (below_size (by repeat(first|(with_reducible first|exact HB.out|apply below_alloc|apply pw_below_drewN|apply below_drew1|refine below_set ?_ GE157.out)|exact HB.out))));have n1_:=Aside0.mk (blk_below (g:=gb157) (o:=.cells #[.int .i64 ((rd_T24 l0 a1).f0),.int .i64 ((rd_T24 l0 a1).f1),.int .i64 ((rd_T24 l0 a1).f2),.string ((rd_T24 l0 a1).f3),.string ((rd_T24 l0 a1).f4)] 24 (0,0)) (by(with_reducible repeat(first|refine blk_drewN ?_ _|refine blk_drew ?_|refine blk_alloc ?_ _));exact BK157.out) hb);have n2_:=Aside0.mk (below_step (by repeat(first|(with_reducible first|exact HB.out|apply below_alloc|apply pw_below_drewN|apply below_drew1|refine below_set ?_ GE157.out)|exact HB.out)) hb);clear BK157;clear HB;have HO166:=n0_;have BK157:=n1_;have HB:=n2_;clear n0_ n1_ n2_;(try clear hb);(try clear hb2);(try clear hk);(try clear hi);(try clear ho0))|((with_reducible refine gate_dst (N:=12) rfl ?_);(try(refine gate_guard au6 ?_;dsimp only));refine box_event ?hg (N:=12) ?hd (cs:=#[.int .i64 0,.int .i64 0,.slice none 0 0,.string (⟨#[]⟩:ByteArray)]) (t:=92) ?hr ?_;(case hd=>rfl);(case hg=>rfl);(case hr=>first|(go_simp;done)|(go_simp;rfl));intro gb168 hg w48 hbox hb;have n0_:=Aside0.mk (Kd.R_below au66 hb);have n1_:=Aside0.mk (blk_below (g:=gb157) (o:=.cells #[.int .i64 ((rd_T24 l0 a1).f0),.int .i64 ((rd_T24 l0 a1).f1),.int .i64 ((rd_T24 l0 a1).f2),.string ((rd_T24 l0 a1).f3),.string ((rd_T24 l0 a1).f4)] 24 (0,0)) (by(with_reducible repeat(first|refine blk_drewN ?_ _|refine blk_drew ?_|refine blk_alloc ?_ _));exact BK157.out) hb);have n2_:=Aside0.mk (below_step (by repeat(first|(with_reducible first|exact HB.out|apply below_alloc|apply pw_below_drewN|apply below_drew1|refine below_set ?_ GE157.out)|exact HB.out)) hb);have n3_:=Aside0.mk (hbox);have n4_:=Aside0.mk ((by rw [hg];exact(below_size (by repeat(first|(with_reducible first|exact HB.out|apply below_alloc|apply pw_below_drewN|apply below_drew1|refine below_set ?_ GE157.out)|exact HB.out))):w.heap.size≤gb168));have n5_:=Aside0.mk ((by rw [hg];exact(below_size (by repeat(first|(with_reducible first|exact HB.out|apply below_alloc|apply pw_below_drewN|apply below_drew1|refine below_set ?_ GE157.out)|exact HB.out))):w.heap.size≤gb168));have n6_:=Aside0.mk ((by rw [hg];exact Nat.ne_of_lt (blk_lt (g:=gb157) (o:=.cells #[.int .i64 ((rd_T24 l0 a1).f0),.int .i64 ((rd_T24 l0 a1).f1),.int .i64 ((rd_T24 l0 a1).f2),.string ((rd_T24 l0 a1).f3),.string ((rd_T24 l0 a1).f4)] 24 (0,0)) (by(with_reducible repeat(first|refine blk_drewN ?_ _|refine blk_drew ?_|refine blk_alloc ?_ _));exact BK157.out)):gb157≠gb168));have n7_:=Aside0.mk ((by rw [hg];exact Nat.ne_of_gt (blk_lt (g:=gb157) (o:=.cells #[.int .i64 ((rd_T24 l0 a1).f0),.int .i64 ((rd_T24 l0 a1).f1),.int .i64 ((rd_T24 l0 a1).f2),.string ((rd_T24 l0 a1).f3),.string ((rd_T24 l0 a1).f4)] 24 (0,0)) (by(with_reducible repeat(first|refine blk_drewN ?_ _|refine blk_drew ?_|refine blk_alloc ?_ _));exact BK157.out)):gb168≠gb157));clear HO166;clear BK157;clear HB;have HO166:=n0_;have BK157:=n1_;have HB:=n2_;have BK168:=n3_;have GW168:=n4_;have GE168:=n5_;have NB157_168:=n6_;have NB168_157:=n7_;clear n0_ n1_ n2_ n3_ n4_ n5_ n6_ n7_;clear hb hbox hg;have hnb49:=NB168_157.out;have hnc49:=NB157_168.out;have hcz50_0:w48.cell? ⟨gb168,0,none⟩=some (.int .i64 0):=(blk_cell BK168.out 0).trans rfl;have hcz50_1:w48.cell? ⟨gb168,1,none⟩=some (.int .i64 0):=(blk_cell BK168.out 1).trans rfl;have hcz50_2:w48.cell? ⟨gb168,2,none⟩=some (.slice none 0 0):=(blk_cell BK168.out 2).trans rfl;have hcz50_3:w48.cell? ⟨gb168,3,none⟩=some (.string (⟨#[]⟩:ByteArray)):=(blk_cell BK168.out 3).trans rfl;have hfz50_0:=blk_frozen BK168.out 0;have hfz50_1:=blk_frozen BK168.out 1;have hfz50_2:=blk_frozen BK168.out 2;have hfz50_3:=blk_frozen BK168.out 3;obtain ⟨Ao51,co51,eo51⟩:=Kd.R_slice HO166.out;subst eo51;have hcz52_0:w48.cell? ⟨gb157,0,none⟩=some (.int .i64 ((rd_T24 l0 a1).f0)):=(blk_cell BK157.out 0).trans rfl;have hcz52_1:w48.cell? ⟨gb157,1,none⟩=some (.int .i64 ((rd_T24 l0 a1).f1)):=(blk_cell BK157.out 1).trans rfl;have hcz52_2:w48.cell? ⟨gb157,2,none⟩=some (.int .i64 ((rd_T24 l0 a1).f2)):=(blk_cell BK157.out 2).trans rfl;have hcz52_3:w48.cell? ⟨gb157,3,none⟩=some (.string ((rd_T24 l0 a1).f3)):=(blk_cell BK157.out 3).trans rfl;have hcz52_4:w48.cell? ⟨gb157,4,none⟩=some (.string ((rd_T24 l0 a1).f4)):=(blk_cell BK157.out 4).trans rfl;have hfz52_0:=blk_frozen BK157.out 0;have hfz52_1:=blk_frozen BK157.out 1;have hfz52_2:=blk_frozen BK157.out 2;have hfz52_3:=blk_frozen BK157.out 3;have hfz52_4:=blk_frozen BK157.out 4))
           go_meet
           case rel=>exact ⟨_,au9,⟨au54⟩,⟨by(with_reducible repeat(first|refine blk_drewN ?_ _|refine blk_drew ?_|refine blk_alloc ?_ _));refine blk_far ?_ NB157_168.out _;(with_reducible repeat(first|refine blk_drewN ?_ _|refine blk_drew ?_|refine blk_alloc ?_ _));refine blk_far ?_ NB157_168.out _;(with_reducible repeat(first|refine blk_drewN ?_ _|refine blk_drew ?_|refine blk_alloc ?_ _));refine blk_far ?_ NB157_168.out _;(with_reducible repeat(first|refine blk_drewN ?_ _|refine blk_drew ?_|refine blk_alloc ?_ _));refine blk_far ?_ NB157_168.out _;(with_reducible repeat(first|refine blk_drewN ?_ _|refine blk_drew ?_|refine blk_alloc ?_ _));exact BK157.out⟩,⟨by repeat(first|(with_reducible first|exact HB.out|apply below_alloc|apply pw_below_drewN|apply below_drew1|refine below_set ?_ GE157.out|refine below_set ?_ GE168.out)|exact HB.out)⟩⟩
          ·rw [if_neg c45] at H
           have c45b0:(t162==(((rd_T24 l0 a1).f4).size:Int))=false:=beq_eq_false_iff_ne.mpr c45
           have c45b1:(t162 != (((rd_T24 l0 a1).f4).size:Int))=true:=bne_iff_ne.mpr c45
           obtain rfl:=Option.some.inj H
           have hcz53_0:wc.cell? ⟨gb157,0,none⟩=some (.int .i64 ((rd_T24 l0 a1).f0)):=(blk_cell BK157.out 0).trans rfl
           have hcz53_1:wc.cell? ⟨gb157,1,none⟩=some (.int .i64 ((rd_T24 l0 a1).f1)):=(blk_cell BK157.out 1).trans rfl
           have hcz53_2:wc.cell? ⟨gb157,2,none⟩=some (.int .i64 ((rd_T24 l0 a1).f2)):=(blk_cell BK157.out 2).trans rfl
           have hcz53_3:wc.cell? ⟨gb157,3,none⟩=some (.string ((rd_T24 l0 a1).f3)):=(blk_cell BK157.out 3).trans rfl
           have hcz53_4:wc.cell? ⟨gb157,4,none⟩=some (.string ((rd_T24 l0 a1).f4)):=(blk_cell BK157.out 4).trans rfl
           go_wp2_with (first|((with_reducible refine gate_callee (f:=51) rfl ?_);refine goesL_ (some 75) rfl rfl Tryd.func51 au2 rfl #[.string ((rd_T24 l0 a1).f4),.int .i64 0] rfl au10 ?_;(with_reducible refine(racewayref25_number.calls kj7 ((rd_T24 l0 a1).f4) 0 t162 t163 t164 t167 _ A43.out).mono ?_);rintro e w54 ⟨v165,rfl,ho0,hb⟩;refine ⟨_,rfl,?_⟩;have n0_:=Aside0.mk (Kd.R_lower (Kd.R_newB ho0 (g:=gb157) (o:=.cells #[.int .i64 ((rd_T24 l0 a1).f0),.int .i64 ((rd_T24 l0 a1).f1),.int .i64 ((rd_T24 l0 a1).f2),.string ((rd_T24 l0 a1).f3),.string ((rd_T24 l0 a1).f4)] 24 (0,0)) (by(with_reducible repeat(first|refine blk_drewN ?_ _|refine blk_drew ?_|refine blk_alloc ?_ _));exact BK157.out)) (below_size (by repeat(first|(with_reducible first|exact HB.out|apply below_alloc|apply pw_below_drewN|apply below_drew1|refine below_set ?_ GE157.out)|exact HB.out))));have n1_:=Aside0.mk (blk_below (g:=gb157) (o:=.cells #[.int .i64 ((rd_T24 l0 a1).f0),.int .i64 ((rd_T24 l0 a1).f1),.int .i64 ((rd_T24 l0 a1).f2),.string ((rd_T24 l0 a1).f3),.string ((rd_T24 l0 a1).f4)] 24 (0,0)) (by(with_reducible repeat(first|refine blk_drewN ?_ _|refine blk_drew ?_|refine blk_alloc ?_ _));exact BK157.out) hb);have n2_:=Aside0.mk (below_step (by repeat(first|(with_reducible first|exact HB.out|apply below_alloc|apply pw_below_drewN|apply below_drew1|refine below_set ?_ GE157.out)|exact HB.out)) hb);clear BK157;clear HB;have HO166:=n0_;have BK157:=n1_;have HB:=n2_;clear n0_ n1_ n2_;(try clear hb);(try clear hb2);(try clear hk);(try clear hi);(try clear ho0))|((with_reducible refine gate_dst (N:=12) rfl ?_);(try(refine gate_guard au6 ?_;dsimp only));refine box_event ?hg (N:=12) ?hd (cs:=#[.int .i64 0,.int .i64 0,.slice none 0 0,.string (⟨#[]⟩:ByteArray)]) (t:=92) ?hr ?_;(case hd=>rfl);(case hg=>rfl);(case hr=>first|(go_simp;done)|(go_simp;rfl));intro gb168 hg w55 hbox hb;have n0_:=Aside0.mk (Kd.R_below au66 hb);have n1_:=Aside0.mk (blk_below (g:=gb157) (o:=.cells #[.int .i64 ((rd_T24 l0 a1).f0),.int .i64 ((rd_T24 l0 a1).f1),.int .i64 ((rd_T24 l0 a1).f2),.string ((rd_T24 l0 a1).f3),.string ((rd_T24 l0 a1).f4)] 24 (0,0)) (by(with_reducible repeat(first|refine blk_drewN ?_ _|refine blk_drew ?_|refine blk_alloc ?_ _));exact BK157.out) hb);have n2_:=Aside0.mk (below_step (by repeat(first|(with_reducible first|exact HB.out|apply below_alloc|apply pw_below_drewN|apply below_drew1|refine below_set ?_ GE157.out)|exact HB.out)) hb);have n3_:=Aside0.mk (hbox);have n4_:=Aside0.mk ((by rw [hg];exact(below_size (by repeat(first|(with_reducible first|exact HB.out|apply below_alloc|apply pw_below_drewN|apply below_drew1|refine below_set ?_ GE157.out)|exact HB.out))):w.heap.size≤gb168));have n5_:=Aside0.mk ((by rw [hg];exact(below_size (by repeat(first|(with_reducible first|exact HB.out|apply below_alloc|apply pw_below_drewN|apply below_drew1|refine below_set ?_ GE157.out)|exact HB.out))):w.heap.size≤gb168));have n6_:=Aside0.mk ((by rw [hg];exact Nat.ne_of_lt (blk_lt (g:=gb157) (o:=.cells #[.int .i64 ((rd_T24 l0 a1).f0),.int .i64 ((rd_T24 l0 a1).f1),.int .i64 ((rd_T24 l0 a1).f2),.string ((rd_T24 l0 a1).f3),.string ((rd_T24 l0 a1).f4)] 24 (0,0)) (by(with_reducible repeat(first|refine blk_drewN ?_ _|refine blk_drew ?_|refine blk_alloc ?_ _));exact BK157.out)):gb157≠gb168));have n7_:=Aside0.mk ((by rw [hg];exact Nat.ne_of_gt (blk_lt (g:=gb157) (o:=.cells #[.int .i64 ((rd_T24 l0 a1).f0),.int .i64 ((rd_T24 l0 a1).f1),.int .i64 ((rd_T24 l0 a1).f2),.string ((rd_T24 l0 a1).f3),.string ((rd_T24 l0 a1).f4)] 24 (0,0)) (by(with_reducible repeat(first|refine blk_drewN ?_ _|refine blk_drew ?_|refine blk_alloc ?_ _));exact BK157.out)):gb168≠gb157));clear HO166;clear BK157;clear HB;have HO166:=n0_;have BK157:=n1_;have HB:=n2_;have BK168:=n3_;have GW168:=n4_;have GE168:=n5_;have NB157_168:=n6_;have NB168_157:=n7_;clear n0_ n1_ n2_ n3_ n4_ n5_ n6_ n7_;clear hb hbox hg;have hnb56:=NB168_157.out;have hnc56:=NB157_168.out;have hcz57_0:w55.cell? ⟨gb168,0,none⟩=some (.int .i64 0):=(blk_cell BK168.out 0).trans rfl;have hcz57_1:w55.cell? ⟨gb168,1,none⟩=some (.int .i64 0):=(blk_cell BK168.out 1).trans rfl;have hcz57_2:w55.cell? ⟨gb168,2,none⟩=some (.slice none 0 0):=(blk_cell BK168.out 2).trans rfl;have hcz57_3:w55.cell? ⟨gb168,3,none⟩=some (.string (⟨#[]⟩:ByteArray)):=(blk_cell BK168.out 3).trans rfl;have hfz57_0:=blk_frozen BK168.out 0;have hfz57_1:=blk_frozen BK168.out 1;have hfz57_2:=blk_frozen BK168.out 2;have hfz57_3:=blk_frozen BK168.out 3;obtain ⟨Ao58,co58,eo58⟩:=Kd.R_slice HO166.out;subst eo58;have hcz59_0:w55.cell? ⟨gb157,0,none⟩=some (.int .i64 ((rd_T24 l0 a1).f0)):=(blk_cell BK157.out 0).trans rfl;have hcz59_1:w55.cell? ⟨gb157,1,none⟩=some (.int .i64 ((rd_T24 l0 a1).f1)):=(blk_cell BK157.out 1).trans rfl;have hcz59_2:w55.cell? ⟨gb157,2,none⟩=some (.int .i64 ((rd_T24 l0 a1).f2)):=(blk_cell BK157.out 2).trans rfl;have hcz59_3:w55.cell? ⟨gb157,3,none⟩=some (.string ((rd_T24 l0 a1).f3)):=(blk_cell BK157.out 3).trans rfl;have hcz59_4:w55.cell? ⟨gb157,4,none⟩=some (.string ((rd_T24 l0 a1).f4)):=(blk_cell BK157.out 4).trans rfl;have hfz59_0:=blk_frozen BK157.out 0;have hfz59_1:=blk_frozen BK157.out 1;have hfz59_2:=blk_frozen BK157.out 2;have hfz59_3:=blk_frozen BK157.out 3;have hfz59_4:=blk_frozen BK157.out 4))
           go_ret
           exact ⟨au12,by repeat(first|(with_reducible first|exact HB.out|apply below_alloc|apply pw_below_drewN|apply below_drew1|refine below_set ?_ GE157.out|refine below_set ?_ GE168.out)|exact HB.out)⟩
         ·rw [if_neg c44] at H
          have c44b0:(t163==0)=false:=beq_eq_false_iff_ne.mpr c44
          have c44b1:(t163 != 0)=true:=bne_iff_ne.mpr c44
          obtain rfl:=Option.some.inj H
          have hcz60_0:wc.cell? ⟨gb157,0,none⟩=some (.int .i64 ((rd_T24 l0 a1).f0)):=(blk_cell BK157.out 0).trans rfl
          have hcz60_1:wc.cell? ⟨gb157,1,none⟩=some (.int .i64 ((rd_T24 l0 a1).f1)):=(blk_cell BK157.out 1).trans rfl
          have hcz60_2:wc.cell? ⟨gb157,2,none⟩=some (.int .i64 ((rd_T24 l0 a1).f2)):=(blk_cell BK157.out 2).trans rfl
          have hcz60_3:wc.cell? ⟨gb157,3,none⟩=some (.string ((rd_T24 l0 a1).f3)):=(blk_cell BK157.out 3).trans rfl
          have hcz60_4:wc.cell? ⟨gb157,4,none⟩=some (.string ((rd_T24 l0 a1).f4)):=(blk_cell BK157.out 4).trans rfl
          go_wp2_with (first|((with_reducible refine gate_callee (f:=51) rfl ?_);refine goesL_ (some 75) rfl rfl Tryd.func51 au2 rfl #[.string ((rd_T24 l0 a1).f4),.int .i64 0] rfl au10 ?_;(with_reducible refine(racewayref25_number.calls kj7 ((rd_T24 l0 a1).f4) 0 t162 t163 t164 t167 _ A43.out).mono ?_);rintro e w61 ⟨v165,rfl,ho0,hb⟩;refine ⟨_,rfl,?_⟩;have n0_:=Aside0.mk (Kd.R_lower (Kd.R_newB ho0 (g:=gb157) (o:=.cells #[.int .i64 ((rd_T24 l0 a1).f0),.int .i64 ((rd_T24 l0 a1).f1),.int .i64 ((rd_T24 l0 a1).f2),.string ((rd_T24 l0 a1).f3),.string ((rd_T24 l0 a1).f4)] 24 (0,0)) (by(with_reducible repeat(first|refine blk_drewN ?_ _|refine blk_drew ?_|refine blk_alloc ?_ _));exact BK157.out)) (below_size (by repeat(first|(with_reducible first|exact HB.out|apply below_alloc|apply pw_below_drewN|apply below_drew1|refine below_set ?_ GE157.out)|exact HB.out))));have n1_:=Aside0.mk (blk_below (g:=gb157) (o:=.cells #[.int .i64 ((rd_T24 l0 a1).f0),.int .i64 ((rd_T24 l0 a1).f1),.int .i64 ((rd_T24 l0 a1).f2),.string ((rd_T24 l0 a1).f3),.string ((rd_T24 l0 a1).f4)] 24 (0,0)) (by(with_reducible repeat(first|refine blk_drewN ?_ _|refine blk_drew ?_|refine blk_alloc ?_ _));exact BK157.out) hb);have n2_:=Aside0.mk (below_step (by repeat(first|(with_reducible first|exact HB.out|apply below_alloc|apply pw_below_drewN|apply below_drew1|refine below_set ?_ GE157.out)|exact HB.out)) hb);clear BK157;clear HB;have HO166:=n0_;have BK157:=n1_;have HB:=n2_;clear n0_ n1_ n2_;(try clear hb);(try clear hb2);(try clear hk);(try clear hi);(try clear ho0))|((with_reducible refine gate_dst (N:=12) rfl ?_);(try(refine gate_guard au6 ?_;dsimp only));refine box_event ?hg (N:=12) ?hd (cs:=#[.int .i64 0,.int .i64 0,.slice none 0 0,.string (⟨#[]⟩:ByteArray)]) (t:=92) ?hr ?_;(case hd=>rfl);(case hg=>rfl);(case hr=>first|(go_simp;done)|(go_simp;rfl));intro gb168 hg w62 hbox hb;have n0_:=Aside0.mk (Kd.R_below au66 hb);have n1_:=Aside0.mk (blk_below (g:=gb157) (o:=.cells #[.int .i64 ((rd_T24 l0 a1).f0),.int .i64 ((rd_T24 l0 a1).f1),.int .i64 ((rd_T24 l0 a1).f2),.string ((rd_T24 l0 a1).f3),.string ((rd_T24 l0 a1).f4)] 24 (0,0)) (by(with_reducible repeat(first|refine blk_drewN ?_ _|refine blk_drew ?_|refine blk_alloc ?_ _));exact BK157.out) hb);have n2_:=Aside0.mk (below_step (by repeat(first|(with_reducible first|exact HB.out|apply below_alloc|apply pw_below_drewN|apply below_drew1|refine below_set ?_ GE157.out)|exact HB.out)) hb);have n3_:=Aside0.mk (hbox);have n4_:=Aside0.mk ((by rw [hg];exact(below_size (by repeat(first|(with_reducible first|exact HB.out|apply below_alloc|apply pw_below_drewN|apply below_drew1|refine below_set ?_ GE157.out)|exact HB.out))):w.heap.size≤gb168));have n5_:=Aside0.mk ((by rw [hg];exact(below_size (by repeat(first|(with_reducible first|exact HB.out|apply below_alloc|apply pw_below_drewN|apply below_drew1|refine below_set ?_ GE157.out)|exact HB.out))):w.heap.size≤gb168));have n6_:=Aside0.mk ((by rw [hg];exact Nat.ne_of_lt (blk_lt (g:=gb157) (o:=.cells #[.int .i64 ((rd_T24 l0 a1).f0),.int .i64 ((rd_T24 l0 a1).f1),.int .i64 ((rd_T24 l0 a1).f2),.string ((rd_T24 l0 a1).f3),.string ((rd_T24 l0 a1).f4)] 24 (0,0)) (by(with_reducible repeat(first|refine blk_drewN ?_ _|refine blk_drew ?_|refine blk_alloc ?_ _));exact BK157.out)):gb157≠gb168));have n7_:=Aside0.mk ((by rw [hg];exact Nat.ne_of_gt (blk_lt (g:=gb157) (o:=.cells #[.int .i64 ((rd_T24 l0 a1).f0),.int .i64 ((rd_T24 l0 a1).f1),.int .i64 ((rd_T24 l0 a1).f2),.string ((rd_T24 l0 a1).f3),.string ((rd_T24 l0 a1).f4)] 24 (0,0)) (by(with_reducible repeat(first|refine blk_drewN ?_ _|refine blk_drew ?_|refine blk_alloc ?_ _));exact BK157.out)):gb168≠gb157));clear HO166;clear BK157;clear HB;have HO166:=n0_;have BK157:=n1_;have HB:=n2_;have BK168:=n3_;have GW168:=n4_;have GE168:=n5_;have NB157_168:=n6_;have NB168_157:=n7_;clear n0_ n1_ n2_ n3_ n4_ n5_ n6_ n7_;clear hb hbox hg;have hnb63:=NB168_157.out;have hnc63:=NB157_168.out;have hcz64_0:w62.cell? ⟨gb168,0,none⟩=some (.int .i64 0):=(blk_cell BK168.out 0).trans rfl;have hcz64_1:w62.cell? ⟨gb168,1,none⟩=some (.int .i64 0):=(blk_cell BK168.out 1).trans rfl;have hcz64_2:w62.cell? ⟨gb168,2,none⟩=some (.slice none 0 0):=(blk_cell BK168.out 2).trans rfl;have hcz64_3:w62.cell? ⟨gb168,3,none⟩=some (.string (⟨#[]⟩:ByteArray)):=(blk_cell BK168.out 3).trans rfl;have hfz64_0:=blk_frozen BK168.out 0;have hfz64_1:=blk_frozen BK168.out 1;have hfz64_2:=blk_frozen BK168.out 2;have hfz64_3:=blk_frozen BK168.out 3;obtain ⟨Ao65,co65,eo65⟩:=Kd.R_slice HO166.out;subst eo65))
          go_ret
          exact ⟨au12,by repeat(first|(with_reducible first|exact HB.out|apply below_alloc|apply pw_below_drewN|apply below_drew1|refine below_set ?_ GE157.out|refine below_set ?_ GE168.out)|exact HB.out)⟩
       ·rw [if_neg c40] at H
        have c40b0:(((rd_T24 l0 a1).f0)==4)=false:=beq_eq_false_iff_ne.mpr c40
        have c40b1:(((rd_T24 l0 a1).f0) != 4)=true:=bne_iff_ne.mpr c40
        (first|rw [c40b0]|(simp only [i64_w,i32_w];rw [c40b0])|skip)
        have H':=Aside0.mk H
        clear H
        go_wp2
        go_meet
        case rel=>exact ⟨_,au9,⟨au54⟩,⟨by(with_reducible repeat(first|refine blk_drewN ?_ _|refine blk_drew ?_|refine blk_alloc ?_ _));exact BK157.out⟩,⟨by repeat(first|(with_reducible first|exact HB.out|apply below_alloc|apply pw_below_drewN|apply below_drew1|refine below_set ?_ GE157.out)|exact HB.out)⟩⟩
      case rest =>
       clear HC38
       obtain ⟨kq,HA,HJ37,BK157,HB⟩:=hcut
       cases kq with
       | zero=>exact absurd HA.out (by simp [racewayref25_may.j1])
       | succ kj37 =>
        have H:=HA.out
        clear HA
        simp only [racewayref25_may.j1] at H
        have HC66:=Aside0.mk H
        clear H
        go_upto_region 10 with(fail)
        go_cut [110] (fun v110 wc=>∃(kq:Nat) (x110_65:Bool),v110=.bool x110_65∧Aside0 (racewayref25_may.j2 kq l0 a1 a2 a4 x110_65 ((rd_T24 l0 a1).f0) ((rd_T24 l0 a1).f1) ((rd_T24 l0 a1).f2) ((rd_T24 l0 a1).f3) ((rd_T24 l0 a1).f4)=some r)∧Aside0 (kq≤kj37)∧Aside0 (wc.heap[gb157]?=some (.cells #[.int .i64 ((rd_T24 l0 a1).f0),.int .i64 ((rd_T24 l0 a1).f1),.int .i64 ((rd_T24 l0 a1).f2),.string ((rd_T24 l0 a1).f3),.string ((rd_T24 l0 a1).f4)] 24 (0,0)))∧Aside0 (Below w.heap.size w wc))
        case first =>
         have H:=HC66.out
         clear HC66
         by_cases c67:((rd_T24 l0 a1).f0)=5
         ·rw [if_pos c67] at H
          have c67b0:(((rd_T24 l0 a1).f0)==5)=true:=beq_iff_eq.mpr c67
          have c67b1:(((rd_T24 l0 a1).f0) != 5)=false:=bne_eq_false_iff_eq.mpr c67
          clear c67
          (first|rw [c67b0]|(simp only [i64_w,i32_w];rw [c67b0])|skip)
          replace H:=Option.bind_eq_some_iff.mp H
          obtain ⟨t169,A680,H⟩:=H
          replace H:(if t169=true then(if((rd_T24 l0 a1).f0)=4 then(racewayref25_may.j2 kj37 l0 a1 a2 a4 false ((rd_T24 l0 a1).f0) ((rd_T24 l0 a1).f1) ((rd_T24 l0 a1).f2) ((rd_T24 l0 a1).f3) ((rd_T24 l0 a1).f4)) else(racewayref25_may.j2 kj37 l0 a1 a2 a4 false ((rd_T24 l0 a1).f0) ((rd_T24 l0 a1).f1) ((rd_T24 l0 a1).f2) ((rd_T24 l0 a1).f3) ((rd_T24 l0 a1).f4))) else(racewayref25_may.j2 kj37 l0 a1 a2 a4 true ((rd_T24 l0 a1).f0) ((rd_T24 l0 a1).f1) ((rd_T24 l0 a1).f2) ((rd_T24 l0 a1).f3) ((rd_T24 l0 a1).f4)))=some r:=H
          have A68:=Aside0.mk A680
          clear A680
          by_cases c69:t169=true
          ·subst c69
           replace H:(if((rd_T24 l0 a1).f0)=4 then(racewayref25_may.j2 kj37 l0 a1 a2 a4 false ((rd_T24 l0 a1).f0) ((rd_T24 l0 a1).f1) ((rd_T24 l0 a1).f2) ((rd_T24 l0 a1).f3) ((rd_T24 l0 a1).f4)) else(racewayref25_may.j2 kj37 l0 a1 a2 a4 false ((rd_T24 l0 a1).f0) ((rd_T24 l0 a1).f1) ((rd_T24 l0 a1).f2) ((rd_T24 l0 a1).f3) ((rd_T24 l0 a1).f4)))=some r:=by rw [if_pos rfl] at H;exact H
           by_cases c70:((rd_T24 l0 a1).f0)=4
           ·rw [if_pos c70] at H
            have c70b0:(((rd_T24 l0 a1).f0)==4)=true:=beq_iff_eq.mpr c70
            have c70b1:(((rd_T24 l0 a1).f0) != 4)=false:=bne_eq_false_iff_eq.mpr c70
            clear c70
            have H':=Aside0.mk H
            clear H
            have hcz71_0:wc.cell? ⟨gb157,0,none⟩=some (.int .i64 ((rd_T24 l0 a1).f0)):=(blk_cell BK157.out 0).trans rfl
            have hcz71_1:wc.cell? ⟨gb157,1,none⟩=some (.int .i64 ((rd_T24 l0 a1).f1)):=(blk_cell BK157.out 1).trans rfl
            have hcz71_2:wc.cell? ⟨gb157,2,none⟩=some (.int .i64 ((rd_T24 l0 a1).f2)):=(blk_cell BK157.out 2).trans rfl
            have hcz71_3:wc.cell? ⟨gb157,3,none⟩=some (.string ((rd_T24 l0 a1).f3)):=(blk_cell BK157.out 3).trans rfl
            have hcz71_4:wc.cell? ⟨gb157,4,none⟩=some (.string ((rd_T24 l0 a1).f4)):=(blk_cell BK157.out 4).trans rfl
            go_wp2_with (first|(go_at_call 31;(with_reducible refine(racewayref25_Valid.calls kj37 ((rd_T24 l0 a1).f4) true _ A68.out).mono ?_);rintro e w' ⟨rfl,⟨nd,rfl⟩⟩))
            go_meet
            case rel=>exact ⟨_,(false),au4,au9,⟨au42⟩,⟨by(with_reducible repeat(first|refine blk_drewN ?_ _|refine blk_drew ?_|refine blk_alloc ?_ _));exact BK157.out⟩,⟨by repeat(first|(with_reducible first|exact HB.out|apply below_alloc|apply pw_below_drewN|apply below_drew1|refine below_set ?_ GE157.out)|exact HB.out)⟩⟩
           ·rw [if_neg c70] at H
            have c70b0:(((rd_T24 l0 a1).f0)==4)=false:=beq_eq_false_iff_ne.mpr c70
            have c70b1:(((rd_T24 l0 a1).f0) != 4)=true:=bne_iff_ne.mpr c70
            have H':=Aside0.mk H
            clear H
            have hcz72_0:wc.cell? ⟨gb157,0,none⟩=some (.int .i64 ((rd_T24 l0 a1).f0)):=(blk_cell BK157.out 0).trans rfl
            have hcz72_1:wc.cell? ⟨gb157,1,none⟩=some (.int .i64 ((rd_T24 l0 a1).f1)):=(blk_cell BK157.out 1).trans rfl
            have hcz72_2:wc.cell? ⟨gb157,2,none⟩=some (.int .i64 ((rd_T24 l0 a1).f2)):=(blk_cell BK157.out 2).trans rfl
            have hcz72_3:wc.cell? ⟨gb157,3,none⟩=some (.string ((rd_T24 l0 a1).f3)):=(blk_cell BK157.out 3).trans rfl
            have hcz72_4:wc.cell? ⟨gb157,4,none⟩=some (.string ((rd_T24 l0 a1).f4)):=(blk_cell BK157.out 4).trans rfl
            go_wp2_with (first|(go_at_call 31;(with_reducible refine(racewayref25_Valid.calls kj37 ((rd_T24 l0 a1).f4) true _ A68.out).mono ?_);rintro e w' ⟨rfl,⟨nd,rfl⟩⟩))
            go_meet
            case rel=>exact ⟨_,(false),au4,au9,⟨au42⟩,⟨by(with_reducible repeat(first|refine blk_drewN ?_ _|refine blk_drew ?_|refine blk_alloc ?_ _));exact BK157.out⟩,⟨by repeat(first|(with_reducible first|exact HB.out|apply below_alloc|apply pw_below_drewN|apply below_drew1|refine below_set ?_ GE157.out)|exact HB.out)⟩⟩
          ·replace c69:=Bool.eq_false_iff.mpr c69
           subst c69
           replace H:(racewayref25_may.j2 kj37 l0 a1 a2 a4 true ((rd_T24 l0 a1).f0) ((rd_T24 l0 a1).f1) ((rd_T24 l0 a1).f2) ((rd_T24 l0 a1).f3) ((rd_T24 l0 a1).f4))=some r:=by rw [if_neg (show ¬ (false=true) by decide)] at H;exact H
           have H':=Aside0.mk H
           clear H
           have hcz73_0:wc.cell? ⟨gb157,0,none⟩=some (.int .i64 ((rd_T24 l0 a1).f0)):=(blk_cell BK157.out 0).trans rfl
           have hcz73_1:wc.cell? ⟨gb157,1,none⟩=some (.int .i64 ((rd_T24 l0 a1).f1)):=(blk_cell BK157.out 1).trans rfl
           have hcz73_2:wc.cell? ⟨gb157,2,none⟩=some (.int .i64 ((rd_T24 l0 a1).f2)):=(blk_cell BK157.out 2).trans rfl
           have hcz73_3:wc.cell? ⟨gb157,3,none⟩=some (.string ((rd_T24 l0 a1).f3)):=(blk_cell BK157.out 3).trans rfl
           have hcz73_4:wc.cell? ⟨gb157,4,none⟩=some (.string ((rd_T24 l0 a1).f4)):=(blk_cell BK157.out 4).trans rfl
           go_wp2_with (first|(go_at_call 31;(with_reducible refine(racewayref25_Valid.calls kj37 ((rd_T24 l0 a1).f4) false _ A68.out).mono ?_);rintro e w' ⟨rfl,⟨nd,rfl⟩⟩))
           go_meet
           case rel=>exact ⟨_,(true),au4,au9,⟨au42⟩,⟨by(with_reducible repeat(first|refine blk_drewN ?_ _|refine blk_drew ?_|refine blk_alloc ?_ _));exact BK157.out⟩,⟨by repeat(first|(with_reducible first|exact HB.out|apply below_alloc|apply pw_below_drewN|apply below_drew1|refine below_set ?_ GE157.out)|exact HB.out)⟩⟩
         ·rw [if_neg c67] at H
          have c67b0:(((rd_T24 l0 a1).f0)==5)=false:=beq_eq_false_iff_ne.mpr c67
          have c67b1:(((rd_T24 l0 a1).f0) != 5)=true:=bne_iff_ne.mpr c67
          (first|rw [c67b0]|(simp only [i64_w,i32_w];rw [c67b0])|skip)
          by_cases c74:((rd_T24 l0 a1).f0)=4
          ·rw [if_pos c74] at H
           have c74b0:(((rd_T24 l0 a1).f0)==4)=true:=beq_iff_eq.mpr c74
           have c74b1:(((rd_T24 l0 a1).f0) != 4)=false:=bne_eq_false_iff_eq.mpr c74
           clear c74
           have H':=Aside0.mk H
           clear H
           have hcz75_0:wc.cell? ⟨gb157,0,none⟩=some (.int .i64 ((rd_T24 l0 a1).f0)):=(blk_cell BK157.out 0).trans rfl
           have hcz75_1:wc.cell? ⟨gb157,1,none⟩=some (.int .i64 ((rd_T24 l0 a1).f1)):=(blk_cell BK157.out 1).trans rfl
           have hcz75_2:wc.cell? ⟨gb157,2,none⟩=some (.int .i64 ((rd_T24 l0 a1).f2)):=(blk_cell BK157.out 2).trans rfl
           have hcz75_3:wc.cell? ⟨gb157,3,none⟩=some (.string ((rd_T24 l0 a1).f3)):=(blk_cell BK157.out 3).trans rfl
           have hcz75_4:wc.cell? ⟨gb157,4,none⟩=some (.string ((rd_T24 l0 a1).f4)):=(blk_cell BK157.out 4).trans rfl
           go_wp2
           go_meet
           case rel=>exact ⟨_,(false),au4,au9,⟨au42⟩,⟨by(with_reducible repeat(first|refine blk_drewN ?_ _|refine blk_drew ?_|refine blk_alloc ?_ _));exact BK157.out⟩,⟨by repeat(first|(with_reducible first|exact HB.out|apply below_alloc|apply pw_below_drewN|apply below_drew1|refine below_set ?_ GE157.out)|exact HB.out)⟩⟩
          ·rw [if_neg c74] at H
           have c74b0:(((rd_T24 l0 a1).f0)==4)=false:=beq_eq_false_iff_ne.mpr c74
           have c74b1:(((rd_T24 l0 a1).f0) != 4)=true:=bne_iff_ne.mpr c74
           have H':=Aside0.mk H
           clear H
           have hcz76_0:wc.cell? ⟨gb157,0,none⟩=some (.int .i64 ((rd_T24 l0 a1).f0)):=(blk_cell BK157.out 0).trans rfl
           have hcz76_1:wc.cell? ⟨gb157,1,none⟩=some (.int .i64 ((rd_T24 l0 a1).f1)):=(blk_cell BK157.out 1).trans rfl
           have hcz76_2:wc.cell? ⟨gb157,2,none⟩=some (.int .i64 ((rd_T24 l0 a1).f2)):=(blk_cell BK157.out 2).trans rfl
           have hcz76_3:wc.cell? ⟨gb157,3,none⟩=some (.string ((rd_T24 l0 a1).f3)):=(blk_cell BK157.out 3).trans rfl
           have hcz76_4:wc.cell? ⟨gb157,4,none⟩=some (.string ((rd_T24 l0 a1).f4)):=(blk_cell BK157.out 4).trans rfl
           go_wp2
           go_meet
           case rel=>exact ⟨_,((((rd_T24 l0 a1).f4).toList != ([]:List UInt8))),(by first|(simp [show ∀ l:List UInt8,(l != [])=!l.isEmpty from fun l=>by cases l<;>rfl];done)|rfl|(simp;done)|(simp;decide +kernel)|(simp [*];done)),au9,⟨au42⟩,⟨by(with_reducible repeat(first|refine blk_drewN ?_ _|refine blk_drew ?_|refine blk_alloc ?_ _));exact BK157.out⟩,⟨by repeat(first|(with_reducible first|exact HB.out|apply below_alloc|apply pw_below_drewN|apply below_drew1|refine below_set ?_ GE157.out)|exact HB.out)⟩⟩
        case rest =>
         clear HC66
         obtain ⟨kq,x110_65,rfl,HA,HJ65,BK157,HB⟩:=hcut
         cases kq with
         | zero=>exact absurd HA.out (by simp [racewayref25_may.j2])
         | succ kj65 =>
          have H:=HA.out
          clear HA
          simp only [racewayref25_may.j2] at H
          by_cases c77:x110_65=true
          ·subst c77
           replace H:(some (-1))=some r:=by rw [if_pos rfl] at H;exact H
           obtain rfl:=Option.some.inj H
           go_wp2
           go_ret
           exact ⟨au12,by repeat(first|(with_reducible first|exact HB.out|apply below_alloc|apply pw_below_drewN|apply below_drew1|refine below_set ?_ GE157.out)|exact HB.out)⟩
          ·replace c77:=Bool.eq_false_iff.mpr c77
           subst c77
           replace H:(racewayref25_may.l0 kj65 l0 a1 a2 a4 (wrap64 (a1+1)) 0 ((rd_T24 l0 a1).f0) ((rd_T24 l0 a1).f1) ((rd_T24 l0 a1).f2) ((rd_T24 l0 a1).f3) ((rd_T24 l0 a1).f4))=some r:=by rw [if_neg (show ¬ (false=true) by decide)] at H;exact H
           have H':=Aside0.mk H
           clear H
           go_wp2
           go_loopg [13,14] kj65 (fun kq v13 v14 w'=>∃(x13_4:Int) (x14_4:Int),v13=.int .i64 x13_4∧v14=.int .i64 x14_4∧Aside0 (racewayref25_may.l0 kq l0 a1 a2 a4 x13_4 x14_4 ((rd_T24 l0 a1).f0) ((rd_T24 l0 a1).f1) ((rd_T24 l0 a1).f2) ((rd_T24 l0 a1).f3) ((rd_T24 l0 a1).f4)=some r)∧Aside0 (kq≤kj65)∧Aside0 (w'.heap[gb157]?=some (.cells #[.int .i64 ((rd_T24 l0 a1).f0),.int .i64 ((rd_T24 l0 a1).f1),.int .i64 ((rd_T24 l0 a1).f2),.string ((rd_T24 l0 a1).f3),.string ((rd_T24 l0 a1).f4)] 24 (0,0)))∧Aside0 (Below w.heap.size w w'))
           case atStart=>exact ⟨(wrap64 (a1+1)),(0),au4,au4,au9,⟨Nat.le_refl _⟩,⟨by(with_reducible repeat(first|refine blk_drewN ?_ _|refine blk_drew ?_|refine blk_alloc ?_ _));exact BK157.out⟩,⟨by repeat(first|(with_reducible first|exact HB.out|apply below_alloc|apply pw_below_drewN|apply below_drew1|refine below_set ?_ GE157.out)|exact HB.out)⟩⟩
           case round =>
            clear H'
            obtain ⟨x13_4,x14_4,rfl,rfl,HA,HK4,BK157,HB⟩:=hrel
            cases gk with
            | zero=>exact absurd HA.out (by simp [racewayref25_may.l0])
            | succ k4 =>
             have H:=HA.out
             clear HA
             simp only [racewayref25_may.l0] at H
             by_cases c78:x14_4<((rd_T24 l0 a1).f2)
             ·rw [if_pos c78] at H
              have c78b0:decide (x14_4<((rd_T24 l0 a1).f2))=true:=decide_eq_true c78
              clear c78
              by_cases c79:x13_4≥a2
              ·rw [if_pos c79] at H
               have c79b0:decide (a2≤x13_4)=true:=decide_eq_true c79
               clear c79
               obtain rfl:=Option.some.inj H
               have hcz80_0:wr.cell? ⟨gb157,0,none⟩=some (.int .i64 ((rd_T24 l0 a1).f0)):=(blk_cell BK157.out 0).trans rfl
               have hcz80_1:wr.cell? ⟨gb157,1,none⟩=some (.int .i64 ((rd_T24 l0 a1).f1)):=(blk_cell BK157.out 1).trans rfl
               have hcz80_2:wr.cell? ⟨gb157,2,none⟩=some (.int .i64 ((rd_T24 l0 a1).f2)):=(blk_cell BK157.out 2).trans rfl
               have hcz80_3:wr.cell? ⟨gb157,3,none⟩=some (.string ((rd_T24 l0 a1).f3)):=(blk_cell BK157.out 3).trans rfl
               have hcz80_4:wr.cell? ⟨gb157,4,none⟩=some (.string ((rd_T24 l0 a1).f4)):=(blk_cell BK157.out 4).trans rfl
               go_wp2
               go_ret
               exact ⟨au12,by repeat(first|(with_reducible first|exact HB.out|apply below_alloc|apply pw_below_drewN|apply below_drew1|refine below_set ?_ GE157.out)|exact HB.out)⟩
              ·rw [if_neg c79] at H
               have c79b0:decide (a2≤x13_4)=false:=decide_eq_false c79
               clear c79
               replace H:=Option.bind_eq_some_iff.mp H
               obtain ⟨t170,A810,H⟩:=H
               replace H:(if t170<0 then(some (-1)) else(racewayref25_may.l0 k4 l0 a1 a2 a4 t170 (wrap64 (x14_4+1)) ((rd_T24 l0 a1).f0) ((rd_T24 l0 a1).f1) ((rd_T24 l0 a1).f2) ((rd_T24 l0 a1).f3) ((rd_T24 l0 a1).f4)))=some r:=H
               have A81:=Aside0.mk A810
               clear A810
               by_cases c82:t170<0
               ·rw [if_pos c82] at H
                have c82b0:decide (t170<0)=true:=decide_eq_true c82
                clear c82
                obtain rfl:=Option.some.inj H
                have hcz83_0:wr.cell? ⟨gb157,0,none⟩=some (.int .i64 ((rd_T24 l0 a1).f0)):=(blk_cell BK157.out 0).trans rfl
                have hcz83_1:wr.cell? ⟨gb157,1,none⟩=some (.int .i64 ((rd_T24 l0 a1).f1)):=(blk_cell BK157.out 1).trans rfl
                have hcz83_2:wr.cell? ⟨gb157,2,none⟩=some (.int .i64 ((rd_T24 l0 a1).f2)):=(blk_cell BK157.out 2).trans rfl
                have hcz83_3:wr.cell? ⟨gb157,3,none⟩=some (.string ((rd_T24 l0 a1).f3)):=(blk_cell BK157.out 3).trans rfl
                have hcz83_4:wr.cell? ⟨gb157,4,none⟩=some (.string ((rd_T24 l0 a1).f4)):=(blk_cell BK157.out 4).trans rfl
                go_wp2_with (first|((with_reducible refine gate_callee (f:=35) rfl ?_);refine goesL_ (some 130) rfl rfl Tryd.func35 au2 rfl #[.slice (some ad156) l0.length c0,.int .i64 x13_4,.int .i64 a2,.bool (((rd_T24 l0 a1).f0)==7),.int .i64 (wrap64 (a4+1))] rfl au10 ?_;(with_reducible refine(ih k4 au67 _ _ l0 x13_4 a2 (((rd_T24 l0 a1).f0)==7) (wrap64 (a4+1)) t170 _ ?side1 ?side2 A81.out).mono ?_);(case side1=>repeat(first|exact(Kd.C_below HR0.out HB.out)|(with_reducible refine Kd.C_alloc ?_ _)|(with_reducible refine Kd.C_drewN ?_ _)|(with_reducible refine Kd.C_drew ?_)));(case side2=>exact HC0.out);rintro e w84 ⟨rfl,hb⟩;refine ⟨_,rfl,?_⟩;have n0_:=Aside0.mk (blk_below (g:=gb157) (o:=.cells #[.int .i64 ((rd_T24 l0 a1).f0),.int .i64 ((rd_T24 l0 a1).f1),.int .i64 ((rd_T24 l0 a1).f2),.string ((rd_T24 l0 a1).f3),.string ((rd_T24 l0 a1).f4)] 24 (0,0)) (by(with_reducible repeat(first|refine blk_drewN ?_ _|refine blk_drew ?_|refine blk_alloc ?_ _));exact BK157.out) hb);have n1_:=Aside0.mk (below_step (by repeat(first|(with_reducible first|exact HB.out|apply below_alloc|apply pw_below_drewN|apply below_drew1|refine below_set ?_ GE157.out)|exact HB.out)) hb);clear BK157;clear HB;have BK157:=n0_;have HB:=n1_;clear n0_ n1_;(try clear hb);(try clear hb2);(try clear hk);(try clear hi)))
                go_ret
                exact ⟨au12,by repeat(first|(with_reducible first|exact HB.out|apply below_alloc|apply pw_below_drewN|apply below_drew1|refine below_set ?_ GE157.out)|exact HB.out)⟩
               ·rw [if_neg c82] at H
                have c82b0:decide (t170<0)=false:=decide_eq_false c82
                clear c82
                have H':=Aside0.mk H
                clear H
                have hcz85_0:wr.cell? ⟨gb157,0,none⟩=some (.int .i64 ((rd_T24 l0 a1).f0)):=(blk_cell BK157.out 0).trans rfl
                have hcz85_1:wr.cell? ⟨gb157,1,none⟩=some (.int .i64 ((rd_T24 l0 a1).f1)):=(blk_cell BK157.out 1).trans rfl
                have hcz85_2:wr.cell? ⟨gb157,2,none⟩=some (.int .i64 ((rd_T24 l0 a1).f2)):=(blk_cell BK157.out 2).trans rfl
                have hcz85_3:wr.cell? ⟨gb157,3,none⟩=some (.string ((rd_T24 l0 a1).f3)):=(blk_cell BK157.out 3).trans rfl
                have hcz85_4:wr.cell? ⟨gb157,4,none⟩=some (.string ((rd_T24 l0 a1).f4)):=(blk_cell BK157.out 4).trans rfl
                go_wp2_with (first|((with_reducible refine gate_callee (f:=35) rfl ?_);refine goesL_ (some 130) rfl rfl Tryd.func35 au2 rfl #[.slice (some ad156) l0.length c0,.int .i64 x13_4,.int .i64 a2,.bool (((rd_T24 l0 a1).f0)==7),.int .i64 (wrap64 (a4+1))] rfl au10 ?_;(with_reducible refine(ih k4 au67 _ _ l0 x13_4 a2 (((rd_T24 l0 a1).f0)==7) (wrap64 (a4+1)) t170 _ ?side1 ?side2 A81.out).mono ?_);(case side1=>repeat(first|exact(Kd.C_below HR0.out HB.out)|(with_reducible refine Kd.C_alloc ?_ _)|(with_reducible refine Kd.C_drewN ?_ _)|(with_reducible refine Kd.C_drew ?_)));(case side2=>exact HC0.out);rintro e w86 ⟨rfl,hb⟩;refine ⟨_,rfl,?_⟩;have n0_:=Aside0.mk (blk_below (g:=gb157) (o:=.cells #[.int .i64 ((rd_T24 l0 a1).f0),.int .i64 ((rd_T24 l0 a1).f1),.int .i64 ((rd_T24 l0 a1).f2),.string ((rd_T24 l0 a1).f3),.string ((rd_T24 l0 a1).f4)] 24 (0,0)) (by(with_reducible repeat(first|refine blk_drewN ?_ _|refine blk_drew ?_|refine blk_alloc ?_ _));exact BK157.out) hb);have n1_:=Aside0.mk (below_step (by repeat(first|(with_reducible first|exact HB.out|apply below_alloc|apply pw_below_drewN|apply below_drew1|refine below_set ?_ GE157.out)|exact HB.out)) hb);clear BK157;clear HB;have BK157:=n0_;have HB:=n1_;clear n0_ n1_;(try clear hb);(try clear hb2);(try clear hk);(try clear hi)))
                go_roundg k4
                case measure=>have:=HJ7.out;have:=HJ37.out;have:=HJ65.out;have:=HK4.out;omega
                case rel=>exact ⟨(t170),(wrap64 (x14_4+1)),au4,au4,au9,⟨au67⟩,⟨by(with_reducible repeat(first|refine blk_drewN ?_ _|refine blk_drew ?_|refine blk_alloc ?_ _));exact BK157.out⟩,⟨by repeat(first|(with_reducible first|exact HB.out|apply below_alloc|apply pw_below_drewN|apply below_drew1|refine below_set ?_ GE157.out)|exact HB.out)⟩⟩
             ·rw [if_neg c78] at H
              have c78b0:decide (x14_4<((rd_T24 l0 a1).f2))=false:=decide_eq_false c78
              clear c78
              by_cases c87:((rd_T24 l0 a1).f1)=(wrap64 (x13_4 - a1))
              ·rw [if_pos c87] at H
               have c87b0:(((rd_T24 l0 a1).f1)==(wrap64 (x13_4 - a1)))=true:=beq_iff_eq.mpr c87
               have c87b1:(((rd_T24 l0 a1).f1) != (wrap64 (x13_4 - a1)))=false:=bne_eq_false_iff_eq.mpr c87
               clear c87
               obtain rfl:=Option.some.inj H
               have hcz88_0:wr.cell? ⟨gb157,0,none⟩=some (.int .i64 ((rd_T24 l0 a1).f0)):=(blk_cell BK157.out 0).trans rfl
               have hcz88_1:wr.cell? ⟨gb157,1,none⟩=some (.int .i64 ((rd_T24 l0 a1).f1)):=(blk_cell BK157.out 1).trans rfl
               have hcz88_2:wr.cell? ⟨gb157,2,none⟩=some (.int .i64 ((rd_T24 l0 a1).f2)):=(blk_cell BK157.out 2).trans rfl
               have hcz88_3:wr.cell? ⟨gb157,3,none⟩=some (.string ((rd_T24 l0 a1).f3)):=(blk_cell BK157.out 3).trans rfl
               have hcz88_4:wr.cell? ⟨gb157,4,none⟩=some (.string ((rd_T24 l0 a1).f4)):=(blk_cell BK157.out 4).trans rfl
               go_wp2
               go_ret
               exact ⟨au12,by repeat(first|(with_reducible first|exact HB.out|apply below_alloc|apply pw_below_drewN|apply below_drew1|refine below_set ?_ GE157.out)|exact HB.out)⟩
              ·rw [if_neg c87] at H
               have c87b0:(((rd_T24 l0 a1).f1)==(wrap64 (x13_4 - a1)))=false:=beq_eq_false_iff_ne.mpr c87
               have c87b1:(((rd_T24 l0 a1).f1) != (wrap64 (x13_4 - a1)))=true:=bne_iff_ne.mpr c87
               obtain rfl:=Option.some.inj H
               have hcz89_0:wr.cell? ⟨gb157,0,none⟩=some (.int .i64 ((rd_T24 l0 a1).f0)):=(blk_cell BK157.out 0).trans rfl
               have hcz89_1:wr.cell? ⟨gb157,1,none⟩=some (.int .i64 ((rd_T24 l0 a1).f1)):=(blk_cell BK157.out 1).trans rfl
               have hcz89_2:wr.cell? ⟨gb157,2,none⟩=some (.int .i64 ((rd_T24 l0 a1).f2)):=(blk_cell BK157.out 2).trans rfl
               have hcz89_3:wr.cell? ⟨gb157,3,none⟩=some (.string ((rd_T24 l0 a1).f3)):=(blk_cell BK157.out 3).trans rfl
               have hcz89_4:wr.cell? ⟨gb157,4,none⟩=some (.string ((rd_T24 l0 a1).f4)):=(blk_cell BK157.out 4).trans rfl
               go_wp2
               go_ret
               exact ⟨au12,by repeat(first|(with_reducible first|exact HB.out|apply below_alloc|apply pw_below_drewN|apply below_drew1|refine below_set ?_ GE157.out)|exact HB.out)⟩
  ·rw [if_neg c7] at H
   exact absurd H au5
 ·rw [if_neg c6] at H
  exact absurd H au5
def racewayref25_Check.f (k:Nat) (l0:List (S24)):Option (Int):=if(l0.length:Int)=0 then(some 2) else((racewayref25_may.f k l0 0 (l0.length:Int) false 0).bind fun t171=>(if t171=(l0.length:Int) then(some 0) else(some 2)))
set_option maxHeartbeats 8000000 in
set_option maxRecDepth 100000 in
theorem racewayref25_Check.calls (k:Nat) (A0:Option Addr) (c0:Nat) (l0:List (S24)) (r:Int) (w:World) (hr0:Kd.C k24 w A0 l0.length l0) (hc0:l0.length≤c0) (h:racewayref25_Check.f k l0=some r) :
  Calls Tryd.prog 18 #[.slice A0 l0.length c0] w fun e w'=>e=.returned (.int .i64 r)∧Below w.heap.size w w':=by
 have HR0:=Aside0.mk hr0
 have HC0:=Aside0.mk hc0
 clear hr0 hc0
 have HB:=Aside0.mk (Below.refl w.heap.size w)
 have H:(if(l0.length:Int)=0 then(some 2) else((racewayref25_may.f k l0 0 (l0.length:Int) false 0).bind fun t171=>(if t171=(l0.length:Int) then(some 0) else(some 2))))=some r:=h
 clear h
 by_cases c2:(l0.length:Int)=0
 ·rw [if_pos c2] at H
  have c2b0:((l0.length:Int)==0)=true:=beq_iff_eq.mpr c2
  have c2b1:((l0.length:Int) != 0)=false:=bne_eq_false_iff_eq.mpr c2
  clear c2
  obtain rfl:=Option.some.inj H
  go_enter Tryd.func18,Tryd.ntmps18
  go_wp2
  go_ret
  exact ⟨au12,au3⟩
 ·rw [if_neg c2] at H
  have c2b0:((l0.length:Int)==0)=false:=beq_eq_false_iff_ne.mpr c2
  have c2b1:((l0.length:Int) != 0)=true:=bne_iff_ne.mpr c2
  have c2b2:¬ (l0=[]):=fun h_=>c2 (by rw [h_];rfl)
  replace H:=Option.bind_eq_some_iff.mp H
  obtain ⟨t171,A30,H⟩:=H
  replace H:(if t171=(l0.length:Int) then(some 0) else(some 2))=some r:=H
  have A3:=Aside0.mk A30
  clear A30
  by_cases c4:t171=(l0.length:Int)
  ·rw [if_pos c4] at H
   have c4b0:(t171==(l0.length:Int))=true:=beq_iff_eq.mpr c4
   have c4b1:(t171 != (l0.length:Int))=false:=bne_eq_false_iff_eq.mpr c4
   clear c4
   obtain rfl:=Option.some.inj H
   go_enter Tryd.func18,Tryd.ntmps18
   go_wp2_with (first|(go_at_call 35;(with_reducible refine(racewayref25_may.calls k _ _ l0 0 (l0.length:Int) false 0 t171 _ ?side1 ?side2 A3.out).mono ?_);(case side1=>repeat(first|exact HR0.out|(with_reducible refine Kd.C_alloc ?_ _)|(with_reducible refine Kd.C_drewN ?_ _)|(with_reducible refine Kd.C_drew ?_)));(case side2=>exact HC0.out);rintro e w5 ⟨rfl,hb⟩;have n0_:=Aside0.mk (below_step au3 hb);clear HB;have HB:=n0_;clear n0_;(try clear hb);(try clear hb2);(try clear hk);(try clear hi)))
   go_ret
   exact ⟨au12,au3⟩
  ·rw [if_neg c4] at H
   have c4b0:(t171==(l0.length:Int))=false:=beq_eq_false_iff_ne.mpr c4
   have c4b1:(t171 != (l0.length:Int))=true:=bne_iff_ne.mpr c4
   obtain rfl:=Option.some.inj H
   go_enter Tryd.func18,Tryd.ntmps18
   go_wp2_with (first|(go_at_call 35;(with_reducible refine(racewayref25_may.calls k _ _ l0 0 (l0.length:Int) false 0 t171 _ ?side1 ?side2 A3.out).mono ?_);(case side1=>repeat(first|exact HR0.out|(with_reducible refine Kd.C_alloc ?_ _)|(with_reducible refine Kd.C_drewN ?_ _)|(with_reducible refine Kd.C_drew ?_)));(case side2=>exact HC0.out);rintro e w6 ⟨rfl,hb⟩;have n0_:=Aside0.mk (below_step au3 hb);clear HB;have HB:=n0_;clear n0_;(try clear hb);(try clear hb2);(try clear hk);(try clear hi)))
   go_ret
   exact ⟨au12,au3⟩
mutual
def racewayref25_Made.j0:Nat→Int→List ByteArray→List (List (S24))→Bool→Option ((List (S24)))
 | 0,_,_,_,_=>none
 | k+1,x0,x1,x2,x18=>if x18=true then(some ([]:List (S24))) else(racewayref25_Made.l0 k x0 x1 x2 (([(⟨x0,0,(x2.length:Int),(⟨#[]⟩:ByteArray),(⟨#[]⟩:ByteArray)⟩:S24)]:List (S24))) 0)
def racewayref25_Made.l0:Nat→Int→List ByteArray→List (List (S24))→List (S24)→Int→Option ((List (S24)))
 | 0,_,_,_,_,_=>none
 | k+1,x0,x1,x2,x7,x8=>if x8<(x2.length:Int) then(if 0≤x8 then((racewayref25_Check.f k (rd_L3 x2 x8)).bind fun t204=>(if t204=0 then(if x0=7 then(if x8<(x1.length:Int) then((racewayref25_Valid.f k (rdOf ByteArray.empty x1 x8)).bind fun t206=>(racewayref25_Made.j2 k x0 x1 x2 x7 x8 (!t206))) else(none)) else(racewayref25_Made.j2 k x0 x1 x2 x7 x8 false)) else(racewayref25_Made.j2 k x0 x1 x2 x7 x8 true))) else(none)) else(if 0<(x7.length:Int) then(some (x7.set (0:Int).toNat (⟨(rd_T24 x7 0).f0,(x7.length:Int),(rd_T24 x7 0).f2,(rd_T24 x7 0).f3,(rd_T24 x7 0).f4⟩:S24))) else(none))
def racewayref25_Made.j2:Nat→Int→List ByteArray→List (List (S24))→List (S24)→Int→Bool→Option ((List (S24)))
 | 0,_,_,_,_,_,_=>none
 | k+1,x0,x1,x2,x7,x8,x47=>if x47=true then(some ([]:List (S24))) else(if 0≤x8 then(if x8<(x2.length:Int) then(if x7.length+(rd_L3 x2 x8).length<2513169434916 then((some (x7++(rd_L3 x2 x8):List (S24))).bind fun y208=>(if x0=7 then(if x8<(x1.length:Int) then(if 0≤(x7.length:Int) then(if(x7.length:Int)<(y208.length:Int) then(racewayref25_Made.l0 k x0 x1 x2 (y208.set ((x7.length:Int):Int).toNat (⟨(rd_T24 y208 (x7.length:Int)).f0,(rd_T24 y208 (x7.length:Int)).f1,(rd_T24 y208 (x7.length:Int)).f2,rdOf ByteArray.empty x1 x8,(rd_T24 y208 (x7.length:Int)).f4⟩:S24)) (wrap64 (x8+1))) else(none)) else(none)) else(none)) else(racewayref25_Made.l0 k x0 x1 x2 y208 (wrap64 (x8+1))))) else(none)) else(none)) else(none))
end
def racewayref25_Made.f (k:Nat) (a0:Int) (l1:List ByteArray) (l2:List (List (S24))):Option ((List (S24))):=if a0=7 then(racewayref25_Made.j0 k a0 l1 l2 ((l1.length:Int) != (l2.length:Int))) else(racewayref25_Made.j0 k a0 l1 l2 false)
set_option maxHeartbeats 8000000 in
set_option maxRecDepth 100000 in
theorem racewayref25_Made.calls (k:Nat) (a0:Int) (A1:Option Addr) (c1:Nat) (l1:List ByteArray) (A2:Option Addr) (c2:Nat) (l2:List (List (S24))) (r:List (S24)) (w:World) (hr1:Kd.C Kd.string w A1 l1.length l1) (hc1:l1.length≤c1) (hr2:Kd.C (Kd.slice 24 k24) w A2 l2.length l2) (hc2:l2.length≤c2) (h:racewayref25_Made.f k a0 l1 l2=some r) :
  Calls Tryd.prog 42 #[.int .i64 a0,.slice A1 l1.length c1,.slice A2 l2.length c2] w fun e w'=>∃ v0_:Value,e=.returned (v0_)∧Kd.R k24 24 w' w.heap.size (fun _=>True) v0_ r∧Below w.heap.size w w':=by
 have hu24:=Tryd.underlying24
 have HR1:=Aside0.mk hr1
 have HC1:=Aside0.mk hc1
 clear hr1 hc1
 have HR2:=Aside0.mk hr2
 have HC2:=Aside0.mk hc2
 clear hr2 hc2
 have HB:=Aside0.mk (Below.refl w.heap.size w)
 have H:(if a0=7 then(racewayref25_Made.j0 k a0 l1 l2 ((l1.length:Int) != (l2.length:Int))) else(racewayref25_Made.j0 k a0 l1 l2 false))=some r:=h
 clear h
 have HC4:=Aside0.mk H
 clear H
 go_enter Tryd.func42,Tryd.ntmps42
 go_upto_region 1 with(fail)
 go_cut [18] (fun v18 wc=>∃(kq:Nat) (x18_3:Bool),v18=.bool x18_3∧Aside0 (racewayref25_Made.j0 kq a0 l1 l2 x18_3=some r)∧Aside0 (kq≤k)∧Aside0 (Below w.heap.size w wc))
 case first =>
  have H:=HC4.out
  clear HC4
  by_cases c5:a0=7
  ·rw [if_pos c5] at H
   have c5b0:(a0==7)=true:=beq_iff_eq.mpr c5
   have c5b1:(a0 != 7)=false:=bne_eq_false_iff_eq.mpr c5
   clear c5
   (first|rw [c5b0]|(simp only [i64_w,i32_w];rw [c5b0])|skip)
   have H':=Aside0.mk H
   clear H
   go_wp2
   go_meet
   case rel=>exact ⟨_,(((l1.length:Int) != (l2.length:Int))),au4,au9,⟨au14⟩,⟨au3⟩⟩
  ·rw [if_neg c5] at H
   have c5b0:(a0==7)=false:=beq_eq_false_iff_ne.mpr c5
   have c5b1:(a0 != 7)=true:=bne_iff_ne.mpr c5
   (first|rw [c5b0]|(simp only [i64_w,i32_w];rw [c5b0])|skip)
   have H':=Aside0.mk H
   clear H
   go_wp2
   go_meet
   case rel=>exact ⟨_,(false),au4,au9,⟨au14⟩,⟨au3⟩⟩
 case rest =>
  clear HC4
  obtain ⟨kq,x18_3,rfl,HA,HJ3,HB⟩:=hcut
  cases kq with
  | zero=>exact absurd HA.out (by simp [racewayref25_Made.j0])
  | succ kj3 =>
   have H:=HA.out
   clear HA
   simp only [racewayref25_Made.j0] at H
   by_cases c6:x18_3=true
   ·subst c6
    replace H:(some ([]:List (S24)))=some r:=by rw [if_pos rfl] at H;exact H
    obtain rfl:=Option.some.inj H
    go_wp2
    go_ret
    exact ⟨_,au12,au20,au3⟩
   ·replace c6:=Bool.eq_false_iff.mpr c6
    subst c6
    replace H:(racewayref25_Made.l0 kj3 a0 l1 l2 (([(⟨a0,0,(l2.length:Int),(⟨#[]⟩:ByteArray),(⟨#[]⟩:ByteArray)⟩:S24)]:List (S24))) 0)=some r:=by rw [if_neg (show ¬ (false=true) by decide)] at H;exact H
    obtain ⟨y199,hy199⟩:∃ y_:List (S24),y_=(([(⟨a0,0,(l2.length:Int),(⟨#[]⟩:ByteArray),(⟨#[]⟩:ByteArray)⟩:S24)]:List (S24))):=⟨_,rfl⟩
    replace H:(racewayref25_Made.l0 kj3 a0 l1 l2 y199 0)=some r:=by first|(rw [hy199];with_reducible exact H)|(have H2_:=(Option.bind_some _ _).symm.trans H;rw [hy199];with_reducible exact H2_)|(have H2_:=(Option.bind_some _ _).symm.trans H;with_reducible exact H2_)|with_reducible exact H|(rw [hy199];exact H)|exact H
    have Ny199:=Aside0.mk hy199
    clear hy199
    have H':=Aside0.mk H
    clear H
    go_wp2_with (first|((with_reducible refine gate_dst (N:=23) rfl ?_);(try(refine gate_guard au6 ?_;dsimp only));refine Kd.R_lit k24 _ 24 ?hg (N:=23) ?hd (xs:=([(⟨a0,0,(l2.length:Int),(⟨#[]⟩:ByteArray),(⟨#[]⟩:ByteArray)⟩:S24)]:List (S24))) (inner:=[.int .i64 a0,.int .i64 0,.int .i64 (l2.length:Int),.string (⟨#[]⟩:ByteArray),.string (⟨#[]⟩:ByteArray)]) (ok:=fun _=>True) (okp:=fun _=>True) ?hr ?hp (fun _ hk=>hk) trivial (Below.refl _ _) (Nat.le_refl _) au5 ?_;(case hd=>rfl);(case hg=>rfl);(case hr=>first|(go_simp;done)|(go_simp;rfl));(case hp=>exact(Reps.c5 (show Kd.M k24 _ _ _ (⟨a0,0,(l2.length:Int),(⟨#[]⟩:ByteArray),(⟨#[]⟩:ByteArray)⟩:S24) [.int .i64 a0,.int .i64 0,.int .i64 (l2.length:Int),.string (⟨#[]⟩:ByteArray),.string (⟨#[]⟩:ByteArray)] from (k24_mkM _ _ _ (⟨a0,0,(l2.length:Int),(⟨#[]⟩:ByteArray),(⟨#[]⟩:ByteArray)⟩:S24) )) (Reps.none _ _)));intro v200 w7 ho8 hb hg_ hnew_;clear hg_ hnew_;(first|rw [← Ny199.out] at ho8|(simp only [Int.reduceToNat] at ho8;rw [← Ny199.out] at ho8));have n0_:=Aside0.mk (Kd.R_lower ho8 (below_size au3));have n1_:=Aside0.mk (below_step au3 hb);clear HB;have HO201:=n0_;have HB:=n1_;clear n0_ n1_;clear hb ho8))
    go_loopg [7,8] kj3 (fun kq v7 v8 w'=>∃(x7_2:List (S24)) (x8_2:Int),v8=.int .i64 x8_2∧Aside0 (racewayref25_Made.l0 kq a0 l1 l2 x7_2 x8_2=some r)∧Aside0 (kq≤kj3)∧Aside0 (Kd.R k24 24 w' w.heap.size (fun _=>True) v7 x7_2)∧Aside0 (Below w.heap.size w w'))
    case atStart=>exact ⟨(y199),(0),au4,au9,⟨Nat.le_refl _⟩,⟨by(with_reducible repeat(first|apply Kd.R_alloc|apply Kd.R_drewN|apply Kd.R_drew));exact HO201.out⟩,⟨au3⟩⟩
    case round =>
     clear H'
     obtain ⟨x7_2,x8_2,rfl,HA,HK2,HO_7,HB⟩:=hrel
     cases gk with
     | zero=>exact absurd HA.out (by simp [racewayref25_Made.l0])
     | succ k2 =>
      have H:=HA.out
      clear HA
      simp only [racewayref25_Made.l0] at H
      by_cases c9:x8_2<(l2.length:Int)
      ·rw [if_pos c9] at H
       have c9b0:decide (x8_2<(l2.length:Int))=true:=decide_eq_true c9
       clear c9
       have HC10:=Aside0.mk H
       clear H
       go_upto_region 7 with(fail)
       go_cut [47] (fun v47 wc=>∃(kq:Nat) (x47_9:Bool),v47=.bool x47_9∧Aside0 (racewayref25_Made.j2 kq a0 l1 l2 x7_2 x8_2 x47_9=some r)∧Aside0 (kq≤k2)∧Aside0 (Kd.R k24 24 wc w.heap.size (fun _=>True) u7 x7_2)∧Aside0 (Below w.heap.size w wc))
       case first =>
        have H:=HC10.out
        clear HC10
        by_cases c11:0≤x8_2
        ·rw [if_pos c11] at H
         have c11b0:decide (0≤x8_2)=true:=decide_eq_true c11
         clear c11
         (first|rw [c11b0]|(simp only [i64_w,i32_w];rw [c11b0])|skip)
         replace H:=Option.bind_eq_some_iff.mp H
         obtain ⟨t204,A120,H⟩:=H
         replace H:(if t204=0 then(if a0=7 then(if x8_2<(l1.length:Int) then((racewayref25_Valid.f k2 (rdOf ByteArray.empty l1 x8_2)).bind fun t206=>(racewayref25_Made.j2 k2 a0 l1 l2 x7_2 x8_2 (!t206))) else(none)) else(racewayref25_Made.j2 k2 a0 l1 l2 x7_2 x8_2 false)) else(racewayref25_Made.j2 k2 a0 l1 l2 x7_2 x8_2 true))=some r:=H
         have A12:=Aside0.mk A120
         clear A120
         by_cases c13:t204=0
         ·rw [if_pos c13] at H
          have c13b0:(t204==0)=true:=beq_iff_eq.mpr c13
          have c13b1:(t204 != 0)=false:=bne_eq_false_iff_eq.mpr c13
          clear c13
          by_cases c14:a0=7
          ·rw [if_pos c14] at H
           have c14b0:(a0==7)=true:=beq_iff_eq.mpr c14
           have c14b1:(a0 != 7)=false:=bne_eq_false_iff_eq.mpr c14
           clear c14
           by_cases c15:x8_2<(l1.length:Int)
           ·rw [if_pos c15] at H
            have c15b0:decide (x8_2<(l1.length:Int))=true:=decide_eq_true c15
            clear c15
            replace H:=Option.bind_eq_some_iff.mp H
            obtain ⟨t206,A160,H⟩:=H
            replace H:(racewayref25_Made.j2 k2 a0 l1 l2 x7_2 x8_2 (!t206))=some r:=H
            have A16:=Aside0.mk A160
            clear A160
            have H':=Aside0.mk H
            clear H
            have p203:0≤(x8_2:Int):=of_decide_eq_true au7
            have q203:x8_2<(l2.length:Int):=of_decide_eq_true au7
            obtain ⟨ad203,A203_0,c203_0,e203,hx203_0,hl203_0,hi203_0⟩:=at_L3 HR2.out x8_2 p203 q203
            cases e203
            replace hx203_0:=(HB.out.cell (World.block_lt_of_cell? w _ hx203_0)).trans hx203_0
            have HR203_0:=Aside0.mk hi203_0
            have HC203_0:=Aside0.mk hl203_0
            clear hi203_0 hl203_0
            replace p203:=eq_true p203
            replace q203:=eq_true q203
            go_wp2_with (first|((with_reducible refine gate_callee (f:=18) rfl ?_);refine goesL_ (some 34) rfl rfl Tryd.func18 au2 rfl #[.slice A203_0 (rd_L3 l2 x8_2).length c203_0] rfl au10 ?_;(with_reducible refine(racewayref25_Check.calls k2 _ _ (rd_L3 l2 x8_2) t204 _ ?side1 ?side2 A12.out).mono ?_);(case side1=>repeat(first|exact(Kd.C_below HR203_0.out HB.out)|(with_reducible refine Kd.C_alloc ?_ _)|(with_reducible refine Kd.C_drewN ?_ _)|(with_reducible refine Kd.C_drew ?_)));(case side2=>exact HC203_0.out);rintro e w17 ⟨rfl,hb⟩;refine ⟨_,rfl,?_⟩;have n0_:=Aside0.mk (Kd.R_below au18 hb);have n1_:=Aside0.mk (below_step au3 hb);clear HO_7;clear HB;have HO_7:=n0_;have HB:=n1_;clear n0_ n1_;(try clear hb);(try clear hb2);(try clear hk);(try clear hi);have p205:0≤(x8_2:Int):=of_decide_eq_true au7;have q205:x8_2<(l1.length:Int):=of_decide_eq_true au7;obtain ⟨ad205,e205,hx205_0⟩:=Kd.at_string HR1.out x8_2 p205 q205;cases e205;replace hx205_0:=(HB.out.cell (World.block_lt_of_cell? w _ hx205_0)).trans hx205_0;replace p205:=eq_true p205;replace q205:=eq_true q205)|(go_at_call 31;(with_reducible refine(racewayref25_Valid.calls k2 (rdOf ByteArray.empty l1 x8_2) t206 _ A16.out).mono ?_);rintro e w' ⟨rfl,⟨nd,rfl⟩⟩))
            go_meet
            case rel=>exact ⟨_,(!t206),au4,au9,⟨au53⟩,⟨au18⟩,⟨au3⟩⟩
           ·rw [if_neg c15] at H
            exact absurd H au5
          ·rw [if_neg c14] at H
           have c14b0:(a0==7)=false:=beq_eq_false_iff_ne.mpr c14
           have c14b1:(a0 != 7)=true:=bne_iff_ne.mpr c14
           have H':=Aside0.mk H
           clear H
           have p203:0≤(x8_2:Int):=of_decide_eq_true au7
           have q203:x8_2<(l2.length:Int):=of_decide_eq_true au7
           obtain ⟨ad203,A203_0,c203_0,e203,hx203_0,hl203_0,hi203_0⟩:=at_L3 HR2.out x8_2 p203 q203
           cases e203
           replace hx203_0:=(HB.out.cell (World.block_lt_of_cell? w _ hx203_0)).trans hx203_0
           have HR203_0:=Aside0.mk hi203_0
           have HC203_0:=Aside0.mk hl203_0
           clear hi203_0 hl203_0
           replace p203:=eq_true p203
           replace q203:=eq_true q203
           go_wp2_with (first|((with_reducible refine gate_callee (f:=18) rfl ?_);refine goesL_ (some 34) rfl rfl Tryd.func18 au2 rfl #[.slice A203_0 (rd_L3 l2 x8_2).length c203_0] rfl au10 ?_;(with_reducible refine(racewayref25_Check.calls k2 _ _ (rd_L3 l2 x8_2) t204 _ ?side1 ?side2 A12.out).mono ?_);(case side1=>repeat(first|exact(Kd.C_below HR203_0.out HB.out)|(with_reducible refine Kd.C_alloc ?_ _)|(with_reducible refine Kd.C_drewN ?_ _)|(with_reducible refine Kd.C_drew ?_)));(case side2=>exact HC203_0.out);rintro e w18 ⟨rfl,hb⟩;refine ⟨_,rfl,?_⟩;have n0_:=Aside0.mk (Kd.R_below au18 hb);have n1_:=Aside0.mk (below_step au3 hb);clear HO_7;clear HB;have HO_7:=n0_;have HB:=n1_;clear n0_ n1_;(try clear hb);(try clear hb2);(try clear hk);(try clear hi)))
           go_meet
           case rel=>exact ⟨_,(false),au4,au9,⟨au53⟩,⟨au18⟩,⟨au3⟩⟩
         ·rw [if_neg c13] at H
          have c13b0:(t204==0)=false:=beq_eq_false_iff_ne.mpr c13
          have c13b1:(t204 != 0)=true:=bne_iff_ne.mpr c13
          have H':=Aside0.mk H
          clear H
          have p203:0≤(x8_2:Int):=of_decide_eq_true au7
          have q203:x8_2<(l2.length:Int):=of_decide_eq_true au7
          obtain ⟨ad203,A203_0,c203_0,e203,hx203_0,hl203_0,hi203_0⟩:=at_L3 HR2.out x8_2 p203 q203
          cases e203
          replace hx203_0:=(HB.out.cell (World.block_lt_of_cell? w _ hx203_0)).trans hx203_0
          have HR203_0:=Aside0.mk hi203_0
          have HC203_0:=Aside0.mk hl203_0
          clear hi203_0 hl203_0
          replace p203:=eq_true p203
          replace q203:=eq_true q203
          go_wp2_with (first|((with_reducible refine gate_callee (f:=18) rfl ?_);refine goesL_ (some 34) rfl rfl Tryd.func18 au2 rfl #[.slice A203_0 (rd_L3 l2 x8_2).length c203_0] rfl au10 ?_;(with_reducible refine(racewayref25_Check.calls k2 _ _ (rd_L3 l2 x8_2) t204 _ ?side1 ?side2 A12.out).mono ?_);(case side1=>repeat(first|exact(Kd.C_below HR203_0.out HB.out)|(with_reducible refine Kd.C_alloc ?_ _)|(with_reducible refine Kd.C_drewN ?_ _)|(with_reducible refine Kd.C_drew ?_)));(case side2=>exact HC203_0.out);rintro e w19 ⟨rfl,hb⟩;refine ⟨_,rfl,?_⟩;have n0_:=Aside0.mk (Kd.R_below au18 hb);have n1_:=Aside0.mk (below_step au3 hb);clear HO_7;clear HB;have HO_7:=n0_;have HB:=n1_;clear n0_ n1_;(try clear hb);(try clear hb2);(try clear hk);(try clear hi)))
          go_meet
          case rel=>exact ⟨_,(true),au4,au9,⟨au53⟩,⟨au18⟩,⟨au3⟩⟩
        ·rw [if_neg c11] at H
         exact absurd H au5
       case rest =>
        clear HC10
        obtain ⟨kq,x47_9,rfl,HA,HJ9,HO_7,HB⟩:=hcut
        cases kq with
        | zero=>exact absurd HA.out (by simp [racewayref25_Made.j2])
        | succ kj9 =>
         have H:=HA.out
         clear HA
         simp only [racewayref25_Made.j2] at H
         by_cases c20:x47_9=true
         ·subst c20
          replace H:(some ([]:List (S24)))=some r:=by rw [if_pos rfl] at H;exact H
          obtain rfl:=Option.some.inj H
          go_wp2
          go_ret
          exact ⟨_,au12,au20,au3⟩
         ·replace c20:=Bool.eq_false_iff.mpr c20
          subst c20
          replace H:(if 0≤x8_2 then(if x8_2<(l2.length:Int) then(if x7_2.length+(rd_L3 l2 x8_2).length<2513169434916 then((some (x7_2++(rd_L3 l2 x8_2):List (S24))).bind fun y208=>(if a0=7 then(if x8_2<(l1.length:Int) then(if 0≤(x7_2.length:Int) then(if(x7_2.length:Int)<(y208.length:Int) then(racewayref25_Made.l0 kj9 a0 l1 l2 (y208.set x7_2.length (⟨(rd_T24 y208 (x7_2.length:Int)).f0,(rd_T24 y208 (x7_2.length:Int)).f1,(rd_T24 y208 (x7_2.length:Int)).f2,rdOf ByteArray.empty l1 x8_2,(rd_T24 y208 (x7_2.length:Int)).f4⟩:S24)) (wrap64 (x8_2+1))) else(none)) else(none)) else(none)) else(racewayref25_Made.l0 kj9 a0 l1 l2 y208 (wrap64 (x8_2+1))))) else(none)) else(none)) else(none))=some r:=by rw [if_neg (show ¬ (false=true) by decide)] at H;exact H
          by_cases c21:0≤x8_2
          ·rw [if_pos c21] at H
           have c21b0:decide (0≤x8_2)=true:=decide_eq_true c21
           clear c21
           by_cases c22:x8_2<(l2.length:Int)
           ·rw [if_pos c22] at H
            have c22b0:decide (x8_2<(l2.length:Int))=true:=decide_eq_true c22
            clear c22
            by_cases c23:x7_2.length+(rd_L3 l2 x8_2).length<2513169434916
            ·rw [if_pos c23] at H
             have LMc23:=Aside0.mk c23
             clear c23
             obtain ⟨y208,hy208⟩:∃ y_:List (S24),y_=(x7_2++(rd_L3 l2 x8_2)):=⟨_,rfl⟩
             replace H:(if a0=7 then(if x8_2<(l1.length:Int) then(if 0≤(x7_2.length:Int) then(if(x7_2.length:Int)<(y208.length:Int) then(racewayref25_Made.l0 kj9 a0 l1 l2 (y208.set x7_2.length (⟨(rd_T24 y208 (x7_2.length:Int)).f0,(rd_T24 y208 (x7_2.length:Int)).f1,(rd_T24 y208 (x7_2.length:Int)).f2,rdOf ByteArray.empty l1 x8_2,(rd_T24 y208 (x7_2.length:Int)).f4⟩:S24)) (wrap64 (x8_2+1))) else(none)) else(none)) else(none)) else(racewayref25_Made.l0 kj9 a0 l1 l2 y208 (wrap64 (x8_2+1))))=some r:=by first|(rw [hy208];with_reducible exact H)|(have H2_:=(Option.bind_some _ _).symm.trans H;rw [hy208];with_reducible exact H2_)|(have H2_:=(Option.bind_some _ _).symm.trans H;with_reducible exact H2_)|with_reducible exact H|(rw [hy208];exact H)|exact H
             have Ny208:=Aside0.mk hy208
             clear hy208
             by_cases c24:a0=7
             ·rw [if_pos c24] at H
              have c24b0:(a0==7)=true:=beq_iff_eq.mpr c24
              have c24b1:(a0 != 7)=false:=bne_eq_false_iff_eq.mpr c24
              clear c24
              by_cases c25:x8_2<(l1.length:Int)
              ·rw [if_pos c25] at H
               have c25b0:decide (x8_2<(l1.length:Int))=true:=decide_eq_true c25
               clear c25
               by_cases c26:0≤(x7_2.length:Int)
               ·rw [if_pos c26] at H
                have c26b0:decide (0≤(x7_2.length:Int))=true:=decide_eq_true c26
                have c26b1:decide (0≤x7_2.length)=true:=decide_eq_true au0
                clear c26
                by_cases c27:(x7_2.length:Int)<(y208.length:Int)
                ·rw [if_pos c27] at H
                 have c27b0:decide ((x7_2.length:Int)<(y208.length:Int))=true:=decide_eq_true c27
                 have c27b1:decide (x7_2.length<y208.length)=true:=decide_eq_true (Int.ofNat_lt.mp c27)
                 clear c27
                 obtain ⟨y212,hy212⟩:∃ y_:List (S24),y_=(y208.set x7_2.length (⟨(rd_T24 y208 (x7_2.length:Int)).f0,(rd_T24 y208 (x7_2.length:Int)).f1,(rd_T24 y208 (x7_2.length:Int)).f2,rdOf ByteArray.empty l1 x8_2,(rd_T24 y208 (x7_2.length:Int)).f4⟩:S24)):=⟨_,rfl⟩
                 replace H:(racewayref25_Made.l0 kj9 a0 l1 l2 y212 (wrap64 (x8_2+1)))=some r:=by first|(rw [hy212];with_reducible exact H)|(have H2_:=(Option.bind_some _ _).symm.trans H;rw [hy212];with_reducible exact H2_)|(have H2_:=(Option.bind_some _ _).symm.trans H;with_reducible exact H2_)|with_reducible exact H|(rw [hy212];exact H)|exact H
                 have Ny212:=Aside0.mk hy212
                 clear hy212
                 have H':=Aside0.mk H
                 clear H
                 obtain ⟨Ao29,co29,eo29⟩:=Kd.R_slice HO_7.out
                 subst eo29
                 have p207:0≤(x8_2:Int):=of_decide_eq_true au7
                 have q207:x8_2<(l2.length:Int):=of_decide_eq_true au7
                 obtain ⟨ad207,A207_0,c207_0,e207,hx207_0,hl207_0,hi207_0⟩:=at_L3 HR2.out x8_2 p207 q207
                 cases e207
                 replace hx207_0:=(HB.out.cell (World.block_lt_of_cell? w _ hx207_0)).trans hx207_0
                 have HR207_0:=Aside0.mk hi207_0
                 have HC207_0:=Aside0.mk hl207_0
                 clear hi207_0 hl207_0
                 replace p207:=eq_true p207
                 replace q207:=eq_true q207
                 go_wp2_with (first|((with_reducible refine gate_builtin (b:=.append) (xs:=#[.tmp 50,.tmp 54]) rfl ?_);(try(refine gate_guard au6 ?_;dsimp only));at_builtin;refine Kd.R_append_rows k24 (w0:=w) w.heap.size rfl (.tmp 50) (.tmp 54) 22 24 (.agg #[(.int .i64 0),(.int .i64 0),(.int .i64 0),(.string ⟨#[]⟩),(.string ⟨#[]⟩)]) 56 rfl Tryd.underlying22 info24 rfl au1 au0 (.slice Ao29 x7_2.length co29) x7_2 (rd_L3 l2 x8_2) _ _ _ (fun _=>True) (fun _=>False) rfl rfl ?aO ?aR (fun _ _ h=>h) (fun _ h=>h.elim) ?aF ?aB ?aS ?aL ?_;(case aR=>repeat(first|exact(Kd.C_below HR207_0.out HB.out)|(with_reducible refine Kd.C_alloc ?_ _)|(with_reducible refine Kd.C_drewN ?_ _)|(with_reducible refine Kd.C_drew ?_)));(case aB=>exact au3);(case aF=>exact(fun _ _=>trivial));(case aO=>exact au18);(case aS=>exact(below_size au3));(case aL=>have:=LMc23.out;omega);intro v209 w30 ho hb hg hat;rw [← Ny208.out] at ho;have n0_:=Aside0.mk (hb);have n1_:=Aside0.mk (ho);clear HB;clear HO_7;have HB:=n0_;have HO210:=n1_;clear n0_ n1_;clear ho hb hg hat;have p211:0≤(x8_2:Int):=of_decide_eq_true au7;have q211:x8_2<(l1.length:Int):=of_decide_eq_true au7;obtain ⟨ad211,e211,hx211_0⟩:=Kd.at_string HR1.out x8_2 p211 q211;cases e211;replace hx211_0:=(HB.out.cell (World.block_lt_of_cell? w _ hx211_0)).trans hx211_0;replace p211:=eq_true p211;replace q211:=eq_true q211;have p28:0≤((x7_2.length:Int):Int):=of_decide_eq_true au7;have q28:((x7_2.length:Int):Int)<((y208.length:Int):Int):=of_decide_eq_true au7;obtain ⟨go28,co28,eo28,gb28,gl28,cl28,HG28⟩:=Kd.R_form HO210.out au0;(first|cases eo28|(injection eo28 with ea_ en_ ec_;(first|subst ea_|(injection ea_ with ea_;subst ea_));subst ec_;clear en_));have GB28:=Aside0.mk gb28;have GG28:=Aside0.mk HG28;clear gb28 gl28 HG28;obtain ⟨ce28,hcl28,hM28,hcc28,hfr28⟩:=Kd.R_elem HO210.out z24 ((x7_2.length:Int):Int) p28 q28;obtain rfl:=k24_openM hM28;have hx28_0:w30.cell? ⟨go28,x7_2.length*5,none⟩=some (.int .i64 ((rd_T24 y208 (x7_2.length:Int)).f0)):=hcc28 0 _ rfl;have hx28_1:w30.cell? ⟨go28,x7_2.length*5+1,none⟩=some (.int .i64 ((rd_T24 y208 (x7_2.length:Int)).f1)):=hcc28 1 _ rfl;have hx28_2:w30.cell? ⟨go28,x7_2.length*5+2,none⟩=some (.int .i64 ((rd_T24 y208 (x7_2.length:Int)).f2)):=hcc28 2 _ rfl;have hx28_3:w30.cell? ⟨go28,x7_2.length*5+3,none⟩=some (.string ((rd_T24 y208 (x7_2.length:Int)).f3)):=hcc28 3 _ rfl;have hx28_4:w30.cell? ⟨go28,x7_2.length*5+4,none⟩=some (.string ((rd_T24 y208 (x7_2.length:Int)).f4)):=hcc28 4 _ rfl;have hf28_0:w30.frozen? ⟨go28,x7_2.length*5,none⟩=false:=hfr28 0;have hf28_1:w30.frozen? ⟨go28,x7_2.length*5+1,none⟩=false:=hfr28 1;have hf28_2:w30.frozen? ⟨go28,x7_2.length*5+2,none⟩=false:=hfr28 2;have hf28_3:w30.frozen? ⟨go28,x7_2.length*5+3,none⟩=false:=hfr28 3;have hf28_4:w30.frozen? ⟨go28,x7_2.length*5+4,none⟩=false:=hfr28 4;clear hcl28 hcc28 hfr28 hM28;replace p28:=eq_true p28;replace q28:=eq_true q28;have HX31:=Aside0.mk (show Kd.R k24 24 w30 w.heap.size (fun _=>True) (.slice (some ⟨go28,0,none⟩) y208.length co28) y208 from au68);obtain ⟨ce31,hcl31,hM31,hcc31,hfr31⟩:=Kd.R_elem HX31.out z24 ((x7_2.length:Int):Int) (of_decide_eq_true au7) (by have h_:((x7_2.length:Int):Int)<((y208.length:Int):Int):=of_decide_eq_true au7;first|exact h_|(have e_:=(Kd.R_reads' HO210.out).1;omega)|simpa using h_);obtain rfl:=k24_openM hM31;have HP31:=Kd.R_seg HX31.out ((x7_2.length:Int):Int) (of_decide_eq_true au7) (by have h_:((x7_2.length:Int):Int)<((y208.length:Int):Int):=of_decide_eq_true au7;first|exact h_|(have e_:=(Kd.R_reads' HO210.out).1;omega)|simpa using h_) (seg:=[.string (rdOf ByteArray.empty l1 x8_2)]) (j:=3) hcl31 hcc31 (show 4≤5 from by decide) (x':=(⟨(rd_T24 y208 (x7_2.length:Int)).f0,(rd_T24 y208 (x7_2.length:Int)).f1,(rd_T24 y208 (x7_2.length:Int)).f2,rdOf ByteArray.empty l1 x8_2,(rd_T24 y208 (x7_2.length:Int)).f4⟩:S24)) (k24_mkM _ _ _ (⟨(rd_T24 y208 (x7_2.length:Int)).f0,(rd_T24 y208 (x7_2.length:Int)).f1,(rd_T24 y208 (x7_2.length:Int)).f2,rdOf ByteArray.empty l1 x8_2,(rd_T24 y208 (x7_2.length:Int)).f4⟩:S24) ) (fun _ hk=>hk);have hx31_3:=hcc31 3 _ rfl;(try simp only [show(k24).sz=5 from rfl,Nat.mul_one,Nat.add_zero] at hx31_3);have hf31_3:=hfr31 3;(try simp only [show(k24).sz=5 from rfl,Nat.mul_one,Nat.add_zero] at hf31_3);clear hcl31 hcc31 hfr31 hM31)|((with_reducible refine gate_store (t:=9) (p:=65) rfl ?_);refine store_event (t:=9) (p:=65) (v:=?vo_w32) (w1:=(w30.setCell ⟨go28,x7_2.length*5+3,none⟩ (.string (rdOf ByteArray.empty l1 x8_2)))) ?hg ?ho ?hn ?hr ?_;(case ho=>rfl);(case hg=>rfl);(case hn=>rfl);(case hr=>first|(go_simp;done)|(go_simp;rfl));intro w32 hw;have hg:w30.grownBy w32 (some go28):=(by rw [hw];exact HP31.2);have hp_:Kd.R k24 24 w32 w.heap.size (fun _=>True) (.slice (some ⟨go28,0,none⟩) y208.length co28) y212:=(by rw [hw,Ny212.out];exact HP31.1);clear HP31;have n0_:=Aside0.mk (hp_);have n1_:=Aside0.mk ((by rw [hw];exact below_set (HB.out) GB28.out:Below w.heap.size w w32));clear HO210;clear HB;have HO210:=n0_;have HB:=n1_;clear n0_ n1_;clear hg hw hp_))
                 go_roundg kj9
                 case measure=>have:=HJ3.out;have:=HK2.out;have:=HJ9.out;omega
                 case rel=>exact ⟨(y212),(wrap64 (x8_2+1)),au4,au9,⟨by have:=HJ3.out;have:=HK2.out;have:=HJ9.out;omega⟩,⟨au68⟩,⟨au3⟩⟩
                ·rw [if_neg c27] at H
                 exact absurd H au5
               ·rw [if_neg c26] at H
                exact absurd H au5
              ·rw [if_neg c25] at H
               exact absurd H au5
             ·rw [if_neg c24] at H
              have c24b0:(a0==7)=false:=beq_eq_false_iff_ne.mpr c24
              have c24b1:(a0 != 7)=true:=bne_iff_ne.mpr c24
              have H':=Aside0.mk H
              clear H
              obtain ⟨Ao33,co33,eo33⟩:=Kd.R_slice HO_7.out
              subst eo33
              have p207:0≤(x8_2:Int):=of_decide_eq_true au7
              have q207:x8_2<(l2.length:Int):=of_decide_eq_true au7
              obtain ⟨ad207,A207_0,c207_0,e207,hx207_0,hl207_0,hi207_0⟩:=at_L3 HR2.out x8_2 p207 q207
              cases e207
              replace hx207_0:=(HB.out.cell (World.block_lt_of_cell? w _ hx207_0)).trans hx207_0
              have HR207_0:=Aside0.mk hi207_0
              have HC207_0:=Aside0.mk hl207_0
              clear hi207_0 hl207_0
              replace p207:=eq_true p207
              replace q207:=eq_true q207
              go_wp2_with (first|((with_reducible refine gate_builtin (b:=.append) (xs:=#[.tmp 50,.tmp 54]) rfl ?_);(try(refine gate_guard au6 ?_;dsimp only));at_builtin;refine Kd.R_append_rows k24 (w0:=w) w.heap.size rfl (.tmp 50) (.tmp 54) 22 24 (.agg #[(.int .i64 0),(.int .i64 0),(.int .i64 0),(.string ⟨#[]⟩),(.string ⟨#[]⟩)]) 56 rfl Tryd.underlying22 info24 rfl au1 au0 (.slice Ao33 x7_2.length co33) x7_2 (rd_L3 l2 x8_2) _ _ _ (fun _=>True) (fun _=>False) rfl rfl ?aO ?aR (fun _ _ h=>h) (fun _ h=>h.elim) ?aF ?aB ?aS ?aL ?_;(case aR=>repeat(first|exact(Kd.C_below HR207_0.out HB.out)|(with_reducible refine Kd.C_alloc ?_ _)|(with_reducible refine Kd.C_drewN ?_ _)|(with_reducible refine Kd.C_drew ?_)));(case aB=>exact au3);(case aF=>exact(fun _ _=>trivial));(case aO=>exact au18);(case aS=>exact(below_size au3));(case aL=>have:=LMc23.out;omega);intro v209 w34 ho hb hg hat;rw [← Ny208.out] at ho;have n0_:=Aside0.mk (hb);have n1_:=Aside0.mk (ho);clear HB;clear HO_7;have HB:=n0_;have HO210:=n1_;clear n0_ n1_;clear ho hb hg hat))
              go_roundg kj9
              case measure=>have:=HJ3.out;have:=HK2.out;have:=HJ9.out;omega
              case rel=>exact ⟨(y208),(wrap64 (x8_2+1)),au4,au9,⟨by have:=HJ3.out;have:=HK2.out;have:=HJ9.out;omega⟩,⟨au68⟩,⟨au3⟩⟩
            ·rw [if_neg c23] at H
             exact absurd H au5
           ·rw [if_neg c22] at H
            exact absurd H au5
          ·rw [if_neg c21] at H
           exact absurd H au5
      ·rw [if_neg c9] at H
       have c9b0:decide (x8_2<(l2.length:Int))=false:=decide_eq_false c9
       clear c9
       by_cases c35:0<(x7_2.length:Int)
       ·rw [if_pos c35] at H
        have c35b0:decide (0<(x7_2.length:Int))=true:=decide_eq_true c35
        have c35b1:decide (0<x7_2.length)=true:=decide_eq_true au0
        clear c35
        obtain ⟨y202,hy202⟩:∃ y_:List (S24),y_=(x7_2.set (0:Int).toNat (⟨(rd_T24 x7_2 0).f0,(x7_2.length:Int),(rd_T24 x7_2 0).f2,(rd_T24 x7_2 0).f3,(rd_T24 x7_2 0).f4⟩:S24)):=⟨_,rfl⟩
        replace H:(some y202)=some r:=by first|(rw [hy202];with_reducible exact H)|(have H2_:=(Option.bind_some _ _).symm.trans H;rw [hy202];with_reducible exact H2_)|(have H2_:=(Option.bind_some _ _).symm.trans H;with_reducible exact H2_)|with_reducible exact H|(rw [hy202];exact H)|exact H
        have Ny202:=Aside0.mk hy202
        clear hy202
        obtain rfl:=Option.some.inj H
        obtain ⟨Ao37,co37,eo37⟩:=Kd.R_slice HO_7.out
        subst eo37
        have p36:0≤(0:Int):=au0
        have q36:(0:Int)<((x7_2.length:Int):Int):=of_decide_eq_true au7
        have qi36:(0<x7_2.length)=True:=eq_true au0
        obtain ⟨go36,co36,eo36,gb36,gl36,cl36,HG36⟩:=Kd.R_form HO_7.out au0
        (first|cases eo36|(injection eo36 with ea_ en_ ec_;(first|subst ea_|(injection ea_ with ea_;subst ea_));subst ec_;clear en_))
        have GB36:=Aside0.mk gb36
        have GG36:=Aside0.mk HG36
        clear gb36 gl36 HG36
        obtain ⟨ce36,hcl36,hM36,hcc36,hfr36⟩:=Kd.R_elem HO_7.out z24 (0:Int) p36 q36
        obtain rfl:=k24_openM hM36
        have hx36_0:wr.cell? ⟨go36,(0:Int).toNat*5,none⟩=some (.int .i64 ((rd_T24 x7_2 0).f0)):=hcc36 0 _ rfl
        have hx36_1:wr.cell? ⟨go36,(0:Int).toNat*5+1,none⟩=some (.int .i64 ((rd_T24 x7_2 0).f1)):=hcc36 1 _ rfl
        have hx36_2:wr.cell? ⟨go36,(0:Int).toNat*5+2,none⟩=some (.int .i64 ((rd_T24 x7_2 0).f2)):=hcc36 2 _ rfl
        have hx36_3:wr.cell? ⟨go36,(0:Int).toNat*5+3,none⟩=some (.string ((rd_T24 x7_2 0).f3)):=hcc36 3 _ rfl
        have hx36_4:wr.cell? ⟨go36,(0:Int).toNat*5+4,none⟩=some (.string ((rd_T24 x7_2 0).f4)):=hcc36 4 _ rfl
        have hf36_0:wr.frozen? ⟨go36,(0:Int).toNat*5,none⟩=false:=hfr36 0
        have hf36_1:wr.frozen? ⟨go36,(0:Int).toNat*5+1,none⟩=false:=hfr36 1
        have hf36_2:wr.frozen? ⟨go36,(0:Int).toNat*5+2,none⟩=false:=hfr36 2
        have hf36_3:wr.frozen? ⟨go36,(0:Int).toNat*5+3,none⟩=false:=hfr36 3
        have hf36_4:wr.frozen? ⟨go36,(0:Int).toNat*5+4,none⟩=false:=hfr36 4
        clear hcl36 hcc36 hfr36 hM36
        (try rw [show((0:Int)).toNat=0 from rfl] at hx36_0)
        (try simp only [Nat.reduceMul,Nat.zero_mul,Nat.zero_add,Nat.reduceAdd] at hx36_0)
        (try rw [show((0:Int)).toNat=0 from rfl] at hf36_0)
        (try simp only [Nat.reduceMul,Nat.zero_mul,Nat.zero_add,Nat.reduceAdd] at hf36_0)
        (try rw [show((0:Int)).toNat=0 from rfl] at hx36_1)
        (try simp only [Nat.reduceMul,Nat.zero_mul,Nat.zero_add,Nat.reduceAdd] at hx36_1)
        (try rw [show((0:Int)).toNat=0 from rfl] at hf36_1)
        (try simp only [Nat.reduceMul,Nat.zero_mul,Nat.zero_add,Nat.reduceAdd] at hf36_1)
        (try rw [show((0:Int)).toNat=0 from rfl] at hx36_2)
        (try simp only [Nat.reduceMul,Nat.zero_mul,Nat.zero_add,Nat.reduceAdd] at hx36_2)
        (try rw [show((0:Int)).toNat=0 from rfl] at hf36_2)
        (try simp only [Nat.reduceMul,Nat.zero_mul,Nat.zero_add,Nat.reduceAdd] at hf36_2)
        (try rw [show((0:Int)).toNat=0 from rfl] at hx36_3)
        (try simp only [Nat.reduceMul,Nat.zero_mul,Nat.zero_add,Nat.reduceAdd] at hx36_3)
        (try rw [show((0:Int)).toNat=0 from rfl] at hf36_3)
        (try simp only [Nat.reduceMul,Nat.zero_mul,Nat.zero_add,Nat.reduceAdd] at hf36_3)
        (try rw [show((0:Int)).toNat=0 from rfl] at hx36_4)
        (try simp only [Nat.reduceMul,Nat.zero_mul,Nat.zero_add,Nat.reduceAdd] at hx36_4)
        (try rw [show((0:Int)).toNat=0 from rfl] at hf36_4)
        (try simp only [Nat.reduceMul,Nat.zero_mul,Nat.zero_add,Nat.reduceAdd] at hf36_4)
        replace p36:=eq_true p36
        replace q36:=eq_true q36
        have HX38:=Aside0.mk (show Kd.R k24 24 wr w.heap.size (fun _=>True) (.slice (some ⟨go36,0,none⟩) x7_2.length co37) x7_2 from au18)
        obtain ⟨ce38,hcl38,hM38,hcc38,hfr38⟩:=Kd.R_elem HX38.out z24 (0:Int) au0 (by have h_:(0:Int)<((x7_2.length:Int):Int):=of_decide_eq_true au7;first|exact h_|(have e_:=(Kd.R_reads' HO_7.out).1;omega)|simpa using h_)
        obtain rfl:=k24_openM hM38
        have HP38:=Kd.R_seg HX38.out (0:Int) au0 (by have h_:(0:Int)<((x7_2.length:Int):Int):=of_decide_eq_true au7;first|exact h_|(have e_:=(Kd.R_reads' HO_7.out).1;omega)|simpa using h_) (seg:=[.int .i64 (x7_2.length:Int)]) (j:=1) hcl38 hcc38 (show 2≤5 from by decide) (x':=(⟨(rd_T24 x7_2 0).f0,(x7_2.length:Int),(rd_T24 x7_2 0).f2,(rd_T24 x7_2 0).f3,(rd_T24 x7_2 0).f4⟩:S24)) (k24_mkM _ _ _ (⟨(rd_T24 x7_2 0).f0,(x7_2.length:Int),(rd_T24 x7_2 0).f2,(rd_T24 x7_2 0).f3,(rd_T24 x7_2 0).f4⟩:S24) ) (fun _ hk=>hk)
        have hx38_1:=hcc38 1 _ rfl
        (try simp only [show(k24).sz=5 from rfl,Nat.mul_one,Nat.add_zero] at hx38_1)
        (try rw [show((0:Int)).toNat=0 from rfl] at hx38_1)
        (try simp only [Nat.reduceMul,Nat.zero_mul,Nat.zero_add,Nat.reduceAdd] at hx38_1)
        have hf38_1:=hfr38 1
        (try simp only [show(k24).sz=5 from rfl,Nat.mul_one,Nat.add_zero] at hf38_1)
        (try rw [show((0:Int)).toNat=0 from rfl] at hf38_1)
        (try simp only [Nat.reduceMul,Nat.zero_mul,Nat.zero_add,Nat.reduceAdd] at hf38_1)
        clear hcl38 hcc38 hfr38 hM38
        go_wp2_with (first|((with_reducible refine gate_store (t:=3) (p:=70) rfl ?_);refine store_event (t:=3) (p:=70) (v:=?vo_w39) (w1:=(wr.setCell ⟨go36,1,none⟩ (.int .i64 (x7_2.length:Int)))) ?hg ?ho ?hn ?hr ?_;(case ho=>rfl);(case hg=>rfl);(case hn=>rfl);(case hr=>first|(go_simp;done)|(go_simp;rfl));intro w39 hw;have hg:wr.grownBy w39 (some go36):=(by rw [hw];exact HP38.2);have hp_:Kd.R k24 24 w39 w.heap.size (fun _=>True) (.slice (some ⟨go36,0,none⟩) x7_2.length co37) y202:=(by rw [hw,Ny202.out];exact HP38.1);clear HP38;have n0_:=Aside0.mk (hp_);have n1_:=Aside0.mk ((by rw [hw];exact below_set (HB.out) GB36.out:Below w.heap.size w w39));clear HO_7;clear HB;have HO_7:=n0_;have HB:=n1_;clear n0_ n1_;clear hg hw hp_))
        go_ret
        exact ⟨_,au12,au18,au3⟩
       ·rw [if_neg c35] at H
        exact absurd H au5
end Go.Proofs.YtjehflambbjoaaaDoor.X
namespace Go.Proofs.YtjehflambbjoaaaDoor.Pure
open Go.Proofs.YtjehflambbjoaaaDoor.X Go.RowKit Go.Proofs.YtjehflambbjoaaaDoorW.PrintWords Go.Proofs.YtjehflambbjoaaaDoorW.PrintMore
theorem w64v {x:Int} (h0 : -9223372036854775808≤x) (h1:x≤9223372036854775807):wrap64 x=x:=by unfold wrap64;omega
theorem bt_getD (s:ByteArray) (i:Nat):bt s (i:Int)=((s.data.toList.getD i 0).toNat:Int):=by
 unfold bt
 rw [Int.toNat_natCast]
 split
 ·rename_i h
  rw [List.getD_eq_getElem?_getD,List.getElem?_eq_getElem (by simpa using h)]
  rfl
 ·rename_i h
  rw [List.getD_eq_getElem?_getD,List.getElem?_eq_none (by simpa using h)]
  rfl
def sgnN (n b0 b1 b2 b3:Nat):Nat:=if b0<128 then 1 else if(Lib.decodeN n b0 b1 b2 b3).2=1 then 0 else(Lib.decodeN n b0 b1 b2 b3).2
theorem sgnN_bad {n b0 b1 b2 b3:Nat} (h:¬ b0<128) (h1:(Lib.decodeN n b0 b1 b2 b3).2=1):sgnN n b0 b1 b2 b3=0:=by rw [sgnN,if_neg h,if_pos h1]
theorem sgnN_ok {n b0 b1 b2 b3:Nat} (w:Nat) (h:¬ b0<128) (h1:(Lib.decodeN n b0 b1 b2 b3).2=w) (hw:w≠1):sgnN n b0 b1 b2 b3=w:=by rw [sgnN,if_neg h,h1,if_neg hw]
theorem sgn_N (l:Bs) (i:Nat) (h:i<l.length):sgn (l.drop i)=sgnN (l.length - i) (l.getD i 0).toNat (l.getD (i+1) 0).toNat (l.getD (i+2) 0).toNat (l.getD (i+3) 0).toNat:=by
 have e:∀ j,(l.drop i).getD j 0=l.getD (i+j) 0:=fun j=>by simp [List.getD_eq_getElem?_getD,List.getElem?_drop]
 obtain ⟨c,r,hc⟩:∃ c r,l.drop i=c :: r:=⟨_,_,List.drop_eq_getElem_cons h⟩
 have h0:c=l.getD i 0:=by rw [← Nat.add_zero i,← e 0,hc];rfl
 have hN:=Lib.decodeL_N (l.drop i)
 rw [e 0,e 1,e 2,e 3,List.length_drop,Nat.add_zero] at hN
 rw [hc] at hN ⊢
 simp only [sgn,sgnN]
 rw [hN,h0]
theorem sl_step (s:ByteArray) (k i x6 x7 x8 x9 b:Nat) (hb:b=(s.data.toList.getD (i+x9) 0).toNat) (h1:i+x6≤s.size) (h9:x9<x6) (h7:x7≤100000000) (hs:s.size≤100000000) :
  racewayref25_Sign.l0 (k+1) s (i:Int) (x6:Int) (x7:Int) (x8:Int) (x9:Int)=if b<128 then some 0 else if 191<b then some 0 else racewayref25_Sign.l0 k s (i:Int) (x6:Int) ((64*x7+b - 128:Nat):Int) (x8:Int) ((x9+1:Nat):Int):=by
 have hb8:b<256:=by rw [hb];exact UInt8.toNat_lt _
 rw [racewayref25_Sign.l0,if_pos au0,w64v (x:=(i:Int)+(x9:Int)) au0 au0,if_pos au0,if_pos au0,show(i:Int)+(x9:Int)=((i+x9:Nat):Int) by omega,bt_getD,← hb,w64v (x:=(b:Int)) au0 au0]
 by_cases c1:b<128
 ·rw [if_pos c1,if_pos au0]
 ·rw [if_neg c1,if_neg au0]
  by_cases c2:191<b
  ·rw [if_pos c2,if_pos au0]
  ·rw [if_neg c2,if_neg au0,w64v (x:=64*(x7:Int)) au0 au0,w64v (x:=64*(x7:Int)+(b:Int)) au0 au0,w64v (x:=64*(x7:Int)+(b:Int) - 128) au0 au0,w64v (x:=(x9:Int)+1) au0 au0]
   congr 1
   ·omega
theorem sl_end (s:ByteArray) (k i x6 x7 x8:Nat):racewayref25_Sign.l0 (k+1) s (i:Int) (x6:Int) (x7:Int) (x8:Int) (x6:Int)=some (((if x7<x8 then 0 else if 1114111<x7 then 0 else if 55296≤x7∧x7≤57343 then 0 else x6):Nat):Int):=by
 rw [racewayref25_Sign.l0,if_neg au0]
 by_cases c1:x7<x8
 ·rw [if_pos c1,if_pos au0];rfl
 ·rw [if_neg c1,if_neg au0]
  by_cases c2:1114111<x7
  ·rw [if_pos c2,if_pos au0];rfl
  ·rw [if_neg c2,if_neg au0]
   by_cases c3:55296≤x7
   ·rw [if_pos au0]
    by_cases c4:x7≤57343
    ·rw [if_pos au0,if_pos ⟨c3,c4⟩];rfl
    ·rw [if_neg au0,if_neg au0]
   ·rw [if_neg au0,if_neg au0]
theorem sj2 (s:ByteArray) (k i x6 x7 x8:Nat) (h6:x6≠0) (hi:i≤s.size) (h64:x6≤4) (hs:s.size≤100000000) :
  racewayref25_Sign.j2 (k+2) s (i:Int) (x6:Int) (x7:Int) (x8:Int)=if s.size<i+x6 then some 0 else racewayref25_Sign.l0 k s (i:Int) (x6:Int) (x7:Int) (x8:Int) ((1:Nat):Int):=by
 rw [racewayref25_Sign.j2,if_neg au0,racewayref25_Sign.j3,w64v au0 au0]
 by_cases c:s.size<i+x6
 ·rw [if_pos c,if_pos au16]
 ·rw [if_neg c,if_neg au16]
  rfl
set_option maxRecDepth 100000 in
set_option maxHeartbeats 4000000 in
theorem sign_N (s:ByteArray) (i k b0 b1 b2 b3:Nat) (hi:i<s.size) (hs:s.size≤100000000) (h0:b0=(s.data.toList.getD i 0).toNat) (h1:b1=(s.data.toList.getD (i+1) 0).toNat) (h2:b2=(s.data.toList.getD (i+2) 0).toNat) (h3:b3=(s.data.toList.getD (i+3) 0).toNat) :
  racewayref25_Sign.f (k+20) s (i:Int)=some ((sgnN (s.size - i) b0 b1 b2 b3:Nat):Int):=by
 have q0:b0<256:=by rw [h0];exact UInt8.toNat_lt _
 have q1:b1<256:=by rw [h1];exact UInt8.toNat_lt _
 have q2:b2<256:=by rw [h2];exact UInt8.toNat_lt _
 have q3:b3<256:=by rw [h3];exact UInt8.toNat_lt _
 rw [racewayref25_Sign.f,if_pos au0,if_pos au0,bt_getD,← h0,w64v (x:=(b0:Int)) au0 au0]
 by_cases c1:b0<128
 ·rw [if_pos au0,sgnN,if_pos c1];rfl
 ·rw [if_neg au0]
  have hj0:∀ b:Bool,(b=true→194≤b0∧b0≤223)→(b=false→¬ (194≤b0∧b0≤223))→racewayref25_Sign.j0 (k+20) s (i:Int) (b0:Int) 0 0 0 b=some ((sgnN (s.size - i) b0 b1 b2 b3:Nat):Int):=by
   intro b hb1 hb2
   rw [racewayref25_Sign.j0]
   cases b with
   | true =>
    have r:=hb1 rfl
    rw [if_pos rfl,w64v (x:=(b0:Int) - 192) au0 au0,show((b0:Int) - 192)=((b0 - 192:Nat):Int) by omega]
    refine(sj2 s (k+17) i 2 (b0 - 192) 128 au1 au0 au1 hs).trans ?_
    by_cases c2:s.size<i+2
    ·rw [if_pos c2,sgnN_bad c1 au19]
     rfl
    ·rw [if_neg c2,sl_step s _ i 2 (b0 - 192) 128 1 b1 h1 au0 au0 au0 hs]
     by_cases c3:b1<128
     ·rw [if_pos c3,sgnN_bad c1 au19];rfl
     ·rw [if_neg c3]
      by_cases c4:191<b1
      ·rw [if_pos c4,sgnN_bad c1 au19];rfl
      ·rw [if_neg c4,sl_end s _ i 2 _ 128,if_neg au0,if_neg au0,if_neg au0,sgnN_ok 2 c1 (by unfold Lib.decodeN;rw [if_neg c1,if_pos au0,if_pos au0]) au1]
   | false =>
    have r:=hb2 rfl
    rw [if_neg au1]
    have hj1:∀ b:Bool,(b=true→224≤b0∧b0≤239)→(b=false→¬ (224≤b0∧b0≤239))→racewayref25_Sign.j1 (k+19) s (i:Int) (b0:Int) 0 0 0 b=some ((sgnN (s.size - i) b0 b1 b2 b3:Nat):Int):=by
     intro b hb1 hb2
     rw [racewayref25_Sign.j1]
     cases b with
     | true =>
      have r:=hb1 rfl
      rw [if_pos rfl,w64v (x:=(b0:Int) - 224) au0 au0,show((b0:Int) - 224)=((b0 - 224:Nat):Int) by omega]
      refine(sj2 s (k+16) i 3 (b0 - 224) 2048 au1 au0 au1 hs).trans ?_
      by_cases c2:s.size<i+3
      ·rw [if_pos c2,sgnN_bad c1 au19]
       rfl
      ·rw [if_neg c2,sl_step s _ i 3 (b0 - 224) 2048 1 b1 h1 au0 au0 au0 hs]
       by_cases c3:b1<128
       ·rw [if_pos c3,sgnN_bad c1 au19];rfl
       ·rw [if_neg c3]
        by_cases c4:191<b1
        ·rw [if_pos c4,sgnN_bad c1 au19];rfl
        ·rw [if_neg c4,sl_step s _ i 3 _ 2048 2 b2 h2 au0 au0 au0 hs]
         by_cases c5:b2<128
         ·rw [if_pos c5,sgnN_bad c1 au19];rfl
         ·rw [if_neg c5]
          by_cases c6:191<b2
          ·rw [if_pos c6,sgnN_bad c1 au19];rfl
          ·rw [if_neg c6,sl_end s _ i 3 _ 2048]
           generalize hX:64*(64*(b0 - 224)+b1 - 128)+b2 - 128=X
           have e:b0 % 16*4096+b1 % 64*64+b2 % 64=X:=by omega
           by_cases d1:X<2048
           ·rw [if_pos d1,sgnN_bad c1 (by unfold Lib.decodeN;rw [if_neg c1,if_neg au0,if_pos au0,e,if_neg au0])]
           ·rw [if_neg d1,if_neg au0]
            by_cases d2:55296≤X∧X≤57343
            ·rw [if_pos d2,sgnN_bad c1 (by unfold Lib.decodeN;rw [if_neg c1,if_neg au0,if_pos au0,e,if_neg au0])]
            ·rw [if_neg d2,sgnN_ok 3 c1 (by unfold Lib.decodeN;rw [if_neg c1,if_neg au0,if_pos au0,e,if_pos au0]) au1]
     | false =>
      have r2:=hb2 rfl
      rw [if_neg au1]
      have hbad:¬ (240≤b0∧b0≤244)→racewayref25_Sign.j2 (k+18) s (i:Int) 0 0 0=some ((sgnN (s.size - i) b0 b1 b2 b3:Nat):Int):=by
       intro r3
       have e1:(Lib.decodeN (s.size - i) b0 b1 b2 b3).2=1:=by
        unfold Lib.decodeN
        rw [if_neg c1]
        by_cases a1:b0 / 32=6∧(1<s.size - i∧b1 / 64=2)
        ·rw [if_pos a1,if_neg au0]
        ·rw [if_neg a1,if_neg au0]
         by_cases a3:b0 / 8=30∧(1<s.size - i∧b1 / 64=2)∧(2<s.size - i∧b2 / 64=2)∧(3<s.size - i∧b3 / 64=2)
         ·rw [if_pos a3,if_neg au0]
         ·rw [if_neg a3]
       rw [racewayref25_Sign.j2,if_pos rfl,racewayref25_Sign.j3,if_pos rfl,sgnN_bad c1 e1]
       rfl
      by_cases c240:240≤b0
      ·rw [if_pos au0]
       by_cases c244:b0≤244
       ·rw [if_pos au0,w64v (x:=(b0:Int) - 240) au0 au0,show((b0:Int) - 240)=((b0 - 240:Nat):Int) by omega]
        refine(sj2 s (k+16) i 4 (b0 - 240) 65536 au1 au0 au1 hs).trans ?_
        by_cases c2:s.size<i+4
        ·rw [if_pos c2,sgnN_bad c1 au19]
         rfl
        ·rw [if_neg c2,sl_step s _ i 4 (b0 - 240) 65536 1 b1 h1 au0 au0 au0 hs]
         by_cases c3:b1<128
         ·rw [if_pos c3,sgnN_bad c1 au19];rfl
         ·rw [if_neg c3]
          by_cases c4:191<b1
          ·rw [if_pos c4,sgnN_bad c1 au19];rfl
          ·rw [if_neg c4,sl_step s _ i 4 _ 65536 2 b2 h2 au0 au0 au0 hs]
           by_cases c5:b2<128
           ·rw [if_pos c5,sgnN_bad c1 au19];rfl
           ·rw [if_neg c5]
            by_cases c6:191<b2
            ·rw [if_pos c6,sgnN_bad c1 au19];rfl
            ·rw [if_neg c6,sl_step s _ i 4 _ 65536 3 b3 h3 au0 au0 au0 hs]
             by_cases c7:b3<128
             ·rw [if_pos c7,sgnN_bad c1 au19];rfl
             ·rw [if_neg c7]
              by_cases c8:191<b3
              ·rw [if_pos c8,sgnN_bad c1 au19];rfl
              ·rw [if_neg c8,sl_end s _ i 4 _ 65536]
               generalize hX:64*(64*(64*(b0 - 240)+b1 - 128)+b2 - 128)+b3 - 128=X
               have e:b0 % 8*262144+b1 % 64*4096+b2 % 64*64+b3 % 64=X:=by omega
               by_cases d1:X<65536
               ·rw [if_pos d1,sgnN_bad c1 (by unfold Lib.decodeN;rw [if_neg c1,if_neg au0,if_neg au0,if_pos au0,e,if_neg au0])]
               ·rw [if_neg d1]
                by_cases d3:1114111<X
                ·rw [if_pos d3,sgnN_bad c1 (by unfold Lib.decodeN;rw [if_neg c1,if_neg au0,if_neg au0,if_pos au0,e,if_neg au0])]
                ·rw [if_neg d3,if_neg au0,sgnN_ok 4 c1 (by unfold Lib.decodeN;rw [if_neg c1,if_neg au0,if_neg au0,if_pos au0,e,if_pos au0]) au1]
       ·rw [if_neg au0]
        exact hbad au0
      ·rw [if_neg au0]
       exact hbad au0
    by_cases c224:224≤b0
    ·rw [if_pos au0]
     exact hj1 _ (fun h=>by simp at h;omega) (fun h=>by simp at h;omega)
    ·rw [if_neg au0]
     exact hj1 _ (fun h=>by cases h) (fun _=>by omega)
  by_cases c194:194≤b0
  ·rw [if_pos au0]
   exact hj0 _ (fun h=>by simp at h;omega) (fun h=>by simp at h;omega)
  ·rw [if_neg au0]
   exact hj0 _ (fun h=>by cases h) (fun _=>by omega)
theorem sign_is (s:ByteArray) (p:Nat) (l:Bs) (ha:At s p l) (hl:l≠[]) (hs:s.size≤100000000) (k:Nat) (hk:20≤k):racewayref25_Sign.f k s (p:Int)=some ((sgn l:Nat):Int):=by
 obtain ⟨k,rfl⟩:∃ k',k=k'+20:=⟨k - 20,au0⟩
 have hlt:p<s.size:=by cases l with|nil=>exact absurd rfl hl|cons c r=>exact ha.lt
 have hsz:s.data.toList.length=s.size:=by simp
 rw [sign_N s p k _ _ _ _ hlt hs rfl rfl rfl rfl,← hsz,← sgn_N _ _ au0,← ha.drop]
theorem _root_.Go.Proofs.YtjehflambbjoaaaDoor.X.At.bt {s:ByteArray} {p:Nat} {c:UInt8} {r:Bs} (h:At s p (c :: r)):bt s (p:Int)=(c.toNat:Int):=by
 rw [bt_getD]
 congr 2
 have h2:=h.drop
 have h3:=h.lt
 rw [List.drop_eq_getElem_cons (by simpa using h3)] at h2
 injection h2 with h2 _
 rw [List.getD_eq_getElem?_getD,List.getElem?_eq_getElem (by simpa using h3)]
 exact h2
theorem _root_.Go.Proofs.YtjehflambbjoaaaDoor.X.At.ge {s:ByteArray} {p:Nat} (h:At s p []):¬ (p:Int)<(s.size:Int):=by have:=h.nil;omega
theorem _root_.Go.Proofs.YtjehflambbjoaaaDoor.X.At.lti {s:ByteArray} {p:Nat} {c:UInt8} {r:Bs} (h:At s p (c :: r)):(p:Int)<(s.size:Int):=by have:=h.lt;omega
def okR (s:ByteArray) (r:Bs) (T:List S24) (S:ByteArray):Option (Int × Int × List S24 × ByteArray):=some (((s.size - r.length:Nat):Int),0,T,S)
def badR (s:ByteArray) (r:Bs) (e:Int):Option (Int × Int × List S24 × ByteArray):=some (((s.size - r.length:Nat):Int),e,[],⟨#[]⟩)
theorem is_law {s:ByteArray} {p:Nat} {l:Bs} (ha:At s p l) (n:Int) (c:UInt8) (hc:n=(c.toNat:Int)):racewayref25_is.f s (p:Int) n=some (isC c l):=by
 rw [racewayref25_is.f]
 cases l with
 | nil=>rw [if_neg ha.ge];rfl
 | cons d r =>
  rw [if_pos ha.lti,if_pos au0,ha.bt,hc,isC]
  congr 1
  by_cases h:d=c
  ·subst h;simp
  ·have h2:(d.toNat:Int)≠(c.toNat:Int):=fun e=>h (UInt8.toNat_inj.mp au0)
   rw [beq_eq_false_iff_ne.mpr h2,beq_eq_false_iff_ne.mpr h]
def isD:Bs→Bool
 | c :: _=>isDig c
 | []=>false
theorem digit_law {s:ByteArray} {p:Nat} {l:Bs} (ha:At s p l):racewayref25_digit.f s (p:Int)=some (isD l):=by
 rw [racewayref25_digit.f]
 cases l with
 | nil=>rw [if_neg ha.ge];rfl
 | cons d r =>
  rw [if_pos ha.lti,if_pos au0,ha.bt]
  by_cases h:(48:Int)≤(d.toNat:Int)
  ·rw [if_pos h]
   simp only [isD,isDig]
   rw [decide_eq_true (show 48≤d.toNat by omega),Bool.true_and]
   congr 1
   by_cases h2:d.toNat≤57
   ·rw [decide_eq_true h2,decide_eq_true au0]
   ·rw [decide_eq_false h2,decide_eq_false au0]
  ·rw [if_neg h]
   simp only [isD,isDig]
   rw [decide_eq_false (show ¬ 48≤d.toNat by omega),Bool.false_and]
theorem _root_.Go.Proofs.YtjehflambbjoaaaDoor.X.At.blanks {s:ByteArray}:∀ {l:Bs} {p:Nat},At s p l→At s (s.size - (X.blanks l).length) (X.blanks l)
 | [],p,ha=>by
  have:=ha.nil
  simp only [X.blanks,List.length_nil,Nat.sub_zero]
  rw [← this]
  exact ha
 | c :: r,p,ha=>by
  rw [X.blanks]
  split
  ·exact ha.next.blanks
  ·have:=ha.pos
   rw [← this]
   exact ha
def nres (s:ByteArray) (p:Nat):Rs Unit→Option (Int × Int × List S24 × ByteArray)
 | .ok r _=>okR s r [] (s.extract p (s.size - r.length))
 | .bad r e=>badR s r e
theorem fin_law {s:ByteArray} {p q:Nat} {l:Bs} (ha:At s q l) (hp:p≤q):(if 0≤(p:Int) then(if(p:Int)≤(q:Int) then(if(q:Int)≤(s.size:Int) then(some ((q:Int),0,([]:List (S24)),s.extract (p:Int).toNat (q:Int).toNat)) else(none)) else(none)) else(none))=nres s p (.ok l ()):=by
 have h1:=ha.le
 have h2:=ha.pos
 rw [if_pos au0,if_pos au0,if_pos au0,nres,okR,Int.toNat_natCast,Int.toNat_natCast,← h2]
theorem fail_law {s:ByteArray} {p q:Nat} {l:Bs} (ha:At s q l):((racewayref25_fail.f (q:Int)).bind fun b=>(some (b.1,b.2.1,b.2.2.1,b.2.2.2)))=nres s p (.bad l 5):=by
 have h2:=ha.pos
 rw [racewayref25_fail.f]
 show some ((q:Int),(5:Int),([]:List S24),(⟨#[]⟩:ByteArray))=_
 rw [nres,badR,← h2]
theorem skip_cons (c:UInt8) (r:Bs) (h:isDig c=true):skipDig (c :: r)=skipDig r:=by rw [skipDig,if_pos h]
theorem skip_not (l:Bs) (h:isD l=false):skipDig l=l:=by
 cases l with
 | nil=>rfl
 | cons c r=>rw [skipDig,if_neg (by simpa [isD] using h)]
theorem digits_is (l:Bs):digits l=if isD l=true then .ok (skipDig l) () else .bad l 5:=by
 cases l with
 | nil=>rfl
 | cons c r =>
  simp only [digits]
  by_cases h:isDig c=true
  ·rw [if_pos h,if_pos (show isD (c :: r)=true from h),skip_cons c r h]
  ·rw [if_neg h,if_neg (show ¬ isD (c :: r)=true from h)]
theorem p1 {s:ByteArray} {q:Nat} {c:UInt8} {r:Bs} (hs:s.size≤100000000) (ha:At s q (c :: r)):wrap64 ((q:Int)+1)=((q+1:Nat):Int):=by
 have:=ha.lt
 rw [w64v au0 au0]
 omega
theorem l2_law (s:ByteArray) (hs:s.size≤100000000) (p:Nat):∀(l:Bs) (q k:Nat),At s q l→p≤q→l.length+1≤k→racewayref25_number.l2 k s (q:Int) (p:Int)=nres s p (.ok (skipDig l) ())
 | l,q,0,ha,hp,hk=>by omega
 | [],q,k+1,ha,hp,hk=>by
  rw [racewayref25_number.l2,digit_law ha,Option.bind_some,if_neg au1]
  exact fin_law ha hp
 | c :: r,q,k+1,ha,hp,hk=>by
  rw [racewayref25_number.l2,digit_law ha,Option.bind_some]
  by_cases h:isDig c=true
  ·rw [if_pos (by rw [isD,h]),p1 hs ha,skip_cons c r h]
   exact l2_law s hs p r (q+1) k ha.next au0 au27
  ·rw [if_neg (by rw [isD];exact h),fin_law ha hp,skip_not (c :: r) (by simpa [isD] using h)]
theorem j7_law (s:ByteArray) (hs:s.size≤100000000) (p:Nat) (l:Bs) (q k:Nat) (ha:At s q l) (hp:p≤q) (hk:l.length+2≤k):racewayref25_number.j7 k s (q:Int) (p:Int)=nres s p (digits l):=by
 obtain ⟨k,rfl⟩:∃ k',k=k'+1:=⟨k - 1,au0⟩
 rw [racewayref25_number.j7,digit_law ha,Option.bind_some,digits_is]
 by_cases h:isD l=true
 ·rw [if_pos h,if_pos h]
  exact l2_law s hs p l q k ha hp au0
 ·rw [if_neg h,if_neg h]
  exact fail_law ha
theorem isC_ne {c:UInt8} {l:Bs} (h:isC c l=true):∃ r,l=c :: r:=by
 cases l with
 | nil=>cases h
 | cons d r =>
  simp only [isC,beq_iff_eq] at h
  exact ⟨r,by rw [h]⟩
theorem j4_law (s:ByteArray) (hs:s.size≤100000000) (p:Nat) (l:Bs) (q k:Nat) (ha:At s q l) (hp:p≤q) (hk:l.length+8≤k):racewayref25_number.j4 k s (q:Int) (p:Int)=nres s p (num3 l):=by
 obtain ⟨k,rfl⟩:∃ k',k=k'+4:=⟨k - 4,au0⟩
 have hj5:(isC 101 l || isC 69 l)=true→racewayref25_number.j5 (k+3) s (q:Int) (p:Int) true=nres s p (num3 l):=by
  intro h
  obtain ⟨c,r,rfl⟩:∃ c r,l=c :: r:=by
   simp only [Bool.or_eq_true] at h
   rcases h with h|h
   ·obtain ⟨r,e⟩:=isC_ne h
    exact ⟨_,r,e⟩
   ·obtain ⟨r,e⟩:=isC_ne h
    exact ⟨_,r,e⟩
  have hb:=ha.next
  rw [racewayref25_number.j5,if_pos rfl,p1 hs ha,is_law hb 43 43 rfl,Option.bind_some,is_law hb 45 45 rfl]
  unfold num3
  rw [if_pos h,List.drop_succ_cons,List.drop_zero]
  have h6:racewayref25_number.j6 (k+2) s ((q+1:Nat):Int) (p:Int) (isC 43 r || isC 45 r)=nres s p (if(isC 43 r || isC 45 r)=true then digits (List.drop 2 (c :: r)) else digits r):=by
   rw [racewayref25_number.j6]
   by_cases h2:(isC 43 r || isC 45 r)=true
   ·obtain ⟨c2,r2,rfl⟩:∃ c r',r=c :: r':=by
     simp only [Bool.or_eq_true] at h2
     rcases h2 with h2|h2
     ·obtain ⟨r,e⟩:=isC_ne h2
      exact ⟨_,r,e⟩
     ·obtain ⟨r,e⟩:=isC_ne h2
      exact ⟨_,r,e⟩
    rw [if_pos h2,if_pos h2,p1 hs hb]
    exact j7_law s hs p r2 (q+1+1) _ hb.next au0 au27
   ·rw [if_neg h2,if_neg h2]
    exact j7_law s hs p r (q+1) _ hb au0 au27
  by_cases h3:isC 43 r=true
  ·rw [if_pos h3]
   rw [h3,Bool.true_or] at h6
   rw [h3,Bool.true_or]
   exact h6
  ·rw [if_neg h3,Option.bind_some]
   have h3':isC 43 r=false:=by simpa using h3
   rw [h3',Bool.false_or] at h6
   rw [h3',Bool.false_or]
   exact h6
 rw [racewayref25_number.j4,is_law ha 101 101 rfl,Option.bind_some]
 by_cases h1:isC 101 l=true
 ·rw [if_pos h1]
  exact hj5 (by rw [h1];rfl)
 ·rw [if_neg h1,is_law ha 69 69 rfl,Option.bind_some]
  have h1':isC 101 l=false:=by simpa using h1
  by_cases h2:isC 69 l=true
  ·rw [h2]
   exact hj5 (by rw [h2,Bool.or_true])
  ·have h2':isC 69 l=false:=by simpa using h2
   rw [h2',racewayref25_number.j5,if_neg au1,fin_law ha hp,num3,h1',h2']
   rfl
theorem l1_law (s:ByteArray) (hs:s.size≤100000000) (p:Nat):∀(l:Bs) (q k:Nat),At s q l→p≤q→2*l.length+10≤k→racewayref25_number.l1 k s (q:Int) (p:Int)=nres s p (num3 (skipDig l))
 | l,q,0,ha,hp,hk=>by omega
 | [],q,k+1,ha,hp,hk=>by
  rw [racewayref25_number.l1,digit_law ha,Option.bind_some,if_neg au1]
  exact j4_law s hs p [] q k ha hp (by simp at hk ⊢;omega)
 | c :: r,q,k+1,ha,hp,hk=>by
  rw [racewayref25_number.l1,digit_law ha,Option.bind_some]
  by_cases h:isDig c=true
  ·rw [if_pos (by rw [isD,h]),p1 hs ha,skip_cons c r h]
   exact l1_law s hs p r (q+1) k ha.next au0 au27
  ·rw [if_neg (by rw [isD];exact h),skip_not (c :: r) (by simpa [isD] using h)]
   exact j4_law s hs p (c :: r) q k ha hp (by simp at hk ⊢;omega)
def num23 (l:Bs):Rs Unit:=match num2 l with
 | .bad r e=>.bad r e
 | .ok l3 _=>num3 l3
theorem j2_law (s:ByteArray) (hs:s.size≤100000000) (p:Nat) (l:Bs) (q k:Nat) (ha:At s q l) (hp:p≤q) (hk:2*l.length+12≤k):racewayref25_number.j2 k s (q:Int) (p:Int)=nres s p (num23 l):=by
 obtain ⟨k,rfl⟩:∃ k',k=k'+1:=⟨k - 1,au0⟩
 rw [racewayref25_number.j2,is_law ha 46 46 rfl,Option.bind_some,num23,num2]
 by_cases h:isC 46 l=true
 ·obtain ⟨r,rfl⟩:=isC_ne h
  rw [if_pos h,if_pos h,p1 hs ha,digit_law ha.next,Option.bind_some,List.drop_succ_cons,List.drop_zero,digits_is]
  by_cases h2:isD r=true
  ·rw [if_pos h2,if_pos h2]
   exact l1_law s hs p r (q+1) k ha.next au0 au27
  ·rw [if_neg h2,if_neg h2]
   exact fail_law ha.next
 ·rw [if_neg h,if_neg h]
  exact j4_law s hs p l q k ha hp au0
theorem l0_law (s:ByteArray) (hs:s.size≤100000000) (p:Nat):∀(l:Bs) (q k:Nat),At s q l→p≤q→3*l.length+14≤k→racewayref25_number.l0 k s (q:Int) (p:Int)=nres s p (num23 (skipDig l))
 | l,q,0,ha,hp,hk=>by omega
 | [],q,k+1,ha,hp,hk=>by
  rw [racewayref25_number.l0,digit_law ha,Option.bind_some,if_neg au1]
  exact j2_law s hs p [] q k ha hp (by simp at hk ⊢;omega)
 | c :: r,q,k+1,ha,hp,hk=>by
  rw [racewayref25_number.l0,digit_law ha,Option.bind_some]
  by_cases h:isDig c=true
  ·rw [if_pos (by rw [isD,h]),p1 hs ha,skip_cons c r h]
   exact l0_law s hs p r (q+1) k ha.next au0 au27
  ·rw [if_neg (by rw [isD];exact h),skip_not (c :: r) (by simpa [isD] using h)]
   exact j2_law s hs p (c :: r) q k ha hp (by simp at hk ⊢;omega)
theorem j0_law (s:ByteArray) (hs:s.size≤100000000) (p:Nat) (l:Bs) (q k:Nat) (ha:At s q l) (hp:p≤q) (hk:3*l.length+16≤k):racewayref25_number.j0 k s (q:Int) (p:Int)=nres s p (match num1 l with | .bad r e=>.bad r e | .ok l2 _=>num23 l2):=by
 obtain ⟨k,rfl⟩:∃ k',k=k'+1:=⟨k - 1,au0⟩
 rw [racewayref25_number.j0,digit_law ha,Option.bind_some,num1]
 cases l with
 | nil =>
  rw [if_neg au1]
  exact fail_law ha
 | cons c r =>
  have e48:(bt s (q:Int)=48) ↔ isC 48 (c :: r)=true:=by
   rw [ha.bt]
   simp only [isC,beq_iff_eq]
   exact ⟨fun h=>UInt8.toNat_inj.mp (by show c.toNat=48;omega),fun h=>by rw [h];rfl⟩
  by_cases h:isD (c :: r)=true
  ·rw [if_pos h,if_pos au0,if_pos ha.lti]
   by_cases h2:isC 48 (c :: r)=true
   ·rw [if_pos (e48.mpr h2),if_pos h2,p1 hs ha]
    exact j2_law s hs p r (q+1) k ha.next au0 au27
   ·rw [if_neg (fun hh=>h2 (e48.mp hh)),if_neg h2,digits_is,if_pos h]
    exact l0_law s hs p (c :: r) q k ha hp au0
  ·have h2:¬ isC 48 (c :: r)=true:=by
    intro hh
    simp only [isC,beq_iff_eq] at hh
    subst hh
    exact h (show isDig 48=true by decide)
   rw [if_neg h,if_neg h2,digits_is,if_neg h]
   exact fail_law ha
theorem number_R {s:ByteArray} {p:Nat} {l:Bs} (ha:At s p l) (hs:s.size≤100000000) (k:Nat) (hk:3*l.length+20≤k):racewayref25_number.f k s (p:Int)=nres s p (num l):=by
 rw [racewayref25_number.f,is_law ha 45 45 rfl,Option.bind_some]
 have e:∀ l':Bs,(match num1 l' with | .bad r e=>(.bad r e:Rs Unit) | .ok l2 _=>num23 l2)=(match num1 l' with | .bad r e=>(.bad r e:Rs Unit) | .ok l2 _=>match num2 l2 with | .bad r e=>.bad r e | .ok l3 _=>num3 l3):=fun _=>rfl
 by_cases h:isC 45 l=true
 ·obtain ⟨r,rfl⟩:=isC_ne h
  rw [if_pos h,p1 hs ha,j0_law s hs p r (p+1) k ha.next au0 au27,num,if_pos h]
  rfl
 ·rw [if_neg h,j0_law s hs p l p k ha (Nat.le_refl _) au0,num,if_neg h]
  rfl
def stops:Bs→Bool
 | []=>true
 | c :: _=>!isDig c&&c != 46&&c != 101&&c != 69
theorem map_ok {f:F→F} {x:Rs F} {r:Bs} {g:F} (h:x.map f=.ok r g):∃ g0,x=.ok r g0∧f g0=g:=by
 cases x with
 | bad a b=>cases h
 | ok a b =>
  injection h with h1 h2
  exact ⟨b,by rw [h1],h2⟩
end Go.Proofs.YtjehflambbjoaaaDoor.Pure
namespace Go.Proofs.YtjehflambbjoaaaDoor.X
open Go.RowKit Go.Proofs.YtjehflambbjoaaaDoorW.PrintWords
def mark (c:UInt8):Option UInt8 :=
 if c=34 then some 34 else if c=92 then some 92 else if c=8 then some 98 else if c=12 then some 102
 else if c=10 then some 110 else if c=13 then some 114 else if c=9 then some 116 else none
def hexd (n:Nat):UInt8:=[48,49,50,51,52,53,54,55,56,57,97,98,99,100,101,102].getD n 0
def esc1 (c:UInt8):Bs:=match mark c with
 | some m=>[92,m]
 | none=>if c.toNat<32 then [92,117,48,48,hexd (c.toNat / 16),hexd (c.toNat % 16)] else [c]
def quote (l:Bs):Bs:=34 :: (l.flatMap esc1++[34])
def ltx (kind:Int) (t:Bs):Bs :=
 if kind=1 then [110,117,108,108] else if kind=2 then [116,114,117,101] else if kind=3 then [102,97,108,115,101]
 else if kind=4 then t else quote t
def F.out:F→Bool→Bool→Bs
 | .nil,_,_=>[]
 | .leaf k d t r,ob,first=>(if first then [] else [44])++(if ob then quote k++[58] else [])++ltx d t++r.out ob false
 | .node k d ks r,ob,first=>(if first then [] else [44])++(if ob then quote k++[58] else [])++(if d=7 then 123 :: (ks.out true true++[125]) else 91 :: (ks.out false true++[93]))++r.out ob false
def F.txt (f:F):Bs:=f.out false true
def escB:ByteArray:=⟨#[34,92,98,102,110,114,116]⟩
theorem idx_esc (c:UInt8):match mark c with
  | some m=>∃ j:Nat,Lib.indexByte [34,92,8,12,10,13,9] c=(j:Int)∧j<7∧(∀ h:j<escB.size,escB[j]'h=m)∧(Utf8.encode (m.toNat:Int)).data.toList=[m]
  | none=>Lib.indexByte [34,92,8,12,10,13,9] c = -1:=by
 have:=all_bytes (p:=fun c=>match mark c with
  | some m=>decide (0≤Lib.indexByte [34,92,8,12,10,13,9] c)&&decide ((Lib.indexByte [34,92,8,12,10,13,9] c).toNat<7)&&decide (escB.data.toList.getD (Lib.indexByte [34,92,8,12,10,13,9] c).toNat 0=m)&&decide ((Utf8.encode (m.toNat:Int)).data.toList=[m])
  | none=>decide (Lib.indexByte [34,92,8,12,10,13,9] c = -1)) au11 c
 revert this
 cases mark c with
 | none=>simp
 | some m =>
  simp only [Bool.and_eq_true,decide_eq_true_eq]
  rintro ⟨⟨⟨h0,h1⟩,h2⟩,h3⟩
  refine ⟨(Lib.indexByte [34,92,8,12,10,13,9] c).toNat,au0,h1,fun h=>?_,h3⟩
  rw [← h2,List.getD_eq_getElem?_getD,List.getElem?_eq_getElem (by simpa using h)]
  rfl
theorem esc_len (c:UInt8):(esc1 c).length≤6:=by
 unfold esc1
 split
 ·simp
 ·split<;>simp
theorem esc_all (l:Bs):(l.flatMap esc1).length≤6*l.length:=by
 induction l with
 | nil=>simp
 | cons c l ih =>
  have:=esc_len c
  simp only [List.flatMap_cons,List.length_append,List.length_cons]
  omega
theorem quote_len (l:Bs):(quote l).length≤6*l.length+2:=by
 have:=esc_all l
 simp only [quote,List.length_cons,List.length_append,List.length_nil]
 omega
theorem idx_ofC (s:ByteArray) (c:UInt8) (C:Int) (hC:C=(c.toNat:Int)) (r:Int) (w:World) (h:Lib.indexByte s.data.toList c=r) :
  Calls Tryd.prog 63 #[.string s,.int .u8 C] w fun e w'=>e=.returned (.int .i64 r)∧w'=w:=by
 subst hC
 exact idx_of s c r w h
theorem and15 (c:UInt8):bits .and .u8 (c.toNat:Int) 15=((c.toNat % 16:Nat):Int):=by
 have:=all_bytes (p:=fun c=>decide (bits .and .u8 (c.toNat:Int) 15=((c.toNat % 16:Nat):Int))) au11 c
 simpa using this
theorem hexd_enc (n:Nat) (h:n<16):∃ M:Int,M=((hexd n).toNat:Int)∧(Utf8.encode M).data.toList=[hexd n]:=by
 refine ⟨_,rfl,?_⟩
 have:∀ n,n<16→(Utf8.encode ((hexd n).toNat:Int)).data.toList=[hexd n]:=by decide +kernel
 exact this n h
theorem hex_two (n:Nat) (h:n<2) (h':n<ByteArray.size ⟨#[48,49]⟩):(((⟨#[48,49]⟩:ByteArray)[n]'h').toNat:Int)=((hexd n).toNat:Int):=by
 match n,h with
 | 0,_=>rfl
 | 1,_=>rfl
theorem hex_all (n:Nat) (h:n<16) (h':n<ByteArray.size ⟨#[48,49,50,51,52,53,54,55,56,57,97,98,99,100,101,102]⟩):(((⟨#[48,49,50,51,52,53,54,55,56,57,97,98,99,100,101,102]⟩:ByteArray)[n]'h').toNat:Int)=((hexd n).toNat:Int):=by
 have:∀ n:Fin 16,((((⟨#[48,49,50,51,52,53,54,55,56,57,97,98,99,100,101,102]⟩:ByteArray)[n.val]'n.isLt).toNat:Int)=((hexd n.val).toNat:Int)):=by decide +kernel
 exact this ⟨n,h⟩
set_option maxHeartbeats 4000000 in
set_option maxRecDepth 100000 in
theorem quote_calls (B b:Nat) (s:ByteArray) (acc:Bs) (w:World) (hlen:acc.length+6*s.size+2≤140737488355328) (hb:Bld B b acc w) :
  Calls Tryd.prog 52 #[.pointer (some ⟨b,0,none⟩),.string s] w fun e w'=>e=.returned (.tuple #[])∧Bld B b (acc++quote s.data.toList) w'∧Below B w w'∧Spare b w w':=by
 have HB:=Lib.hid hb
 have hlt:=hb.lt
 have HL:=Lib.hid hlen
 clear hb hlen
 go_enter Tryd.func52,Tryd.ntmps52
 go_wp2_with (go_at_call 45;refine(writeByte_spare B b acc 34 _ HB.out (by have:=HL.out;omega) HB.out.lt).mono ?_;rintro e w1 ⟨⟨x,rfl⟩,hb1,hbel1,hs1⟩;have HS1:=Lib.hid hs1;clear hs1;have HB1:Hid (Bld B b (acc++[34]) w1):=Lib.hid hb1;have HBEL1:=Lib.hid hbel1;clear hb1 hbel1)
 go_loopg [11] s.size (fun k x wr=>∃(q:Nat) (m:Bs) (o:Bs),x=.int .i64 (q:Int)∧Hid (At s q m∧o++m.flatMap esc1=s.data.toList.flatMap esc1∧m.length≤k∧o.length≤6*q)∧Hid (Bld B b (acc++[34]++o) wr)∧Hid (Below B w wr∧Spare b w wr))
 case atStart=>exact ⟨0,s.data.toList,[],rfl,Lib.hid ⟨At.start s,au5,au5,au5⟩,Lib.hid (by simpa using HB1.out),Lib.hid ⟨HBEL1.out,HS1.out⟩⟩
 case round =>
  obtain ⟨q,m,o,rfl,HM,HBR,HBL⟩:=hrel
  cases m with
  | nil =>
   obtain ⟨d1,d2⟩:=at_ge HM.out.1
   go_wp2_with (go_at_call 45;refine(writeByte_spare B b (acc++[34]++o) 34 _ HBR.out (by have:=HL.out;have:=HM.out.2.2.2;have:=HM.out.1.len;simp;omega) HBR.out.lt).mono ?_;rintro e w2 ⟨⟨x,rfl⟩,hb2,hbel2,hs2⟩;have HS2:=Lib.hid hs2;clear hs2;have HB2:Hid (Bld B b (acc++[34]++o++[34]) w2):=Lib.hid hb2;have HBEL2:=Lib.hid hbel2;clear hb2 hbel2)
   go_end0
   refine ⟨rfl,?_,HBL.out.1.trans HBEL2.out,HBL.out.2.trans HS2.out⟩
   have he:=HM.out.2.1
   simp only [List.flatMap_nil,List.append_nil] at he
   rw [quote,← he]
   simpa using HB2.out
  | cons c m =>
   obtain ⟨d1,d2⟩:=at_lt HM.out.1
   have hlt:=HM.out.1.lt
   have hx:=HM.out.1.byte
   have hi:=idx_esc c
   have HCL:Hid ((acc++[34]++o).length+6≤140737488355328):=Lib.hid (by have:=HL.out;have:=HM.out.2.2.2;have:=HM.out.1.lt;simp;omega)
   have HQ:Hid (q<140737488355328):=Lib.hid (by have:=HL.out;omega)
   have NEXT:∀(wx:World),Bld B b (acc++[34]++o++esc1 c) wx→(Below B w wx∧Spare b w wx)→∃(q':Nat) (m':Bs) (o':Bs),Value.int .i64 (wrap64 ((q:Int)+1))=.int .i64 (q':Int)∧Hid (At s q' m'∧o'++m'.flatMap esc1=s.data.toList.flatMap esc1∧m'.length≤m.length∧o'.length≤6*q')∧Hid (Bld B b (acc++[34]++o') wx)∧Hid (Below B w wx∧Spare b w wx):=by
    intro wx hbx hlx
    refine ⟨q+1,m,o++esc1 c,by rw [show wrap64 ((q:Int)+1)=(q:Int)+1 by have:=HQ.out;unfold wrap64;omega];simp,Lib.hid ⟨HM.out.1.next,?_,Nat.le_refl _,?_⟩,Lib.hid (by simpa using hbx),Lib.hid hlx⟩
    ·have:=HM.out.2.1
     simpa using this
    ·have:=HM.out.2.2.2
     have:=esc_len c
     simp
     omega
   have HN:=Lib.hid NEXT
   clear NEXT
   cases hu:mark c with
   | some mm =>
    rw [hu] at hi
    obtain ⟨j,hj,hj7,hm,hen⟩:=hi
    have HJ:=Lib.hid hj
    have hE:esc1 c=[92,mm]:=by rw [esc1,hu]
    have HE:=Lib.hid hE
    obtain ⟨M,hM⟩:∃ M:Int,M=(mm.toNat:Int):=⟨_,rfl⟩
    have hmx:∀ h:j<ByteArray.size ⟨#[34,92,98,102,110,114,116]⟩,(((⟨#[34,92,98,102,110,114,116]⟩:ByteArray)[j]'h).toNat:Int)=M:=fun h=>by
     have:=hm h
     unfold escB at this
     rw [this,hM]
    rw [← hM] at hen
    have hz:(Utf8.encode M).size=1:=by
     have:=congrArg List.length hen
     simpa using this
    have HEN:=Lib.hid hen
    have w1:(0≤(j:Int))=True:=eq_true au0
    have w2:((j:Int)<7)=True:=eq_true au0
    clear hj hu hm hE hen hM
    go_wp2_with (first
     | (go_at_call 63;refine(idx_of _ c (j:Int) _ HJ.out).mono ?_;rintro e w1 ⟨rfl,rfl⟩))
    go_wp2_with (first
     | (go_at_call 50;refine(writeStr_spare B b (acc++[34]++o) [92,mm] _ _ HBR.out (by simp [HEN.out]) (by have:=HCL.out;simp only [List.length_cons,List.length_nil];omega) HBR.out.lt).mono ?_;rintro e w3 ⟨⟨y,rfl⟩,hb3,hbel3,hs3⟩;have HS3:=Lib.hid hs3;clear hs3;have HB3:Hid (Bld B b (acc++[34]++o++[92,mm]) w3):=Lib.hid hb3;have HBEL3:=Lib.hid hbel3;clear hb3 hbel3))
    go_roundg m.length
    case measure=>have:=HM.out.2.2.1;simp at this;omega
    case rel=>exact HN.out _ (by rw [HE.out];exact HB3.out) ⟨HBL.out.1.trans HBEL3.out,HBL.out.2.trans (HS3.out)⟩
   | none =>
    rw [hu] at hi
    have HI:Hid (Lib.indexByte [34,92,8,12,10,13,9] c = -1):=Lib.hid hi
    by_cases hc:c.toNat<32
    ·have hE:esc1 c=[92,117,48,48,hexd (c.toNat / 16),hexd (c.toNat % 16)]:=by rw [esc1,hu];simp only;rw [if_pos hc]
     have HE:=Lib.hid hE
     obtain ⟨C,hC⟩:∃ C:Int,C=(c.toNat:Int):=⟨_,rfl⟩
     have hd:decide (C<32)=true:=decide_eq_true au0
     have hC0:0≤C:=by omega
     have hC1:C<32:=by omega
     have HD:=Lib.hid hc
     obtain ⟨a,haN⟩:∃ a:Nat,a=c.toNat / 16:=⟨_,rfl⟩
     obtain ⟨d,hdN⟩:∃ d:Nat,d=c.toNat % 16:=⟨_,rfl⟩
     have hdv:C / 16=(a:Int):=by omega
     have hmd:bits .and .u8 C 15=(d:Int):=by rw [hC,hdN];exact and15 c
     obtain ⟨MA,ea1,ea2⟩:=hexd_enc a au0
     obtain ⟨MD,ed1,ed2⟩:=hexd_enc d au0
     have hma:∀ h:a<ByteArray.size ⟨#[48,49]⟩,(((⟨#[48,49]⟩:ByteArray)[a]'h).toNat:Int)=MA:=fun h=>ea1 ▸ hex_two a au0 h
     have hmb:∀ h:d<ByteArray.size ⟨#[48,49,50,51,52,53,54,55,56,57,97,98,99,100,101,102]⟩,(((⟨#[48,49,50,51,52,53,54,55,56,57,97,98,99,100,101,102]⟩:ByteArray)[d]'h).toNat:Int)=MD:=fun h=>ed1 ▸ hex_all d au0 h
     have hza:(Utf8.encode MA).size=1:=by
      have:=congrArg List.length ea2
      simpa using this
     have hzd:(Utf8.encode MD).size=1:=by
      have:=congrArg List.length ed2
      simpa using this
     have v1:(0≤(a:Int))=True:=eq_true au0
     have v2:((a:Int)<2)=True:=eq_true au0
     have v3:(0≤(d:Int))=True:=eq_true au0
     have v4:((d:Int)<16)=True:=eq_true au0
     have EA2:=Lib.hid ea2
     have ED2:=Lib.hid ed2
     have HA:=Lib.hid haN
     have HDN:=Lib.hid hdN
     rw [← hC] at hx
     clear ea1 ea2 ed1 ed2 haN hdN
     have HCC:=Lib.hid hC
     clear hi hu hE hc hC
     go_wp2_with (first
      | (go_at_call 63;refine(idx_ofC _ c C HCC.out (-1) _ HI.out).mono ?_;rintro e w1 ⟨rfl,rfl⟩))
     go_region_held3 (fun _=>True) (trivial) ((go_at_call 50;refine(writeStr_spare B b (acc++[34]++o) [92,117,48,48,hexd (c.toNat / 16),hexd (c.toNat % 16)] _ _ (HBR.out.drawn au17) (by rw [← HA.out,← HDN.out];simp [EA2.out,ED2.out]) (by have:=HCL.out;simp only [List.length_cons,List.length_nil];omega) (HBR.out.drawn au17).lt).mono ?_;rintro e w3 ⟨⟨y,rfl⟩,hb3,hbel3,hs3⟩;have HS3:=Lib.hid hs3;clear hs3;have HB3:Hid (Bld B b (acc++[34]++o++[92,117,48,48,hexd (c.toNat / 16),hexd (c.toNat % 16)]) w3):=Lib.hid hb3;have HBEL3:Hid (Below B w1 w3):=Lib.hid (((Drawn0.below au17).mono HBR.out.lt).trans hbel3);clear hb3 hbel3))
     all_goals
      go_wp2_with fail
      go_roundg m.length
      case measure=>have:=HM.out.2.2.1;simp at this;omega
      case rel=>exact HN.out _ (by rw [HE.out];exact HB3.out) ⟨HBL.out.1.trans HBEL3.out,HBL.out.2.trans ((Spare.drawn au17).trans HS3.out)⟩
    ·have hE:esc1 c=[c]:=by rw [esc1,hu];simp only;rw [if_neg hc]
     have HE:=Lib.hid hE
     have hd:decide ((c.toNat:Int)<32)=false:=decide_eq_false au0
     clear hi hu hE
     go_wp2_with (first
      | (go_at_call 63;refine(idx_of _ c (-1) _ HI.out).mono ?_;rintro e w1 ⟨rfl,rfl⟩)
      | (go_at_call 45;refine(writeByte_spare B b (acc++[34]++o) c _ HBR.out (by have:=HCL.out;omega) HBR.out.lt).mono ?_;rintro e w3 ⟨⟨y,rfl⟩,hb3,hbel3,hs3⟩;have HS3:=Lib.hid hs3;clear hs3;have HB3:Hid (Bld B b (acc++[34]++o++[c]) w3):=Lib.hid hb3;have HBEL3:=Lib.hid hbel3;clear hb3 hbel3))
     go_roundg m.length
     case measure=>have:=HM.out.2.2.1;simp at this;omega
     case rel=>exact HN.out _ (by rw [HE.out];exact HB3.out) ⟨HBL.out.1.trans HBEL3.out,HBL.out.2.trans (HS3.out)⟩
theorem str_list (t:Bs):(str t).data.toList=t:=rfl
theorem str_size (t:Bs):(str t).size=t.length:=by rw [← ByteArray.size_data];rfl
theorem esc_pos (c:UInt8):1≤(esc1 c).length:=by
 unfold esc1
 split
 ·simp
 ·split<;>simp
theorem quote_ge (l:Bs):l.length≤(quote l).length:=by
 have:l.length≤(l.flatMap esc1).length:=by
  induction l with
  | nil=>simp
  | cons c l ih =>
   have:=esc_pos c
   simp only [List.flatMap_cons,List.length_append,List.length_cons]
   omega
 simp only [quote,List.length_cons,List.length_append,List.length_nil]
 omega
def F.trees:F→List F
 | .nil=>[]
 | .leaf k d t r=>.leaf k d t .nil :: r.trees
 | .node k d ks r=>.node k d ks .nil :: r.trees
abbrev big:Nat:=17592186044416
def WriteOk (t:F):Prop:=∀(B b:Nat) (A:Option Addr) (cp:Nat) (pre post:List Nd) (acc:Bs) (w0 w:World),(pre++t.flat++post).length≤cp→(pre++t.flat++post).length≤1099511627776→acc.length+(t.out false true).length≤big →
 Kd.C kN w0 A (pre++t.flat++post).length (pre++t.flat++post)→w0.heap.size≤B→Below w0.heap.size w0 w→Bld B b acc w →
 Calls Tryd.prog 37 #[.pointer (some ⟨b,0,none⟩),.slice A (pre++t.flat++post).length cp,.int .i64 (pre.length:Int)] w fun e w'=>e=.returned (.int .i64 ((pre.length+t.flat.length:Nat):Int))∧Bld B b (acc++t.out false true) w'∧Below B w w'∧Spare b w w'
theorem Bld.blt {B b:Nat} {l:Bs} {w:World} (h:Bld B b l w):b<w.heap.size:=by
 rcases h with ⟨hB,v,hb,_⟩|⟨hB,v,hb,_⟩<;>exact(Array.getElem?_eq_some_iff.mp hb).1
theorem node_at {w0 w:World} {A:Option Addr} {pre post:List Nd} {x:Nd} (h:Kd.C kN w0 A (pre++x :: post).length (pre++x :: post)) (hb:Below w0.heap.size w0 w) :
  ∃ ad,A=some ad∧w.cell? (ad.add (pre.length*5))=some (.int .i64 x.f0)∧w.cell? ⟨(ad.add (pre.length*5)).block,(ad.add (pre.length*5)).off+1,none⟩=some (.int .i64 x.f1)∧w.cell? ⟨(ad.add (pre.length*5)).block,(ad.add (pre.length*5)).off+2,none⟩=some (.int .i64 x.f2)∧w.cell? ⟨(ad.add (pre.length*5)).block,(ad.add (pre.length*5)).off+3,none⟩=some (.string x.f3)∧w.cell? ⟨(ad.add (pre.length*5)).block,(ad.add (pre.length*5)).off+4,none⟩=some (.string x.f4):=by
 have h1:=Kd.C_below h hb
 obtain ⟨ad,e,h0,h1,h2,h3,h4⟩:=at_T24 h1 (pre.length:Int) au0 au16
 have hx:rd_T24 (pre++x :: post) (pre.length:Int)=x:=by simp [rd_T24]
 rw [hx] at h0 h1 h2 h3 h4
 exact ⟨ad,e,h0,h1,h2,h3,h4⟩
set_option maxHeartbeats 4000000 in
set_option maxRecDepth 100000 in
theorem write_leaf (k:Bs) (d:Int) (t:Bs) (hd:1≤d∧d≤5):WriteOk (.leaf k d t .nil):=by
 intro B b A cp pre post acc w0 w hcp hlen hbig hC hB hbel hbld
 simp only [F.flat,List.append_assoc,List.cons_append,List.nil_append] at hcp hlen hC ⊢
 obtain ⟨ad,rfl,k0,k1,k2,k3,k4⟩:=node_at hC hbel
 simp only at k0 k1 k2 k3 k4
 generalize hN:(pre++(⟨d,1,0,str k,str t⟩:Nd) :: post).length=N at hcp hlen hC
 have hp:pre.length<N:=by rw [← hN];simp
 have p1:(0≤(pre.length:Int))=True:=eq_true au0
 have p2:((pre.length:Int)<(N:Int))=True:=eq_true au0
 have HBIG:=Lib.hid hbig
 have HBLD:=Lib.hid hbld
 have HL:=Lib.hid hlen
 clear hbig hbld hC hbel hN hlen
 have hal:=heap_alloc_new w (.cells #[.int .i64 d,.int .i64 1,.int .i64 0,.string (str k),.string (str t)] 24 (0,0))
 have hbw:Below w.heap.size w (w.alloc (.cells #[.int .i64 d,.int .i64 1,.int .i64 0,.string (str k),.string (str t)] 24 (0,0))):=(Below.refl _ _).alloc (Nat.le_refl _) _
 have x0:=(blk_cell hal 0).trans (rfl:_=some (Value.int .i64 d))
 have x1:=(blk_cell hal 1).trans (rfl:_=some (Value.int .i64 1))
 have x4:=(blk_cell hal 4).trans (rfl:_=some (Value.string (str t)))
 have HBN:Hid (Bld B b acc (w.alloc (.cells #[.int .i64 d,.int .i64 1,.int .i64 0,.string (str k),.string (str t)] 24 (0,0)))):=Lib.hid (HBLD.out.below hbw)
 have HBW:=Lib.hid (hbw.mono HBLD.out.lt)
 have HBA:=Lib.hid hbw
 have HLT:=Lib.hid (blk_lt hal)
 have HXX:=Lib.hid hal
 have hcase:d=1∨d=2∨d=3∨d=4∨d=5:=by omega
 have HO:Hid ((F.leaf k d t .nil).out false true=ltx d t):=Lib.hid (by simp [F.out])
 rw [HO.out]
 have HBG:Hid (acc.length+(ltx d t).length≤17592186044416):=Lib.hid (by have:=HBIG.out;rw [HO.out] at this;exact this)
 clear hal hbw HBIG HO
 have n1:wrap64 ((pre.length:Int)+1)=(pre.length:Int)+1:=by have:=HL.out;unfold wrap64;omega
 have HW1:=Lib.hid n1
 have HNE:Hid (w.heap.size≠b):=Lib.hid (by have:=HBLD.out.blt;omega)
 clear n1
 rcases hcase with rfl|rfl|rfl|rfl|rfl
 ·clear x4
  go_enter Tryd.func37,Tryd.ntmps37
  go_wp2_with (go_at_call 50;refine(writeStr_spare B b acc ([110,117,108,108]) _ _ HBN.out rfl au55 HBN.out.lt).mono ?_;rintro e w3 ⟨⟨y,rfl⟩,hb3,hbel3,hs3⟩;have HB3:Hid (Bld B b (acc++[110,117,108,108]) w3):=Lib.hid hb3;have HBEL3:=Lib.hid hbel3;have HS3:=Lib.hid hs3;have y1:w3.cell? ⟨w.heap.size,1,none⟩=some (.int .i64 1):=(blk_cell (hs3.cells HXX.out au1 HNE.out) 1).trans rfl;clear hb3 hbel3 hs3)
  go_ret
  rw [HW1.out]
  exact ⟨rfl,HB3.out,HBW.out.trans HBEL3.out,(Spare.of_below (HBA.out)).trans HS3.out⟩
 ·clear x4
  go_enter Tryd.func37,Tryd.ntmps37
  go_wp2_with (go_at_call 50;refine(writeStr_spare B b acc ([116,114,117,101]) _ _ HBN.out rfl au55 HBN.out.lt).mono ?_;rintro e w3 ⟨⟨y,rfl⟩,hb3,hbel3,hs3⟩;have HB3:Hid (Bld B b (acc++[116,114,117,101]) w3):=Lib.hid hb3;have HBEL3:=Lib.hid hbel3;have HS3:=Lib.hid hs3;have y1:w3.cell? ⟨w.heap.size,1,none⟩=some (.int .i64 1):=(blk_cell (hs3.cells HXX.out au1 HNE.out) 1).trans rfl;clear hb3 hbel3 hs3)
  go_ret
  rw [HW1.out]
  exact ⟨rfl,HB3.out,HBW.out.trans HBEL3.out,(Spare.of_below (HBA.out)).trans HS3.out⟩
 ·clear x4
  go_enter Tryd.func37,Tryd.ntmps37
  go_wp2_with (go_at_call 50;refine(writeStr_spare B b acc ([102,97,108,115,101]) _ _ HBN.out rfl au55 HBN.out.lt).mono ?_;rintro e w3 ⟨⟨y,rfl⟩,hb3,hbel3,hs3⟩;have HB3:Hid (Bld B b (acc++[102,97,108,115,101]) w3):=Lib.hid hb3;have HBEL3:=Lib.hid hbel3;have HS3:=Lib.hid hs3;have y1:w3.cell? ⟨w.heap.size,1,none⟩=some (.int .i64 1):=(blk_cell (hs3.cells HXX.out au1 HNE.out) 1).trans rfl;clear hb3 hbel3 hs3)
  go_ret
  rw [HW1.out]
  exact ⟨rfl,HB3.out,HBW.out.trans HBEL3.out,(Spare.of_below (HBA.out)).trans HS3.out⟩
 ·go_enter Tryd.func37,Tryd.ntmps37
  go_wp2_with (go_at_call 50;refine(writeStr_spare B b acc (t) _ _ HBN.out rfl au55 HBN.out.lt).mono ?_;rintro e w3 ⟨⟨y,rfl⟩,hb3,hbel3,hs3⟩;have HB3:Hid (Bld B b (acc++t) w3):=Lib.hid hb3;have HBEL3:=Lib.hid hbel3;have HS3:=Lib.hid hs3;have y1:w3.cell? ⟨w.heap.size,1,none⟩=some (.int .i64 1):=(blk_cell (hs3.cells HXX.out au1 HNE.out) 1).trans rfl;clear hb3 hbel3 hs3)
  go_ret
  rw [HW1.out]
  exact ⟨rfl,HB3.out,HBW.out.trans HBEL3.out,(Spare.of_below (HBA.out)).trans HS3.out⟩
 ·go_enter Tryd.func37,Tryd.ntmps37
  go_wp2_with (go_at_call 52;refine(quote_calls B b (str t) acc _ (by rw [str_size];have h5:=HBG.out;have h6:=quote_ge t;simp [ltx] at h5;omega) HBN.out).mono ?_;rintro e w3 ⟨rfl,hb3,hbel3,hs3⟩;rw [str_list] at hb3;have HB3:Hid (Bld B b (acc++(quote t)) w3):=Lib.hid hb3;have HBEL3:=Lib.hid hbel3;have HS3:=Lib.hid hs3;have y1:w3.cell? ⟨w.heap.size,1,none⟩=some (.int .i64 1):=(blk_cell (hs3.cells HXX.out au1 HNE.out) 1).trans rfl;clear hb3 hbel3 hs3)
  go_ret
  rw [HW1.out]
  exact ⟨rfl,HB3.out,HBW.out.trans HBEL3.out,(Spare.of_below (HBA.out)).trans HS3.out⟩
theorem node_at2 {w0 w:World} {ad:Addr} {N:Nat} {l pre post:List Nd} {x:Nd} (h:Kd.C kN w0 (some ad) N l) (hN:N=l.length) (hl:l=pre++x :: post) (hb:Below w0.heap.size w0 w) :
  w.cell? (ad.add (pre.length*5))=some (.int .i64 x.f0)∧w.cell? ⟨(ad.add (pre.length*5)).block,(ad.add (pre.length*5)).off+1,none⟩=some (.int .i64 x.f1)∧w.cell? ⟨(ad.add (pre.length*5)).block,(ad.add (pre.length*5)).off+2,none⟩=some (.int .i64 x.f2)∧w.cell? ⟨(ad.add (pre.length*5)).block,(ad.add (pre.length*5)).off+3,none⟩=some (.string x.f3)∧w.cell? ⟨(ad.add (pre.length*5)).block,(ad.add (pre.length*5)).off+4,none⟩=some (.string x.f4):=by
 subst hN hl
 obtain ⟨ad',e,h0,h1,h2,h3,h4⟩:=node_at h hb
 cases e
 exact ⟨h0,h1,h2,h3,h4⟩
theorem F.part (f:F):f=.nil∨∃(t r:F) (key:Bs) (x:Nd) (tl:List Nd),t∈f.trees∧(∀ u∈r.trees,u∈f.trees)∧f.flat=t.flat++r.flat∧t.flat=x :: tl∧x.f3=str key∧f.count=r.count+1 ∧
  ∀ ob first,f.out ob first=(if first then [] else [44])++(if ob then quote key++[58] else [])++t.out false true++r.out ob false:=by
 cases f with
 | nil=>exact .inl rfl
 | leaf k d t r =>
  refine .inr ⟨.leaf k d t .nil,r,k,_,_,by simp [F.trees],fun u hu=>by simp [F.trees,hu],au21,rfl,rfl,rfl,fun ob first=>?_⟩
  simp [F.out]
 | node k d ks r =>
  refine .inr ⟨.node k d ks .nil,r,k,_,_,by simp [F.trees],fun u hu=>by simp [F.trees,hu],au21,rfl,rfl,rfl,fun ob first=>?_⟩
  simp [F.out]
theorem F.cnt_le:∀ f:F,f.count≤f.flat.length
 | .nil=>Nat.le_refl _
 | .leaf k d t r=>by simp only [F.count,F.flat,List.length_cons];have:=F.cnt_le r;omega
 | .node k d ks r=>by simp only [F.count,F.flat,List.length_cons,List.length_append];have:=F.cnt_le r;omega
theorem wb (B b:Nat) (l:List UInt8) (c:UInt8) (C:Int) (hC:(c.toNat:Int)=C) (w:World) (h:Bld B b l w) (hlen:l.length+1≤140737488355328) (hBw:B≤w.heap.size) :
  Calls Tryd.prog 45 #[.pointer (some ⟨b,0,none⟩),.int .u8 C] w fun e w'=>(∃ x,e=.returned x)∧Bld B b (l++[c]) w'∧Below B w w'∧Spare b w w':=by
 subst hC
 exact writeByte_spare B b l c w h hlen hBw
theorem WriteOk.use {t:F} (h:WriteOk t) (B b:Nat) (ad:Addr) (cp N:Nat) (l pre post:List Nd) (acc:Bs) (w0 w:World) (hN:N=l.length) (hl:l=pre++t.flat++post) (hcp:N≤cp) (hlen:N≤1099511627776) (hbig:acc.length+(t.out false true).length≤big)
  (hC:Kd.C kN w0 (some ad) N l) (hB:w0.heap.size≤B) (hbel:Below w0.heap.size w0 w) (hbld:Bld B b acc w) :
  Calls Tryd.prog 37 #[.pointer (some ⟨b,0,none⟩),.slice (some ad) N cp,.int .i64 (pre.length:Int)] w fun e w'=>e=.returned (.int .i64 ((pre.length+t.flat.length:Nat):Int))∧Bld B b (acc++t.out false true) w'∧Below B w w'∧Spare b w w':=by
 subst hN hl
 exact h B b (some ad) cp pre post acc w0 w hcp hlen hbig hC hB hbel hbld
set_option maxHeartbeats 1000000 in
set_option maxRecDepth 100000 in
theorem many_list (k:Bs) (ks:F) (hks:∀ t∈ks.trees,WriteOk t) (B b:Nat) (ad:Addr) (cp N:Nat) (pre post:List Nd) (acc:Bs) (w0 w:World) (hN:N=(pre++(F.node k 6 ks .nil).flat++post).length) (hcp:N≤cp) (hlen:N≤1099511627776) (hbig:acc.length+(ks.out false true).length+2≤big)
  (hC:Kd.C kN w0 (some ad) N (pre++(F.node k 6 ks .nil).flat++post)) (hB:w0.heap.size≤B) (hbel:Below w0.heap.size w0 w) (hbld:Bld B b acc w) :
  Calls Tryd.prog 53 #[.pointer (some ⟨b,0,none⟩),.slice (some ad) N cp,.int .i64 (pre.length:Int)] w fun e w'=>e=.returned (.tuple #[])∧Bld B b (acc++(91 :: (ks.out false true++[93]))) w'∧Below B w w'∧Spare b w w':=by
 generalize hl:pre++(F.node k 6 ks .nil).flat++post=l at hN hC
 have hls:l=pre++(⟨6,((ks.flat.length+1:Nat):Int),(ks.count:Nat),str k,str []⟩:Nd) :: (ks.flat++post):=by rw [← hl];simp [F.flat]
 have HC:=Lib.hid hC
 have HNL:=Lib.hid hN
 have HLS:=Lib.hid hls
 have hp:pre.length<N:=by rw [hN,hls];simp
 have HBEL:=Lib.hid hbel
 have HBLD:=Lib.hid hbld
 have HBIG:=Lib.hid hbig
 have HL:=Lib.hid hlen
 have HKS:=Lib.hid hks
 have HBB:=Lib.hid hB
 clear hks hl hls hN hC hbel hbld hbig hB
 obtain ⟨k0,k1,k2,k3,k4⟩:=node_at2 HC.out HNL.out HLS.out HBEL.out
 simp only at k0 k2
 clear k1 k3 k4
 have p1:(0≤(pre.length:Int))=True:=eq_true au0
 have p2:((pre.length:Int)<(N:Int))=True:=eq_true au0
 have n1:wrap64 ((pre.length:Int)+1)=((pre.length+1:Nat):Int):=by have:=HL.out;unfold wrap64;omega
 have HW1:=Lib.hid n1
 clear n1 hlen
 have E0:∀ h:0<ByteArray.size ⟨#[91,93]⟩,(((⟨#[91,93]⟩:ByteArray)[0]'h).toNat:Int)=((91:UInt8).toNat:Int):=fun _=>rfl
 have E1:∀ h:1<ByteArray.size ⟨#[91,93]⟩,(((⟨#[91,93]⟩:ByteArray)[1]'h).toNat:Int)=((93:UInt8).toNat:Int):=fun _=>rfl
 go_enter Tryd.func53,Tryd.ntmps53
 go_wp2_with (go_at_call 45;refine(writeByte_spare B b acc 91 _ HBLD.out (by have:=HBIG.out;unfold big at this;omega) HBLD.out.lt).mono ?_;rintro e w1 ⟨⟨x,rfl⟩,hb1,hbel1,hs1⟩;have HB1:Hid (Bld B b (acc++[91]) w1):=Lib.hid hb1;have HBL1:=Lib.hid hbel1;have HS1:=Lib.hid hs1;have HBE1:Hid (Below w0.heap.size w0 w1):=Lib.hid (HBEL.out.trans (hbel1.mono HBB.out));clear hb1 hbel1 hs1;obtain ⟨k0,k1,k2,k3,k4⟩:=node_at2 HC.out HNL.out HLS.out HBE1.out;clear k1 k3 k4)
 rw [HW1.out]
 go_loopg [7,26] ks.count (fun n x7 x26 wr=>∃(i p:Nat) (f:F) (mid:List Nd) (o:Bs),x7=.int .i64 (p:Int)∧x26=.int .i64 (i:Int)∧Hid (ks.flat=mid++f.flat∧p=pre.length+1+mid.length∧i+f.count=ks.count∧f.count≤n∧o++f.out false (decide (i=0))=ks.out false true∧∀ t∈f.trees,WriteOk t)∧Hid (Bld B b (acc++[91]++o) wr)∧Hid (Below B w wr∧Spare b w wr))
 case atStart=>exact ⟨0,pre.length+1,ks,[],[],rfl,rfl,Lib.hid ⟨rfl,rfl,au5,Nat.le_refl _,au5,HKS.out⟩,Lib.hid (by simpa using HB1.out),Lib.hid ⟨HBL1.out,HS1.out⟩⟩
 case round =>
  obtain ⟨i,p,f,mid,o,rfl,rfl,HM,HBR,HBL⟩:=hrel
  have HBE:Hid (Below w0.heap.size w0 wr):=Lib.hid (HBEL.out.trans (HBL.out.1.mono HBB.out))
  rcases F.part f with hf|⟨t,r,key,x,tl,hin,hrest,hfl,htl,hkey,hcnt,hout⟩
  ·have HM0:=HM.out
   rw [hf] at HM0
   have HM2:=Lib.hid HM0
   have d1:decide (i<ks.count)=false:=decide_eq_false au43
   clear HM0 hf
   go_wp2_with (go_at_call 45;refine(writeByte_spare B b (acc++[91]++o) 93 _ HBR.out (by have h1:=HBIG.out;have h2:=congrArg List.length HM2.out.2.2.2.2.1;unfold big at h1;simp only [List.length_append,List.length_cons,List.length_nil,F.out] at h1 h2 ⊢;omega) HBR.out.lt).mono ?_;rintro e w2 ⟨⟨x,rfl⟩,hb2,hbel2,hs2⟩;have HB2:Hid (Bld B b (acc++[91]++o++[93]) w2):=Lib.hid hb2;have HBL2:=Lib.hid hbel2;have HS2:=Lib.hid hs2;clear hb2 hbel2 hs2)
   go_end0
   refine ⟨rfl,?_,HBL.out.1.trans HBL2.out,HBL.out.2.trans HS2.out⟩
   have he:=HM2.out.2.2.2.2.1
   simp only [F.out,List.append_nil] at he
   rw [← he]
   simpa using HB2.out
  ·have d1:decide (i<ks.count)=true:=decide_eq_true (by have:=HM.out.2.2.1;omega)
   obtain ⟨k0,k1,k2,k3,k4⟩:=node_at2 HC.out HNL.out HLS.out HBE.out
   simp only at k0
   clear k1 k2 k3 k4
   have HT:Hid (WriteOk t):=Lib.hid (HM.out.2.2.2.2.2 t hin)
   have hl2:l=(pre++[(⟨6,((ks.flat.length+1:Nat):Int),(ks.count:Nat),str k,str []⟩:Nd)]++mid)++t.flat++(r.flat++post):=by
    rw [HLS.out,HM.out.1,hfl]
    simp
   have hp2:(pre++[(⟨6,((ks.flat.length+1:Nat):Int),(ks.count:Nat),str k,str []⟩:Nd)]++mid).length=p:=by rw [HM.out.2.1];simp;omega
   generalize hpre2:pre++[(⟨6,((ks.flat.length+1:Nat):Int),(ks.count:Nat),str k,str []⟩:Nd)]++mid=pre2 at hl2 hp2
   have hpN:p+t.flat.length≤N:=by rw [HNL.out,hl2,← hp2];simp
   have hpN1:p<N:=by rw [htl] at hpN;simp at hpN;omega
   subst hp2
   have HL2:=Lib.hid hl2
   have HRES:=Lib.hid hrest
   have HFL:=Lib.hid hfl
   have HCNT:=Lib.hid hcnt
   have HOUT:=Lib.hid (hout false (decide (i=0)))
   have hl3:l=pre2++x :: (tl++(r.flat++post)):=by rw [hl2,htl];simp
   have HL3:=Lib.hid hl3
   have HKEY:=Lib.hid hkey
   have v1:(0≤(pre2.length:Int))=True:=eq_true au0
   have v2:((pre2.length:Int)<(N:Int))=True:=eq_true au0
   have HSZ:Hid (acc.length+1+(o++f.out false (decide (i=0))).length+1≤big):=Lib.hid (by rw [HM.out.2.2.2.2.1];have:=HBIG.out;omega)
   have HNEXT:Hid (∀(wx:World) (j:Bs),j=(if decide (i=0)=true then [] else [44])++(if false=true then quote key++[58] else [])++t.out false true→Bld B b (acc++[91]++o++j) wx→(Below B w wx∧Spare b w wx)→∃(i' p':Nat) (f':F) (mid':List Nd) (o':Bs),Value.int .i64 ((pre2.length+t.flat.length:Nat):Int)=.int .i64 (p':Int)∧Value.int .i64 (wrap64 ((i:Int)+1))=.int .i64 (i':Int)∧Hid (ks.flat=mid'++f'.flat∧p'=pre.length+1+mid'.length∧i'+f'.count=ks.count∧f'.count≤r.count∧o'++f'.out false (decide (i'=0))=ks.out false true∧∀ t∈f'.trees,WriteOk t)∧Hid (Bld B b (acc++[91]++o') wx)∧Hid (Below B w wx∧Spare b w wx)):=Lib.hid (by
    intro wx j hj hbx hlx
    have hM:=HM.out
    refine ⟨i+1,pre2.length+t.flat.length,r,mid++t.flat,o++j,rfl,?_,Lib.hid ⟨?_,?_,?_,Nat.le_refl _,?_,fun u hu=>hM.2.2.2.2.2 u (hrest u hu)⟩,Lib.hid (by simpa using hbx),Lib.hid hlx⟩
    ·have h1:=hM.2.2.1
     have h2:=HNL.out
     have h3:=F.cnt_le ks
     have h4:=congrArg List.length HLS.out
     simp at h4
     rw [show wrap64 ((i:Int)+1)=(i:Int)+1 by have:=HL.out;unfold wrap64;omega]
     simp
    ·rw [hM.1,hfl]
     simp
    ·rw [hM.2.1]
     simp
     omega
    ·have:=hM.2.2.1
     omega
    ·have h5:=hM.2.2.2.2.1
     rw [hout false (decide (i=0))] at h5
     rw [← h5,hj]
     simp)
   clear hin hrest hfl htl hkey hcnt hout hl2 hpre2 hl3 hpN
   by_cases hi:i=0
   ·have d2:decide (0<i)=false:=decide_eq_false au0
    have HI:=Lib.hid hi
    have HTXT:Hid (f.out false (decide (i=0))=(t.out false true)++r.out false false):=Lib.hid (by rw [HOUT.out];simp [hi])
    have HSZ2:Hid (acc.length+1+o.length+(t.out false true).length+2≤big+1):=Lib.hid au56
    clear hi
    go_wp2_with (first
     | (go_at_call 37;refine(HT.out.use B b ad cp N l pre2 (r.flat++post) (acc++[91]++o) w0 _ HNL.out HL2.out hcp HL.out au57 HC.out HBB.out HBE.out HBR.out).mono ?_;rintro e w4 ⟨rfl,hb4,hbel4,hs4⟩;have HB4:Hid (Bld B b (acc++[91]++o++t.out false true) w4):=Lib.hid hb4;have HBL4:Hid (Below B w w4):=Lib.hid (HBL.out.1.trans hbel4);have HS4:Hid (Spare b w w4):=Lib.hid (HBL.out.2.trans hs4);have HBE4:Hid (Below w0.heap.size w0 w4):=Lib.hid (HBEL.out.trans (HBL4.out.mono HBB.out));clear hb4 hbel4 hs4))
    go_roundg r.count
    case measure=>have h1:=HM.out.2.2.2.1;have h2:=HCNT.out;omega
    case rel=>exact HNEXT.out _ (t.out false true) (by simp [HI.out]) (by simpa using HB4.out) ⟨HBL4.out,HS4.out⟩
   ·have d2:decide (0<i)=true:=decide_eq_true au0
    have HI:=Lib.hid hi
    have HTXT:Hid (f.out false (decide (i=0))=[44]++(t.out false true)++r.out false false):=Lib.hid (by rw [HOUT.out];simp [hi])
    have HSZ2:Hid (acc.length+1+o.length+1+(t.out false true).length+2≤big+1):=Lib.hid au56
    clear hi
    go_wp2_with (first
     | (go_at_call 45;refine(wb B b (acc++[91]++o) 44 44 rfl _ HBR.out au58 HBR.out.lt).mono ?_;rintro e w4 ⟨⟨y4,rfl⟩,hb4,hbel4,hs4⟩;have HB4:Hid (Bld B b (acc++[91]++o++[44]) w4):=Lib.hid hb4;have HBL4:Hid (Below B w w4):=Lib.hid (HBL.out.1.trans hbel4);have HS4:Hid (Spare b w w4):=Lib.hid (HBL.out.2.trans hs4);have HBE4:Hid (Below w0.heap.size w0 w4):=Lib.hid (HBEL.out.trans (HBL4.out.mono HBB.out));clear hb4 hbel4 hs4;obtain ⟨k0,k1,k2,k3,k4⟩:=node_at2 HC.out HNL.out HLS.out HBE4.out;clear k1 k2 k3 k4)
     | (go_at_call 37;refine(HT.out.use B b ad cp N l pre2 (r.flat++post) (acc++[91]++o++[44]) w0 _ HNL.out HL2.out hcp HL.out au57 HC.out HBB.out HBE4.out HB4.out).mono ?_;rintro e w5 ⟨rfl,hb5,hbel5,hs5⟩;have HB5:Hid (Bld B b (acc++[91]++o++[44]++t.out false true) w5):=Lib.hid hb5;have HBL5:Hid (Below B w w5):=Lib.hid (HBL4.out.trans hbel5);have HS5:Hid (Spare b w w5):=Lib.hid (HS4.out.trans hs5);have HBE5:Hid (Below w0.heap.size w0 w5):=Lib.hid (HBEL.out.trans (HBL5.out.mono HBB.out));clear hb5 hbel5 hs5))
    go_roundg r.count
    case measure=>have h1:=HM.out.2.2.2.1;have h2:=HCNT.out;omega
    case rel=>exact HNEXT.out _ ([44]++t.out false true) (by simp [HI.out]) (by simpa using HB5.out) ⟨HBL5.out,HS5.out⟩
set_option maxHeartbeats 1000000 in
set_option maxRecDepth 100000 in
theorem many_obj (k:Bs) (ks:F) (hks:∀ t∈ks.trees,WriteOk t) (B b:Nat) (ad:Addr) (cp N:Nat) (pre post:List Nd) (acc:Bs) (w0 w:World) (hN:N=(pre++(F.node k 7 ks .nil).flat++post).length) (hcp:N≤cp) (hlen:N≤1099511627776) (hbig:acc.length+(ks.out true true).length+2≤big)
  (hC:Kd.C kN w0 (some ad) N (pre++(F.node k 7 ks .nil).flat++post)) (hB:w0.heap.size≤B) (hbel:Below w0.heap.size w0 w) (hbld:Bld B b acc w) :
  Calls Tryd.prog 53 #[.pointer (some ⟨b,0,none⟩),.slice (some ad) N cp,.int .i64 (pre.length:Int)] w fun e w'=>e=.returned (.tuple #[])∧Bld B b (acc++(123 :: (ks.out true true++[125]))) w'∧Below B w w'∧Spare b w w':=by
 generalize hl:pre++(F.node k 7 ks .nil).flat++post=l at hN hC
 have hls:l=pre++(⟨7,((ks.flat.length+1:Nat):Int),(ks.count:Nat),str k,str []⟩:Nd) :: (ks.flat++post):=by rw [← hl];simp [F.flat]
 have HC:=Lib.hid hC
 have HNL:=Lib.hid hN
 have HLS:=Lib.hid hls
 have hp:pre.length<N:=by rw [hN,hls];simp
 have HBEL:=Lib.hid hbel
 have HBLD:=Lib.hid hbld
 have HBIG:=Lib.hid hbig
 have HL:=Lib.hid hlen
 have HKS:=Lib.hid hks
 have HBB:=Lib.hid hB
 clear hks hl hls hN hC hbel hbld hbig hB
 obtain ⟨k0,k1,k2,k3,k4⟩:=node_at2 HC.out HNL.out HLS.out HBEL.out
 simp only at k0 k2
 clear k1 k3 k4
 have p1:(0≤(pre.length:Int))=True:=eq_true au0
 have p2:((pre.length:Int)<(N:Int))=True:=eq_true au0
 have n1:wrap64 ((pre.length:Int)+1)=((pre.length+1:Nat):Int):=by have:=HL.out;unfold wrap64;omega
 have HW1:=Lib.hid n1
 clear n1 hlen
 have E0:∀ h:0<ByteArray.size ⟨#[123,125]⟩,(((⟨#[123,125]⟩:ByteArray)[0]'h).toNat:Int)=((123:UInt8).toNat:Int):=fun _=>rfl
 have E1:∀ h:1<ByteArray.size ⟨#[123,125]⟩,(((⟨#[123,125]⟩:ByteArray)[1]'h).toNat:Int)=((125:UInt8).toNat:Int):=fun _=>rfl
 go_enter Tryd.func53,Tryd.ntmps53
 go_wp2_with (go_at_call 45;refine(writeByte_spare B b acc 123 _ HBLD.out (by have:=HBIG.out;unfold big at this;omega) HBLD.out.lt).mono ?_;rintro e w1 ⟨⟨x,rfl⟩,hb1,hbel1,hs1⟩;have HB1:Hid (Bld B b (acc++[123]) w1):=Lib.hid hb1;have HBL1:=Lib.hid hbel1;have HS1:=Lib.hid hs1;have HBE1:Hid (Below w0.heap.size w0 w1):=Lib.hid (HBEL.out.trans (hbel1.mono HBB.out));clear hb1 hbel1 hs1;obtain ⟨k0,k1,k2,k3,k4⟩:=node_at2 HC.out HNL.out HLS.out HBE1.out;clear k1 k3 k4)
 rw [HW1.out]
 go_loopg [7,26] ks.count (fun n x7 x26 wr=>∃(i p:Nat) (f:F) (mid:List Nd) (o:Bs),x7=.int .i64 (p:Int)∧x26=.int .i64 (i:Int)∧Hid (ks.flat=mid++f.flat∧p=pre.length+1+mid.length∧i+f.count=ks.count∧f.count≤n∧o++f.out true (decide (i=0))=ks.out true true∧∀ t∈f.trees,WriteOk t)∧Hid (Bld B b (acc++[123]++o) wr)∧Hid (Below B w wr∧Spare b w wr))
 case atStart=>exact ⟨0,pre.length+1,ks,[],[],rfl,rfl,Lib.hid ⟨rfl,rfl,au5,Nat.le_refl _,au5,HKS.out⟩,Lib.hid (by simpa using HB1.out),Lib.hid ⟨HBL1.out,HS1.out⟩⟩
 case round =>
  obtain ⟨i,p,f,mid,o,rfl,rfl,HM,HBR,HBL⟩:=hrel
  have HBE:Hid (Below w0.heap.size w0 wr):=Lib.hid (HBEL.out.trans (HBL.out.1.mono HBB.out))
  rcases F.part f with hf|⟨t,r,key,x,tl,hin,hrest,hfl,htl,hkey,hcnt,hout⟩
  ·have HM0:=HM.out
   rw [hf] at HM0
   have HM2:=Lib.hid HM0
   have d1:decide (i<ks.count)=false:=decide_eq_false au43
   clear HM0 hf
   go_wp2_with (go_at_call 45;refine(writeByte_spare B b (acc++[123]++o) 125 _ HBR.out (by have h1:=HBIG.out;have h2:=congrArg List.length HM2.out.2.2.2.2.1;unfold big at h1;simp only [List.length_append,List.length_cons,List.length_nil,F.out] at h1 h2 ⊢;omega) HBR.out.lt).mono ?_;rintro e w2 ⟨⟨x,rfl⟩,hb2,hbel2,hs2⟩;have HB2:Hid (Bld B b (acc++[123]++o++[125]) w2):=Lib.hid hb2;have HBL2:=Lib.hid hbel2;have HS2:=Lib.hid hs2;clear hb2 hbel2 hs2)
   go_end0
   refine ⟨rfl,?_,HBL.out.1.trans HBL2.out,HBL.out.2.trans HS2.out⟩
   have he:=HM2.out.2.2.2.2.1
   simp only [F.out,List.append_nil] at he
   rw [← he]
   simpa using HB2.out
  ·have d1:decide (i<ks.count)=true:=decide_eq_true (by have:=HM.out.2.2.1;omega)
   obtain ⟨k0,k1,k2,k3,k4⟩:=node_at2 HC.out HNL.out HLS.out HBE.out
   simp only at k0
   clear k1 k2 k3 k4
   have HT:Hid (WriteOk t):=Lib.hid (HM.out.2.2.2.2.2 t hin)
   have hl2:l=(pre++[(⟨7,((ks.flat.length+1:Nat):Int),(ks.count:Nat),str k,str []⟩:Nd)]++mid)++t.flat++(r.flat++post):=by
    rw [HLS.out,HM.out.1,hfl]
    simp
   have hp2:(pre++[(⟨7,((ks.flat.length+1:Nat):Int),(ks.count:Nat),str k,str []⟩:Nd)]++mid).length=p:=by rw [HM.out.2.1];simp;omega
   generalize hpre2:pre++[(⟨7,((ks.flat.length+1:Nat):Int),(ks.count:Nat),str k,str []⟩:Nd)]++mid=pre2 at hl2 hp2
   have hpN:p+t.flat.length≤N:=by rw [HNL.out,hl2,← hp2];simp
   have hpN1:p<N:=by rw [htl] at hpN;simp at hpN;omega
   subst hp2
   have HL2:=Lib.hid hl2
   have HRES:=Lib.hid hrest
   have HFL:=Lib.hid hfl
   have HCNT:=Lib.hid hcnt
   have HOUT:=Lib.hid (hout true (decide (i=0)))
   have hl3:l=pre2++x :: (tl++(r.flat++post)):=by rw [hl2,htl];simp
   have HL3:=Lib.hid hl3
   have HKEY:=Lib.hid hkey
   have v1:(0≤(pre2.length:Int))=True:=eq_true au0
   have v2:((pre2.length:Int)<(N:Int))=True:=eq_true au0
   have HSZ:Hid (acc.length+1+(o++f.out true (decide (i=0))).length+1≤big):=Lib.hid (by rw [HM.out.2.2.2.2.1];have:=HBIG.out;omega)
   have HNEXT:Hid (∀(wx:World) (j:Bs),j=(if decide (i=0)=true then [] else [44])++(if true=true then quote key++[58] else [])++t.out false true→Bld B b (acc++[123]++o++j) wx→(Below B w wx∧Spare b w wx)→∃(i' p':Nat) (f':F) (mid':List Nd) (o':Bs),Value.int .i64 ((pre2.length+t.flat.length:Nat):Int)=.int .i64 (p':Int)∧Value.int .i64 (wrap64 ((i:Int)+1))=.int .i64 (i':Int)∧Hid (ks.flat=mid'++f'.flat∧p'=pre.length+1+mid'.length∧i'+f'.count=ks.count∧f'.count≤r.count∧o'++f'.out true (decide (i'=0))=ks.out true true∧∀ t∈f'.trees,WriteOk t)∧Hid (Bld B b (acc++[123]++o') wx)∧Hid (Below B w wx∧Spare b w wx)):=Lib.hid (by
    intro wx j hj hbx hlx
    have hM:=HM.out
    refine ⟨i+1,pre2.length+t.flat.length,r,mid++t.flat,o++j,rfl,?_,Lib.hid ⟨?_,?_,?_,Nat.le_refl _,?_,fun u hu=>hM.2.2.2.2.2 u (hrest u hu)⟩,Lib.hid (by simpa using hbx),Lib.hid hlx⟩
    ·have h1:=hM.2.2.1
     have h2:=HNL.out
     have h3:=F.cnt_le ks
     have h4:=congrArg List.length HLS.out
     simp at h4
     rw [show wrap64 ((i:Int)+1)=(i:Int)+1 by have:=HL.out;unfold wrap64;omega]
     simp
    ·rw [hM.1,hfl]
     simp
    ·rw [hM.2.1]
     simp
     omega
    ·have:=hM.2.2.1
     omega
    ·have h5:=hM.2.2.2.2.1
     rw [hout true (decide (i=0))] at h5
     rw [← h5,hj]
     simp)
   clear hin hrest hfl htl hkey hcnt hout hl2 hpre2 hl3 hpN
   by_cases hi:i=0
   ·have d2:decide (0<i)=false:=decide_eq_false au0
    have HI:=Lib.hid hi
    have HTXT:Hid (f.out true (decide (i=0))=(quote key++[58]++t.out false true)++r.out true false):=Lib.hid (by rw [HOUT.out];simp [hi])
    have HSZ2:Hid (acc.length+1+o.length+(quote key).length+1+(t.out false true).length+2≤big+1):=Lib.hid au56
    clear hi
    obtain ⟨q0,q1,q2,q3,q4⟩:=node_at2 HC.out HNL.out HL3.out HBE.out
    rw [HKEY.out] at q3
    clear q0 q1 q2 q4
    go_wp2_with (first
     | (go_at_call 52;refine(quote_calls B b (str key) (acc++[123]++o) _ (by rw [str_size];have h1:=HSZ2.out;have h2:=quote_ge key;unfold big at h1;simp only [List.length_append,List.length_cons,List.length_nil] at h1 ⊢;omega) HBR.out).mono ?_;rintro e w4 ⟨rfl,hb4,hbel4,hs4⟩;have HB4:Hid (Bld B b (acc++[123]++o++quote key) w4):=Lib.hid hb4;have HBL4:Hid (Below B w w4):=Lib.hid (HBL.out.1.trans hbel4);have HS4:Hid (Spare b w w4):=Lib.hid (HBL.out.2.trans hs4);have HBE4:Hid (Below w0.heap.size w0 w4):=Lib.hid (HBEL.out.trans (HBL4.out.mono HBB.out));clear hb4 hbel4 hs4)
     | (go_at_call 45;refine(wb B b (acc++[123]++o++quote key) 58 58 rfl _ HB4.out au58 HB4.out.lt).mono ?_;rintro e w5 ⟨⟨y5,rfl⟩,hb5,hbel5,hs5⟩;have HB5:Hid (Bld B b (acc++[123]++o++quote key++[58]) w5):=Lib.hid hb5;have HBL5:Hid (Below B w w5):=Lib.hid (HBL4.out.trans hbel5);have HS5:Hid (Spare b w w5):=Lib.hid (HS4.out.trans hs5);have HBE5:Hid (Below w0.heap.size w0 w5):=Lib.hid (HBEL.out.trans (HBL5.out.mono HBB.out));clear hb5 hbel5 hs5)
     | (go_at_call 37;refine(HT.out.use B b ad cp N l pre2 (r.flat++post) (acc++[123]++o++quote key++[58]) w0 _ HNL.out HL2.out hcp HL.out au57 HC.out HBB.out HBE5.out HB5.out).mono ?_;rintro e w6 ⟨rfl,hb6,hbel6,hs6⟩;have HB6:Hid (Bld B b (acc++[123]++o++quote key++[58]++t.out false true) w6):=Lib.hid hb6;have HBL6:Hid (Below B w w6):=Lib.hid (HBL5.out.trans hbel6);have HS6:Hid (Spare b w w6):=Lib.hid (HS5.out.trans hs6);have HBE6:Hid (Below w0.heap.size w0 w6):=Lib.hid (HBEL.out.trans (HBL6.out.mono HBB.out));clear hb6 hbel6 hs6))
    go_roundg r.count
    case measure=>have h1:=HM.out.2.2.2.1;have h2:=HCNT.out;omega
    case rel=>exact HNEXT.out _ ((quote key++[58])++t.out false true) (by simp [HI.out]) (by simpa using HB6.out) ⟨HBL6.out,HS6.out⟩
   ·have d2:decide (0<i)=true:=decide_eq_true au0
    have HI:=Lib.hid hi
    have HTXT:Hid (f.out true (decide (i=0))=[44]++(quote key++[58]++t.out false true)++r.out true false):=Lib.hid (by rw [HOUT.out];simp [hi])
    have HSZ2:Hid (acc.length+1+o.length+1+(quote key).length+1+(t.out false true).length+2≤big+1):=Lib.hid au56
    clear hi
    obtain ⟨q0,q1,q2,q3,q4⟩:=node_at2 HC.out HNL.out HL3.out HBE.out
    rw [HKEY.out] at q3
    clear q0 q1 q2 q4
    go_wp2_with (go_at_call 45;refine(wb B b (acc++[123]++o) 44 44 rfl _ HBR.out au58 HBR.out.lt).mono ?_;rintro e w4 ⟨⟨y4,rfl⟩,hb4,hbel4,hs4⟩;have HB4:Hid (Bld B b (acc++[123]++o++[44]) w4):=Lib.hid hb4;have HBL4:Hid (Below B w w4):=Lib.hid (HBL.out.1.trans hbel4);have HS4:Hid (Spare b w w4):=Lib.hid (HBL.out.2.trans hs4);have HBE4:Hid (Below w0.heap.size w0 w4):=Lib.hid (HBEL.out.trans (HBL4.out.mono HBB.out));clear hb4 hbel4 hs4;obtain ⟨k0,k1,k2,k3,k4⟩:=node_at2 HC.out HNL.out HLS.out HBE4.out;clear k1 k2 k3 k4;obtain ⟨q0,q1,q2,q3,q4⟩:=node_at2 HC.out HNL.out HL3.out HBE4.out;rw [HKEY.out] at q3;clear q0 q1 q2 q4)
    go_wp2_with (first
     | (go_at_call 52;refine(quote_calls B b (str key) (acc++[123]++o++[44]) _ (by rw [str_size];have h1:=HSZ2.out;have h2:=quote_ge key;unfold big at h1;simp only [List.length_append,List.length_cons,List.length_nil] at h1 ⊢;omega) HB4.out).mono ?_;rintro e w5 ⟨rfl,hb5,hbel5,hs5⟩;have HB5:Hid (Bld B b (acc++[123]++o++[44]++quote key) w5):=Lib.hid hb5;have HBL5:Hid (Below B w w5):=Lib.hid (HBL4.out.trans hbel5);have HS5:Hid (Spare b w w5):=Lib.hid (HS4.out.trans hs5);have HBE5:Hid (Below w0.heap.size w0 w5):=Lib.hid (HBEL.out.trans (HBL5.out.mono HBB.out));clear hb5 hbel5 hs5)
     | (go_at_call 45;refine(wb B b (acc++[123]++o++[44]++quote key) 58 58 rfl _ HB5.out au58 HB5.out.lt).mono ?_;rintro e w6 ⟨⟨y6,rfl⟩,hb6,hbel6,hs6⟩;have HB6:Hid (Bld B b (acc++[123]++o++[44]++quote key++[58]) w6):=Lib.hid hb6;have HBL6:Hid (Below B w w6):=Lib.hid (HBL5.out.trans hbel6);have HS6:Hid (Spare b w w6):=Lib.hid (HS5.out.trans hs6);have HBE6:Hid (Below w0.heap.size w0 w6):=Lib.hid (HBEL.out.trans (HBL6.out.mono HBB.out));clear hb6 hbel6 hs6)
     | (go_at_call 37;refine(HT.out.use B b ad cp N l pre2 (r.flat++post) (acc++[123]++o++[44]++quote key++[58]) w0 _ HNL.out HL2.out hcp HL.out au57 HC.out HBB.out HBE6.out HB6.out).mono ?_;rintro e w7 ⟨rfl,hb7,hbel7,hs7⟩;have HB7:Hid (Bld B b (acc++[123]++o++[44]++quote key++[58]++t.out false true) w7):=Lib.hid hb7;have HBL7:Hid (Below B w w7):=Lib.hid (HBL6.out.trans hbel7);have HS7:Hid (Spare b w w7):=Lib.hid (HS6.out.trans hs7);have HBE7:Hid (Below w0.heap.size w0 w7):=Lib.hid (HBEL.out.trans (HBL7.out.mono HBB.out));clear hb7 hbel7 hs7))
    go_roundg r.count
    case measure=>have h1:=HM.out.2.2.2.1;have h2:=HCNT.out;omega
    case rel=>exact HNEXT.out _ ([44]++(quote key++[58])++t.out false true) (by simp [HI.out]) (by simpa using HB7.out) ⟨HBL7.out,HS7.out⟩
theorem many_calls2 (k:Bs) (d:Int) (hd:d=6∨d=7) (ks:F) (hks:∀ t∈ks.trees,WriteOk t) (B b:Nat) (ad:Addr) (cp N:Nat) (pre post:List Nd) (acc:Bs) (w0 w:World) (hN:N=(pre++(F.node k d ks .nil).flat++post).length) (hcp:N≤cp) (hlen:N≤1099511627776) (hbig:acc.length+((F.node k d ks .nil).out false true).length≤big)
  (hC:Kd.C kN w0 (some ad) N (pre++(F.node k d ks .nil).flat++post)) (hB:w0.heap.size≤B) (hbel:Below w0.heap.size w0 w) (hbld:Bld B b acc w) :
  Calls Tryd.prog 53 #[.pointer (some ⟨b,0,none⟩),.slice (some ad) N cp,.int .i64 (pre.length:Int)] w fun e w'=>e=.returned (.tuple #[])∧Bld B b (acc++(F.node k d ks .nil).out false true) w'∧Below B w w'∧Spare b w w':=by
 rcases hd with rfl|rfl
 ·have h:=many_list k ks hks B b ad cp N pre post acc w0 w hN hcp hlen (by simp [F.out] at hbig;omega) hC hB hbel hbld
  simpa [F.out] using h
 ·have h:=many_obj k ks hks B b ad cp N pre post acc w0 w hN hcp hlen (by simp [F.out] at hbig;omega) hC hB hbel hbld
  simpa [F.out] using h
set_option maxHeartbeats 4000000 in
set_option maxRecDepth 100000 in
theorem write_node (k:Bs) (d:Int) (hd:d=6∨d=7) (ks:F) (hks:∀ t∈ks.trees,WriteOk t):WriteOk (.node k d ks .nil):=by
 intro B b A cp pre post acc w0 w hcp hlen hbig hC hB hbel hbld
 generalize hl:pre++(F.node k d ks .nil).flat++post=l at hcp hlen hC ⊢
 have hls:l=pre++(⟨d,((ks.flat.length+1:Nat):Int),(ks.count:Nat),str k,str []⟩:Nd) :: (ks.flat++post):=by rw [← hl];simp [F.flat]
 have HLS:=Lib.hid hls
 have HLL:=Lib.hid hl
 obtain ⟨ad,rfl,_⟩:=node_at (x:=⟨d,((ks.flat.length+1:Nat):Int),(ks.count:Nat),str k,str []⟩) (pre:=pre) (post:=ks.flat++post) (by rw [← hls];exact hC) hbel
 generalize hN:l.length=N at hcp hlen hC ⊢
 have hp:pre.length<N:=by rw [← hN,hls];simp
 have HNL:=Lib.hid hN.symm
 obtain ⟨k0,k1,k2,k3,k4⟩:=node_at2 hC HNL.out hls hbel
 simp only at k0 k1 k2 k3 k4
 have p1:(0≤(pre.length:Int))=True:=eq_true au0
 have p2:((pre.length:Int)<(N:Int))=True:=eq_true au0
 have hfl:(F.node k d ks .nil).flat.length=ks.flat.length+1:=by simp [F.flat]
 have hsz:pre.length+(ks.flat.length+1)≤N:=by rw [← hN,hls];simp
 rw [hfl]
 obtain ⟨Z,hZ⟩:∃ Z:Int,Z=((ks.flat.length+1:Nat):Int):=⟨_,rfl⟩
 have HRES:Hid ((((pre.length+(ks.flat.length+1):Nat)):Int)=(pre.length:Int)+Z):=Lib.hid au0
 have n1:wrap64 ((pre.length:Int)+Z)=(pre.length:Int)+Z:=by unfold wrap64;omega
 rw [← hZ] at k1
 have HW1:=Lib.hid n1
 have HBIG:=Lib.hid hbig
 have HBLD:=Lib.hid hbld
 have HL:=Lib.hid hlen
 have HC:=Lib.hid hC
 have HBB:=Lib.hid hB
 have HBE:=Lib.hid hbel
 have HKS:=Lib.hid hks
 have HD:=Lib.hid hd
 clear hbig hbld hC hbel hN hlen hl hls hfl hsz hZ n1 hks hB
 have hal:=heap_alloc_new w (.cells #[.int .i64 d,.int .i64 Z,.int .i64 (ks.count:Nat),.string (str k),.string (str [])] 24 (0,0))
 have hbw:Below w.heap.size w (w.alloc (.cells #[.int .i64 d,.int .i64 Z,.int .i64 (ks.count:Nat),.string (str k),.string (str [])] 24 (0,0))):=(Below.refl _ _).alloc (Nat.le_refl _) _
 have x0:=(blk_cell hal 0).trans (rfl:_=some (Value.int .i64 d))
 have x1:=(blk_cell hal 1).trans (rfl:_=some (Value.int .i64 Z))
 have HBN:Hid (Bld B b acc (w.alloc (.cells #[.int .i64 d,.int .i64 Z,.int .i64 (ks.count:Nat),.string (str k),.string (str [])] 24 (0,0)))):=Lib.hid (HBLD.out.below hbw)
 have HBW:=Lib.hid (hbw.mono HBLD.out.lt)
 have HBA:=Lib.hid hbw
 have HLT:=Lib.hid (blk_lt hal)
 have HXX:=Lib.hid hal
 have HNE:Hid (w.heap.size≠b):=Lib.hid (by have:=HBLD.out.blt;omega)
 clear hal hbw
 rcases hd with rfl|rfl
 all_goals
  go_enter Tryd.func37,Tryd.ntmps37
  go_wp2_with (go_at_call 53;refine(many_calls2 k _ HD.out ks HKS.out B b ad cp N pre post acc w0 _ (by rw [HLL.out];exact HNL.out) hcp HL.out HBIG.out (by rw [HLL.out];exact HC.out) HBB.out (HBE.out.trans (HBW.out.mono HBB.out)) HBN.out).mono ?_;rintro e w3 ⟨rfl,hb3,hbel3,hs3⟩;have HB3:=Lib.hid hb3;have HBEL3:=Lib.hid hbel3;have HS3:=Lib.hid hs3;have y1:w3.cell? ⟨w.heap.size,1,none⟩=some (.int .i64 Z):=(blk_cell (hs3.cells HXX.out au1 HNE.out) 1).trans rfl;clear hb3 hbel3 hs3)
  go_ret
  rw [HRES.out,HW1.out]
  exact ⟨rfl,HB3.out,HBW.out.trans HBEL3.out,(Spare.of_below (HBA.out)).trans HS3.out⟩
def F.kinds:F→Bool
 | .nil=>true
 | .leaf _ d _ r=>decide (1≤d)&&decide (d≤5)&&r.kinds
 | .node _ d ks r=>(d==6 || d==7)&&ks.kinds&&r.kinds
theorem write_all:∀ f:F,f.kinds=true→∀ t∈f.trees,WriteOk t
 | .nil,_,t,ht=>by simp [F.trees] at ht
 | .leaf k d t r,h,u,hu=>by
  simp only [F.kinds,Bool.and_eq_true,decide_eq_true_eq] at h
  simp only [F.trees,List.mem_cons] at hu
  rcases hu with rfl|hu
  ·exact write_leaf k d t h.1 
  ·exact write_all r h.2 u hu
 | .node k d ks r,h,u,hu=>by
  simp only [F.kinds,Bool.and_eq_true,Bool.or_eq_true,beq_iff_eq] at h
  simp only [F.trees,List.mem_cons] at hu
  rcases hu with rfl|hu
  ·exact write_node k d h.1.1 ks (write_all ks h.1.2)
  ·exact write_all r h.2 u hu
def isNum (t:Bs):Bool:=match num t with
 | .ok [] _=>true
 | _=>false
def okN (x:Nd) (keyed:Bool):Bool :=
 decide (1≤x.f0)&&decide (x.f0≤7)&&decide (0≤x.f2)&&(decide (x.f2≤0) || decide (6≤x.f0))&&(x.f3.data.toList.isEmpty || keyed)&&Lib.validD x.f3.data.toList &&
 (if x.f0=4 then decide (x.f4.size≤65536)&&isNum x.f4.data.toList else if x.f0=5 then Lib.validD x.f4.data.toList else x.f4.data.toList.isEmpty)
def kids (one:List Nd→Option (F × List Nd)):Nat→List Nd→Option (F × List Nd)
 | 0,l=>some (.nil,l)
 | n+1,l=>match one l with
  | none=>none
  | some (t,r)=>match kids one n r with
   | none=>none
   | some (f,r')=>some (t.app f,r')
def dec:Nat→Bool→List Nd→Option (F × List Nd)
 | 0,_,_=>none
 | d+1,keyed,l=>match l with
  | []=>none
  | x :: r=>if okN x keyed then match kids (dec d (x.f0==7)) x.f2.toNat r with
    | none=>none
    | some (ks,r')=>if x.f1=((r.length - r'.length+1:Nat):Int) then some (if x.f0<6 then .leaf x.f3.data.toList x.f0 x.f4.data.toList .nil else .node x.f3.data.toList x.f0 ks .nil,r') else none
   else none
def tree? (l:List Nd):Option F:=match dec 32 false l with
 | some (t,[])=>some t
 | _=>none
def F.one:F→Prop
 | .leaf _ _ _ .nil=>True
 | .node _ _ _ .nil=>True
 | _=>False
theorem F.one_count {t:F} (h:t.one):t.count=1:=by
 match t,h with
 | .leaf _ _ _ .nil,_=>rfl
 | .node _ _ _ .nil,_=>rfl
theorem str_back (s:ByteArray):str s.data.toList=s:=by
 cases s
 rfl
def DecOk (one:List Nd→Option (F × List Nd)):Prop:=∀ l t r,one l=some (t,r)→l=t.flat++r∧t.one∧t.kinds=true
theorem kinds_app:∀ f g:F,(f.app g).kinds=(f.kinds&&g.kinds)
 | .nil,g=>by simp [F.app,F.kinds]
 | .leaf k d t r,g=>by simp [F.app,F.kinds,kinds_app r g,Bool.and_assoc]
 | .node k d ks r,g=>by simp [F.app,F.kinds,kinds_app r g,Bool.and_assoc]
theorem kids_ok {one:List Nd→Option (F × List Nd)} (h:DecOk one):∀(n:Nat) (l:List Nd) (f:F) (r:List Nd),kids one n l=some (f,r)→l=f.flat++r∧f.count=n∧f.kinds=true
 | 0,l,f,r,e=>by
  simp only [kids,Option.some.injEq,Prod.mk.injEq] at e
  obtain ⟨rfl,rfl⟩:=e
  exact ⟨rfl,rfl,rfl⟩
 | n+1,l,f,r,e=>by
  simp only [kids] at e
  split at e
  ·cases e
  ·rename_i t r1 h1
   split at e
   ·cases e
   ·rename_i f2 r2 h2
    simp only [Option.some.injEq,Prod.mk.injEq] at e
    obtain ⟨rfl,rfl⟩:=e
    obtain ⟨e1,e2,e3⟩:=h _ _ _ h1
    obtain ⟨e4,e5,e6⟩:=kids_ok h n _ _ _ h2
    refine ⟨?_,?_,?_⟩
    ·rw [F.flat_app,e1,e4,List.append_assoc]
    ·rw [F.count_app,F.one_count e2,e5]
     omega
    ·rw [kinds_app,e3,e6]
     rfl
theorem dec_ok:∀(d:Nat) (keyed:Bool),DecOk (dec d keyed)
 | 0,keyed,l,t,r,e=>by cases e
 | d+1,keyed,l,t,r,e=>by
  simp only [dec] at e
  split at e
  ·cases e
  ·rename_i x r0
   split at e
   ·rename_i hok
    split at e
    ·cases e
    ·rename_i ks r' hk
     split at e
     ·rename_i hs
      simp only [Option.some.injEq,Prod.mk.injEq] at e
      obtain ⟨e1,rfl⟩:=e
      obtain ⟨k1,k2,k3⟩:=kids_ok (dec_ok d (x.f0==7)) _ _ _ _ hk
      simp only [okN,Bool.and_eq_true,decide_eq_true_eq,Bool.or_eq_true] at hok
      obtain ⟨⟨⟨⟨⟨⟨o1,o2⟩,o3⟩,o4⟩,o5⟩,o6⟩,o7⟩:=hok
      obtain ⟨f0,f1,f2,f3,f4⟩:=x
      simp only at *
      split at e1
      ·rename_i h6
       subst e1
       have hn:f2=0:=by omega
       subst hn
       have:ks=.nil:=by
        simp only [Int.toNat_zero,kids,Option.some.injEq,Prod.mk.injEq] at hk
        exact hk.1.symm
       subst this
       have hr:r0=r':=by simpa [F.flat] using k1
       subst hr
       refine ⟨?_,trivial,?_⟩
       ·simp only [F.flat,str_back,List.nil_append,List.cons_append,List.cons.injEq,and_true]
        rw [hs]
        simp
       ·simp only [F.kinds,Bool.and_true,Bool.and_eq_true,decide_eq_true_eq]
        omega
      ·rename_i h6
       subst e1
       have hnil:f4.data.toList=[]:=by
        rw [if_neg au0,if_neg au0] at o7
        simpa using o7
       have hf4:f4=str []:=by rw [← hnil,str_back]
       refine ⟨?_,trivial,?_⟩
       ·simp only [F.flat,str_back,List.append_nil,List.cons_append,List.cons.injEq]
        refine ⟨?_,k1⟩
        rw [hs,k1,k2,hf4]
        simp only [List.length_append]
        congr 1
        ·omega
        ·omega
       ·simp only [F.kinds,Bool.and_true,Bool.and_eq_true,Bool.or_eq_true,beq_iff_eq]
        exact ⟨au0,k3⟩
     ·cases e
   ·cases e
theorem tree_flat {l:List Nd} {t:F} (h:tree? l=some t):l=t.flat∧t.one∧t.kinds=true:=by
 unfold tree? at h
 split at h
 ·rename_i t' h1
  injection h with h
  subst h
  obtain ⟨a,b,c⟩:=dec_ok 32 false _ _ _ h1
  exact ⟨by simpa using a,b,c⟩
 ·cases h
theorem one_pos {t:F} (h:t.one):1≤t.flat.length:=by
 match t,h with
 | .leaf _ _ _ .nil,_=>simp [F.flat]
 | .node _ _ _ .nil,_=>simp [F.flat]
theorem tl (a:ByteArray):a.toList=a.data.toList:=ByteArray.toList_eq a
theorem w64' {x:Int} (h0 : -9223372036854775808≤x) (h1:x≤9223372036854775807):wrap64 x=x:=by unfold wrap64;omega
theorem idx_num (c:UInt8):(Lib.indexByte [45,48,49,50,51,52,53,54,55,56,57] c<0)=(¬ (c=45∨isDig c=true)):=by
 have:=all_bytes (p:=fun c=>decide (Lib.indexByte [45,48,49,50,51,52,53,54,55,56,57] c<0)==!(decide (c=45) || isDig c)) au11 c
 simp only [beq_iff_eq] at this
 by_cases h1:c=45<;>by_cases h2:isDig c=true<;>simp_all
theorem dig_begins (c:UInt8) (h:c=45∨isDig c=true):begins c=true∧isBlank c=false∧c≠123∧c≠91∧c≠34∧c≠116∧c≠102∧c≠110:=by
 have:=all_bytes (p:=fun c=>!(decide (c=45) || isDig c) || (begins c&&!isBlank c&&decide (c≠123)&&decide (c≠91)&&decide (c≠34)&&decide (c≠116)&&decide (c≠102)&&decide (c≠110))) au11 c
 rcases h with h|h
 ·subst h
  decide
 ·simp only [h,Bool.or_true,Bool.not_true,Bool.false_or,Bool.and_eq_true,decide_eq_true_eq,Bool.not_eq_true'] at this
  obtain ⟨⟨⟨⟨⟨⟨⟨a,b⟩,c⟩,d⟩,e⟩,f⟩,g⟩,i⟩:=this
  exact ⟨a,b,c,d,e,f,g,i⟩
theorem num_no (c:UInt8) (r:Bs) (h:¬ (c=45∨isDig c=true)):∃ l e,num (c :: r)=.bad l e:=by
 have h1:c≠45:=fun e=>h (.inl e)
 have h2:isDig c=false:=by
  cases hh:isDig c with
  | false=>rfl
  | true=>exact absurd (.inr hh) h
 have h3:(c==48)=false:=by
  simp only [beq_eq_false_iff_ne,ne_eq]
  rintro rfl
  exact absurd h2 au1
 refine ⟨c :: r,5,?_⟩
 have e1:isC 45 (c :: r)=false:=by simpa [isC] using h1
 have e2:isC 48 (c :: r)=false:=h3
 rw [num,e1]
 simp only [Bool.false_eq_true,if_false]
 rw [num1,e2]
 simp [digits,h2]
theorem digits_five (l r:Bs) (e:Int) (h:digits l=.bad r e):e=5:=by
 cases l with
 | nil=>injection h with _ h;exact h.symm
 | cons c l =>
  simp only [digits] at h
  split at h
  ·cases h
  ·injection h with _ h;exact h.symm
theorem num_five (l r:Bs) (e:Int) (h:num l=.bad r e):e=5:=by
 unfold num at h
 have h1:∀ l r e,num1 l=.bad r e→e=5:=by
  intro l r e h
  unfold num1 at h
  split at h
  ·cases h
  ·exact digits_five _ _ _ h
 have h2:∀ l r e,num2 l=.bad r e→e=5:=by
  intro l r e h
  unfold num2 at h
  split at h
  ·exact digits_five _ _ _ h
  ·cases h
 have h3:∀ l r e,num3 l=.bad r e→e=5:=by
  intro l r e h
  unfold num3 at h
  split at h
  ·split at h<;>exact digits_five _ _ _ h
  ·cases h
 split at h
 ·rename_i r1 e1 hh
  injection h with _ h
  subst h
  exact h1 _ _ _ hh
 ·split at h
  ·rename_i r1 e1 hh
   injection h with _ h
   subst h
   exact h2 _ _ _ hh
  ·exact h3 _ _ _ h
theorem number_law (a:ByteArray) (h:a.size≤65536):jsontext_number.f a=some (isNum a.data.toList):=by
 unfold jsontext_number.f
 rw [tl]
 have hs:a.data.toList.length=a.size:=by simp
 have hbk:str a.data.toList=a:=str_back a
 generalize hl:a.data.toList=l at hs hbk
 cases l with
 | nil=>rw [if_pos rfl];rfl
 | cons c r =>
  rw [if_neg au5,if_pos (by simp at hs;omega)]
  have hb:bt a 0=(c.toNat:Int):=by
   have h0:0<a.size:=by simp at hs;omega
   unfold bt
   rw [dif_pos (by simpa using h0)]
   have:a[(0:Int).toNat]'(by simpa using h0)=a.data.toList[0]'(by simp [hl]):=rfl
   rw [this]
   congr 2
   simp [hl]
  rw [strings_IndexByte.f,hb]
  have hc:((c.toNat:Int)).toNat.toUInt8=c:=by simp
  rw [hc]
  simp only [Option.bind_some]
  have hx:=idx_num c
  by_cases hd:c=45∨isDig c=true
  ·rw [if_neg (by rw [hx];exact fun hn=>hn hd)]
   obtain ⟨b1,b2,b3,b4,b5,b6,b7,b8⟩:=dig_begins c hd
   have hp:parse (c :: r)=match num (c :: r) with
     | .bad r5 e=>(.nil,(((c :: r).length - r5.length:Nat):Int),e)
     | .ok r5 _=>match blanks r5 with
      | []=>(.leaf [] 4 ((c :: r).take ((c :: r).length - r5.length)) .nil,0,0)
      | c' :: r'=>(.nil,(((c :: r).length - (r'.length+1):Nat):Int),5):=by
    unfold parse
    rw [if_neg au0]
    have e1:blanks (c :: r)=c :: r:=by rw [blanks,b2];rfl
    rw [e1,value]
    rw [if_neg (by rw [b1];simp),if_neg b3,if_neg b4,if_neg b5,if_neg b6,if_neg b7,if_neg b8,number]
    cases num (c :: r) with
    | bad r5 e=>rfl
    | ok r5 u=>rfl
   have hpf:∀(f:F) (p e:Int),parse (c :: r)=(f,p,e)→jsontext_Parse.f a=some (f.flat,p,e):=by
    intro f p e h
    rw [jsontext_Parse.f,hl,h]
   cases hn:num (c :: r) with
   | bad r5 e =>
    obtain rfl:=num_five _ _ _ hn
    rw [hpf .nil _ 5 (by rw [hp,hn]),Option.bind_some,if_neg (show ¬ ((5:Int)=0) by decide),isNum,hn]
   | ok r5 u =>
    have hlt:=num_len _ _ _ hn
    cases hb5:blanks r5 with
    | cons c' r' =>
     rw [hpf .nil (((c :: r).length - (r'.length+1):Nat):Int) 5 (by rw [hp,hn];simp only;rw [hb5]),Option.bind_some,if_neg (show ¬ ((5:Int)=0) by decide)]
     have:r5≠[]:=by rintro rfl;simp [blanks] at hb5
     rw [isNum,hn]
     cases r5 with
     | nil=>exact absurd rfl this
     | cons _ _=>rfl
    | nil =>
     rw [hpf (.leaf [] 4 ((c :: r).take ((c :: r).length - r5.length)) .nil) 0 0 (by rw [hp,hn];simp only;rw [hb5]),Option.bind_some,if_pos rfl]
     show(if(0:Int)<((1:Nat):Int) then(if(rd_T24 [(⟨4,1,0,str [],str (List.take ((c :: r).length - r5.length) (c :: r))⟩:Nd)] 0).f0=4 then some ((rd_T24 [(⟨4,1,0,str [],str (List.take ((c :: r).length - r5.length) (c :: r))⟩:Nd)] 0).f4.toList==c :: r) else some false) else none)=_
     rw [if_pos au1]
     have e4:∀ t:Bs,(rd_T24 [(⟨4,1,0,str [],str t⟩:Nd)] 0)=⟨4,1,0,str [],str t⟩:=fun _=>rfl
     rw [e4,if_pos rfl,tl]
     congr 1
     rw [isNum,hn]
     show(List.take ((c :: r).length - r5.length) (c :: r)==c :: r)=_
     cases r5 with
     | nil=>simp
     | cons c5 r6 =>
      simp only [beq_eq_false_iff_ne,ne_eq]
      intro he
      have:=congrArg List.length he
      rw [List.length_take] at this
      simp at this hlt
      omega
  ·rw [if_pos (by rw [hx];exact hd)]
   obtain ⟨l5,e5,h5⟩:=num_no c r hd
   rw [isNum,h5]
theorem wrong_law (k:Nat) (x:Nd) (keyed:Bool) (deep:Int) (hk:3≤k) (h3:x.f3.size≤9223372036854775807) (h4:x.f4.size≤9223372036854775807) :
  jsontext_wrong.f k x.f0 x.f1 x.f2 x.f3 x.f4 keyed deep=some (!(okN x keyed&&decide (1≤x.f1)&&decide (deep<32))):=by
 obtain ⟨k,rfl⟩:∃ k',k=k'+3:=⟨k - 3,au0⟩
 obtain ⟨f0,f1,f2,f3,f4⟩:=x
 simp only at h3 h4 ⊢
 have hv3:utf8_ValidString.f f3=some (Lib.validD f3.data.toList):=by rw [utf8_ValidString.f,if_pos h3]
 have hv4:utf8_ValidString.f f4=some (Lib.validD f4.data.toList):=by rw [utf8_ValidString.f,if_pos h4]
 have hj2:∀(k:Nat) (b:Bool),jsontext_wrong.j2 (k+1) b f0 f1 f2 f3 f4=some (b || !(if f0=4 then decide (f4.size≤65536)&&isNum f4.data.toList else if f0=5 then Lib.validD f4.data.toList else f4.data.toList.isEmpty)):=by
  intro k b
  rw [jsontext_wrong.j2,hv4,tl]
  cases b with
  | true=>rfl
  | false =>
   rw [if_neg au1]
   by_cases c4:f0=4
   ·rw [if_pos c4,if_pos c4]
    by_cases c5:(f4.size:Int) > 65536
    ·rw [if_pos c5]
     have:¬ f4.size≤65536:=by omega
     simp [this]
    ·rw [if_neg c5,number_law f4 au0]
     have:f4.size≤65536:=by omega
     simp [this]
   ·rw [if_neg c4,if_neg c4]
    by_cases c5:f0=5
    ·rw [if_pos c5,if_pos c5]
     rfl
    ·rw [if_neg c5,if_neg c5]
     cases f4.data.toList<;>rfl
 have hj1:∀(k:Nat) (b:Bool),jsontext_wrong.j1 (k+2) keyed b f0 f1 f2 f3 f4=some (b || !(f3.data.toList.isEmpty || keyed) || !Lib.validD f3.data.toList || !(if f0=4 then decide (f4.size≤65536)&&isNum f4.data.toList else if f0=5 then Lib.validD f4.data.toList else f4.data.toList.isEmpty)):=by
  intro k b
  rw [jsontext_wrong.j1,hv3,tl]
  simp only [Option.bind_some,hj2]
  cases b<;>cases keyed<;>cases hl:f3.data.toList<;>simp
 have hj0:∀(k:Nat) (b:Bool),jsontext_wrong.j0 (k+3) keyed b f0 f1 f2 f3 f4=some (b || (decide (0<f2)&&decide (f0<6)) || !(f3.data.toList.isEmpty || keyed) || !Lib.validD f3.data.toList || !(if f0=4 then decide (f4.size≤65536)&&isNum f4.data.toList else if f0=5 then Lib.validD f4.data.toList else f4.data.toList.isEmpty)):=by
  intro k b
  rw [jsontext_wrong.j0,hj1,hj1]
  cases b with
  | true=>simp
  | false =>
   by_cases c:f2 > 0
   ·rw [if_neg au1,if_pos c]
    simp [c]
   ·rw [if_neg au1,if_neg c]
    have:¬ 0<f2:=by omega
    simp [this]
 rw [jsontext_wrong.f,hj0,hj0,okN]
 generalize (if f0=4 then decide (f4.size≤65536)&&isNum f4.data.toList else if f0=5 then Lib.validD f4.data.toList else f4.data.toList.isEmpty)=T
 generalize (f3.data.toList.isEmpty || keyed)=K
 generalize Lib.validD f3.data.toList=V
 by_cases a1:f0<1
 ·have:¬ 1≤f0:=by omega
  simp [a1,this]
 ·by_cases a2:f0 > 7
  ·have:¬ f0≤7:=by omega
   simp [a2,this]
  ·by_cases a3:f1<1
   ·have:¬ 1≤f1:=by omega
    simp [a3,this]
   ·by_cases a4:f2<0
    ·have:¬ 0≤f2:=by omega
     simp [a4,this]
    ·rw [if_neg a1,if_neg a2,if_neg a3,if_neg a4]
     have b1:1≤f0:=by omega
     have b2:f0≤7:=by omega
     have b3:1≤f1:=by omega
     have b4:0≤f2:=by omega
     by_cases a5:deep≥32
     ·have:¬ deep<32:=by omega
      simp [a5,this]
     ·have c5:deep<32:=by omega
      by_cases a6:0<f2<;>by_cases a7:f0<6
      ·have:¬ f2≤0:=by omega
       have:¬ 6≤f0:=by omega
       simp [*]
      ·have:6≤f0:=by omega
       simp [*]
      ·have:f2≤0:=by omega
       simp [*]
      ·have:f2≤0:=by omega
       simp [*]
def fit (l:List Nd):Bool:=decide (l.length≤1099511627776)&&l.all fun x=>decide (x.f3.size≤1000000)&&decide (x.f4.size≤1000000)&&decide (x.f2≤9223372036854775807)&&decide (-9223372036854775808≤x.f1)&&decide (x.f1≤9223372036854775807)
theorem fit_len {l:List Nd} (h:fit l=true):l.length≤1099511627776:=by
 unfold fit at h
 simp only [Bool.and_eq_true,decide_eq_true_eq] at h
 exact h.1
theorem fit_at {l:List Nd} (h:fit l=true) {x:Nd} (hx:x∈l):x.f3.size≤1000000∧x.f4.size≤1000000∧x.f2≤9223372036854775807 ∧ -9223372036854775808≤x.f1∧x.f1≤9223372036854775807:=by
 unfold fit at h
 simp only [Bool.and_eq_true,decide_eq_true_eq,List.all_eq_true] at h
 obtain ⟨⟨⟨⟨a,b⟩,c⟩,d⟩,e⟩:=h.2 x hx
 exact ⟨a,b,c,d,e⟩
theorem rd_cast (l:List Nd) (p:Nat) (x:Nd) (r:List Nd) (h:l.drop p=x :: r):rd_T24 l (p:Int)=x∧p<l.length∧l.drop (p+1)=r∧x∈l:=by
 have hp:p<l.length:=by
  have:=congrArg List.length h
  simp at this
  omega
 have e:=List.drop_eq_getElem_cons hp
 rw [h] at e
 injection e with e1 e2
 refine ⟨?_,hp,e2.symm,?_⟩
 ·unfold rd_T24
  rw [Int.toNat_natCast,List.getD_eq_getElem?_getD,List.getElem?_eq_getElem hp]
  exact e1.symm
 ·rw [e1]
  exact List.getElem_mem hp
def chk (o:Option (F × List Nd)) (p en:Nat):Bool:=match o with
 | some (t,_)=>decide (p+t.flat.length≤en)
 | none=>false
def chks (o:Option (F × List Nd)) (p en:Nat):Bool:=match o with
 | some (t,_)=>decide (p+t.flat.length=en)
 | none=>false
def ChkOk (l:List Nd) (d:Nat):Prop:=∀(deep:Nat) (keyed:Bool) (p en k:Nat),d+deep=32→p<en→en≤l.length→3*(l.length - p)+4≤k→jsontext_check.f k l (p:Int) (en:Int) keyed (deep:Int)=some (chk (dec d keyed (l.drop p)) p en)
theorem loop_law (l:List Nd) (hl:l.length≤1099511627776) (d:Nat) (hd:ChkOk l d) (deep:Nat) (hdd:d+1+deep=32) (f0 f1 f2:Int) (f3 f4:ByteArray) (at_ en:Nat) (hen:en≤l.length) (he1:(en:Int)=(at_:Int)+f1) (hN:f2≤9223372036854775807) :
  ∀(n p:Nat) (i:Int) (k:Nat),0≤i→i+n=f2→p≤l.length→3*(l.length - p)+5≤k →
   jsontext_check.l0 k l (at_:Int) (deep:Int) (p:Int) f2 i f0 f1 f2 f3 f4=some (chks (kids (dec d (f0==7)) n (l.drop p)) p en)
 | 0,p,i,k,h0,hi,hp,hk=>by
  obtain ⟨k,rfl⟩:∃ k',k=k'+1:=⟨k - 1,au0⟩
  rw [jsontext_check.l0,if_neg au0]
  simp only [kids,chks,F.flat,List.length_nil,Nat.add_zero]
  rw [w64' au0 au0,← he1]
  congr 1
  by_cases h:p=en
  ·subst h
   simp
  ·refine(beq_false_of_ne (show(p:Int)≠(en:Int) by omega)).trans (Eq.symm ?_)
   exact decide_eq_false h
 | n+1,p,i,k,h0,hi,hp,hk=>by
  obtain ⟨k,rfl⟩:∃ k',k=k'+1:=⟨k - 1,au0⟩
  rw [jsontext_check.l0,if_pos au0,w64' (x:=(at_:Int)+f1) au0 au0,← he1]
  by_cases hpe:(p:Int)≥(en:Int)
  ·rw [if_pos hpe]
   congr 1
   simp only [kids,chks]
   cases h1:dec d (f0==7) (l.drop p) with
   | none=>rfl
   | some x =>
    obtain ⟨t,r⟩:=x
    obtain ⟨a1,a2,a3⟩:=dec_ok _ _ _ _ _ h1
    have:=one_pos a2
    simp only
    cases h2:kids (dec d (f0==7)) n r with
    | none=>rfl
    | some y =>
     simp only [F.flat_app,List.length_append]
     exact(decide_eq_false au0).symm
  ·rw [if_neg hpe,w64' (x:=(deep:Int)+1) au0 au0]
   have hc:=hd (deep+1) (f0==7) p en k au0 au0 hen au0
   rw [show((deep:Int)+1)=((deep+1:Nat):Int) by omega,hc]
   simp only [Option.bind_some,kids,chks,chk]
   cases h1:dec d (f0==7) (l.drop p) with
   | none=>simp
   | some x =>
    obtain ⟨t,r⟩:=x
    obtain ⟨a1,a2,a3⟩:=dec_ok _ _ _ _ _ h1
    have hpos:=one_pos a2
    obtain ⟨x0,tl0,hx0⟩:∃ x0 tl0,t.flat=x0 :: tl0:=by
     cases hf:t.flat with
     | nil=>rw [hf] at hpos;simp at hpos
     | cons a b=>exact ⟨a,b,rfl⟩
    obtain ⟨e1,e2,e3,e4⟩:=rd_cast l p x0 (tl0++r) (by rw [a1,hx0];rfl)
    have hsz:x0.f1=(t.flat.length:Nat):=by
     match t,a2,hx0 with
     | .leaf k1 d1 t1 .nil,_,hx0 =>
      simp only [F.flat,List.cons.injEq] at hx0
      rw [← hx0.1]
      rfl
     | .node k1 d1 ks1 .nil,_,hx0 =>
      simp only [F.flat,List.cons.injEq] at hx0
      rw [← hx0.1]
      simp [F.flat]
    simp only
    by_cases hle:p+t.flat.length≤en
    ·rw [if_pos (decide_eq_true hle),if_pos au0,if_pos au0,e1,hsz]
     have hlen:p+t.flat.length≤l.length:=by omega
     rw [w64' au0 au0,w64' (x:=i+1) au0 au0]
     have hr:r=l.drop (p+t.flat.length):=by
      rw [← List.drop_drop,a1]
      simp
     have:=loop_law l hl d hd deep hdd f0 f1 f2 f3 f4 at_ en hen he1 hN n (p+t.flat.length) (i+1) k au0 au0 hlen au0
     rw [show((p:Int)+(t.flat.length:Nat))=((p+t.flat.length:Nat):Int) by omega,this,← hr]
     simp only [chks]
     cases h2:kids (dec d (f0==7)) n r with
     | none=>rfl
     | some y =>
      simp only [F.flat_app,List.length_append,Nat.add_assoc]
    ·rw [if_neg au16]
     congr 1
     cases h2:kids (dec d (f0==7)) n r with
     | none=>rfl
     | some y =>
      simp only [F.flat_app,List.length_append]
      exact(decide_eq_false au0).symm
theorem check_law (l:List Nd) (hl:fit l=true):∀ d,ChkOk l d
 | d,deep,keyed,p,en,k,hdd,hp,hen,hk=>by
  have hlen:=fit_len hl
  obtain ⟨k,rfl⟩:∃ k',k=k'+1:=⟨k - 1,au0⟩
  obtain ⟨x,r,hx⟩:∃ x r,l.drop p=x :: r:=⟨_,_,List.drop_eq_getElem_cons (show p<l.length by omega)⟩
  obtain ⟨e1,e2,e3,e4⟩:=rd_cast l p x r hx
  obtain ⟨s3,s4,hn2,hs0,hs1⟩:=fit_at hl e4
  rw [jsontext_check.f,if_pos au0,if_pos au0,e1,wrong_law k x keyed deep au0 au0 au0]
  simp only [Option.bind_some]
  match d,hdd with
  | 0,hdd =>
   obtain ⟨k,rfl⟩:∃ k',k=k'+1:=⟨k - 1,au0⟩
   rw [if_pos (by rw [decide_eq_false (by omega:¬ (deep:Int)<32)];simp),jsontext_check.j0,if_pos rfl]
   rfl
  | d+1,hdd =>
   obtain ⟨k,rfl⟩:∃ k',k=k'+1:=⟨k - 1,au0⟩
   have hdec:dec (d+1) keyed (x :: r)=if okN x keyed then match kids (dec d (x.f0==7)) x.f2.toNat r with
    | none=>none
    | some (ks,r')=>if x.f1=((r.length - r'.length+1:Nat):Int) then some (if x.f0<6 then .leaf x.f3.data.toList x.f0 x.f4.data.toList .nil else .node x.f3.data.toList x.f0 ks .nil,r') else none
    else none:=rfl
   rw [hx,decide_eq_true (by omega:(deep:Int)<32),Bool.and_true]
   by_cases hok:okN x keyed=true
   ·by_cases hs:1≤x.f1
    ·rw [hok,decide_eq_true hs,if_neg au5,jsontext_check.j0,w64' (x:=(en:Int) - (p:Int)) au0 au0]
     by_cases hov:x.f1 > (en:Int) - (p:Int)
     ·rw [if_pos (decide_eq_true hov),hdec,if_pos hok]
      congr 1
      cases hk2:kids (dec d (x.f0==7)) x.f2.toNat r with
      | none=>rfl
      | some y =>
       obtain ⟨ks,r'⟩:=y
       simp only
       split
       ·rename_i hsz
        have hfl:=(dec_ok (d+1) keyed (x :: r) _ r' (by rw [hdec,if_pos hok,hk2];simp only;rw [if_pos hsz])).1
        simp only [chk]
        have:=congrArg List.length hfl
        simp at this
        have h6:=(kids_ok (dec_ok d (x.f0==7)) _ _ _ _ hk2).1
        have h7:=congrArg List.length h6
        simp at h7
        exact(decide_eq_false au0).symm
       ·rfl
     ·rw [if_neg au16,w64' (x:=(p:Int)+1) au0 au0]
      obtain ⟨S,hS⟩:∃ S:Nat,x.f1=(S:Int):=⟨x.f1.toNat,au0⟩
      have h0:0≤x.f2:=by
       simp only [okN,Bool.and_eq_true,decide_eq_true_eq] at hok
       omega
      have hll:=loop_law l hlen d (check_law l hl d) deep au0 x.f0 x.f1 x.f2 x.f3 x.f4 p (p+S) au0 au0 hn2 x.f2.toNat (p+1) 0 k au0 au0 au0 au0
      rw [show((p:Int)+1)=((p+1:Nat):Int) by omega,hll,e3,hdec,if_pos hok]
      congr 1
      cases hk2:kids (dec d (x.f0==7)) x.f2.toNat r with
      | none=>rfl
      | some y =>
       obtain ⟨ks,r'⟩:=y
       have h6:=(kids_ok (dec_ok d (x.f0==7)) _ _ _ _ hk2).1
       have h7:=congrArg List.length h6
       simp at h7
       simp only [chks]
       by_cases hsz:x.f1=((r.length - r'.length+1:Nat):Int)
       ·rw [if_pos hsz]
        have hfl:=(dec_ok (d+1) keyed (x :: r) _ r' (by rw [hdec,if_pos hok,hk2];simp only;rw [if_pos hsz])).1
        simp only [chk]
        have h8:=congrArg List.length hfl
        simp at h8
        rw [decide_eq_true au0,decide_eq_true au0]
       ·rw [if_neg hsz]
        exact decide_eq_false au0
    ·have hs2:decide (1≤x.f1)=false:=decide_eq_false hs
     rw [hs2,if_pos au5,jsontext_check.j0,if_pos rfl,hdec,if_pos hok]
     congr 1
     cases hk2:kids (dec d (x.f0==7)) x.f2.toNat r with
     | none=>rfl
     | some y =>
      simp only
      rw [if_neg au0]
      rfl
   ·have hf:okN x keyed=false:=by simpa using hok
    rw [hf,if_pos au5,jsontext_check.j0,if_pos rfl,hdec,if_neg hok]
    rfl
theorem dec_size (d:Nat) (keyed:Bool) (x:Nd) (r:List Nd) (t:F) (r':List Nd) (h:dec d keyed (x :: r)=some (t,r')):x.f1=(t.flat.length:Nat):=by
 obtain ⟨a1,a2,a3⟩:=dec_ok _ _ _ _ _ h
 match t,a2,a1 with
 | .leaf k1 d1 t1 .nil,_,hx0 =>
  simp only [F.flat,List.cons_append,List.cons.injEq] at hx0
  rw [hx0.1]
  rfl
 | .node k1 d1 ks1 .nil,_,hx0 =>
  simp only [F.flat,List.cons_append,List.cons.injEq] at hx0
  rw [hx0.1]
  simp [F.flat]
theorem Check_law (l:List Nd) (hl:fit l=true) (k:Nat) (hk:3*l.length+4≤k):jsontext_Check.f k l=some (if(tree? l).isSome then 0 else 2):=by
 rw [jsontext_Check.f]
 cases l with
 | nil=>rfl
 | cons x r =>
  have hl2:=fit_len hl
  rw [if_neg au16,if_pos au5]
  have e0:rd_T24 (x :: r) 0=x:=rfl
  rw [e0]
  have hc:=check_law (x :: r) hl 32 0 false 0 (x :: r).length k rfl au5 (Nat.le_refl _) au0
  rw [show jsontext_check.f k (x :: r) 0 ((x :: r).length:Int) false 0=_ from hc]
  simp only [List.drop_zero,Option.bind_some]
  cases hd:dec 32 false (x :: r) with
  | none =>
   have ht:tree? (x :: r)=none:=by unfold tree?;rw [hd]
   rw [ht]
   simp [chk]
  | some y =>
   obtain ⟨t,r'⟩:=y
   have hs:=dec_size _ _ _ _ _ _ hd
   have hf:=congrArg List.length (dec_ok _ _ _ _ _ hd).1
   simp only [List.length_append] at hf
   have hch:chk (some (t,r')) 0 (x :: r).length=true:=decide_eq_true au0
   rw [hch]
   cases r' with
   | nil =>
    have ht:tree? (x :: r)=some t:=by unfold tree?;rw [hd]
    rw [if_pos (by simp at hf ⊢;omega),if_pos rfl,ht]
    rfl
   | cons a b =>
    have ht:tree? (x :: r)=none:=by unfold tree?;rw [hd]
    rw [if_neg (by simp at hf ⊢;omega),ht]
    rfl
end Go.Proofs.YtjehflambbjoaaaDoor.X
