/-
  What the claim's law rests on, part 6 of 7: printed walks, externals, plain lemmas; conditions: none of its own.
-/
import Derived.Lib.SplitLaws
import Derived.Test.YtjehflambbjoaaaDoorMb5
set_option linter.unusedVariables false
set_option linter.unusedSimpArgs false
namespace Go.Proofs.YtjehflambbjoaaaDoor.X
open Go.RowKit Go.Proofs.YtjehflambbjoaaaDoorW.PrintWords Go.Proofs.YtjehflambbjoaaaDoorW.PrintLast Go.Proofs.YtjehflambbjoaaaDoorW.PrintMore
attribute [local go_sem] max2_int min2_int max_two min_two max_three min_three max_four min_four
mutual
def racewayref25_written.l0:Nat→List (S24)→ByteArray→Int→Int→Int→Int→Int→ByteArray→ByteArray→Option (ByteArray)
 | 0,_,_,_,_,_,_,_,_,_=>none
 | k+1,x0,x6,x7,x8,x190000,x190001,x190002,x190003,x190004=>if x8<x190002 then(if x8 > 0 then(if x6.size+1≤9223372036854775807 then(racewayref25_written.j1 k x0 (x6++(⟨#[44]⟩:ByteArray)) x7 x8 x190000 x190001 x190002 x190003 x190004) else(none)) else(racewayref25_written.j1 k x0 x6 x7 x8 x190000 x190001 x190002 x190003 x190004)) else(if x190000=7 then(if 1+x6.size≤9223372036854775807 then(if 1+x6.size+1≤9223372036854775807 then(some (((⟨#[123]⟩:ByteArray)++x6)++(⟨#[125]⟩:ByteArray))) else(none)) else(none)) else(if 1+x6.size≤9223372036854775807 then(if 1+x6.size+1≤9223372036854775807 then(some (((⟨#[91]⟩:ByteArray)++x6)++(⟨#[93]⟩:ByteArray))) else(none)) else(none)))
def racewayref25_written.j1:Nat→List (S24)→ByteArray→Int→Int→Int→Int→Int→ByteArray→ByteArray→Option (ByteArray)
 | 0,_,_,_,_,_,_,_,_,_=>none
 | k+1,x0,x6,x7,x8,x190000,x190001,x190002,x190003,x190004=>if x190000=7 then(if 0≤x7 then(if x7<(x0.length:Int) then((racewayref25_quote.f k ((rd_T24 x0 x7).f3)).bind fun t192=>(if x6.size+t192.size≤9223372036854775807 then(if x6.size+t192.size+1≤9223372036854775807 then((racewayref25_written.f k x0 x7).bind fun t193=>(if x6.size+t192.size+1+t193.size≤9223372036854775807 then(racewayref25_written.l0 k x0 (((x6++t192)++(⟨#[58]⟩:ByteArray))++t193) (wrap64 (x7+((rd_T24 x0 x7).f1))) (wrap64 (x8+1)) x190000 x190001 x190002 x190003 x190004) else(none))) else(none)) else(none))) else(none)) else(none)) else((racewayref25_written.f k x0 x7).bind fun t195=>(if x6.size+t195.size≤9223372036854775807 then(if 0≤x7 then(if x7<(x0.length:Int) then(racewayref25_written.l0 k x0 (x6++t195) (wrap64 (x7+((rd_T24 x0 x7).f1))) (wrap64 (x8+1)) x190000 x190001 x190002 x190003 x190004) else(none)) else(none)) else(none)))
def racewayref25_written.f:Nat→List (S24)→Int→Option (ByteArray)
 | 0,_,_=>none
 | k+1,l0,a1=>if 0≤a1 then(if a1<(l0.length:Int) then(if((rd_T24 l0 a1).f0)=1 then(some (⟨#[110,117,108,108]⟩:ByteArray)) else(if((rd_T24 l0 a1).f0)=2 then(some (⟨#[116,114,117,101]⟩:ByteArray)) else(if((rd_T24 l0 a1).f0)=3 then(some (⟨#[102,97,108,115,101]⟩:ByteArray)) else(if((rd_T24 l0 a1).f0)=4 then(some ((rd_T24 l0 a1).f4)) else(if((rd_T24 l0 a1).f0)=5 then((racewayref25_quote.f k ((rd_T24 l0 a1).f4)).bind fun t190=>(some t190)) else(racewayref25_written.l0 k l0 (⟨#[]⟩:ByteArray) (wrap64 (a1+1)) 0 ((rd_T24 l0 a1).f0) ((rd_T24 l0 a1).f1) ((rd_T24 l0 a1).f2) ((rd_T24 l0 a1).f3) ((rd_T24 l0 a1).f4))))))) else(none)) else(none)
end
set_option maxHeartbeats 8000000 in
set_option maxRecDepth 100000 in
theorem racewayref25_written.calls (k:Nat):∀(A0:Option Addr) (c0:Nat) (l0:List (S24)) (a1:Int) (r:ByteArray) (w:World) (hr0:Kd.C k24 w A0 l0.length l0) (hc0:l0.length≤c0) (h:racewayref25_written.f k l0 a1=some r),
  Calls Tryd.prog 41 #[.slice A0 l0.length c0,.int .i64 a1] w fun e w'=>e=.returned (.string r)∧Below w.heap.size w w':=by
 induction k using Nat.strongRecOn with
 | _ k ih =>
 intro A0 c0 l0 a1 r w hr0 hc0 h
 cases k with
 | zero=>exact absurd h (by simp [racewayref25_written.f])
 | succ k =>
 simp only [racewayref25_written.f] at h
 have hu24:=Tryd.underlying24
 have HR0:=Aside0.mk hr0
 have HC0:=Aside0.mk hc0
 clear hr0 hc0
 have HB:=Aside0.mk (Below.refl w.heap.size w)
 have H:(if 0≤a1 then(if a1<(l0.length:Int) then(if((rd_T24 l0 a1).f0)=1 then(some (⟨#[110,117,108,108]⟩:ByteArray)) else(if((rd_T24 l0 a1).f0)=2 then(some (⟨#[116,114,117,101]⟩:ByteArray)) else(if((rd_T24 l0 a1).f0)=3 then(some (⟨#[102,97,108,115,101]⟩:ByteArray)) else(if((rd_T24 l0 a1).f0)=4 then(some ((rd_T24 l0 a1).f4)) else(if((rd_T24 l0 a1).f0)=5 then((racewayref25_quote.f k ((rd_T24 l0 a1).f4)).bind fun t190=>(some t190)) else(racewayref25_written.l0 k l0 (⟨#[]⟩:ByteArray) (wrap64 (a1+1)) 0 ((rd_T24 l0 a1).f0) ((rd_T24 l0 a1).f1) ((rd_T24 l0 a1).f2) ((rd_T24 l0 a1).f3) ((rd_T24 l0 a1).f4))))))) else(none)) else(none))=some r:=h
 clear h
 by_cases c3:0≤a1
 ·rw [if_pos c3] at H
  have c3b0:decide (0≤a1)=true:=decide_eq_true c3
  clear c3
  by_cases c4:a1<(l0.length:Int)
  ·rw [if_pos c4] at H
   have c4b0:decide (a1<(l0.length:Int))=true:=decide_eq_true c4
   clear c4
   by_cases c5:((rd_T24 l0 a1).f0)=1
   ·rw [if_pos c5] at H
    have c5b0:(((rd_T24 l0 a1).f0)==1)=true:=beq_iff_eq.mpr c5
    have c5b1:(((rd_T24 l0 a1).f0) != 1)=false:=bne_eq_false_iff_eq.mpr c5
    clear c5
    obtain rfl:=Option.some.inj H
    have p188:0≤(a1:Int):=of_decide_eq_true au7
    have q188:a1<(l0.length:Int):=of_decide_eq_true au7
    obtain ⟨ad188,e188,hx188_0,hx188_1,hx188_2,hx188_3,hx188_4⟩:=at_T24 HR0.out a1 p188 q188
    cases e188
    replace p188:=eq_true p188
    replace q188:=eq_true q188
    go_enter Tryd.func41,Tryd.ntmps41
    go_wp2_with (first|((with_reducible refine gate_dst (N:=5) rfl ?_);refine box_event ?hg (N:=5) ?hd (cs:=#[.int .i64 0,.int .i64 0,.int .i64 0,.string (⟨#[]⟩:ByteArray),.string (⟨#[]⟩:ByteArray)]) (t:=24) ?hr ?_;(case hd=>rfl);(case hg=>rfl);(case hr=>first|(go_simp;done)|(go_simp;rfl));intro gb189 hg w6 hbox hb;have n0_:=Aside0.mk (below_step au3 hb);have n1_:=Aside0.mk (hbox);have n2_:=Aside0.mk ((by rw [hg];exact(below_size au3):w.heap.size≤gb189));have n3_:=Aside0.mk ((by rw [hg];exact(below_size au3):w.heap.size≤gb189));clear HB;have HB:=n0_;have BK189:=n1_;have GW189:=n2_;have GE189:=n3_;clear n0_ n1_ n2_ n3_;clear hb hbox hg;have hcz7_0:w6.cell? ⟨gb189,0,none⟩=some (.int .i64 0):=(blk_cell BK189.out 0).trans rfl;have hcz7_1:w6.cell? ⟨gb189,1,none⟩=some (.int .i64 0):=(blk_cell BK189.out 1).trans rfl;have hcz7_2:w6.cell? ⟨gb189,2,none⟩=some (.int .i64 0):=(blk_cell BK189.out 2).trans rfl;have hcz7_3:w6.cell? ⟨gb189,3,none⟩=some (.string (⟨#[]⟩:ByteArray)):=(blk_cell BK189.out 3).trans rfl;have hcz7_4:w6.cell? ⟨gb189,4,none⟩=some (.string (⟨#[]⟩:ByteArray)):=(blk_cell BK189.out 4).trans rfl;have hfz7_0:=blk_frozen BK189.out 0;have hfz7_1:=blk_frozen BK189.out 1;have hfz7_2:=blk_frozen BK189.out 2;have hfz7_3:=blk_frozen BK189.out 3;have hfz7_4:=blk_frozen BK189.out 4))
    go_ret
    exact ⟨au12,by repeat(first|(with_reducible first|exact HB.out|apply below_alloc|apply pw_below_drewN|apply below_drew1|refine below_set ?_ GE189.out)|exact HB.out)⟩
   ·rw [if_neg c5] at H
    have c5b0:(((rd_T24 l0 a1).f0)==1)=false:=beq_eq_false_iff_ne.mpr c5
    have c5b1:(((rd_T24 l0 a1).f0) != 1)=true:=bne_iff_ne.mpr c5
    by_cases c8:((rd_T24 l0 a1).f0)=2
    ·rw [if_pos c8] at H
     have c8b0:(((rd_T24 l0 a1).f0)==2)=true:=beq_iff_eq.mpr c8
     have c8b1:(((rd_T24 l0 a1).f0) != 2)=false:=bne_eq_false_iff_eq.mpr c8
     clear c8
     obtain rfl:=Option.some.inj H
     have p188:0≤(a1:Int):=of_decide_eq_true au7
     have q188:a1<(l0.length:Int):=of_decide_eq_true au7
     obtain ⟨ad188,e188,hx188_0,hx188_1,hx188_2,hx188_3,hx188_4⟩:=at_T24 HR0.out a1 p188 q188
     cases e188
     replace p188:=eq_true p188
     replace q188:=eq_true q188
     go_enter Tryd.func41,Tryd.ntmps41
     go_wp2_with (first|((with_reducible refine gate_dst (N:=5) rfl ?_);refine box_event ?hg (N:=5) ?hd (cs:=#[.int .i64 0,.int .i64 0,.int .i64 0,.string (⟨#[]⟩:ByteArray),.string (⟨#[]⟩:ByteArray)]) (t:=24) ?hr ?_;(case hd=>rfl);(case hg=>rfl);(case hr=>first|(go_simp;done)|(go_simp;rfl));intro gb189 hg w9 hbox hb;have n0_:=Aside0.mk (below_step au3 hb);have n1_:=Aside0.mk (hbox);have n2_:=Aside0.mk ((by rw [hg];exact(below_size au3):w.heap.size≤gb189));have n3_:=Aside0.mk ((by rw [hg];exact(below_size au3):w.heap.size≤gb189));clear HB;have HB:=n0_;have BK189:=n1_;have GW189:=n2_;have GE189:=n3_;clear n0_ n1_ n2_ n3_;clear hb hbox hg;have hcz10_0:w9.cell? ⟨gb189,0,none⟩=some (.int .i64 0):=(blk_cell BK189.out 0).trans rfl;have hcz10_1:w9.cell? ⟨gb189,1,none⟩=some (.int .i64 0):=(blk_cell BK189.out 1).trans rfl;have hcz10_2:w9.cell? ⟨gb189,2,none⟩=some (.int .i64 0):=(blk_cell BK189.out 2).trans rfl;have hcz10_3:w9.cell? ⟨gb189,3,none⟩=some (.string (⟨#[]⟩:ByteArray)):=(blk_cell BK189.out 3).trans rfl;have hcz10_4:w9.cell? ⟨gb189,4,none⟩=some (.string (⟨#[]⟩:ByteArray)):=(blk_cell BK189.out 4).trans rfl;have hfz10_0:=blk_frozen BK189.out 0;have hfz10_1:=blk_frozen BK189.out 1;have hfz10_2:=blk_frozen BK189.out 2;have hfz10_3:=blk_frozen BK189.out 3;have hfz10_4:=blk_frozen BK189.out 4))
     go_ret
     exact ⟨au12,by repeat(first|(with_reducible first|exact HB.out|apply below_alloc|apply pw_below_drewN|apply below_drew1|refine below_set ?_ GE189.out)|exact HB.out)⟩
    ·rw [if_neg c8] at H
     have c8b0:(((rd_T24 l0 a1).f0)==2)=false:=beq_eq_false_iff_ne.mpr c8
     have c8b1:(((rd_T24 l0 a1).f0) != 2)=true:=bne_iff_ne.mpr c8
     by_cases c11:((rd_T24 l0 a1).f0)=3
     ·rw [if_pos c11] at H
      have c11b0:(((rd_T24 l0 a1).f0)==3)=true:=beq_iff_eq.mpr c11
      have c11b1:(((rd_T24 l0 a1).f0) != 3)=false:=bne_eq_false_iff_eq.mpr c11
      clear c11
      obtain rfl:=Option.some.inj H
      have p188:0≤(a1:Int):=of_decide_eq_true au7
      have q188:a1<(l0.length:Int):=of_decide_eq_true au7
      obtain ⟨ad188,e188,hx188_0,hx188_1,hx188_2,hx188_3,hx188_4⟩:=at_T24 HR0.out a1 p188 q188
      cases e188
      replace p188:=eq_true p188
      replace q188:=eq_true q188
      go_enter Tryd.func41,Tryd.ntmps41
      go_wp2_with (first|((with_reducible refine gate_dst (N:=5) rfl ?_);refine box_event ?hg (N:=5) ?hd (cs:=#[.int .i64 0,.int .i64 0,.int .i64 0,.string (⟨#[]⟩:ByteArray),.string (⟨#[]⟩:ByteArray)]) (t:=24) ?hr ?_;(case hd=>rfl);(case hg=>rfl);(case hr=>first|(go_simp;done)|(go_simp;rfl));intro gb189 hg w12 hbox hb;have n0_:=Aside0.mk (below_step au3 hb);have n1_:=Aside0.mk (hbox);have n2_:=Aside0.mk ((by rw [hg];exact(below_size au3):w.heap.size≤gb189));have n3_:=Aside0.mk ((by rw [hg];exact(below_size au3):w.heap.size≤gb189));clear HB;have HB:=n0_;have BK189:=n1_;have GW189:=n2_;have GE189:=n3_;clear n0_ n1_ n2_ n3_;clear hb hbox hg;have hcz13_0:w12.cell? ⟨gb189,0,none⟩=some (.int .i64 0):=(blk_cell BK189.out 0).trans rfl;have hcz13_1:w12.cell? ⟨gb189,1,none⟩=some (.int .i64 0):=(blk_cell BK189.out 1).trans rfl;have hcz13_2:w12.cell? ⟨gb189,2,none⟩=some (.int .i64 0):=(blk_cell BK189.out 2).trans rfl;have hcz13_3:w12.cell? ⟨gb189,3,none⟩=some (.string (⟨#[]⟩:ByteArray)):=(blk_cell BK189.out 3).trans rfl;have hcz13_4:w12.cell? ⟨gb189,4,none⟩=some (.string (⟨#[]⟩:ByteArray)):=(blk_cell BK189.out 4).trans rfl;have hfz13_0:=blk_frozen BK189.out 0;have hfz13_1:=blk_frozen BK189.out 1;have hfz13_2:=blk_frozen BK189.out 2;have hfz13_3:=blk_frozen BK189.out 3;have hfz13_4:=blk_frozen BK189.out 4))
      go_ret
      exact ⟨au12,by repeat(first|(with_reducible first|exact HB.out|apply below_alloc|apply pw_below_drewN|apply below_drew1|refine below_set ?_ GE189.out)|exact HB.out)⟩
     ·rw [if_neg c11] at H
      have c11b0:(((rd_T24 l0 a1).f0)==3)=false:=beq_eq_false_iff_ne.mpr c11
      have c11b1:(((rd_T24 l0 a1).f0) != 3)=true:=bne_iff_ne.mpr c11
      by_cases c14:((rd_T24 l0 a1).f0)=4
      ·rw [if_pos c14] at H
       have c14b0:(((rd_T24 l0 a1).f0)==4)=true:=beq_iff_eq.mpr c14
       have c14b1:(((rd_T24 l0 a1).f0) != 4)=false:=bne_eq_false_iff_eq.mpr c14
       clear c14
       obtain rfl:=Option.some.inj H
       have p188:0≤(a1:Int):=of_decide_eq_true au7
       have q188:a1<(l0.length:Int):=of_decide_eq_true au7
       obtain ⟨ad188,e188,hx188_0,hx188_1,hx188_2,hx188_3,hx188_4⟩:=at_T24 HR0.out a1 p188 q188
       cases e188
       replace p188:=eq_true p188
       replace q188:=eq_true q188
       go_enter Tryd.func41,Tryd.ntmps41
       go_wp2_with (first|((with_reducible refine gate_dst (N:=5) rfl ?_);refine box_event ?hg (N:=5) ?hd (cs:=#[.int .i64 0,.int .i64 0,.int .i64 0,.string (⟨#[]⟩:ByteArray),.string (⟨#[]⟩:ByteArray)]) (t:=24) ?hr ?_;(case hd=>rfl);(case hg=>rfl);(case hr=>first|(go_simp;done)|(go_simp;rfl));intro gb189 hg w15 hbox hb;have n0_:=Aside0.mk (below_step au3 hb);have n1_:=Aside0.mk (hbox);have n2_:=Aside0.mk ((by rw [hg];exact(below_size au3):w.heap.size≤gb189));have n3_:=Aside0.mk ((by rw [hg];exact(below_size au3):w.heap.size≤gb189));clear HB;have HB:=n0_;have BK189:=n1_;have GW189:=n2_;have GE189:=n3_;clear n0_ n1_ n2_ n3_;clear hb hbox hg;have hcz16_0:w15.cell? ⟨gb189,0,none⟩=some (.int .i64 0):=(blk_cell BK189.out 0).trans rfl;have hcz16_1:w15.cell? ⟨gb189,1,none⟩=some (.int .i64 0):=(blk_cell BK189.out 1).trans rfl;have hcz16_2:w15.cell? ⟨gb189,2,none⟩=some (.int .i64 0):=(blk_cell BK189.out 2).trans rfl;have hcz16_3:w15.cell? ⟨gb189,3,none⟩=some (.string (⟨#[]⟩:ByteArray)):=(blk_cell BK189.out 3).trans rfl;have hcz16_4:w15.cell? ⟨gb189,4,none⟩=some (.string (⟨#[]⟩:ByteArray)):=(blk_cell BK189.out 4).trans rfl;have hfz16_0:=blk_frozen BK189.out 0;have hfz16_1:=blk_frozen BK189.out 1;have hfz16_2:=blk_frozen BK189.out 2;have hfz16_3:=blk_frozen BK189.out 3;have hfz16_4:=blk_frozen BK189.out 4))
       go_ret
       exact ⟨au12,by repeat(first|(with_reducible first|exact HB.out|apply below_alloc|apply pw_below_drewN|apply below_drew1|refine below_set ?_ GE189.out)|exact HB.out)⟩
      ·rw [if_neg c14] at H
       have c14b0:(((rd_T24 l0 a1).f0)==4)=false:=beq_eq_false_iff_ne.mpr c14
       have c14b1:(((rd_T24 l0 a1).f0) != 4)=true:=bne_iff_ne.mpr c14
       by_cases c17:((rd_T24 l0 a1).f0)=5
       ·rw [if_pos c17] at H
        have c17b0:(((rd_T24 l0 a1).f0)==5)=true:=beq_iff_eq.mpr c17
        have c17b1:(((rd_T24 l0 a1).f0) != 5)=false:=bne_eq_false_iff_eq.mpr c17
        clear c17
        replace H:=Option.bind_eq_some_iff.mp H
        obtain ⟨t190,A180,H⟩:=H
        replace H:(some t190)=some r:=H
        have A18:=Aside0.mk A180
        clear A180
        obtain rfl:=Option.some.inj H
        have p188:0≤(a1:Int):=of_decide_eq_true au7
        have q188:a1<(l0.length:Int):=of_decide_eq_true au7
        obtain ⟨ad188,e188,hx188_0,hx188_1,hx188_2,hx188_3,hx188_4⟩:=at_T24 HR0.out a1 p188 q188
        cases e188
        replace p188:=eq_true p188
        replace q188:=eq_true q188
        go_enter Tryd.func41,Tryd.ntmps41
        go_wp2_with (first|((with_reducible refine gate_dst (N:=5) rfl ?_);refine box_event ?hg (N:=5) ?hd (cs:=#[.int .i64 0,.int .i64 0,.int .i64 0,.string (⟨#[]⟩:ByteArray),.string (⟨#[]⟩:ByteArray)]) (t:=24) ?hr ?_;(case hd=>rfl);(case hg=>rfl);(case hr=>first|(go_simp;done)|(go_simp;rfl));intro gb189 hg w19 hbox hb;have n0_:=Aside0.mk (below_step au3 hb);have n1_:=Aside0.mk (hbox);have n2_:=Aside0.mk ((by rw [hg];exact(below_size au3):w.heap.size≤gb189));have n3_:=Aside0.mk ((by rw [hg];exact(below_size au3):w.heap.size≤gb189));clear HB;have HB:=n0_;have BK189:=n1_;have GW189:=n2_;have GE189:=n3_;clear n0_ n1_ n2_ n3_;clear hb hbox hg;have hcz20_0:w19.cell? ⟨gb189,0,none⟩=some (.int .i64 0):=(blk_cell BK189.out 0).trans rfl;have hcz20_1:w19.cell? ⟨gb189,1,none⟩=some (.int .i64 0):=(blk_cell BK189.out 1).trans rfl;have hcz20_2:w19.cell? ⟨gb189,2,none⟩=some (.int .i64 0):=(blk_cell BK189.out 2).trans rfl;have hcz20_3:w19.cell? ⟨gb189,3,none⟩=some (.string (⟨#[]⟩:ByteArray)):=(blk_cell BK189.out 3).trans rfl;have hcz20_4:w19.cell? ⟨gb189,4,none⟩=some (.string (⟨#[]⟩:ByteArray)):=(blk_cell BK189.out 4).trans rfl;have hfz20_0:=blk_frozen BK189.out 0;have hfz20_1:=blk_frozen BK189.out 1;have hfz20_2:=blk_frozen BK189.out 2;have hfz20_3:=blk_frozen BK189.out 3;have hfz20_4:=blk_frozen BK189.out 4)|((with_reducible refine gate_callee (f:=55) rfl ?_);refine goesL_ (some 29) rfl rfl Tryd.func55 au2 rfl #[.string ((rd_T24 l0 a1).f4)] rfl au10 ?_;(with_reducible refine(racewayref25_quote.calls k ((rd_T24 l0 a1).f4) t190 _ A18.out).mono ?_);rintro e w' ⟨rfl,⟨nd,rfl⟩⟩;refine ⟨_,rfl,?_⟩))
        go_ret
        exact ⟨au12,by repeat(first|(with_reducible first|exact HB.out|apply below_alloc|apply pw_below_drewN|apply below_drew1|refine below_set ?_ GE189.out)|exact HB.out)⟩
       ·rw [if_neg c17] at H
        have c17b0:(((rd_T24 l0 a1).f0)==5)=false:=beq_eq_false_iff_ne.mpr c17
        have c17b1:(((rd_T24 l0 a1).f0) != 5)=true:=bne_iff_ne.mpr c17
        have H':=Aside0.mk H
        clear H
        have p188:0≤(a1:Int):=of_decide_eq_true au7
        have q188:a1<(l0.length:Int):=of_decide_eq_true au7
        obtain ⟨ad188,e188,hx188_0,hx188_1,hx188_2,hx188_3,hx188_4⟩:=at_T24 HR0.out a1 p188 q188
        cases e188
        replace p188:=eq_true p188
        replace q188:=eq_true q188
        go_enter Tryd.func41,Tryd.ntmps41
        go_wp2_with (first|((with_reducible refine gate_dst (N:=5) rfl ?_);refine box_event ?hg (N:=5) ?hd (cs:=#[.int .i64 0,.int .i64 0,.int .i64 0,.string (⟨#[]⟩:ByteArray),.string (⟨#[]⟩:ByteArray)]) (t:=24) ?hr ?_;(case hd=>rfl);(case hg=>rfl);(case hr=>first|(go_simp;done)|(go_simp;rfl));intro gb189 hg w21 hbox hb;have n0_:=Aside0.mk (below_step au3 hb);have n1_:=Aside0.mk (hbox);have n2_:=Aside0.mk ((by rw [hg];exact(below_size au3):w.heap.size≤gb189));have n3_:=Aside0.mk ((by rw [hg];exact(below_size au3):w.heap.size≤gb189));clear HB;have HB:=n0_;have BK189:=n1_;have GW189:=n2_;have GE189:=n3_;clear n0_ n1_ n2_ n3_;clear hb hbox hg;have hcz22_0:w21.cell? ⟨gb189,0,none⟩=some (.int .i64 0):=(blk_cell BK189.out 0).trans rfl;have hcz22_1:w21.cell? ⟨gb189,1,none⟩=some (.int .i64 0):=(blk_cell BK189.out 1).trans rfl;have hcz22_2:w21.cell? ⟨gb189,2,none⟩=some (.int .i64 0):=(blk_cell BK189.out 2).trans rfl;have hcz22_3:w21.cell? ⟨gb189,3,none⟩=some (.string (⟨#[]⟩:ByteArray)):=(blk_cell BK189.out 3).trans rfl;have hcz22_4:w21.cell? ⟨gb189,4,none⟩=some (.string (⟨#[]⟩:ByteArray)):=(blk_cell BK189.out 4).trans rfl;have hfz22_0:=blk_frozen BK189.out 0;have hfz22_1:=blk_frozen BK189.out 1;have hfz22_2:=blk_frozen BK189.out 2;have hfz22_3:=blk_frozen BK189.out 3;have hfz22_4:=blk_frozen BK189.out 4))
        go_loopg [6,7,8] k (fun kq v6 v7 v8 w'=>∃(x6_1:ByteArray) (x7_1:Int) (x8_1:Int),v6=.string x6_1∧v7=.int .i64 x7_1∧v8=.int .i64 x8_1∧Aside0 (racewayref25_written.l0 kq l0 x6_1 x7_1 x8_1 ((rd_T24 l0 a1).f0) ((rd_T24 l0 a1).f1) ((rd_T24 l0 a1).f2) ((rd_T24 l0 a1).f3) ((rd_T24 l0 a1).f4)=some r)∧Aside0 (kq≤k)∧Aside0 (w'.heap[gb189]?=some (.cells #[.int .i64 ((rd_T24 l0 a1).f0),.int .i64 ((rd_T24 l0 a1).f1),.int .i64 ((rd_T24 l0 a1).f2),.string ((rd_T24 l0 a1).f3),.string ((rd_T24 l0 a1).f4)] 24 (0,0)))∧Aside0 (Below w.heap.size w w'))
        case atStart=>exact ⟨((⟨#[]⟩:ByteArray)),(wrap64 (a1+1)),(0),au4,au4,au4,au9,⟨Nat.le_refl _⟩,⟨by(with_reducible repeat(first|refine blk_drewN ?_ _|refine blk_drew ?_|refine blk_alloc ?_ _));refine blk_put (cs:=#[.int .i64 ((rd_T24 l0 a1).f0),.int .i64 ((rd_T24 l0 a1).f1),.int .i64 ((rd_T24 l0 a1).f2),.string ((rd_T24 l0 a1).f3),.string (⟨#[]⟩:ByteArray)]) ?_ 4 _ rfl;(with_reducible repeat(first|refine blk_drewN ?_ _|refine blk_drew ?_|refine blk_alloc ?_ _));refine blk_put (cs:=#[.int .i64 ((rd_T24 l0 a1).f0),.int .i64 ((rd_T24 l0 a1).f1),.int .i64 ((rd_T24 l0 a1).f2),.string (⟨#[]⟩:ByteArray),.string (⟨#[]⟩:ByteArray)]) ?_ 3 _ rfl;(with_reducible repeat(first|refine blk_drewN ?_ _|refine blk_drew ?_|refine blk_alloc ?_ _));refine blk_put (cs:=#[.int .i64 ((rd_T24 l0 a1).f0),.int .i64 ((rd_T24 l0 a1).f1),.int .i64 0,.string (⟨#[]⟩:ByteArray),.string (⟨#[]⟩:ByteArray)]) ?_ 2 _ rfl;(with_reducible repeat(first|refine blk_drewN ?_ _|refine blk_drew ?_|refine blk_alloc ?_ _));refine blk_put (cs:=#[.int .i64 ((rd_T24 l0 a1).f0),.int .i64 0,.int .i64 0,.string (⟨#[]⟩:ByteArray),.string (⟨#[]⟩:ByteArray)]) ?_ 1 _ rfl;(with_reducible repeat(first|refine blk_drewN ?_ _|refine blk_drew ?_|refine blk_alloc ?_ _));refine blk_put (cs:=#[.int .i64 0,.int .i64 0,.int .i64 0,.string (⟨#[]⟩:ByteArray),.string (⟨#[]⟩:ByteArray)]) ?_ 0 _ rfl;(with_reducible repeat(first|refine blk_drewN ?_ _|refine blk_drew ?_|refine blk_alloc ?_ _));exact BK189.out⟩,⟨by repeat(first|(with_reducible first|exact HB.out|apply below_alloc|apply pw_below_drewN|apply below_drew1|refine below_set ?_ GE189.out)|exact HB.out)⟩⟩
        case round =>
         clear H'
         obtain ⟨x6_1,x7_1,x8_1,rfl,rfl,rfl,HA,HK1,BK189,HB⟩:=hrel
         cases gk with
         | zero=>exact absurd HA.out (by simp [racewayref25_written.l0])
         | succ k1 =>
          have H:=HA.out
          clear HA
          simp only [racewayref25_written.l0] at H
          by_cases c23:x8_1<((rd_T24 l0 a1).f2)
          ·rw [if_pos c23] at H
           have c23b0:decide (x8_1<((rd_T24 l0 a1).f2))=true:=decide_eq_true c23
           clear c23
           have HC24:=Aside0.mk H
           clear H
           have hcz25_0:wr.cell? ⟨gb189,0,none⟩=some (.int .i64 ((rd_T24 l0 a1).f0)):=(blk_cell BK189.out 0).trans rfl
           have hcz25_1:wr.cell? ⟨gb189,1,none⟩=some (.int .i64 ((rd_T24 l0 a1).f1)):=(blk_cell BK189.out 1).trans rfl
           have hcz25_2:wr.cell? ⟨gb189,2,none⟩=some (.int .i64 ((rd_T24 l0 a1).f2)):=(blk_cell BK189.out 2).trans rfl
           have hcz25_3:wr.cell? ⟨gb189,3,none⟩=some (.string ((rd_T24 l0 a1).f3)):=(blk_cell BK189.out 3).trans rfl
           have hcz25_4:wr.cell? ⟨gb189,4,none⟩=some (.string ((rd_T24 l0 a1).f4)):=(blk_cell BK189.out 4).trans rfl
           go_upto_if 39 with(fail)
           go_cut [6] (fun v6 wc=>∃(kq:Nat) (x6_23:ByteArray),v6=.string x6_23∧Aside0 (racewayref25_written.j1 kq l0 x6_23 x7_1 x8_1 ((rd_T24 l0 a1).f0) ((rd_T24 l0 a1).f1) ((rd_T24 l0 a1).f2) ((rd_T24 l0 a1).f3) ((rd_T24 l0 a1).f4)=some r)∧Aside0 (kq≤k1)∧Aside0 (wc.heap[gb189]?=some (.cells #[.int .i64 ((rd_T24 l0 a1).f0),.int .i64 ((rd_T24 l0 a1).f1),.int .i64 ((rd_T24 l0 a1).f2),.string ((rd_T24 l0 a1).f3),.string ((rd_T24 l0 a1).f4)] 24 (0,0)))∧Aside0 (Below w.heap.size w wc))
           case first =>
            have H:=HC24.out
            clear HC24
            by_cases c26:x8_1 > 0
            ·rw [if_pos c26] at H
             have c26b0:decide (0<x8_1)=true:=decide_eq_true c26
             clear c26
             (first|rw [c26b0]|(simp only [i64_w,i32_w];rw [c26b0])|skip)
             by_cases c27:x6_1.size+1≤9223372036854775807
             ·rw [if_pos c27] at H
              have c27b0:=eq_true c27
              have c27b1:decide (x6_1.size+1≤9223372036854775807)=true:=decide_eq_true c27
              try have c27b2:(9223372036854775807<x6_1.size+1)=False:=eq_false (Nat.not_lt.2 c27)
              have H':=Aside0.mk H
              clear H
              go_wp2
              go_meet
              case rel=>exact ⟨_,(x6_1++(⟨#[44]⟩:ByteArray)),au4,au9,⟨by have:=HK1.out;first|omega|exact Nat.le_refl _⟩,⟨by(with_reducible repeat(first|refine blk_drewN ?_ _|refine blk_drew ?_|refine blk_alloc ?_ _));exact BK189.out⟩,⟨by repeat(first|(with_reducible first|exact HB.out|apply below_alloc|apply pw_below_drewN|apply below_drew1|refine below_set ?_ GE189.out)|exact HB.out)⟩⟩
             ·rw [if_neg c27] at H
              exact absurd H au5
            ·rw [if_neg c26] at H
             have c26b0:decide (0<x8_1)=false:=decide_eq_false c26
             clear c26
             (first|rw [c26b0]|(simp only [i64_w,i32_w];rw [c26b0])|skip)
             have H':=Aside0.mk H
             clear H
             go_wp2
             go_meet
             case rel=>exact ⟨_,(x6_1),au4,au9,⟨by have:=HK1.out;first|omega|exact Nat.le_refl _⟩,⟨by(with_reducible repeat(first|refine blk_drewN ?_ _|refine blk_drew ?_|refine blk_alloc ?_ _));exact BK189.out⟩,⟨by repeat(first|(with_reducible first|exact HB.out|apply below_alloc|apply pw_below_drewN|apply below_drew1|refine below_set ?_ GE189.out)|exact HB.out)⟩⟩
           case rest =>
            clear HC24
            obtain ⟨kq,x6_23,rfl,HA,HJ23,BK189,HB⟩:=hcut
            cases kq with
            | zero=>exact absurd HA.out (by simp [racewayref25_written.j1])
            | succ kj23 =>
             have H:=HA.out
             clear HA
             simp only [racewayref25_written.j1] at H
             by_cases c28:((rd_T24 l0 a1).f0)=7
             ·rw [if_pos c28] at H
              have c28b0:(((rd_T24 l0 a1).f0)==7)=true:=beq_iff_eq.mpr c28
              have c28b1:(((rd_T24 l0 a1).f0) != 7)=false:=bne_eq_false_iff_eq.mpr c28
              clear c28
              by_cases c29:0≤x7_1
              ·rw [if_pos c29] at H
               have c29b0:decide (0≤x7_1)=true:=decide_eq_true c29
               clear c29
               by_cases c30:x7_1<(l0.length:Int)
               ·rw [if_pos c30] at H
                have c30b0:decide (x7_1<(l0.length:Int))=true:=decide_eq_true c30
                clear c30
                replace H:=Option.bind_eq_some_iff.mp H
                obtain ⟨t192,A310,H⟩:=H
                replace H:(if x6_23.size+t192.size≤9223372036854775807 then(if x6_23.size+t192.size+1≤9223372036854775807 then((racewayref25_written.f kj23 l0 x7_1).bind fun t193=>(if x6_23.size+t192.size+1+t193.size≤9223372036854775807 then(racewayref25_written.l0 kj23 l0 (((x6_23++t192)++(⟨#[58]⟩:ByteArray))++t193) (wrap64 (x7_1+((rd_T24 l0 x7_1).f1))) (wrap64 (x8_1+1)) ((rd_T24 l0 a1).f0) ((rd_T24 l0 a1).f1) ((rd_T24 l0 a1).f2) ((rd_T24 l0 a1).f3) ((rd_T24 l0 a1).f4)) else(none))) else(none)) else(none))=some r:=H
                have A31:=Aside0.mk A310
                clear A310
                by_cases c32:x6_23.size+t192.size≤9223372036854775807
                ·rw [if_pos c32] at H
                 have c32b0:=eq_true c32
                 have c32b1:decide (x6_23.size+t192.size≤9223372036854775807)=true:=decide_eq_true c32
                 try have c32b2:(9223372036854775807<x6_23.size+t192.size)=False:=eq_false (Nat.not_lt.2 c32)
                 by_cases c33:x6_23.size+t192.size+1≤9223372036854775807
                 ·rw [if_pos c33] at H
                  have c33b0:=eq_true c33
                  have c33b1:decide (x6_23.size+t192.size+1≤9223372036854775807)=true:=decide_eq_true c33
                  try have c33b2:(9223372036854775807<x6_23.size+t192.size+1)=False:=eq_false (Nat.not_lt.2 c33)
                  replace H:=Option.bind_eq_some_iff.mp H
                  obtain ⟨t193,A340,H⟩:=H
                  replace H:(if x6_23.size+t192.size+1+t193.size≤9223372036854775807 then(racewayref25_written.l0 kj23 l0 (((x6_23++t192)++(⟨#[58]⟩:ByteArray))++t193) (wrap64 (x7_1+((rd_T24 l0 x7_1).f1))) (wrap64 (x8_1+1)) ((rd_T24 l0 a1).f0) ((rd_T24 l0 a1).f1) ((rd_T24 l0 a1).f2) ((rd_T24 l0 a1).f3) ((rd_T24 l0 a1).f4)) else(none))=some r:=H
                  have A34:=Aside0.mk A340
                  clear A340
                  by_cases c35:x6_23.size+t192.size+1+t193.size≤9223372036854775807
                  ·rw [if_pos c35] at H
                   have c35b0:=eq_true c35
                   have c35b1:decide (x6_23.size+t192.size+1+t193.size≤9223372036854775807)=true:=decide_eq_true c35
                   try have c35b2:(9223372036854775807<x6_23.size+t192.size+1+t193.size)=False:=eq_false (Nat.not_lt.2 c35)
                   have H':=Aside0.mk H
                   clear H
                   have hcz36_0:wc.cell? ⟨gb189,0,none⟩=some (.int .i64 ((rd_T24 l0 a1).f0)):=(blk_cell BK189.out 0).trans rfl
                   have hcz36_4:wc.cell? ⟨gb189,4,none⟩=some (.string ((rd_T24 l0 a1).f4)):=(blk_cell BK189.out 4).trans rfl
                   have p191:0≤(x7_1:Int):=of_decide_eq_true au7
                   have q191:x7_1<(l0.length:Int):=of_decide_eq_true au7
                   obtain ⟨ad191,e191,hx191_0,hx191_1,hx191_2,hx191_3,hx191_4⟩:=at_T24 HR0.out x7_1 p191 q191
                   obtain rfl:ad188=ad191:=(by injection e191)
                   replace hx191_0:=(HB.out.cell (World.block_lt_of_cell? w _ hx191_0)).trans hx191_0
                   replace hx191_1:=(HB.out.cell (World.block_lt_of_cell? w _ hx191_1)).trans hx191_1
                   replace hx191_2:=(HB.out.cell (World.block_lt_of_cell? w _ hx191_2)).trans hx191_2
                   replace hx191_3:=(HB.out.cell (World.block_lt_of_cell? w _ hx191_3)).trans hx191_3
                   replace hx191_4:=(HB.out.cell (World.block_lt_of_cell? w _ hx191_4)).trans hx191_4
                   replace p191:=eq_true p191
                   replace q191:=eq_true q191
                   go_wp2_with (first|((with_reducible refine gate_callee (f:=55) rfl ?_);refine goesL_ (some 51) rfl rfl Tryd.func55 au2 rfl #[.string ((rd_T24 l0 x7_1).f3)] rfl au10 ?_;(with_reducible refine(racewayref25_quote.calls kj23 ((rd_T24 l0 x7_1).f3) t192 _ A31.out).mono ?_);rintro e w' ⟨rfl,⟨nd,rfl⟩⟩;refine ⟨_,rfl,?_⟩)|((with_reducible refine gate_callee (f:=41) rfl ?_);refine goesL_ (some 57) rfl rfl Tryd.func41 au2 rfl #[.slice (some ad188) l0.length c0,.int .i64 x7_1] rfl au10 ?_;(with_reducible refine(ih kj23 au59 _ _ l0 x7_1 t193 _ ?side1 ?side2 A34.out).mono ?_);(case side1=>repeat(first|exact(Kd.C_below HR0.out (by repeat(first|(with_reducible first|exact HB.out|apply below_alloc|apply pw_below_drewN|apply below_drew1|refine below_set ?_ GE189.out)|exact HB.out)))|(with_reducible refine Kd.C_alloc ?_ _)|(with_reducible refine Kd.C_drewN ?_ _)|(with_reducible refine Kd.C_drew ?_)));(case side2=>exact HC0.out);rintro e w37 ⟨rfl,hb⟩;refine ⟨_,rfl,?_⟩;have n0_:=Aside0.mk (blk_below (g:=gb189) (o:=.cells #[.int .i64 ((rd_T24 l0 a1).f0),.int .i64 ((rd_T24 l0 a1).f1),.int .i64 ((rd_T24 l0 a1).f2),.string ((rd_T24 l0 a1).f3),.string ((rd_T24 l0 a1).f4)] 24 (0,0)) (by(with_reducible repeat(first|refine blk_drewN ?_ _|refine blk_drew ?_|refine blk_alloc ?_ _));exact BK189.out) hb);have n1_:=Aside0.mk (below_step (by repeat(first|(with_reducible first|exact HB.out|apply below_alloc|apply pw_below_drewN|apply below_drew1|refine below_set ?_ GE189.out)|exact HB.out)) hb);clear BK189;clear HB;have BK189:=n0_;have HB:=n1_;clear n0_ n1_;(try clear hb);(try clear hb2);(try clear hk);(try clear hi);have p194:0≤(x7_1:Int):=of_decide_eq_true au7;have q194:x7_1<(l0.length:Int):=of_decide_eq_true au7;obtain ⟨ad194,e194,hx194_0,hx194_1,hx194_2,hx194_3,hx194_4⟩:=at_T24 HR0.out x7_1 p194 q194;obtain rfl:ad188=ad194:=(by injection e194);replace hx194_0:=(HB.out.cell (World.block_lt_of_cell? w _ hx194_0)).trans hx194_0;replace hx194_1:=(HB.out.cell (World.block_lt_of_cell? w _ hx194_1)).trans hx194_1;replace hx194_2:=(HB.out.cell (World.block_lt_of_cell? w _ hx194_2)).trans hx194_2;replace hx194_3:=(HB.out.cell (World.block_lt_of_cell? w _ hx194_3)).trans hx194_3;replace hx194_4:=(HB.out.cell (World.block_lt_of_cell? w _ hx194_4)).trans hx194_4;replace p194:=eq_true p194;replace q194:=eq_true q194))
                   go_roundg kj23
                   case measure=>have:=HK1.out;have:=HJ23.out;omega
                   case rel=>exact ⟨(((x6_23++t192)++(⟨#[58]⟩:ByteArray))++t193),(wrap64 (x7_1+((rd_T24 l0 x7_1).f1))),(wrap64 (x8_1+1)),au4,au4,au4,au9,⟨au59⟩,⟨by(with_reducible repeat(first|refine blk_drewN ?_ _|refine blk_drew ?_|refine blk_alloc ?_ _));exact BK189.out⟩,⟨by repeat(first|(with_reducible first|exact HB.out|apply below_alloc|apply pw_below_drewN|apply below_drew1|refine below_set ?_ GE189.out)|exact HB.out)⟩⟩
                  ·rw [if_neg c35] at H
                   exact absurd H au5
                 ·rw [if_neg c33] at H
                  exact absurd H au5
                ·rw [if_neg c32] at H
                 exact absurd H au5
               ·rw [if_neg c30] at H
                exact absurd H au5
              ·rw [if_neg c29] at H
               exact absurd H au5
             ·rw [if_neg c28] at H
              have c28b0:(((rd_T24 l0 a1).f0)==7)=false:=beq_eq_false_iff_ne.mpr c28
              have c28b1:(((rd_T24 l0 a1).f0) != 7)=true:=bne_iff_ne.mpr c28
              replace H:=Option.bind_eq_some_iff.mp H
              obtain ⟨t195,A380,H⟩:=H
              replace H:(if x6_23.size+t195.size≤9223372036854775807 then(if 0≤x7_1 then(if x7_1<(l0.length:Int) then(racewayref25_written.l0 kj23 l0 (x6_23++t195) (wrap64 (x7_1+((rd_T24 l0 x7_1).f1))) (wrap64 (x8_1+1)) ((rd_T24 l0 a1).f0) ((rd_T24 l0 a1).f1) ((rd_T24 l0 a1).f2) ((rd_T24 l0 a1).f3) ((rd_T24 l0 a1).f4)) else(none)) else(none)) else(none))=some r:=H
              have A38:=Aside0.mk A380
              clear A380
              by_cases c39:x6_23.size+t195.size≤9223372036854775807
              ·rw [if_pos c39] at H
               have c39b0:=eq_true c39
               have c39b1:decide (x6_23.size+t195.size≤9223372036854775807)=true:=decide_eq_true c39
               try have c39b2:(9223372036854775807<x6_23.size+t195.size)=False:=eq_false (Nat.not_lt.2 c39)
               by_cases c40:0≤x7_1
               ·rw [if_pos c40] at H
                have c40b0:decide (0≤x7_1)=true:=decide_eq_true c40
                clear c40
                by_cases c41:x7_1<(l0.length:Int)
                ·rw [if_pos c41] at H
                 have c41b0:decide (x7_1<(l0.length:Int))=true:=decide_eq_true c41
                 clear c41
                 have H':=Aside0.mk H
                 clear H
                 have hcz42_0:wc.cell? ⟨gb189,0,none⟩=some (.int .i64 ((rd_T24 l0 a1).f0)):=(blk_cell BK189.out 0).trans rfl
                 have hcz42_1:wc.cell? ⟨gb189,1,none⟩=some (.int .i64 ((rd_T24 l0 a1).f1)):=(blk_cell BK189.out 1).trans rfl
                 have hcz42_2:wc.cell? ⟨gb189,2,none⟩=some (.int .i64 ((rd_T24 l0 a1).f2)):=(blk_cell BK189.out 2).trans rfl
                 have hcz42_3:wc.cell? ⟨gb189,3,none⟩=some (.string ((rd_T24 l0 a1).f3)):=(blk_cell BK189.out 3).trans rfl
                 have hcz42_4:wc.cell? ⟨gb189,4,none⟩=some (.string ((rd_T24 l0 a1).f4)):=(blk_cell BK189.out 4).trans rfl
                 go_wp2_with (first|((with_reducible refine gate_callee (f:=41) rfl ?_);refine goesL_ (some 57) rfl rfl Tryd.func41 au2 rfl #[.slice (some ad188) l0.length c0,.int .i64 x7_1] rfl au10 ?_;(with_reducible refine(ih kj23 au59 _ _ l0 x7_1 t195 _ ?side1 ?side2 A38.out).mono ?_);(case side1=>repeat(first|exact(Kd.C_below HR0.out HB.out)|(with_reducible refine Kd.C_alloc ?_ _)|(with_reducible refine Kd.C_drewN ?_ _)|(with_reducible refine Kd.C_drew ?_)));(case side2=>exact HC0.out);rintro e w43 ⟨rfl,hb⟩;refine ⟨_,rfl,?_⟩;have n0_:=Aside0.mk (blk_below (g:=gb189) (o:=.cells #[.int .i64 ((rd_T24 l0 a1).f0),.int .i64 ((rd_T24 l0 a1).f1),.int .i64 ((rd_T24 l0 a1).f2),.string ((rd_T24 l0 a1).f3),.string ((rd_T24 l0 a1).f4)] 24 (0,0)) (by(with_reducible repeat(first|refine blk_drewN ?_ _|refine blk_drew ?_|refine blk_alloc ?_ _));exact BK189.out) hb);have n1_:=Aside0.mk (below_step (by repeat(first|(with_reducible first|exact HB.out|apply below_alloc|apply pw_below_drewN|apply below_drew1|refine below_set ?_ GE189.out)|exact HB.out)) hb);clear BK189;clear HB;have BK189:=n0_;have HB:=n1_;clear n0_ n1_;(try clear hb);(try clear hb2);(try clear hk);(try clear hi);have p196:0≤(x7_1:Int):=of_decide_eq_true au7;have q196:x7_1<(l0.length:Int):=of_decide_eq_true au7;obtain ⟨ad196,e196,hx196_0,hx196_1,hx196_2,hx196_3,hx196_4⟩:=at_T24 HR0.out x7_1 p196 q196;obtain rfl:ad188=ad196:=(by injection e196);replace hx196_0:=(HB.out.cell (World.block_lt_of_cell? w _ hx196_0)).trans hx196_0;replace hx196_1:=(HB.out.cell (World.block_lt_of_cell? w _ hx196_1)).trans hx196_1;replace hx196_2:=(HB.out.cell (World.block_lt_of_cell? w _ hx196_2)).trans hx196_2;replace hx196_3:=(HB.out.cell (World.block_lt_of_cell? w _ hx196_3)).trans hx196_3;replace hx196_4:=(HB.out.cell (World.block_lt_of_cell? w _ hx196_4)).trans hx196_4;replace p196:=eq_true p196;replace q196:=eq_true q196))
                 go_roundg kj23
                 case measure=>have:=HK1.out;have:=HJ23.out;omega
                 case rel=>exact ⟨(x6_23++t195),(wrap64 (x7_1+((rd_T24 l0 x7_1).f1))),(wrap64 (x8_1+1)),au4,au4,au4,au9,⟨au59⟩,⟨by(with_reducible repeat(first|refine blk_drewN ?_ _|refine blk_drew ?_|refine blk_alloc ?_ _));exact BK189.out⟩,⟨by repeat(first|(with_reducible first|exact HB.out|apply below_alloc|apply pw_below_drewN|apply below_drew1|refine below_set ?_ GE189.out)|exact HB.out)⟩⟩
                ·rw [if_neg c41] at H
                 exact absurd H au5
               ·rw [if_neg c40] at H
                exact absurd H au5
              ·rw [if_neg c39] at H
               exact absurd H au5
          ·rw [if_neg c23] at H
           have c23b0:decide (x8_1<((rd_T24 l0 a1).f2))=false:=decide_eq_false c23
           clear c23
           by_cases c44:((rd_T24 l0 a1).f0)=7
           ·rw [if_pos c44] at H
            have c44b0:(((rd_T24 l0 a1).f0)==7)=true:=beq_iff_eq.mpr c44
            have c44b1:(((rd_T24 l0 a1).f0) != 7)=false:=bne_eq_false_iff_eq.mpr c44
            clear c44
            by_cases c45:1+x6_1.size≤9223372036854775807
            ·rw [if_pos c45] at H
             have c45b0:=eq_true c45
             have c45b1:decide (1+x6_1.size≤9223372036854775807)=true:=decide_eq_true c45
             try have c45b2:(9223372036854775807<1+x6_1.size)=False:=eq_false (Nat.not_lt.2 c45)
             by_cases c46:1+x6_1.size+1≤9223372036854775807
             ·rw [if_pos c46] at H
              have c46b0:=eq_true c46
              have c46b1:decide (1+x6_1.size+1≤9223372036854775807)=true:=decide_eq_true c46
              try have c46b2:(9223372036854775807<1+x6_1.size+1)=False:=eq_false (Nat.not_lt.2 c46)
              obtain rfl:=Option.some.inj H
              have hcz47_0:wr.cell? ⟨gb189,0,none⟩=some (.int .i64 ((rd_T24 l0 a1).f0)):=(blk_cell BK189.out 0).trans rfl
              have hcz47_1:wr.cell? ⟨gb189,1,none⟩=some (.int .i64 ((rd_T24 l0 a1).f1)):=(blk_cell BK189.out 1).trans rfl
              have hcz47_2:wr.cell? ⟨gb189,2,none⟩=some (.int .i64 ((rd_T24 l0 a1).f2)):=(blk_cell BK189.out 2).trans rfl
              have hcz47_3:wr.cell? ⟨gb189,3,none⟩=some (.string ((rd_T24 l0 a1).f3)):=(blk_cell BK189.out 3).trans rfl
              have hcz47_4:wr.cell? ⟨gb189,4,none⟩=some (.string ((rd_T24 l0 a1).f4)):=(blk_cell BK189.out 4).trans rfl
              go_wp2
              go_ret
              exact ⟨au12,by repeat(first|(with_reducible first|exact HB.out|apply below_alloc|apply pw_below_drewN|apply below_drew1|refine below_set ?_ GE189.out)|exact HB.out)⟩
             ·rw [if_neg c46] at H
              exact absurd H au5
            ·rw [if_neg c45] at H
             exact absurd H au5
           ·rw [if_neg c44] at H
            have c44b0:(((rd_T24 l0 a1).f0)==7)=false:=beq_eq_false_iff_ne.mpr c44
            have c44b1:(((rd_T24 l0 a1).f0) != 7)=true:=bne_iff_ne.mpr c44
            by_cases c48:1+x6_1.size≤9223372036854775807
            ·rw [if_pos c48] at H
             have c48b0:=eq_true c48
             have c48b1:decide (1+x6_1.size≤9223372036854775807)=true:=decide_eq_true c48
             try have c48b2:(9223372036854775807<1+x6_1.size)=False:=eq_false (Nat.not_lt.2 c48)
             by_cases c49:1+x6_1.size+1≤9223372036854775807
             ·rw [if_pos c49] at H
              have c49b0:=eq_true c49
              have c49b1:decide (1+x6_1.size+1≤9223372036854775807)=true:=decide_eq_true c49
              try have c49b2:(9223372036854775807<1+x6_1.size+1)=False:=eq_false (Nat.not_lt.2 c49)
              obtain rfl:=Option.some.inj H
              have hcz50_0:wr.cell? ⟨gb189,0,none⟩=some (.int .i64 ((rd_T24 l0 a1).f0)):=(blk_cell BK189.out 0).trans rfl
              have hcz50_1:wr.cell? ⟨gb189,1,none⟩=some (.int .i64 ((rd_T24 l0 a1).f1)):=(blk_cell BK189.out 1).trans rfl
              have hcz50_2:wr.cell? ⟨gb189,2,none⟩=some (.int .i64 ((rd_T24 l0 a1).f2)):=(blk_cell BK189.out 2).trans rfl
              have hcz50_3:wr.cell? ⟨gb189,3,none⟩=some (.string ((rd_T24 l0 a1).f3)):=(blk_cell BK189.out 3).trans rfl
              have hcz50_4:wr.cell? ⟨gb189,4,none⟩=some (.string ((rd_T24 l0 a1).f4)):=(blk_cell BK189.out 4).trans rfl
              go_wp2
              go_ret
              exact ⟨au12,by repeat(first|(with_reducible first|exact HB.out|apply below_alloc|apply pw_below_drewN|apply below_drew1|refine below_set ?_ GE189.out)|exact HB.out)⟩
             ·rw [if_neg c49] at H
              exact absurd H au5
            ·rw [if_neg c48] at H
             exact absurd H au5
  ·rw [if_neg c4] at H
   exact absurd H au5
 ·rw [if_neg c3] at H
  exact absurd H au5
def racewayref25_Print.f (k:Nat) (l0:List (S24)):Option (ByteArray × Int):=(racewayref25_Check.f k l0).bind fun t197=>(if t197=0 then((racewayref25_written.f k l0 0).bind fun t198=>(some (t198,0))) else(some ((⟨#[]⟩:ByteArray),t197)))
set_option maxHeartbeats 8000000 in
set_option maxRecDepth 100000 in
theorem racewayref25_Print.calls (k:Nat) (A0:Option Addr) (c0:Nat) (l0:List (S24)) (r1:ByteArray) (r2:Int) (w:World) (hr0:Kd.C k24 w A0 l0.length l0) (hc0:l0.length≤c0) (h:racewayref25_Print.f k l0=some (r1,r2)) :
  Calls Tryd.prog 24 #[.slice A0 l0.length c0] w fun e w'=>e=.returned (.tuple #[.string r1,.int .i64 r2])∧Below w.heap.size w w':=by
 have HR0:=Aside0.mk hr0
 have HC0:=Aside0.mk hc0
 clear hr0 hc0
 have HB:=Aside0.mk (Below.refl w.heap.size w)
 have H:((racewayref25_Check.f k l0).bind fun t197=>(if t197=0 then((racewayref25_written.f k l0 0).bind fun t198=>(some (t198,0))) else(some ((⟨#[]⟩:ByteArray),t197))))=some (r1,r2):=h
 clear h
 replace H:=Option.bind_eq_some_iff.mp H
 obtain ⟨t197,A20,H⟩:=H
 replace H:(if t197=0 then((racewayref25_written.f k l0 0).bind fun t198=>(some (t198,0))) else(some ((⟨#[]⟩:ByteArray),t197)))=some (r1,r2):=H
 have A2:=Aside0.mk A20
 clear A20
 by_cases c3:t197=0
 ·rw [if_pos c3] at H
  have c3b0:(t197==0)=true:=beq_iff_eq.mpr c3
  have c3b1:(t197 != 0)=false:=bne_eq_false_iff_eq.mpr c3
  clear c3
  replace H:=Option.bind_eq_some_iff.mp H
  obtain ⟨t198,A40,H⟩:=H
  replace H:(some (t198,0))=some (r1,r2):=H
  have A4:=Aside0.mk A40
  clear A40
  simp only [Option.some.injEq,Prod.mk.injEq] at H
  obtain ⟨rfl,rfl⟩:=H
  go_enter Tryd.func24,Tryd.ntmps24
  go_wp2_with (first|((with_reducible refine gate_callee (f:=18) rfl ?_);refine goesL_ (some 6) rfl rfl Tryd.func18 au2 rfl #[.slice A0 l0.length c0] rfl au10 ?_;(with_reducible refine(racewayref25_Check.calls k _ _ l0 t197 _ ?side1 ?side2 A2.out).mono ?_);(case side1=>repeat(first|exact HR0.out|(with_reducible refine Kd.C_alloc ?_ _)|(with_reducible refine Kd.C_drewN ?_ _)|(with_reducible refine Kd.C_drew ?_)));(case side2=>exact HC0.out);rintro e w5 ⟨rfl,hb⟩;refine ⟨_,rfl,?_⟩;have n0_:=Aside0.mk (below_step au3 hb);clear HB;have HB:=n0_;clear n0_;(try clear hb);(try clear hb2);(try clear hk);(try clear hi))|((with_reducible refine gate_callee (f:=41) rfl ?_);refine goesL_ (some 11) rfl rfl Tryd.func41 au2 rfl #[.slice A0 l0.length c0,.int .i64 0] rfl au10 ?_;(with_reducible refine(racewayref25_written.calls k _ _ l0 0 t198 _ ?side1 ?side2 A4.out).mono ?_);(case side1=>repeat(first|exact(Kd.C_below HR0.out HB.out)|(with_reducible refine Kd.C_alloc ?_ _)|(with_reducible refine Kd.C_drewN ?_ _)|(with_reducible refine Kd.C_drew ?_)));(case side2=>exact HC0.out);rintro e w6 ⟨rfl,hb⟩;refine ⟨_,rfl,?_⟩;have n0_:=Aside0.mk (below_step au3 hb);clear HB;have HB:=n0_;clear n0_;(try clear hb);(try clear hb2);(try clear hk);(try clear hi)))
  go_ret2
  exact ⟨au12,au3⟩
 ·rw [if_neg c3] at H
  have c3b0:(t197==0)=false:=beq_eq_false_iff_ne.mpr c3
  have c3b1:(t197 != 0)=true:=bne_iff_ne.mpr c3
  simp only [Option.some.injEq,Prod.mk.injEq] at H
  obtain ⟨rfl,rfl⟩:=H
  go_enter Tryd.func24,Tryd.ntmps24
  go_wp2_with (first|((with_reducible refine gate_callee (f:=18) rfl ?_);refine goesL_ (some 6) rfl rfl Tryd.func18 au2 rfl #[.slice A0 l0.length c0] rfl au10 ?_;(with_reducible refine(racewayref25_Check.calls k _ _ l0 t197 _ ?side1 ?side2 A2.out).mono ?_);(case side1=>repeat(first|exact HR0.out|(with_reducible refine Kd.C_alloc ?_ _)|(with_reducible refine Kd.C_drewN ?_ _)|(with_reducible refine Kd.C_drew ?_)));(case side2=>exact HC0.out);rintro e w7 ⟨rfl,hb⟩;refine ⟨_,rfl,?_⟩;have n0_:=Aside0.mk (below_step au3 hb);clear HB;have HB:=n0_;clear n0_;(try clear hb);(try clear hb2);(try clear hk);(try clear hi)))
  go_ret2
  exact ⟨au12,au3⟩
end Go.Proofs.YtjehflambbjoaaaDoor.X
namespace Go.Proofs.YtjehflambbjoaaaDoor.Pure
open Go.Proofs.YtjehflambbjoaaaDoor.X Go.RowKit Go.Proofs.YtjehflambbjoaaaDoorW.PrintWords Go.Proofs.YtjehflambbjoaaaDoorW.PrintMore
theorem qstr_app (a b:Bs):str a++str b=str (a++b):=by
 unfold str
 apply ByteArray.ext
 simp
theorem q_tdiv (a b:Nat):Int.tdiv (a:Int) (b:Int)=((a / b:Nat):Int):=by rw [Int.tdiv_eq_ediv_of_nonneg au0];rfl
theorem q_tmod (a b:Nat):Int.tmod (a:Int) (b:Int)=((a % b:Nat):Int):=by rw [Int.tmod_eq_emod_of_nonneg au0];rfl
theorem q_take1 {s:ByteArray} {p:Nat} {c:UInt8} {r:Bs} (ha:At s p (c :: r)):s.extract p (p+1)=str [c]:=by
 unfold str
 apply ByteArray.ext
 apply Array.ext'
 simp only [ByteArray.data_extract,Array.toList_extract,List.extract_eq_take_drop]
 rw [ha.drop]
 simp
theorem qhex:∀ n:Nat,n<16→(⟨#[48,49,50,51,52,53,54,55,56,57,97,98,99,100,101,102]⟩:ByteArray).extract n (n+1)=str [hexd n]:=by decide +kernel
theorem qmark (s:ByteArray) (out:Bs) (i j k:Nat) (c m v:UInt8) (done:Bool) (hj:j<8) (ho:out.length≤100000000) (hm:bt (⟨#[34,92,47,8,12,10,13,9]⟩:ByteArray) (j:Int)=(m.toNat:Int))
  (hv:(⟨#[34,92,47,98,102,110,114,116]⟩:ByteArray).extract (j:Int).toNat (wrap64 ((j:Int)+1):Int).toNat=str [v]) :
  racewayref25_quote.l1 (k+1) s (str out) (i:Int) (c.toNat:Int) done (j:Int)=if c=m then(if c=47 then racewayref25_quote.l1 k s (str out) (i:Int) (c.toNat:Int) done ((j+1:Nat):Int) else racewayref25_quote.l1 k s (str (out++[92,v])) (i:Int) (c.toNat:Int) true ((j+1:Nat):Int)) else racewayref25_quote.l1 k s (str out) (i:Int) (c.toNat:Int) done ((j+1:Nat):Int):=by
 have hwj:wrap64 ((j:Int)+1)=((j+1:Nat):Int):=by rw [w64v au0 au0];omega
 have ic (n:UInt8):((c.toNat:Int)=(n.toNat:Int)) ↔ c=n:=⟨fun h=>UInt8.toNat_inj.mp au0,fun h=>by rw [h]⟩
 have i47:((c.toNat:Int)=47) ↔ c=47:=ic 47
 rw [racewayref25_quote.l1,if_pos au0,if_pos au0,hm,hv,hwj]
 by_cases h:c=m
 ·rw [if_pos h,if_pos ((ic m).mpr h)]
  by_cases h7:c=47
  ·rw [if_pos h7,if_pos (i47.mpr h7)]
  ·have e:(str out++(⟨#[92]⟩:ByteArray))++str [v]=str (out++[92,v]):=by
    show(str out++str [92])++str [v]=_
    rw [qstr_app,qstr_app,List.append_assoc]
    rfl
   rw [if_neg h7,if_neg (fun h=>h7 (i47.mp h)),e,str_size,str_size,if_pos au0,if_pos au0,if_pos au0,if_pos au60]
 ·rw [if_neg h,if_neg (fun hh=>h ((ic m).mp hh))]
def qdone (s:ByteArray) (k:Nat) (out:Bs) (i:Nat) (c:UInt8):Option ByteArray:=match X.mark c with
 | some m=>racewayref25_quote.l1 k s (str (out++[92,m])) (i:Int) (c.toNat:Int) true 8
 | none=>racewayref25_quote.l1 k s (str out) (i:Int) (c.toNat:Int) false 8
theorem qmarks (s:ByteArray) (out:Bs) (i k:Nat) (c:UInt8) (ho:out.length≤90000000):racewayref25_quote.l1 (k+8) s (str out) (i:Int) (c.toNat:Int) false 0=qdone s k out i c:=by
 show racewayref25_quote.l1 (k+7+1) s (str out) (i:Int) (c.toNat:Int) false ((0:Nat):Int)=_
 by_cases c0:c=34
 ·have em:X.mark c=some 34:=by rw [c0];rfl
  rw [(qmark s out i 0 (k+7) c 34 34 false au1 au13 rfl au11),if_pos c0,if_neg au29,(qmark s (out++[92,34]) i 1 (k+6) c 92 92 true au1 au13 rfl au11),if_neg au29,(qmark s (out++[92,34]) i 2 (k+5) c 47 47 true au1 au13 rfl au11),if_neg au29,(qmark s (out++[92,34]) i 3 (k+4) c 8 98 true au1 au13 rfl au11),if_neg au29,(qmark s (out++[92,34]) i 4 (k+3) c 12 102 true au1 au13 rfl au11),if_neg au29,(qmark s (out++[92,34]) i 5 (k+2) c 10 110 true au1 au13 rfl au11),if_neg au29,(qmark s (out++[92,34]) i 6 (k+1) c 13 114 true au1 au13 rfl au11),if_neg au29,(qmark s (out++[92,34]) i 7 (k+0) c 9 116 true au1 au13 rfl au11),if_neg au29,qdone,em]
  rfl
 ·by_cases c1:c=92
  ·have em:X.mark c=some 92:=by rw [c1];rfl
   rw [(qmark s out i 0 (k+7) c 34 34 false au1 au13 rfl au11),if_neg c0,(qmark s out i 1 (k+6) c 92 92 false au1 au13 rfl au11),if_pos c1,if_neg au33,(qmark s (out++[92,92]) i 2 (k+5) c 47 47 true au1 au13 rfl au11),if_neg au33,(qmark s (out++[92,92]) i 3 (k+4) c 8 98 true au1 au13 rfl au11),if_neg au33,(qmark s (out++[92,92]) i 4 (k+3) c 12 102 true au1 au13 rfl au11),if_neg au33,(qmark s (out++[92,92]) i 5 (k+2) c 10 110 true au1 au13 rfl au11),if_neg au33,(qmark s (out++[92,92]) i 6 (k+1) c 13 114 true au1 au13 rfl au11),if_neg au33,(qmark s (out++[92,92]) i 7 (k+0) c 9 116 true au1 au13 rfl au11),if_neg au33,qdone,em]
   rfl
  ·by_cases c2:c=47
   ·have em:X.mark c=none:=by rw [c2];rfl
    rw [(qmark s out i 0 (k+7) c 34 34 false au1 au13 rfl au11),if_neg c0,(qmark s out i 1 (k+6) c 92 92 false au1 au13 rfl au11),if_neg c1,(qmark s out i 2 (k+5) c 47 47 false au1 au13 rfl au11),if_pos c2,if_pos c2,(qmark s out i 3 (k+4) c 8 98 false au1 au13 rfl au11),if_neg (by rw [c2];decide),(qmark s out i 4 (k+3) c 12 102 false au1 au13 rfl au11),if_neg (by rw [c2];decide),(qmark s out i 5 (k+2) c 10 110 false au1 au13 rfl au11),if_neg (by rw [c2];decide),(qmark s out i 6 (k+1) c 13 114 false au1 au13 rfl au11),if_neg (by rw [c2];decide),(qmark s out i 7 (k+0) c 9 116 false au1 au13 rfl au11),if_neg (by rw [c2];decide),qdone,em]
    rfl
   ·by_cases c3:c=8
    ·have em:X.mark c=some 98:=by rw [c3];rfl
     rw [(qmark s out i 0 (k+7) c 34 34 false au1 au13 rfl au11),if_neg c0,(qmark s out i 1 (k+6) c 92 92 false au1 au13 rfl au11),if_neg c1,(qmark s out i 2 (k+5) c 47 47 false au1 au13 rfl au11),if_neg c2,(qmark s out i 3 (k+4) c 8 98 false au1 au13 rfl au11),if_pos c3,if_neg (by rw [c3];decide),(qmark s (out++[92,98]) i 4 (k+3) c 12 102 true au1 au13 rfl au11),if_neg (by rw [c3];decide),(qmark s (out++[92,98]) i 5 (k+2) c 10 110 true au1 au13 rfl au11),if_neg (by rw [c3];decide),(qmark s (out++[92,98]) i 6 (k+1) c 13 114 true au1 au13 rfl au11),if_neg (by rw [c3];decide),(qmark s (out++[92,98]) i 7 (k+0) c 9 116 true au1 au13 rfl au11),if_neg (by rw [c3];decide),qdone,em]
     rfl
    ·by_cases c4:c=12
     ·have em:X.mark c=some 102:=by rw [c4];rfl
      rw [(qmark s out i 0 (k+7) c 34 34 false au1 au13 rfl au11),if_neg c0,(qmark s out i 1 (k+6) c 92 92 false au1 au13 rfl au11),if_neg c1,(qmark s out i 2 (k+5) c 47 47 false au1 au13 rfl au11),if_neg c2,(qmark s out i 3 (k+4) c 8 98 false au1 au13 rfl au11),if_neg c3,(qmark s out i 4 (k+3) c 12 102 false au1 au13 rfl au11),if_pos c4,if_neg (by rw [c4];decide),(qmark s (out++[92,102]) i 5 (k+2) c 10 110 true au1 au13 rfl au11),if_neg (by rw [c4];decide),(qmark s (out++[92,102]) i 6 (k+1) c 13 114 true au1 au13 rfl au11),if_neg (by rw [c4];decide),(qmark s (out++[92,102]) i 7 (k+0) c 9 116 true au1 au13 rfl au11),if_neg (by rw [c4];decide),qdone,em]
      rfl
     ·by_cases c5:c=10
      ·have em:X.mark c=some 110:=by rw [c5];rfl
       rw [(qmark s out i 0 (k+7) c 34 34 false au1 au13 rfl au11),if_neg c0,(qmark s out i 1 (k+6) c 92 92 false au1 au13 rfl au11),if_neg c1,(qmark s out i 2 (k+5) c 47 47 false au1 au13 rfl au11),if_neg c2,(qmark s out i 3 (k+4) c 8 98 false au1 au13 rfl au11),if_neg c3,(qmark s out i 4 (k+3) c 12 102 false au1 au13 rfl au11),if_neg c4,(qmark s out i 5 (k+2) c 10 110 false au1 au13 rfl au11),if_pos c5,if_neg (by rw [c5];decide),(qmark s (out++[92,110]) i 6 (k+1) c 13 114 true au1 au13 rfl au11),if_neg (by rw [c5];decide),(qmark s (out++[92,110]) i 7 (k+0) c 9 116 true au1 au13 rfl au11),if_neg (by rw [c5];decide),qdone,em]
       rfl
      ·by_cases c6:c=13
       ·have em:X.mark c=some 114:=by rw [c6];rfl
        rw [(qmark s out i 0 (k+7) c 34 34 false au1 au13 rfl au11),if_neg c0,(qmark s out i 1 (k+6) c 92 92 false au1 au13 rfl au11),if_neg c1,(qmark s out i 2 (k+5) c 47 47 false au1 au13 rfl au11),if_neg c2,(qmark s out i 3 (k+4) c 8 98 false au1 au13 rfl au11),if_neg c3,(qmark s out i 4 (k+3) c 12 102 false au1 au13 rfl au11),if_neg c4,(qmark s out i 5 (k+2) c 10 110 false au1 au13 rfl au11),if_neg c5,(qmark s out i 6 (k+1) c 13 114 false au1 au13 rfl au11),if_pos c6,if_neg (by rw [c6];decide),(qmark s (out++[92,114]) i 7 (k+0) c 9 116 true au1 au13 rfl au11),if_neg (by rw [c6];decide),qdone,em]
        rfl
       ·by_cases c7:c=9
        ·have em:X.mark c=some 116:=by rw [c7];rfl
         rw [(qmark s out i 0 (k+7) c 34 34 false au1 au13 rfl au11),if_neg c0,(qmark s out i 1 (k+6) c 92 92 false au1 au13 rfl au11),if_neg c1,(qmark s out i 2 (k+5) c 47 47 false au1 au13 rfl au11),if_neg c2,(qmark s out i 3 (k+4) c 8 98 false au1 au13 rfl au11),if_neg c3,(qmark s out i 4 (k+3) c 12 102 false au1 au13 rfl au11),if_neg c4,(qmark s out i 5 (k+2) c 10 110 false au1 au13 rfl au11),if_neg c5,(qmark s out i 6 (k+1) c 13 114 false au1 au13 rfl au11),if_neg c6,(qmark s out i 7 (k+0) c 9 116 false au1 au13 rfl au11),if_pos c7,if_neg (by rw [c7];decide),qdone,em]
         rfl
        ·have em:X.mark c=none:=by unfold X.mark;rw [if_neg c0,if_neg c1,if_neg c3,if_neg c4,if_neg c5,if_neg c6,if_neg c7]
         rw [(qmark s out i 0 (k+7) c 34 34 false au1 au13 rfl au11),if_neg c0,(qmark s out i 1 (k+6) c 92 92 false au1 au13 rfl au11),if_neg c1,(qmark s out i 2 (k+5) c 47 47 false au1 au13 rfl au11),if_neg c2,(qmark s out i 3 (k+4) c 8 98 false au1 au13 rfl au11),if_neg c3,(qmark s out i 4 (k+3) c 12 102 false au1 au13 rfl au11),if_neg c4,(qmark s out i 5 (k+2) c 10 110 false au1 au13 rfl au11),if_neg c5,(qmark s out i 6 (k+1) c 13 114 false au1 au13 rfl au11),if_neg c6,(qmark s out i 7 (k+0) c 9 116 false au1 au13 rfl au11),if_neg c7,qdone,em]
         rfl
theorem quote_l0 (s:ByteArray) (hs:s.size≤1000000):∀(l:Bs) (p k:Nat) (out:Bs),At s p l→12*l.length+20≤k→out.length+6*l.length≤80000000→racewayref25_quote.l0 k s (str out) (p:Int)=some (str (out++(l.flatMap esc1++[34])))
 | [],p,k,out,ha,hk,ho=>by
  obtain ⟨k,rfl⟩:∃ k',k=k'+1:=⟨k - 1,au0⟩
  rw [racewayref25_quote.l0,if_neg ha.ge,str_size,if_pos au0]
  show some (str out++str [34])=_
  rw [qstr_app]
  rfl
 | c :: r,p,k,out,ha,hk,ho=>by
  obtain ⟨k,rfl⟩:∃ k',k=k'+10:=⟨k - 10,by simp only [List.length_cons] at hk;omega⟩
  simp only [List.length_cons] at hk ho
  have hlt:=ha.lt
  have q:=UInt8.toNat_lt c
  have hw:wrap64 ((p:Int)+1)=((p+1:Nat):Int):=p1 au0 ha
  rw [racewayref25_quote.l0,if_pos ha.lti,if_pos au0,ha.bt,qmarks s out p (k+1) c au0,qdone]
  have hsp:(c :: r).flatMap esc1=esc1 c++r.flatMap esc1:=by simp
  rw [hsp]
  cases hm:X.mark c with
  | some m =>
   simp only
   have he:esc1 c=[92,m]:=by unfold esc1;rw [hm]
   rw [racewayref25_quote.l1,if_neg au1,if_pos rfl,hw,quote_l0 s hs r (p+1) k (out++[92,m]) ha.next au0 au61,he]
   simp
  | none =>
   simp only
   rw [racewayref25_quote.l1,if_neg au1,if_neg au1,hw]
   by_cases h32:c.toNat<32
   ·have he:esc1 c=[92,117,48,48,hexd (c.toNat / 16),hexd (c.toNat % 16)]:=by unfold esc1;rw [hm];simp only;rw [if_pos h32]
    have e1:Int.tdiv (c.toNat:Int) 16=((c.toNat / 16:Nat):Int):=q_tdiv _ 16
    have e2:Int.tmod (c.toNat:Int) 16=((c.toNat % 16:Nat):Int):=q_tmod _ 16
    have e3:((c.toNat / 16:Nat):Int) % 256=((c.toNat / 16:Nat):Int):=by omega
    have e4:(((c.toNat / 16:Nat):Int)+1) % 256=((c.toNat / 16+1:Nat):Int):=by omega
    have e5:(((c.toNat % 16:Nat):Int)+1) % 256=((c.toNat % 16+1:Nat):Int):=by omega
    rw [if_pos au0,e1,e2,e3,e4,e5,Int.toNat_natCast,Int.toNat_natCast,Int.toNat_natCast,Int.toNat_natCast,qhex _ au0,qhex _ au0]
    have e6:((str out++(⟨#[92,117,48,48]⟩:ByteArray))++str [hexd (c.toNat / 16)])++str [hexd (c.toNat % 16)]=str (out++[92,117,48,48,hexd (c.toNat / 16),hexd (c.toNat % 16)]):=by
     show((str out++str [92,117,48,48])++str [hexd (c.toNat / 16)])++str [hexd (c.toNat % 16)]=_
     rw [qstr_app,qstr_app,qstr_app]
     simp
    rw [e6,str_size,str_size,str_size,if_pos au0,if_pos au0,if_pos au0,if_pos au0,if_pos au60,if_pos au0,if_pos au0,if_pos au0,if_pos au60,
     quote_l0 s hs r (p+1) k (out++[92,117,48,48,hexd (c.toNat / 16),hexd (c.toNat % 16)]) ha.next au0 au61,he]
    simp
   ·have he:esc1 c=[c]:=by unfold esc1;rw [hm];simp only;rw [if_neg h32]
    rw [if_neg au0,Int.toNat_natCast,Int.toNat_natCast,q_take1 ha,qstr_app,str_size,str_size,if_pos au0,if_pos au0,if_pos au0,if_pos au60,quote_l0 s hs r (p+1) k (out++[c]) ha.next au0 au61,he]
    simp
theorem quote_R (s:ByteArray) (hs:s.size≤1000000) (k:Nat) (hk:12*s.size+20≤k):racewayref25_quote.f k s=some (str (quote s.data.toList)):=by
 rw [racewayref25_quote.f]
 exact quote_l0 s hs _ 0 k [34] (At.start s) (by simpa using hk) au16
def starts:Nat→F→List Int
 | p,.nil=>[]
 | p,.leaf _ _ _ r=>(p:Int) :: starts (p+1) r
 | p,.node _ _ ks r=>(p:Int) :: starts (p+(ks.flat.length+1)) r
theorem first_of (l:List Nd) (p:Nat) (f:F) (r:List Nd) (h:l.drop p=f.flat++r) (hc:f.count≠0) :
  ∃(sz:Nat) (g:F),(rd_T24 l (p:Int)).f1=(sz:Int)∧1≤sz∧l.drop (p+sz)=g.flat++r∧f.count=g.count+1∧starts p f=(p:Int) :: starts (p+sz) g∧p+sz+g.flat.length+r.length=l.length∧f.flat.length=sz+g.flat.length:=by
 have hlen:=congrArg List.length h
 simp only [List.length_drop,List.length_append] at hlen
 match f,hc with
 | .nil,hc=>exact absurd rfl hc
 | .leaf k d t g,hc =>
  simp only [F.flat,List.cons_append] at h
  obtain ⟨e1,e2,e3,e4⟩:=rd_cast l p _ _ h
  refine ⟨1,g,by rw [e1];rfl,Nat.le_refl _,e3,rfl,rfl,?_,?_⟩
  ·simp only [F.flat,List.length_cons] at hlen
   omega
  ·simp only [F.flat,List.length_cons]
   omega
 | .node k d ks g,hc =>
  simp only [F.flat,List.cons_append] at h
  obtain ⟨e1,e2,e3,e4⟩:=rd_cast l p _ _ h
  refine ⟨ks.flat.length+1,g,by rw [e1],au0,?_,rfl,rfl,?_,?_⟩
  ·rw [show p+(ks.flat.length+1)=(p+1)+ks.flat.length by omega,← List.drop_drop,e3]
   simp
  ·simp only [F.flat,List.length_cons,List.length_append] at hlen
   omega
  ·simp only [F.flat,List.length_cons,List.length_append]
   omega
theorem starts_len:∀(f:F) (p:Nat),(starts p f).length=f.count
 | .nil,p=>rfl
 | .leaf k d t r,p=>by simp [starts,F.count,starts_len r]
 | .node k d ks r,p=>by simp [starts,F.count,starts_len r]
def LoopOk (l:List S24) (f:F):Prop:=∀(rest:List S24) (acc:Bs) (next i k:Nat) (f0 f1 f2:Int) (f3 f4:ByteArray),l.drop next=f.flat++rest→((i+f.count:Nat):Int)=f2→i+f.count≤2000000→4*(l.length - next)+13000003≤k→acc.length+(f.out (decide (f0=7)) (decide (i=0))).length≤100000000000000 →
 racewayref25_written.l0 k l (str acc) (next:Int) (i:Int) f0 f1 f2 f3 f4=some (str (if f0=7 then 123 :: (acc++f.out (decide (f0=7)) (decide (i=0))++[125]) else 91 :: (acc++f.out (decide (f0=7)) (decide (i=0))++[93])))
def OneOkW (l:List S24) (u:F):Prop:=∀(rest:List S24) (p k:Nat),l.drop p=u.flat++rest→4*(l.length - p)+13000000≤k→(u.out false true).length≤100000000000000→racewayref25_written.f k l (p:Int)=some (str (u.out false true))
theorem writ_leaf (l:List S24) (hl:fit l=true) (hlen:l.length≤1000000) (kb:Bs) (d:Int) (t:Bs) (hd:1≤d∧d≤5):OneOkW l (.leaf kb d t .nil):=by
 intro rest p k h hk hout
 obtain ⟨k,rfl⟩:∃ k',k=k'+1:=⟨k - 1,au0⟩
 simp only [F.flat,List.cons_append] at h
 obtain ⟨e1,e2,e3,e4⟩:=rd_cast l p _ _ h
 obtain ⟨s3,s4,_⟩:=fit_at hl e4
 simp only at s4
 rw [racewayref25_written.f,if_pos au0,if_pos au0,e1]
 have ho:(F.leaf kb d t .nil).out false true=ltx d t:=by simp [F.out]
 rw [ho]
 simp only
 unfold ltx
 by_cases d1:d=1
 ·rw [if_pos d1,if_pos d1];rfl
 ·rw [if_neg d1,if_neg d1]
  by_cases d2:d=2
  ·rw [if_pos d2,if_pos d2];rfl
  ·rw [if_neg d2,if_neg d2]
   by_cases d3:d=3
   ·rw [if_pos d3,if_pos d3];rfl
   ·rw [if_neg d3,if_neg d3]
    by_cases d4:d=4
    ·rw [if_pos d4,if_pos d4]
    ·rw [if_neg d4,if_neg d4,if_pos au0,quote_R (str t) s4 k au0]
     rfl
theorem writ_node (l:List S24) (hl:fit l=true) (hlen:l.length≤1000000) (kb:Bs) (d:Int) (ks:F) (hd:d=6∨d=7) (H:LoopOk l ks):OneOkW l (.node kb d ks .nil):=by
 intro rest p k h hk hout
 obtain ⟨k,rfl⟩:∃ k',k=k'+1:=⟨k - 1,au0⟩
 have ho:(F.node kb d ks .nil).out false true=if d=7 then 123 :: (ks.out true true++[125]) else 91 :: (ks.out false true++[93]):=by simp [F.out]
 simp only [F.flat,List.append_nil,List.cons_append] at h
 obtain ⟨e1,e2,e3,e4⟩:=rd_cast l p _ _ h
 rw [racewayref25_written.f,if_pos au0,if_pos au0,e1]
 simp only
 rw [if_neg au0,if_neg au0,if_neg au0,if_neg au0,if_neg au0,w64v au0 au0,show((p:Int)+1)=((p+1:Nat):Int) by omega]
 have hb:(ks.out (decide (d=7)) true).length≤100000000000000:=by
  rw [ho] at hout
  by_cases h7:d=7
  ·rw [if_pos h7] at hout
   rw [decide_eq_true h7]
   simp only [List.length_cons,List.length_append] at hout
   omega
  ·rw [if_neg h7] at hout
   rw [decide_eq_false h7]
   simp only [List.length_cons,List.length_append] at hout
   omega
 have:=H rest [] (p+1) 0 k d ((ks.flat.length+1:Nat):Int) ((ks.count:Nat):Int) (str kb) (str []) e3 au0 (by have:=F.cnt_le ks;have h9:=congrArg List.length e3;simp only [List.length_drop,List.length_append] at h9;omega) au0 (by simpa using (by omega:(ks.out (decide (d=7)) true).length≤100000000000000))
 show racewayref25_written.l0 k l (str []) ((p+1:Nat):Int) ((0:Nat):Int) d ((ks.flat.length+1:Nat):Int) ((ks.count:Nat):Int) (str kb) (str [])=_
 rw [this,ho]
 by_cases h7:d=7
 ·rw [if_pos h7,if_pos h7,decide_eq_true h7]
  simp
 ·rw [if_neg h7,if_neg h7,decide_eq_false h7]
  simp
theorem writ_nil (l:List S24):LoopOk l .nil:=by
 intro rest acc next i k f0 f1 f2 f3 f4 h hi hi2 hk ho
 obtain ⟨k,rfl⟩:∃ k',k=k'+1:=⟨k - 1,au0⟩
 rw [racewayref25_written.l0,if_neg (by simp only [F.count] at hi;omega)]
 simp only [F.out,List.length_nil,List.append_nil] at ho ⊢
 rw [str_size]
 by_cases h7:f0=7
 ·rw [if_pos h7,if_pos h7,if_pos au0,if_pos au0]
  show some ((str [123]++str acc)++str [125])=_
  rw [qstr_app,qstr_app]
  rfl
 ·rw [if_neg h7,if_neg h7,if_pos au0,if_pos au0]
  show some ((str [91]++str acc)++str [93])=_
  rw [qstr_app,qstr_app]
  rfl
theorem writ_cons (l:List S24) (hl:fit l=true) (hlen:l.length≤1000000) (t g:F) (ht:t.one) (H1:OneOkW l t) (H2:LoopOk l g):LoopOk l (t.app g):=by
 intro rest acc next i k f0 f1 f2 f3 f4 h hi hi2 hk ho
 obtain ⟨k,rfl⟩:∃ k',k=k'+2:=⟨k - 2,au0⟩
 have hcnt:=F.count_app t g
 have hc1:=F.one_count ht
 have hfl:=F.flat_app t g
 have hpos:=one_pos ht
 rw [hfl,List.append_assoc] at h
 have hlen2:=congrArg List.length h
 simp only [List.length_drop,List.length_append] at hlen2
 obtain ⟨x,xs,hx⟩:∃ x xs,t.flat=x :: xs:=by
  cases hf:t.flat with
  | nil=>rw [hf] at hpos;simp at hpos
  | cons a b=>exact ⟨a,b,rfl⟩
 have h2:=h
 rw [hx,List.cons_append] at h2
 obtain ⟨e1,e2,e3,e4⟩:=rd_cast l next x _ h2
 obtain ⟨s3,s4,_⟩:=fit_at hl e4
 have hxk:x.f3=str (key t)∧x.f1=((t.flat.length:Nat):Int):=by
  match t,ht,hx with
  | .leaf k1 d1 t1 .nil,_,hx =>
   simp only [F.flat,List.cons.injEq] at hx
   rw [← hx.1]
   exact ⟨rfl,rfl⟩
  | .node k1 d1 ks1 .nil,_,hx =>
   simp only [F.flat,List.append_nil,List.cons.injEq] at hx
   rw [← hx.1]
   exact ⟨rfl,au21⟩
 obtain ⟨hx3,hx1⟩:=hxk
 have hout:(t.app g).out (decide (f0=7)) (decide (i=0))=(if decide (i=0)=true then [] else [44])++(if decide (f0=7)=true then quote (key t)++[58] else [])++t.out false true++g.out (decide (f0=7)) false:=by
  rw [out_app ht,out_one ht]
 rw [hout] at ho ⊢
 have hk3:(str (key t)).size≤1000000:=by rw [← hx3];exact s3
 rw [racewayref25_written.l0,if_pos au0]
 have body:∀ acc':Bs,acc'=acc++(if decide (i=0)=true then [] else [44])→racewayref25_written.j1 (k+1) l (str acc') (next:Int) (i:Int) f0 f1 f2 f3 f4=some (str (if f0=7 then 123 :: (acc++((if decide (i=0)=true then [] else [44])++(if decide (f0=7)=true then quote (key t)++[58] else [])++t.out false true++g.out (decide (f0=7)) false)++[125]) else 91 :: (acc++((if decide (i=0)=true then [] else [44])++(if decide (f0=7)=true then quote (key t)++[58] else [])++t.out false true++g.out (decide (f0=7)) false)++[93]))):=by
  intro acc' hacc
  rw [← List.append_assoc,← List.append_assoc,← List.append_assoc,← hacc]
  have hacl:=congrArg List.length hacc
  simp only [List.length_append] at hacl ho
  have hone:=H1 (g.flat++rest) next k h au0 au0
  have hdrop:l.drop (next+t.flat.length)=g.flat++rest:=by
   rw [← List.drop_drop,h]
   simp
  rw [racewayref25_written.j1]
  by_cases h7:f0=7
  ·rw [decide_eq_true h7] at ho hout ⊢
   simp only [if_true,List.length_append,List.length_cons,List.length_nil] at ho
   rw [if_pos h7,if_pos au0,if_pos au0,e1,hx3,quote_R (str (key t)) hk3 k au0,Option.bind_some,hone,Option.bind_some]
   have e5:(str (key t)).data.toList=key t:=rfl
   rw [e5]
   have e6:((str acc'++str (quote (key t)))++(⟨#[58]⟩:ByteArray))++str (t.out false true)=str (acc'++(quote (key t)++[58])++t.out false true):=by
    show((str acc'++str (quote (key t)))++str [58])++str (t.out false true)=_
    rw [qstr_app,qstr_app,qstr_app]
    simp
   rw [e6,str_size,str_size,str_size,if_pos au0,if_pos au0,if_pos au0,hx1,w64v au0 au0,w64v au0 au0,show((next:Int)+((t.flat.length:Nat):Int))=((next+t.flat.length:Nat):Int) by omega,show((i:Int)+1)=((i+1:Nat):Int) by omega]
   have:=H2 rest (acc'++(quote (key t)++[58])++t.out false true) (next+t.flat.length) (i+1) k f0 f1 f2 f3 f4 hdrop au0 au0 au0 (by
    rw [decide_eq_true h7,decide_eq_false (show ¬ i+1=0 by omega)]
    simp only [List.length_append,List.length_cons,List.length_nil]
    omega)
   rw [this,decide_eq_true h7,decide_eq_false (show ¬ i+1=0 by omega),if_pos h7,if_pos h7]
   simp
  ·rw [decide_eq_false h7] at ho hout ⊢
   simp only [Bool.false_eq_true,if_false,List.length_nil,Nat.add_zero] at ho
   rw [if_neg h7,hone,Option.bind_some,qstr_app,str_size,str_size,if_pos au0,if_pos au0,if_pos au0,e1,hx1,w64v au0 au0,w64v au0 au0,show((next:Int)+((t.flat.length:Nat):Int))=((next+t.flat.length:Nat):Int) by omega,show((i:Int)+1)=((i+1:Nat):Int) by omega]
   have:=H2 rest (acc'++t.out false true) (next+t.flat.length) (i+1) k f0 f1 f2 f3 f4 hdrop au0 au0 au0 (by
    rw [decide_eq_false h7,decide_eq_false (show ¬ i+1=0 by omega)]
    simp only [List.length_append]
    omega)
   rw [this,decide_eq_false h7,decide_eq_false (show ¬ i+1=0 by omega),if_neg h7,if_neg h7]
   simp
 by_cases h0:i=0
 ·rw [if_neg au0]
  exact body acc (by rw [decide_eq_true h0];simp)
 ·rw [if_pos au0,str_size,if_pos au0]
  show racewayref25_written.j1 (k+1) l (str acc++str [44]) (next:Int) (i:Int) f0 f1 f2 f3 f4=_
  rw [qstr_app]
  exact body (acc++[44]) (by rw [decide_eq_false h0];simp)
theorem writ_all (l:List S24) (hl:fit l=true) (hlen:l.length≤1000000):∀ f:F,f.kinds=true→LoopOk l f
 | .nil,h=>writ_nil l
 | .leaf k d t r,h=>by
  simp only [F.kinds,Bool.and_eq_true,decide_eq_true_eq] at h
  exact writ_cons l hl hlen (.leaf k d t .nil) r trivial (writ_leaf l hl hlen k d t h.1) (writ_all l hl hlen r h.2)
 | .node k d ks r,h=>by
  simp only [F.kinds,Bool.and_eq_true,Bool.or_eq_true,beq_iff_eq] at h
  exact writ_cons l hl hlen (.node k d ks .nil) r trivial (writ_node l hl hlen k d ks h.1.1 (writ_all l hl hlen ks h.1.2)) (writ_all l hl hlen r h.2)
theorem writ_tree (l:List S24) (hl:fit l=true) (hlen:l.length≤1000000) {t:F} (ht:t.one) (hk:t.kinds=true):OneOkW l t:=by
 match t,ht,hk with
 | .leaf k d t .nil,_,hk =>
  simp only [F.kinds,Bool.and_eq_true,decide_eq_true_eq] at hk
  exact writ_leaf l hl hlen k d t hk.1
 | .node k d ks .nil,_,hk =>
  simp only [F.kinds,Bool.and_eq_true,Bool.or_eq_true,beq_iff_eq] at hk
  exact writ_node l hl hlen k d ks hk.1.1 (writ_all l hl hlen ks hk.1.2)
end Go.Proofs.YtjehflambbjoaaaDoor.Pure
namespace Go.Proofs.YtjehflambbjoaaaDoor.X
open Go.RowKit Go.Proofs.YtjehflambbjoaaaDoorW.PrintWords Go.Proofs.YtjehflambbjoaaaDoorW.PrintLast Go.Proofs.YtjehflambbjoaaaDoorW.PrintMore
def jsontext_Print.f (l:List (S24)):Option (ByteArray × Int) :=
 if fit l then match tree? l with
  | some t=>if t.txt.length≤17592186044416 then some (str t.txt,0) else none
  | none=>some (⟨#[]⟩,2)
 else none
theorem write_root {t:F} (h:WriteOk t) (B b:Nat) (ad:Addr) (cp N:Nat) (l:List Nd) (w0 w:World) (hN:N=l.length) (hl:l=t.flat) (hcp:N≤cp) (hlen:N≤1099511627776) (hbig:t.txt.length≤17592186044416)
  (hC:Kd.C kN w0 (some ad) N l) (hB:w0.heap.size≤B) (hbel:Below w0.heap.size w0 w) (hbld:Bld B b [] w) :
  Calls Tryd.prog 37 #[.pointer (some ⟨b,0,none⟩),.slice (some ad) N cp,.int .i64 0] w fun e w'=>(∃ x,e=.returned x)∧Bld B b t.txt w'∧Below B w w':=by
 have:=h.use B b ad cp N l [] [] [] w0 w hN (by rw [hl];simp) hcp hlen (by simpa [F.txt] using hbig) hC hB hbel hbld
 refine Calls.mono this ?_
 rintro e w' ⟨rfl,h2,h3,_⟩
 exact ⟨⟨_,rfl⟩,by simpa [F.txt] using h2,h3⟩
set_option maxHeartbeats 1000000 in
set_option maxRecDepth 100000 in
theorem jsontext_Print.calls (A0:Option Addr) (c0:Nat) (l0:List (S24)) (r1:ByteArray) (r2:Int) (w:World) (hGU8:GlobU8 w) (hr0:Kd.C k24 w A0 l0.length l0) (hc0:l0.length≤c0) (h:jsontext_Print.f l0=some (r1,r2)) :
  Calls Tryd.prog 20 #[.slice A0 l0.length c0] w fun e w'=>e=.returned (.tuple #[.string r1,.int .i64 r2])∧Below w.heap.size w w':=by
 unfold jsontext_Print.f at h
 split at h
 ·rename_i hfit
  have hck:=Check_law l0 hfit (3*l0.length+4) (Nat.le_refl _)
  have HG:=Lib.hid hGU8
  have HR:=Lib.hid hr0
  have HC:=Lib.hid hc0
  cases ht:tree? l0 with
  | none =>
   rw [ht] at h hck
   simp only [Option.some.injEq,Prod.mk.injEq] at h
   obtain ⟨rfl,rfl⟩:=h
   have HCK:Hid (jsontext_Check.f (3*l0.length+4) l0=some 2):=Lib.hid hck
   clear hck hfit ht hGU8 hr0 hc0
   go_enter Tryd.func20,Tryd.ntmps20
   go_wp2_with (go_at_call 16;refine(jsontext_Check.calls _ A0 c0 l0 2 _ HG.out HR.out HC.out HCK.out).mono ?_;rintro e w1 ⟨rfl,hb1⟩;have HB1:=Lib.hid hb1;clear hb1)
   go_ret2
   exact ⟨rfl,HB1.out⟩
  | some t =>
   rw [ht] at h hck
   simp only at h
   split at h
   ·rename_i hbig
    simp only [Option.some.injEq,Prod.mk.injEq] at h
    obtain ⟨rfl,rfl⟩:=h
    obtain ⟨e1,e2,e3⟩:=tree_flat ht
    have hlen:=fit_len hfit
    have hw:=write_all t e3 t (by
     match t,e2 with
     | .leaf _ _ _ .nil,_=>simp [F.trees]
     | .node _ _ _ .nil,_=>simp [F.trees])
    have HCK:Hid (jsontext_Check.f (3*l0.length+4) l0=some 0):=Lib.hid hck
    have HW:=Lib.hid hw
    have HE:=Lib.hid e1
    have HLEN:=Lib.hid hlen
    have HBIG:=Lib.hid hbig
    obtain ⟨ad,rfl⟩:∃ ad,A0=some ad:=by
     have hp:=one_pos e2
     obtain ⟨ad,e,_⟩:=at_T24 hr0 0 (Int.le_refl _) (by rw [e1];omega)
     exact ⟨ad,e⟩
    clear hck hfit ht hGU8 hr0 hc0 hw e1 e2 e3 hlen hbig
    generalize hN:l0.length=N
    have HN:=Lib.hid hN.symm
    have HR2:Hid (Kd.C kN w (some ad) N l0):=Lib.hid (hN ▸ HR.out)
    have HC2:Hid (N≤c0):=Lib.hid (hN ▸ HC.out)
    clear hN
    have hcall:=jsontext_Check.calls _ (some ad) c0 l0 0 w HG.out HR.out HC.out HCK.out
    rw [← HN.out] at hcall
    have HCALL:=Lib.hid hcall
    clear hcall
    go_enter Tryd.func20,Tryd.ntmps20
    go_upto_region 5 with(go_at_call 16;refine HCALL.out.mono ?_;rintro e w1 ⟨rfl,hb1⟩;have HB1:=Lib.hid hb1;clear hb1)
    have HBN:Hid (Bld w1.heap.size w1.heap.size [] (w1.alloc (.cells #[.pointer none,.slice none 0 0] 64 (0,0)))):=Lib.hid (bld_new w1 _ rfl)
    have HBA:Hid (Below w1.heap.size w1 (w1.alloc (.cells #[.pointer none,.slice none 0 0] 64 (0,0)))):=Lib.hid ((Below.refl _ _).alloc (Nat.le_refl _) _)
    have HLN:Hid (N≤1099511627776):=Lib.hid (by rw [HN.out];exact HLEN.out)
    have HBW:Hid (Below w.heap.size w (w1.alloc (.cells #[.pointer none,.slice none 0 0] 64 (0,0)))):=Lib.hid (HB1.out.trans (HBA.out.mono HB1.out.size))
    go_wp2_with (first
     | (go_at_call 37;refine(write_root HW.out w1.heap.size w1.heap.size ad c0 N l0 w _ HN.out HE.out HC2.out HLN.out HBIG.out HR2.out HB1.out.size HBW.out HBN.out).mono ?_;rintro e w2 ⟨⟨x,rfl⟩,hb2,hbel2⟩;have HB2:Hid (Bld w1.heap.size w1.heap.size t.txt w2):=Lib.hid hb2;have HBEL2:=Lib.hid hbel2;clear hb2 hbel2)
     | (go_at_call 38;refine(Tryd.Builder_String_any w1.heap.size w1.heap.size t.txt _ HB2.out HB2.out.lt).mono ?_;rintro e w4 ⟨rfl,hb4⟩;have HB4:=Lib.hid hb4;clear hb4))
    go_ret2
    exact ⟨rfl,HB1.out.trans ((HBA.out.trans (HBEL2.out.trans HB4.out)).mono HB1.out.size)⟩
   ·cases h
 ·cases h
theorem C_bytes (w:World) (t:ByteArray) (ht:t.size≤1000000):Kd.C (Kd.int .u8) (Lib.bytesWorld w 5 t) (some ⟨w.heap.size,0,none⟩) (bytesOf t).length (bytesOf t):=by
 refine ⟨rfl,by rw [bytesOf_length];omega,fun _=>⟨_,rfl,fun j p hp=>⟨[.int .u8 p],rfl,rfl,fun i u hu=>?_⟩⟩⟩
 rcases i with _|i
 ·simp at hu
  subst hu
  have hjl:j<(bytesOf t).length:=(List.getElem?_eq_some_iff.mp hp).1
  have hjt:j<t.size:=by rw [bytesOf_length] at hjl;exact hjl
  have e:(Addr.add ⟨w.heap.size,0,none⟩ (j*1+0))=⟨w.heap.size,j,none⟩:=by unfold Addr.add;split<;>simp_all
  show(Lib.bytesWorld w 5 t).cell? (Addr.add ⟨w.heap.size,0,none⟩ (j*1+0))=_
  rw [e,Lib.bytesWorld_cell w 5 t j hjt]
  simp only [bytesOf,List.getElem?_map] at hp
  rw [List.getElem?_eq_getElem (by simpa using hjt)] at hp
  have:=Option.some.inj hp
  rw [← this,List.getD_eq_getElem?_getD,List.getElem?_eq_getElem (by simpa using hjt)]
  rfl
 ·simp at hu
def response_Shown.f (s:ByteArray):Option ByteArray:=if s.size≤700000 then(if Lib.validD s.data.toList=true then some s else(basic_Encode.f (bytesOf s)).bind fun t=>if t.size≤100000000 then some ((⟨#[98,97,115,101,54,52,58]⟩:ByteArray)++t) else none) else none
set_option maxHeartbeats 4000000 in
set_option maxRecDepth 100000 in
theorem response_Shown.calls (a0:ByteArray) (r:ByteArray) (w:World) (hGU8:GlobU8 w) (h:response_Shown.f a0=some r) :
  Calls Tryd.prog 14 #[.string a0] w fun e w'=>e=.returned (.string r)∧Below w.heap.size w w':=by
 unfold response_Shown.f at h
 split at h
 ·rename_i hsz
  have hV:=utf8_ValidString.calls a0 (Lib.validD a0.data.toList) w hGU8 (by unfold utf8_ValidString.f;rw [if_pos au0])
  have HV:=Lib.hid hV
  have HZ:=Lib.hid hsz
  clear hV
  split at h
  ·rename_i hv
   obtain rfl:=Option.some.inj h
   have HT:=Lib.hid hv
   clear h hv hsz
   go_enter Tryd.func14,Tryd.ntmps14
   go_wp2_with (go_at_call 29;(with_reducible refine HV.out.mono ?_);rintro e w1 ⟨rfl,hb1⟩;rw [HT.out])
   go_ret
   exact ⟨rfl,hb1⟩
  ·rename_i hv
   obtain ⟨t,ht,h⟩:=Option.bind_eq_some_iff.1 h
   split at h
   ·rename_i hts
    obtain rfl:=Option.some.inj h
    have HT:=Lib.hid (Bool.eq_false_iff.2 hv)
    have HE:=Lib.hid ht
    have HS:=Lib.hid hts
    have c1:(9223372036854775807<7+t.size)=False:=eq_false au0
    have c2:(9223372036854775807<(⟨#[98,97,115,101,54,52,58]⟩:ByteArray).size+t.size)=False:=c1
    have c3:(7+t.size≤9223372036854775807)=True:=eq_true au0
    clear h hv ht hts hsz
    go_enter Tryd.func14,Tryd.ntmps14
    go_wp2_with (go_at_call 29;(with_reducible refine HV.out.mono ?_);rintro e w1 ⟨rfl,hb1⟩;rw [HT.out])
    have hcv:=Lib.run_convert_string_bytes (P:=Tryd.prog) w1 9 59 5 a0 Tryd.underlying9 Tryd.underlying59 Tryd.underlying5
    have hb5:Below w1.heap.size w1 (Lib.bytesWorld w1 5 a0):=⟨rfl,rfl,rfl,by rw [Lib.bytesWorld_size];omega,fun k hk=>Lib.bytesWorld_at_old w1 _ a0 k hk⟩
    have hb54:Below w.heap.size w (Lib.bytesWorld w1 5 a0):=hb1.trans (hb5.mono hb1.size)
    have hO:=fun c (hc:(bytesOf a0).length≤c)=>basic_Encode.calls (some ⟨w1.heap.size,0,none⟩) c (bytesOf a0) t (Lib.bytesWorld w1 5 a0) (C_bytes w1 a0 (by have:=HZ.out;omega)) hc HE.out
    rw [bytesOf_length] at hO
    have HO:=Lib.hid hO
    have HB:=Lib.hid hb54
    clear hO hb5 hb1 hb54
    rw [hcv]
    simp only [Result.andThen]
    clear hcv
    go_wp2_with (go_at_call 30;refine(HO.out _ (grownCap_ge _ _ _ _)).mono ?_;rintro e w6 ⟨rfl,hb6⟩;have HB6:Hid (Below w.heap.size w w6):=Lib.hid (HB.out.trans (hb6.mono HB.out.size)))
    go_ret
    exact ⟨rfl,HB6.out⟩
   ·exact absurd h au5
 ·exact absurd h au5
def racewayref29_Shown.f (k:Nat) (s:ByteArray):Option ByteArray:=if s.size≤700000 then((racewayref25_Valid.f k s).bind fun b=>(if b=true then some s else((racewayref22_Encode.f k (bytesOf s)).bind fun t=>(if t.size≤100000000 then some ((⟨#[98,97,115,101,54,52,58]⟩:ByteArray)++t) else none)))) else none
set_option maxHeartbeats 4000000 in
set_option maxRecDepth 100000 in
theorem racewayref29_Shown.calls (k:Nat) (a0:ByteArray) (r:ByteArray) (w:World) (h:racewayref29_Shown.f k a0=some r) :
  Calls Tryd.prog 15 #[.string a0] w fun e w'=>e=.returned (.string r)∧Below w.heap.size w w':=by
 unfold racewayref29_Shown.f at h
 split at h
 ·rename_i hsz
  obtain ⟨vb,hvb,h⟩:=Option.bind_eq_some_iff.1 h
  have hV:=racewayref25_Valid.calls k a0 vb w hvb
  have HV:=Lib.hid hV
  have HZ:=Lib.hid hsz
  clear hV
  split at h
  ·rename_i hv
   obtain rfl:=Option.some.inj h
   have HT:=Lib.hid hv
   clear h hv hsz
   go_enter Tryd.func15,Tryd.ntmps15
   go_wp2_with (go_at_call 31;(with_reducible refine HV.out.mono ?_);rintro e w1 ⟨rfl,hd1⟩;have hb1:Below w.heap.size w w1:=(by obtain ⟨n1,rfl⟩:=hd1.out;exact ⟨rfl,rfl,rfl,Nat.le_refl _,fun _ _=>rfl⟩);rw [HT.out])
   go_ret
   exact ⟨rfl,hb1⟩
  ·rename_i hv
   obtain ⟨t,ht,h⟩:=Option.bind_eq_some_iff.1 h
   split at h
   ·rename_i hts
    obtain rfl:=Option.some.inj h
    have HT:=Lib.hid (Bool.eq_false_iff.2 hv)
    have HE:=Lib.hid ht
    have HS:=Lib.hid hts
    have c1:(9223372036854775807<7+t.size)=False:=eq_false au0
    have c2:(9223372036854775807<(⟨#[98,97,115,101,54,52,58]⟩:ByteArray).size+t.size)=False:=c1
    have c3:(7+t.size≤9223372036854775807)=True:=eq_true au0
    clear h hv ht hts hsz
    go_enter Tryd.func15,Tryd.ntmps15
    go_wp2_with (go_at_call 31;(with_reducible refine HV.out.mono ?_);rintro e w1 ⟨rfl,hd1⟩;have hb1:Below w.heap.size w w1:=(by obtain ⟨n1,rfl⟩:=hd1.out;exact ⟨rfl,rfl,rfl,Nat.le_refl _,fun _ _=>rfl⟩);rw [HT.out])
    have hcv:=Lib.run_convert_string_bytes (P:=Tryd.prog) w1 9 59 5 a0 Tryd.underlying9 Tryd.underlying59 Tryd.underlying5
    have hb5:Below w1.heap.size w1 (Lib.bytesWorld w1 5 a0):=⟨rfl,rfl,rfl,by rw [Lib.bytesWorld_size];omega,fun k hk=>Lib.bytesWorld_at_old w1 _ a0 k hk⟩
    have hb54:Below w.heap.size w (Lib.bytesWorld w1 5 a0):=hb1.trans (hb5.mono hb1.size)
    have hO:=fun c (hc:(bytesOf a0).length≤c)=>racewayref22_Encode.calls k (some ⟨w1.heap.size,0,none⟩) c (bytesOf a0) t (Lib.bytesWorld w1 5 a0) (C_bytes w1 a0 (by have:=HZ.out;omega)) hc HE.out
    rw [bytesOf_length] at hO
    have HO:=Lib.hid hO
    have HB:=Lib.hid hb54
    clear hO hb5 hb1 hb54
    rw [hcv]
    simp only [Result.andThen]
    clear hcv
    go_wp2_with (go_at_call 32;refine(HO.out _ (grownCap_ge _ _ _ _)).mono ?_;rintro e w6 ⟨rfl,hb6⟩;have HB6:Hid (Below w.heap.size w w6):=Lib.hid (HB.out.trans (hb6.mono HB.out.size)))
    go_ret
    exact ⟨rfl,HB6.out⟩
   ·exact absurd h au5
 ·exact absurd h au5
structure Obj (w:World) (lo B:Nat) (v1 v2:Value) (ks:List ByteArray) (ls:List (List S24)):Prop where
 blk:w.heap[B]?=some (.cells #[v1,v2] 45 (0,0))
 lo0:lo≤B
 lo1:∀ k,v1.ownBlock=some k→lo≤k
 lo2:∀ k,v2.ownBlock=some k→lo≤k
 R1:Kd.R Kd.string 9 w 0 (fun k=>k≠B∧some k≠v2.ownBlock) v1 ks
 R2:Kd.R (Kd.slice 24 k24) 22 w 0 (fun k=>k≠B∧some k≠v1.ownBlock) v2 ls
theorem Obj.lt {w:World} {lo B:Nat} {v1 v2:Value} {ks:List ByteArray} {ls:List (List S24)} (h:Obj w lo B v1 v2 ks ls):B<w.heap.size:=(Array.getElem?_eq_some_iff.mp h.blk).1
theorem Obj.below {w w':World} {lo B:Nat} {v1 v2:Value} {ks:List ByteArray} {ls:List (List S24)} (h:Obj w lo B v1 v2 ks ls) (hb:Below w.heap.size w w'):Obj w' lo B v1 v2 ks ls :=
 ⟨(hb.block _ h.lt).trans h.blk,h.lo0,h.lo1,h.lo2,Kd.R_below h.R1 hb,Kd.R_below h.R2 hb⟩
theorem Obj.new {w:World} {lo:Nat} (h:lo≤w.heap.size):Obj (w.alloc (.cells #[.slice none 0 0,.slice none 0 0] 45 (0,0))) lo w.heap.size (.slice none 0 0) (.slice none 0 0) [] [] :=
 ⟨heap_alloc_new w _,h,fun k hk=>by simp [Value.ownBlock] at hk,fun k hk=>by simp [Value.ownBlock] at hk,Kd.R_nil _ _ _ _ _,Kd.R_nil _ _ _ _ _⟩
theorem Obj.cells {w:World} {lo B:Nat} {v1 v2:Value} {ks:List ByteArray} {ls:List (List S24)} (h:Obj w lo B v1 v2 ks ls):w.cell? ⟨B,0,none⟩=some v1∧w.cell? ⟨B,1,none⟩=some v2 :=
 ⟨(blk_cell h.blk 0).trans rfl,(blk_cell h.blk 1).trans rfl⟩
theorem xhid {p:Prop} (h:p):Hid p:=h
theorem fz_at {w:World} {b:Nat} {cs:Array Value} {T:TypeId} (hb:w.heap[b]?=some (.cells cs T (0,0))) (j:Nat):w.frozen? ⟨b,j,none⟩=false:=by
 simp [World.frozen?,hb]
theorem box_reads {α:Type} {Rr:α→List Value→Prop} {w:World} {g:Nat} {u:Value} {tt:TypeId} {x:α} (h:w.heap[g]?=some (.cells #[u] tt (0,0))) (hr:Rr x [u]):ReadsRow Rr 1 w (some ⟨g,0,none⟩) 1 [x]:=by
 refine ⟨rfl,au0,fun _=>⟨_,rfl,fun j p hj=>?_⟩⟩
 match j,hj with
 | 0,hj =>
  simp at hj
  subst hj
  refine ⟨[u],rfl,hr,fun i v hv=>?_⟩
  match i,hv with
  | 0,hv =>
   simp at hv
   subst hv
   exact(blk_cell h 0).trans rfl
theorem grown_below {w w':World} (h:Below w.heap.size w w') (row:Option Nat):w.grownBy w' row:=⟨h.os,h.tape,h.output,h.size,fun k hk _=>h.block k hk⟩
theorem grown_trans {a b c:World} {row:Option Nat} (h:a.grownBy b row) (k:b.grownBy c row):a.grownBy c row :=
 ⟨k.os.trans h.os,k.tape.trans h.tape,k.output.trans h.output,Nat.le_trans h.size k.size,fun i hi hr=>(k.block i (Nat.lt_of_lt_of_le hi h.size) hr).trans (h.block i hi hr)⟩
theorem al1 (w:World) (a:Go.Obj):(w.drew.alloc a).heap[w.heap.size]?=some a:=heap_alloc_new w.drew a
theorem al2 (w:World) (a b:Go.Obj):((w.drew.alloc a).alloc b).heap[w.heap.size]?=some a∧((w.drew.alloc a).alloc b).heap[w.heap.size+1]?=some b:=by
 have hs:(w.drew.alloc a).heap.size=w.heap.size+1:=Array.size_push a
 refine ⟨(((Below.refl _ (w.drew.alloc a)).alloc (Nat.le_refl _) b).block _ au0).trans (al1 w a),?_⟩
 have:=heap_alloc_new (w.drew.alloc a) b
 rwa [hs] at this
theorem al2_lt (w:World) (a b:Go.Obj):w.heap.size+1<((w.drew.alloc a).alloc b).heap.size:=(Array.getElem?_eq_some_iff.mp (al2 w a b).2).1
structure PutF (w w':World) (ok:Nat→Prop) (v1 u18 u24 tv:Value) (ks:List ByteArray) (key:ByteArray):Prop where
 grown:w.grownBy w' v1.ownBlock
 R1:Kd.R Kd.string 9 w' 0 ok u18 (ks++[key])
 at1:u18.ownBlock=v1.ownBlock∨∃ b,u18.ownBlock=some b∧w.heap.size≤b
 box:∃ g,u24=.slice (some ⟨g,0,none⟩) 1 1∧w.heap.size≤g∧w'.heap[g]?=some (.cells #[tv] 22 (0,0))
theorem PutF.at8 {w w3:World} {ok:Nat→Prop} {v1 v3 tv:Value} {ks:List ByteArray} {key:ByteArray} (hg:w.grownBy w3 v1.ownBlock) (hr:Kd.R Kd.string 9 w3 0 ok v3 (ks++[key])) (ha:v3.ownBlock=v1.ownBlock∨∃ b,v3.ownBlock=some b∧w.heap.size≤b) :
  PutF w (w3.alloc (.cells #[tv] 22 (0,0))) ok v1 v3 (.slice (some ⟨w3.heap.size,0,none⟩) 1 1) tv ks key :=
 ⟨grown_trans hg (grown_below ((Below.refl _ _).alloc (Nat.le_refl _) _) _),Kd.R_below hr ((Below.refl _ _).alloc (Nat.le_refl _) _),ha,_,rfl,hg.size,heap_alloc_new w3 _⟩
theorem Obj.fresh1 {w:World} {lo B:Nat} {v1 v2:Value} {ks:List ByteArray} {ls:List (List S24)} (h:Obj w lo B v1 v2 ks ls) (k:Nat) (hk:w.heap.size≤k):some k≠v1.ownBlock:=by
 intro e
 obtain ⟨_,ho⟩:=Kd.R_own h.R1
 have:=own_lt ho k e.symm
 omega
theorem Obj.fresh2 {w:World} {lo B:Nat} {v1 v2:Value} {ks:List ByteArray} {ls:List (List S24)} (h:Obj w lo B v1 v2 ks ls) (k:Nat) (hk:w.heap.size≤k):k≠B∧some k≠v2.ownBlock:=by
 refine ⟨fun e=>by have:=h.lt;omega,fun e=>?_⟩
 obtain ⟨_,ho⟩:=Kd.R_own h.R2
 have:=own_lt ho k e.symm
 omega
theorem ne_at {w:World} {u v:Value} {k:Nat} (ha:u.ownBlock=v.ownBlock∨∃ b,u.ownBlock=some b∧w.heap.size≤b) (hne:some k≠v.ownBlock) (hk:k<w.heap.size):some k≠u.ownBlock:=by
 rcases ha with h|⟨b,h,hb⟩
 ·rwa [h]
 ·rw [h]
  intro e
  injection e with e
  omega
def OKept (B:Nat) (w w':World):Prop:=∀ k c,w.heap[k]?=some (.cells c 45 (0,0))→k≠B→w'.heap[k]?=some (.cells c 45 (0,0))
theorem OKept.refl (B:Nat) (w:World):OKept B w w:=fun _ _ h _=>h
theorem OKept.trans {B:Nat} {a b c:World} (h:OKept B a b) (h':OKept B b c):OKept B a c:=fun k x hk hn=>h' k x (h k x hk hn) hn
theorem OKept.below {B:Nat} {w w':World} (h:Below w.heap.size w w'):OKept B w w':=fun k c hk _=>(h.block k (Array.getElem?_eq_some_iff.mp hk).1).trans hk
theorem own_ne {w:World} {base e s n k t:Nat} {v:Value} {xs:List Value} {c:Array Value} (h:w.ownsRow base e s v n xs) (hk:w.heap[k]?=some (.cells c t (0,0))) (ht:e≠t):some k≠v.ownBlock:=by
 intro he
 obtain ⟨c',hc⟩:=own_typed h k he.symm
 rw [hc] at hk
 injection hk with hk
 injection hk with _ hk
 exact ht hk
theorem Obj.other {w:World} {lo B:Nat} {v1 v2:Value} {ks:List ByteArray} {ls:List (List S24)} (h:Obj w lo B v1 v2 ks ls) {k:Nat} {c:Array Value} (hk:w.heap[k]?=some (.cells c 45 (0,0))):some k≠v1.ownBlock∧some k≠v2.ownBlock:=by
 obtain ⟨_,h1⟩:=Kd.R_own h.R1
 obtain ⟨_,h2⟩:=Kd.R_own h.R2
 exact ⟨own_ne h1 hk au1,own_ne h2 hk au1⟩
set_option maxHeartbeats 8000000 in
set_option maxRecDepth 100000 in
theorem put_some (lo B:Nat) (A1 A2 AT:Option Addr) (p1 p2 pT:Nat) (ks:List ByteArray) (ls:List (List S24)) (key:ByteArray) (t:List S24) (w:World) (hO:Obj w lo B (.slice A1 ks.length p1) (.slice A2 ls.length p2) ks ls)
  (hT:Kd.R k24 24 w 0 (fun k=>k≠B∧some k≠(Value.slice A1 ks.length p1).ownBlock∧some k≠(Value.slice A2 ls.length p2).ownBlock) (.slice AT t.length pT) t) (ht:0<t.length) (hk:ks.length≤1000000) (hl:ls.length≤1000000) :
  Calls Tryd.prog 28 #[.pointer (some ⟨B,0,none⟩),.string key,.slice AT t.length pT] w fun e w'=>e=.returned (.pointer (some ⟨B,0,none⟩))∧∃ v1 v2,Obj w' lo B v1 v2 (ks++[key]) (ls++[t])∧Below lo w w'∧OKept B w w':=by
 obtain ⟨c0,c1⟩:=hO.cells
 have p0:(0<(t.length:Int))=True:=eq_true au0
 have hHC:∀ w',w.grownBy w' (Value.slice A1 ks.length p1).ownBlock→w'.cell? ⟨B,0,none⟩=some (.slice A1 ks.length p1)∧w'.cell? ⟨B,1,none⟩=some (.slice A2 ls.length p2):=fun w' hg=>by
  have e:=hg.block B hO.lt (fun e=>(hO.R1.1 B e.symm).1 rfl)
  exact ⟨(World.cell?_of_block e).trans c0,(World.cell?_of_block e).trans c1⟩
 have hCB:∀ w6 w5,w.grownBy w6 (Value.slice A1 ks.length p1).ownBlock→w6.grownBy w5 (Value.slice A2 ls.length p2).ownBlock→w5.heap[B]?=some (.cells #[.slice A1 ks.length p1,.slice A2 ls.length p2] 45 (0,0)):=fun w6 w5 hg hg5 =>
  (hg5.block B (Nat.lt_of_lt_of_le hO.lt hg.size) (fun e=>(hO.R2.1 B e.symm).1 rfl)).trans ((hg.block B hO.lt (fun e=>(hO.R1.1 B e.symm).1 rfl)).trans hO.blk)
 have hR2:∀ w6 (u18:Value),w.grownBy w6 (Value.slice A1 ks.length p1).ownBlock→(u18.ownBlock=(Value.slice A1 ks.length p1).ownBlock∨∃ b,u18.ownBlock=some b∧w.heap.size≤b)→Kd.R (Kd.slice 24 k24) 22 w6 0 (fun k=>k≠B∧some k≠u18.ownBlock) (.slice A2 ls.length p2) ls:=fun w6 u18 hg ha =>
  Kd.R_grown (Kd.R_mono (Kd.R_bound hO.R2) (fun k hk=>(⟨hk.1.1,ne_at ha hk.1.2 hk.2.2.1,hk.1.2⟩:k≠B∧some k≠u18.ownBlock∧some k≠(Value.slice A1 ks.length p1).ownBlock))) hg (fun k hk=>hk.2.2) |> fun h=>Kd.R_mono h (fun k hk=>⟨hk.1,hk.2.1⟩)
 have hRT:∀ w6 (u18:Value),w.grownBy w6 (Value.slice A1 ks.length p1).ownBlock→(u18.ownBlock=(Value.slice A1 ks.length p1).ownBlock∨∃ b,u18.ownBlock=some b∧w.heap.size≤b)→Kd.R k24 24 w6 0 (fun k=>k≠B∧some k≠u18.ownBlock∧some k≠(Value.slice A2 ls.length p2).ownBlock) (.slice AT t.length pT) t:=fun w6 u18 hg ha =>
  Kd.R_grown (Kd.R_mono (Kd.R_bound hT) (fun k hk=>(⟨hk.1.1,ne_at ha hk.1.2.1 hk.2.2.1,hk.1.2.2,hk.1.2.1⟩:k≠B∧some k≠u18.ownBlock∧some k≠(Value.slice A2 ls.length p2).ownBlock∧some k≠(Value.slice A1 ks.length p1).ownBlock))) hg (fun k hk=>hk.2.2.2) |> fun h=>Kd.R_mono h (fun k hk=>⟨hk.1,hk.2.1,hk.2.2.1⟩)
 have hFR:∀ w6 (u18 u24 tv:Value) ,PutF w w6 (fun k=>k≠B∧some k≠(Value.slice A2 ls.length p2).ownBlock) (.slice A1 ks.length p1) u18 u24 tv ks key→∀ k,w6.heap.size≤k→k≠B∧some k≠u18.ownBlock:=fun w6 u18 u24 tv hF k hk=>by
  refine ⟨fun e=>by have:=hO.lt;have:=hF.grown.size;omega,fun e=>?_⟩
  obtain ⟨_,ho⟩:=Kd.R_own hF.R1
  have:=own_lt ho k e.symm
  omega
 have HO:=xhid hO
 have HC:=xhid hHC
 have HCB:=xhid hCB
 have HR2:=xhid hR2
 have HRT:=xhid hRT
 have HFR:=xhid (fun w6 u18 u24 tv h=>hFR w6 u18 u24 tv h)
 have HL1:Hid ((ks.length+1)*16≤140737488355328):=xhid au0
 have HL2:Hid ((ls.length+1)*24≤140737488355328):=xhid au0
 clear hHC hCB hR2 hRT hFR hT hO hk hl
 go_enter Tryd.func28,Tryd.ntmps28
 go_wp2
 refine start_ (n:=22) (S:=fun w'=>w'.cell? ⟨B,0,none⟩=some (.slice A1 ks.length p1)∧w'.cell? ⟨B,1,none⟩=some (.slice A2 ls.length p2)) (ds:=[18,21]) #[fF,fF,fF,fF,fF,fF,fF,fF,fF,fF,fF,fF,fF,fF,fF,fF,fF,fF,fF,fF,fF,fF] au2 rfl rfl ⟨c0,c1⟩ (fun hHeld=>?_)
 refine pure_ (i:=0) (N:=some 10) (v:=?_) (a':=?_) #[tT,fF,fF,fF,fF,fF,fF,fF,fF,fF,fF,fF,fF,fF,fF,fF,fF,fF,fF,fF,fF,fF] rfl rfl au2 (fun _ _ _ h=>h) (Or.inl ⟨au6,?_⟩) ?_ ?_
 rotate_left
 ·intro w'
  go_simp
  with_reducible rfl
 rotate_left
 ·simp only [Act.put,List.setIfInBounds_toArray,List.set_cons_zero,List.set_cons_succ,i64_w,i32_w]
  rfl
 refine pure_ (i:=1) (N:=some 11) (v:=?_) (a':=?_) #[tT,tT,fF,fF,fF,fF,fF,fF,fF,fF,fF,fF,fF,fF,fF,fF,fF,fF,fF,fF,fF,fF] rfl rfl au2 (fun _ _ _ h=>h) (Or.inl ⟨au6,?_⟩) ?_ ?_
 rotate_left
 ·intro w'
  go_simp
  with_reducible rfl
 rotate_left
 ·simp only [Act.put,List.setIfInBounds_toArray,List.set_cons_zero,List.set_cons_succ,i64_w,i32_w]
  rfl
 refine pure_ (i:=2) (N:=some 12) (v:=?_) (a':=?_) #[tT,tT,tT,fF,fF,fF,fF,fF,fF,fF,fF,fF,fF,fF,fF,fF,fF,fF,fF,fF,fF,fF] rfl rfl au2 (fun _ _ _ h=>h) (Or.inl ⟨au6,?_⟩) ?_ ?_
 rotate_left
 ·intro w'
  go_simp
  with_reducible rfl
 rotate_left
 ·simp only [Act.put,List.setIfInBounds_toArray,List.set_cons_zero,List.set_cons_succ,i64_w,i32_w]
  rfl
 refine pure_ (i:=3) (N:=some 13) (v:=?_) (a':=?_) #[tT,tT,tT,tT,fF,fF,fF,fF,fF,fF,fF,fF,fF,fF,fF,fF,fF,fF,fF,fF,fF,fF] rfl rfl au2 (fun _ _ _ h=>h) (Or.inl ⟨au6,?_⟩) ?_ ?_
 rotate_left
 ·intro w'
  go_simp
  with_reducible rfl
 rotate_left
 ·simp only [Act.put,List.setIfInBounds_toArray,List.set_cons_zero,List.set_cons_succ,i64_w,i32_w]
  rfl
 refine pure_ (i:=4) (N:=some 14) (v:=?_) (a':=?_) #[tT,tT,tT,tT,tT,fF,fF,fF,fF,fF,fF,fF,fF,fF,fF,fF,fF,fF,fF,fF,fF,fF] rfl rfl au2 (fun _ _ _ h=>h) (Or.inl ⟨au6,?_⟩) ?_ ?_
 rotate_left
 ·intro w'
  go_simp
  with_reducible rfl
 rotate_left
 ·simp only [Act.put,List.setIfInBounds_toArray,List.set_cons_zero,List.set_cons_succ,i64_w,i32_w]
  rfl
 refine pure_ (i:=6) (N:=some 16) (v:=?_) (a':=?_) #[tT,tT,tT,tT,tT,fF,tT,fF,fF,fF,fF,fF,fF,fF,fF,fF,fF,fF,fF,fF,fF,fF] rfl rfl au2 (fun _ _ _ h=>h) (Or.inl ⟨au6,?_⟩) ?_ ?_
 rotate_left
 ·intro w'
  go_simp
  with_reducible rfl
 rotate_left
 ·simp only [Act.put,List.setIfInBounds_toArray,List.set_cons_zero,List.set_cons_succ,i64_w,i32_w]
  rfl
 refine pure_ (i:=9) (N:=some 19) (v:=?_) (a':=?_) #[tT,tT,tT,tT,tT,fF,tT,fF,fF,tT,fF,fF,fF,fF,fF,fF,fF,fF,fF,fF,fF,fF] rfl rfl au2 (fun _ _ _ h=>h) (Or.inl ⟨au6,?_⟩) ?_ ?_
 rotate_left
 ·intro w'
  go_simp
  with_reducible rfl
 rotate_left
 ·simp only [Act.put,List.setIfInBounds_toArray,List.set_cons_zero,List.set_cons_succ,i64_w,i32_w]
  rfl
 refine pure_ (i:=10) (N:=some 20) (v:=?_) (a':=?_) #[tT,tT,tT,tT,tT,fF,tT,fF,fF,tT,tT,fF,fF,fF,fF,fF,fF,fF,fF,fF,fF,fF] rfl rfl au2 (fun _ _ _ h=>h) (Or.inl ⟨au6,?_⟩) ?_ ?_
 rotate_left
 ·intro w'
  go_simp
  with_reducible rfl
 rotate_left
 ·simp only [Act.put,List.setIfInBounds_toArray,List.set_cons_zero,List.set_cons_succ,i64_w,i32_w]
  rfl
 refine pure_ (i:=11) (N:=some 21) (v:=?_) (a':=?_) #[tT,tT,tT,tT,tT,fF,tT,fF,fF,tT,tT,tT,fF,fF,fF,fF,fF,fF,fF,fF,fF,fF] rfl rfl au2 (fun _ _ _ h=>h) (Or.inl ⟨au6,?_⟩) ?_ ?_
 rotate_left
 ·intro w'
  go_simp
  with_reducible rfl
 rotate_left
 ·simp only [Act.put,List.setIfInBounds_toArray,List.set_cons_zero,List.set_cons_succ,i64_w,i32_w]
  rfl
 refine pure_ (i:=13) (N:=some 23) (v:=?_) (a':=?_) #[tT,tT,tT,tT,tT,fF,tT,fF,fF,tT,tT,tT,fF,tT,fF,fF,fF,fF,fF,fF,fF,fF] rfl rfl au2 (fun _ _ _ h=>h) (Or.inl ⟨au6,?_⟩) ?_ ?_
 rotate_left
 ·intro w'
  go_simp
  with_reducible rfl
 rotate_left
 ·simp only [Act.put,List.setIfInBounds_toArray,List.set_cons_zero,List.set_cons_succ,i64_w,i32_w]
  rfl
 refine take_ (i:=5) (N:=some 15) (v:=?_) (a':=?_) #[tT,tT,tT,tT,tT,tT,tT,fF,fF,tT,tT,tT,fF,tT,fF,fF,fF,fF,fF,fF,fF,fF] rfl rfl au2 (fun _ _ _ h=>h) (Or.inl ⟨au6,?_⟩) hHeld ?_ ?_
 rotate_left
 ·rintro w' ⟨s0,s1⟩
  go_simp
  with_reducible rfl
 rotate_left
 ·simp only [Act.put,List.setIfInBounds_toArray,List.set_cons_zero,List.set_cons_succ,i64_w,i32_w]
  rfl
 refine take_ (i:=12) (N:=some 22) (v:=?_) (a':=?_) #[tT,tT,tT,tT,tT,tT,tT,fF,fF,tT,tT,tT,tT,tT,fF,fF,fF,fF,fF,fF,fF,fF] rfl rfl au2 (fun _ _ _ h=>h) (Or.inl ⟨au6,?_⟩) hHeld ?_ ?_
 rotate_left
 ·rintro w' ⟨s0,s1⟩
  go_simp
  with_reducible rfl
 rotate_left
 ·simp only [Act.put,List.setIfInBounds_toArray,List.set_cons_zero,List.set_cons_succ,i64_w,i32_w]
  rfl
 refine join_ (σ:=Value × Value × Value) 7 #[tT,tT,tT,tT,tT,tT,tT,tT,tT,tT,tT,tT,tT,tT,tT,fF,fF,fF,fF,fF,fF,fF] (fun s=>[(17,s.1),(18,s.2.1),(24,s.2.2)]) (fun s w6=>PutF w w6 (fun k=>k≠B∧some k≠(Value.slice A2 ls.length p2).ownBlock) (.slice A1 ks.length p1) s.2.1 s.2.2 (.slice AT t.length pT) ks key) ?_ ?_
 rotate_left
 ·intro hCont
  refine two_ (i:=7) (j:=14) (Ni:=some 17) (Nj:=some 24) #[tT,tT,tT,tT,tT,tT,tT,tT,fF,tT,tT,tT,tT,tT,fF,fF,fF,fF,fF,fF,fF,fF] #[tT,tT,tT,tT,tT,tT,tT,fF,fF,tT,tT,tT,tT,tT,tT,fF,fF,fF,fF,fF,fF,fF] rfl rfl rfl rfl au2 au1 au1 (fun K hK=>?_) (fun K hK=>?_)
  ·skip
   refine value_ (w1:=?_) (v:=?_) au6 rfl ?_ ?_
   rotate_left 2
   ·go_simp
    constructor
    ·rfl
    ·rfl
   refine hK.out _ _ ⟨(HC.out _ (grown_below (below_alloc (below_drew (Below.refl _ w)) _) _)).1,(HC.out _ (grown_below (below_alloc (below_drew (Below.refl _ w)) _) _)).2⟩ (fun hHeld=>?_)
   clear hK K
   refine norm_ (a':=?_) ?_ ?_
   rotate_left
   ·show Act.put _ (some 17) _=_
    simp only [Act.put,List.setIfInBounds_toArray,List.set_cons_zero,List.set_cons_succ,i64_w,i32_w]
    rfl
   refine two_ (i:=8) (j:=14) (Ni:=some 18) (Nj:=some 24) #[tT,tT,tT,tT,tT,tT,tT,tT,tT,tT,tT,tT,tT,tT,fF,fF,fF,fF,fF,fF,fF,fF] #[tT,tT,tT,tT,tT,tT,tT,tT,fF,tT,tT,tT,tT,tT,tT,fF,fF,fF,fF,fF,fF,fF] rfl rfl rfl rfl au2 au1 au1 (fun K hK=>?_) (fun K hK=>?_)
   ·skip
    refine Kd.R_append_rows_step Kd.string (Rr:=fun x cs=>cs=[Value.string x]) (w0:=(w.drew.alloc (.cells #[.string key] 9 (0,0)))) 0 au6 (.tmp 15) (.tmp 17) 42 9 (.string ⟨#[]⟩) 16 rfl Tryd.underlying42 info9 rfl au1 au1 (.slice A1 ks.length p1) ks [key] (some ⟨w.heap.size,0,none⟩) 1 1 (fun k=>k≠B∧some k≠(Value.slice A2 ls.length p2).ownBlock) (fun _=>False) rfl rfl (Kd.R_below HO.out.R1 (below_alloc (below_drew (Below.refl _ w)) _)) (box_reads (al1 w _) rfl) (fun _ _ h=>h) (fun _ hk=>hk.elim) (fun k hk=>HO.out.fresh2 k (Nat.le_trans (below_alloc (below_drew (Below.refl _ w)) _).size hk)) (Below.refl _ _) (Nat.zero_le _) HL1.out ?_
    intro v3 w3 hr3 _ hg3 hat3
    have PG:w.grownBy w3 (Value.slice A1 ks.length p1).ownBlock:=(grown_below (below_alloc (below_drew (Below.refl _ w)) _) _).trans hg3
    have PA:v3.ownBlock=(Value.slice A1 ks.length p1).ownBlock∨∃ b,v3.ownBlock=some b∧w.heap.size≤b:=hat3.imp id (fun ⟨b,e,h⟩=>⟨b,e,Nat.le_trans (below_alloc (below_drew (Below.refl _ w)) _).size h⟩)
    refine hK.out _ _ ⟨(HC.out _ PG).1,(HC.out _ PG).2⟩ (fun hHeld=>?_)
    clear hK K
    refine norm_ (a':=?_) ?_ ?_
    rotate_left
    ·show Act.put _ (some 18) _=_
     simp only [Act.put,List.setIfInBounds_toArray,List.set_cons_zero,List.set_cons_succ,i64_w,i32_w]
     rfl
    refine one_ (i:=14) (N:=some 24) #[tT,tT,tT,tT,tT,tT,tT,tT,tT,tT,tT,tT,tT,tT,tT,fF,fF,fF,fF,fF,fF,fF] rfl rfl au2 au1 (fun K hK=>?_)
    refine value_ (w1:=?_) (v:=?_) au6 rfl ?_ ?_
    rotate_left 2
    ·go_simp
     constructor
     ·rfl
     ·rfl
    refine hK.out _ _ ⟨(HC.out _ (PG.trans (World.grownBy_alloc _ _ _))).1,(HC.out _ (PG.trans (World.grownBy_alloc _ _ _))).2⟩ (fun hHeld=>?_)
    clear hK K
    refine norm_ (a':=?_) ?_ ?_
    rotate_left
    ·show Act.put _ (some 24) _=_
     simp only [Act.put,List.setIfInBounds_toArray,List.set_cons_zero,List.set_cons_succ,i64_w,i32_w]
     rfl
    exact norm_ au24 (hCont (Value.slice (some ⟨w.heap.size,0,none⟩) 1 1,v3,Value.slice (some ⟨w3.heap.size,0,none⟩) 1 1) _ (PutF.at8 PG hr3 PA))
   ·skip
    refine value_ (w1:=?_) (v:=?_) au6 rfl ?_ ?_
    rotate_left 2
    ·go_simp
     constructor
     ·rfl
     ·rfl
    refine hK.out _ _ ⟨(HC.out _ (grown_below (below_alloc (below_alloc (below_drew (Below.refl _ w)) _) _) _)).1,(HC.out _ (grown_below (below_alloc (below_alloc (below_drew (Below.refl _ w)) _) _) _)).2⟩ (fun hHeld=>?_)
    clear hK K
    refine norm_ (a':=?_) ?_ ?_
    rotate_left
    ·show Act.put _ (some 24) _=_
     simp only [Act.put,List.setIfInBounds_toArray,List.set_cons_zero,List.set_cons_succ,i64_w,i32_w]
     rfl
    refine one_ (i:=8) (N:=some 18) #[tT,tT,tT,tT,tT,tT,tT,tT,tT,tT,tT,tT,tT,tT,tT,fF,fF,fF,fF,fF,fF,fF] rfl rfl au2 au1 (fun K hK=>?_)
    refine Kd.R_append_rows_step Kd.string (Rr:=fun x cs=>cs=[Value.string x]) (w0:=((w.drew.alloc (.cells #[.string key] 9 (0,0))).alloc (.cells #[.slice AT t.length pT] 22 (0,0)))) 0 au6 (.tmp 15) (.tmp 17) 42 9 (.string ⟨#[]⟩) 16 rfl Tryd.underlying42 info9 rfl au1 au1 (.slice A1 ks.length p1) ks [key] (some ⟨w.heap.size,0,none⟩) 1 1 (fun k=>k≠B∧some k≠(Value.slice A2 ls.length p2).ownBlock) (fun _=>False) rfl rfl (Kd.R_below HO.out.R1 (below_alloc (below_alloc (below_drew (Below.refl _ w)) _) _)) (box_reads (al2 w _ _).1 rfl) (fun _ _ h=>h) (fun _ hk=>hk.elim) (fun k hk=>HO.out.fresh2 k (Nat.le_trans (below_alloc (below_alloc (below_drew (Below.refl _ w)) _) _).size hk)) (Below.refl _ _) (Nat.zero_le _) HL1.out ?_
    intro v3 w3 hr3 _ hg3 hat3
    have PG:w.grownBy w3 (Value.slice A1 ks.length p1).ownBlock:=(grown_below (below_alloc (below_alloc (below_drew (Below.refl _ w)) _) _) _).trans hg3
    have PA:v3.ownBlock=(Value.slice A1 ks.length p1).ownBlock∨∃ b,v3.ownBlock=some b∧w.heap.size≤b:=hat3.imp id (fun ⟨b,e,h⟩=>⟨b,e,Nat.le_trans (below_alloc (below_alloc (below_drew (Below.refl _ w)) _) _).size h⟩)
    have PB:w3.heap[(w.heap.size+1)]?=some (.cells #[.slice AT t.length pT] 22 (0,0)):=(hg3.block _ (Nat.lt_of_le_of_lt au0 (al2_lt w _ _)) (HO.out.fresh1 _ au0)).trans (al2 w _ _).2
    refine hK.out _ _ ⟨(HC.out _ PG).1,(HC.out _ PG).2⟩ (fun hHeld=>?_)
    clear hK K
    refine norm_ (a':=?_) ?_ ?_
    rotate_left
    ·show Act.put _ (some 18) _=_
     simp only [Act.put,List.setIfInBounds_toArray,List.set_cons_zero,List.set_cons_succ,i64_w,i32_w]
     rfl
    exact norm_ au24 (hCont (Value.slice (some ⟨w.heap.size,0,none⟩) 1 1,v3,Value.slice (some ⟨(w.heap.size+1),0,none⟩) 1 1) _ ⟨PG,hr3,PA,_,rfl,au0,PB⟩)
  ·skip
   refine value_ (w1:=?_) (v:=?_) au6 rfl ?_ ?_
   rotate_left 2
   ·go_simp
    constructor
    ·rfl
    ·rfl
   refine hK.out _ _ ⟨(HC.out _ (grown_below (below_alloc (below_drew (Below.refl _ w)) _) _)).1,(HC.out _ (grown_below (below_alloc (below_drew (Below.refl _ w)) _) _)).2⟩ (fun hHeld=>?_)
   clear hK K
   refine norm_ (a':=?_) ?_ ?_
   rotate_left
   ·show Act.put _ (some 24) _=_
    simp only [Act.put,List.setIfInBounds_toArray,List.set_cons_zero,List.set_cons_succ,i64_w,i32_w]
    rfl
   refine one_ (i:=7) (N:=some 17) #[tT,tT,tT,tT,tT,tT,tT,tT,fF,tT,tT,tT,tT,tT,tT,fF,fF,fF,fF,fF,fF,fF] rfl rfl au2 au1 (fun K hK=>?_)
   refine value_ (w1:=?_) (v:=?_) au6 rfl ?_ ?_
   rotate_left 2
   ·go_simp
    constructor
    ·rfl
    ·rfl
   refine hK.out _ _ ⟨(HC.out _ (grown_below (below_alloc (below_alloc (below_drew (Below.refl _ w)) _) _) _)).1,(HC.out _ (grown_below (below_alloc (below_alloc (below_drew (Below.refl _ w)) _) _) _)).2⟩ (fun hHeld=>?_)
   clear hK K
   refine norm_ (a':=?_) ?_ ?_
   rotate_left
   ·show Act.put _ (some 17) _=_
    simp only [Act.put,List.setIfInBounds_toArray,List.set_cons_zero,List.set_cons_succ,i64_w,i32_w]
    rfl
   refine one_ (i:=8) (N:=some 18) #[tT,tT,tT,tT,tT,tT,tT,tT,tT,tT,tT,tT,tT,tT,tT,fF,fF,fF,fF,fF,fF,fF] rfl rfl au2 au1 (fun K hK=>?_)
   refine Kd.R_append_rows_step Kd.string (Rr:=fun x cs=>cs=[Value.string x]) (w0:=((w.drew.alloc (.cells #[.slice AT t.length pT] 22 (0,0))).alloc (.cells #[.string key] 9 (0,0)))) 0 au6 (.tmp 15) (.tmp 17) 42 9 (.string ⟨#[]⟩) 16 rfl Tryd.underlying42 info9 rfl au1 au1 (.slice A1 ks.length p1) ks [key] (some ⟨(w.heap.size+1),0,none⟩) 1 1 (fun k=>k≠B∧some k≠(Value.slice A2 ls.length p2).ownBlock) (fun _=>False) rfl rfl (Kd.R_below HO.out.R1 (below_alloc (below_alloc (below_drew (Below.refl _ w)) _) _)) (box_reads (al2 w _ _).2 rfl) (fun _ _ h=>h) (fun _ hk=>hk.elim) (fun k hk=>HO.out.fresh2 k (Nat.le_trans (below_alloc (below_alloc (below_drew (Below.refl _ w)) _) _).size hk)) (Below.refl _ _) (Nat.zero_le _) HL1.out ?_
   intro v3 w3 hr3 _ hg3 hat3
   have PG:w.grownBy w3 (Value.slice A1 ks.length p1).ownBlock:=(grown_below (below_alloc (below_alloc (below_drew (Below.refl _ w)) _) _) _).trans hg3
   have PA:v3.ownBlock=(Value.slice A1 ks.length p1).ownBlock∨∃ b,v3.ownBlock=some b∧w.heap.size≤b:=hat3.imp id (fun ⟨b,e,h⟩=>⟨b,e,Nat.le_trans (below_alloc (below_alloc (below_drew (Below.refl _ w)) _) _).size h⟩)
   have PB:w3.heap[w.heap.size]?=some (.cells #[.slice AT t.length pT] 22 (0,0)):=(hg3.block _ (Nat.lt_of_le_of_lt au0 (al2_lt w _ _)) (HO.out.fresh1 _ au0)).trans (al2 w _ _).1
   refine hK.out _ _ ⟨(HC.out _ PG).1,(HC.out _ PG).2⟩ (fun hHeld=>?_)
   clear hK K
   refine norm_ (a':=?_) ?_ ?_
   rotate_left
   ·show Act.put _ (some 18) _=_
    simp only [Act.put,List.setIfInBounds_toArray,List.set_cons_zero,List.set_cons_succ,i64_w,i32_w]
    rfl
   exact norm_ au24 (hCont (Value.slice (some ⟨(w.heap.size+1),0,none⟩) 1 1,v3,Value.slice (some ⟨w.heap.size,0,none⟩) 1 1) _ ⟨PG,hr3,PA,_,rfl,au0,PB⟩)
 rintro ⟨u17,u18,u24⟩ w6 hF
 obtain ⟨A3,p3,rfl⟩:∃ A c,u18=.slice A (ks++[key]).length c:=Kd.R_slice hF.R1
 dsimp only at hF
 have HF:=xhid hF
 clear hF
 have hHeld:=HC.out _ HF.out.grown
 obtain ⟨g24,rfl,hle,hbx⟩:=HF.out.box
 have HLE:=xhid hle
 have HBX:=xhid hbx
 clear hle hbx
 refine norm_ (a':=?_) ?_ ?_
 rotate_left
 ·simp only [putAll,Act.put,List.setIfInBounds_toArray,List.set_cons_zero,List.set_cons_succ]
  rfl
 refine one_ (i:=15) (N:=some 25) #[tT,tT,tT,tT,tT,tT,tT,tT,tT,tT,tT,tT,tT,tT,tT,tT,fF,fF,fF,fF,fF,fF] rfl rfl au2 au1 (fun K hK=>?_)
 refine Kd.R_append_rows_step (Kd.slice 24 k24) (Rr:=fun x cs=>(Kd.slice 24 k24).M w6 0 (fun k=>k≠B∧some k≠(Value.slice A3 (ks++[key]).length p3).ownBlock∧some k≠(Value.slice A2 ls.length p2).ownBlock) x cs) (w0:=w6) 0 au6 (.tmp 22) (.tmp 24) 43 22 (.slice none 0 0) 24 rfl Tryd.underlying43 info22 rfl au1 au1 (.slice A2 ls.length p2) ls [t] (some ⟨g24,0,none⟩) 1 1 (fun k=>k≠B∧some k≠(Value.slice A3 (ks++[key]).length p3).ownBlock) (fun k=>k≠B∧some k≠(Value.slice A3 (ks++[key]).length p3).ownBlock∧some k≠(Value.slice A2 ls.length p2).ownBlock) rfl rfl (HR2.out _ _ HF.out.grown HF.out.at1) (box_reads HBX.out ⟨_,rfl,HRT.out _ _ HF.out.grown HF.out.at1⟩) (fun _ _ h=>h) (fun k hk=>⟨⟨hk.1,hk.2.1⟩,hk.2.2⟩) (HFR.out _ _ _ _ HF.out) (Below.refl _ _) (Nat.zero_le _) HL2.out ?_
 intro v5 w5 hr5 _ hg5 hat5
 obtain ⟨A5,p5,rfl⟩:=Kd.R_slice hr5
 have HR5:=xhid hr5
 have HG5:=xhid hg5
 have HAT5:=xhid hat5
 have hb0:=HCB.out _ _ HF.out.grown hg5
 have f0:=fz_at hb0 0
 have f1:=fz_at hb0 1
 have HB5:=xhid hb0
 clear hr5 hg5 hat5 hb0
 refine hK.out _ _ ⟨(blk_cell HB5.out 0).trans rfl,(blk_cell HB5.out 1).trans rfl⟩ (fun hHeld=>?_)
 clear hK K
 refine norm_ (a':=?_) ?_ ?_
 rotate_left
 ·show Act.put _ (some 25) _=_
  simp only [Act.put,List.setIfInBounds_toArray,List.set_cons_zero,List.set_cons_succ,i64_w,i32_w]
  rfl
 refine pure_ (i:=16) (N:=some 26) (v:=?_) (a':=?_) #[tT,tT,tT,tT,tT,tT,tT,tT,tT,tT,tT,tT,tT,tT,tT,tT,tT,fF,fF,fF,fF,fF] rfl rfl au2 (fun _ _ _ h=>h) (Or.inl ⟨au6,?_⟩) ?_ ?_
 rotate_left
 ·intro w'
  go_simp
  with_reducible rfl
 rotate_left
 ·simp only [Act.put,List.setIfInBounds_toArray,List.set_cons_zero,List.set_cons_succ,i64_w,i32_w]
  rfl
 refine pure_ (i:=17) (N:=some 27) (v:=?_) (a':=?_) #[tT,tT,tT,tT,tT,tT,tT,tT,tT,tT,tT,tT,tT,tT,tT,tT,tT,tT,fF,fF,fF,fF] rfl rfl au2 (fun _ _ _ h=>h) (Or.inl ⟨au6,?_⟩) ?_ ?_
 rotate_left
 ·intro w'
  go_simp
  with_reducible rfl
 rotate_left
 ·simp only [Act.put,List.setIfInBounds_toArray,List.set_cons_zero,List.set_cons_succ,i64_w,i32_w]
  rfl
 refine last_ (i:=18) (N:=none) #[tT,tT,tT,tT,tT,tT,tT,tT,tT,tT,tT,tT,tT,tT,tT,tT,tT,tT,tT,fF,fF,fF] rfl rfl au2 au1 (fun K hK=>?_)
 refine skip_ (w1:=?_) au6 rfl ?_ ?_
 rotate_left
 ·go_simp
  rfl
 refine hK.out _ _ ?_
 clear hK K
 refine pure_ (i:=19) (N:=some 28) (v:=?_) (a':=?_) #[tT,tT,tT,tT,tT,tT,tT,tT,tT,tT,tT,tT,tT,tT,tT,tT,tT,tT,tT,tT,fF,fF] rfl rfl au2 (fun _ _ _ h=>h) (Or.inl ⟨au6,?_⟩) ?_ ?_
 rotate_left
 ·intro w'
  go_simp
  with_reducible rfl
 rotate_left
 ·simp only [Act.put,List.setIfInBounds_toArray,List.set_cons_zero,List.set_cons_succ,i64_w,i32_w]
  rfl
 refine pure_ (i:=20) (N:=some 29) (v:=?_) (a':=?_) #[tT,tT,tT,tT,tT,tT,tT,tT,tT,tT,tT,tT,tT,tT,tT,tT,tT,tT,tT,tT,tT,fF] rfl rfl au2 (fun _ _ _ h=>h) (Or.inl ⟨au6,?_⟩) ?_ ?_
 rotate_left
 ·intro w'
  go_simp
  with_reducible rfl
 rotate_left
 ·simp only [Act.put,List.setIfInBounds_toArray,List.set_cons_zero,List.set_cons_succ,i64_w,i32_w]
  rfl
 refine last_ (i:=21) (N:=none) #[tT,tT,tT,tT,tT,tT,tT,tT,tT,tT,tT,tT,tT,tT,tT,tT,tT,tT,tT,tT,tT,tT] rfl rfl au2 au1 (fun K hK=>?_)
 refine skip_ (w1:=?_) au6 rfl ?_ ?_
 rotate_left
 ·go_simp
  rfl
 refine hK.out _ _ ?_
 clear hK K
 refine done_ au2 ?_
 go_wp2
 go_ret
 have hlB:=HO.out.lt
 have hloB:=HO.out.lo0
 have hlo:lo≤w.heap.size:=by omega
 have hg:=HF.out.grown
 have ha:=HF.out.at1
 have hsz:=hg.size
 have e1:=blk_set HB5.out 0 (.slice A3 (ks.length+1) p3)
 have e2:=blk_set e1 1 (.slice A5 (ls.length+1) p5)
 have hS:∀ k,k≠B→((w5.setCell ⟨B,0,none⟩ (.slice A3 (ks.length+1) p3)).setCell ⟨B,1,none⟩ (.slice A5 (ls.length+1) p5)).heap[k]?=w5.heap[k]?:=fun k hk =>
  (Below.heap_setCell _ ⟨B,1,none⟩ _ k hk).trans (Below.heap_setCell _ ⟨B,0,none⟩ _ k hk)
 have l3:(ks++[key]).length=ks.length+1:=by simp
 have l5:(ls++[t]).length=ls.length+1:=by simp
 have hR1:=HF.out.R1
 have hR5:=HR5.out
 have hat5:=HAT5.out
 rw [l3] at hR1 ha hR5
 rw [l5] at hR5 hat5
 refine ⟨rfl,.slice A3 (ks.length+1) p3,.slice A5 (ls.length+1) p5,⟨e2,hloB,fun k hk=>?_,fun k hk=>?_,?_,?_⟩,?_,?_⟩
 ·rcases ha with h|⟨b,h,hb⟩
  ·exact HO.out.lo1 k (h ▸ hk)
  ·rw [h] at hk
   injection hk with hk
   omega
 ·rcases hat5 with h|⟨b,h,hb⟩
  ·exact HO.out.lo2 k (h ▸ hk)
  ·rw [h] at hk
   injection hk with hk
   omega
 ·have h1:=Kd.R_grown (Kd.R_mono (Kd.R_bound hR1) (fun k hk=>(⟨hk.1.1,hk.1.2,ne_at hat5 hk.1.2 hk.2.2.1⟩:k≠B∧some k≠(Value.slice A2 ls.length p2).ownBlock∧some k≠(Value.slice A5 (ls.length+1) p5).ownBlock))) HG5.out (fun k hk=>hk.2.1)
  exact Kd.R_mono (Kd.R_step h1 (fun k hk _=>hS k hk.1)) (fun k hk=>⟨hk.1,hk.2.2⟩)
 ·exact Kd.R_step hR5 (fun k hk _=>hS k hk.1)
 ·refine ⟨HG5.out.os.trans hg.os,HG5.out.tape.trans hg.tape,HG5.out.output.trans hg.output,?_,fun k hk=>?_⟩
  ·have:=HG5.out.size
   simp only [World.setCell,Array.size_modify]
   omega
  ·have n1:some k≠(Value.slice A1 ks.length p1).ownBlock:=fun e=>by have:=HO.out.lo1 k e.symm;omega
   have n2:some k≠(Value.slice A2 ls.length p2).ownBlock:=fun e=>by have:=HO.out.lo2 k e.symm;omega
   rw [hS k au0,HG5.out.block k au0 n2,hg.block k au0 n1]
 ·intro k c hk hn
  obtain ⟨n1,n2⟩:=HO.out.other hk
  have hlt:=(Array.getElem?_eq_some_iff.mp hk).1
  rw [hS k hn,HG5.out.block k au0 n2,hg.block k hlt n1,hk]
set_option maxHeartbeats 4000000 in
set_option maxRecDepth 100000 in
theorem put_none (B:Nat) (key:ByteArray) (AT:Option Addr) (pT:Nat) (w:World) :
  Calls Tryd.prog 28 #[.pointer (some ⟨B,0,none⟩),.string key,.slice AT 0 pT] w fun e w'=>e=.returned (.pointer (some ⟨B,0,none⟩))∧w'=w:=by
 go_enter Tryd.func28,Tryd.ntmps28
 go_wp2
 go_ret
 exact ⟨rfl,rfl⟩
def putL (o:List ByteArray × List (List S24)) (key:ByteArray) (t:List S24):List ByteArray × List (List S24):=if t=[] then o else(o.1++[key],o.2++[t])
theorem putL_len (o:List ByteArray × List (List S24)) (key:ByteArray) (t:List S24) (n:Nat) (h:o.1.length≤n∧o.2.length≤n):(putL o key t).1.length≤n+1∧(putL o key t).2.length≤n+1:=by
 unfold putL
 split
 ·omega
 ·simp only [List.length_append,List.length_cons,List.length_nil];omega
theorem put_calls (lo B:Nat) (v1 v2 vt:Value) (o:List ByteArray × List (List S24)) (key:ByteArray) (t:List S24) (w:World) (hO:Obj w lo B v1 v2 o.1 o.2)
  (hT:Kd.R k24 24 w 0 (fun k=>k≠B∧some k≠v1.ownBlock∧some k≠v2.ownBlock) vt t) (hk:o.1.length≤1000000∧o.2.length≤1000000) :
  Calls Tryd.prog 28 #[.pointer (some ⟨B,0,none⟩),.string key,vt] w fun e w'=>e=.returned (.pointer (some ⟨B,0,none⟩))∧∃ v1 v2,Obj w' lo B v1 v2 (putL o key t).1 (putL o key t).2∧Below lo w w'∧OKept B w w':=by
 obtain ⟨AT,pT,rfl⟩:=Kd.R_slice hT
 obtain ⟨A1,p1,rfl⟩:=Kd.R_slice hO.R1
 obtain ⟨A2,p2,rfl⟩:=Kd.R_slice hO.R2
 unfold putL
 by_cases ht:t=[]
 ·subst ht
  refine(put_none B key AT pT w).mono ?_
  rintro e w' ⟨rfl,rfl⟩
  exact ⟨rfl,_,_,by rw [if_pos rfl];exact hO,Below.refl _ _,OKept.refl _ _⟩
 ·rw [if_neg ht]
  exact put_some lo B A1 A2 AT p1 p2 pT o.1 o.2 key t w hO hT (List.length_pos_iff.2 ht) hk.1 hk.2
attribute [local go_sem] max2_int min2_int max_two min_two max_three min_three max_four min_four
def jsontext_Leaf.f (k:Nat) (a0:Int) (a1:ByteArray):Option ((List (S24))):=(some (([(⟨a0,1,0,(⟨#[]⟩:ByteArray),a1⟩:S24)]:List (S24)):List (S24))).bind fun y291=>(if a0≥6 then(some ([]:List (S24))) else((jsontext_Check.f k y291).bind fun t294=>(if t294=0 then(some y291) else(some ([]:List (S24))))))
set_option maxHeartbeats 8000000 in
set_option maxRecDepth 100000 in
theorem jsontext_Leaf.calls (k:Nat) (a0:Int) (a1:ByteArray) (r:List (S24)) (w:World) (hGU8:GlobU8 w) (h:jsontext_Leaf.f k a0 a1=some r) :
  Calls Tryd.prog 39 #[.int .i64 a0,.string a1] w fun e w'=>∃ v0_:Value,e=.returned (v0_)∧Kd.R k24 24 w' w.heap.size (fun _=>True) v0_ r∧Below w.heap.size w w':=by
 have hu24:=Tryd.underlying24
 have HGU8:=Aside0.mk hGU8
 clear hGU8
 have HB:=Aside0.mk (Below.refl w.heap.size w)
 have H:((some (([(⟨a0,1,0,(⟨#[]⟩:ByteArray),a1⟩:S24)]:List (S24)):List (S24))).bind fun y291=>(if a0≥6 then(some ([]:List (S24))) else((jsontext_Check.f k y291).bind fun t294=>(if t294=0 then(some y291) else(some ([]:List (S24)))))))=some r:=h
 clear h
 obtain ⟨y291,hy291⟩:∃ y_:List (S24),y_=(([(⟨a0,1,0,(⟨#[]⟩:ByteArray),a1⟩:S24)]:List (S24))):=⟨_,rfl⟩
 replace H:(if a0≥6 then(some ([]:List (S24))) else((jsontext_Check.f k y291).bind fun t294=>(if t294=0 then(some y291) else(some ([]:List (S24))))))=some r:=by first|(rw [hy291];with_reducible exact H)|(have H2_:=(Option.bind_some _ _).symm.trans H;rw [hy291];with_reducible exact H2_)|(have H2_:=(Option.bind_some _ _).symm.trans H;with_reducible exact H2_)|with_reducible exact H|(rw [hy291];exact H)|exact H
 have Ny291:=Aside0.mk hy291
 clear hy291
 by_cases c3:a0≥6
 ·rw [if_pos c3] at H
  have c3b0:decide (6≤a0)=true:=decide_eq_true c3
  clear c3
  obtain rfl:=Option.some.inj H
  go_enter Tryd.func39,Tryd.ntmps39
  go_wp2_with (first|((with_reducible refine gate_dst (N:=9) rfl ?_);refine Kd.R_lit k24 _ 24 ?hg (N:=9) ?hd (xs:=([(⟨a0,1,0,(⟨#[]⟩:ByteArray),a1⟩:S24)]:List (S24))) (inner:=[.int .i64 a0,.int .i64 1,.int .i64 0,.string (⟨#[]⟩:ByteArray),.string a1]) (ok:=fun _=>True) (okp:=fun _=>True) ?hr ?hp (fun _ hk=>hk) trivial (Below.refl _ _) (Nat.le_refl _) au5 ?_;(case hd=>rfl);(case hg=>rfl);(case hr=>first|(go_simp;done)|(go_simp;rfl));(case hp=>exact(Reps.c5 (show Kd.M k24 _ _ _ (⟨a0,1,0,(⟨#[]⟩:ByteArray),a1⟩:S24) [.int .i64 a0,.int .i64 1,.int .i64 0,.string (⟨#[]⟩:ByteArray),.string a1] from (k24_mkM _ _ _ (⟨a0,1,0,(⟨#[]⟩:ByteArray),a1⟩:S24) )) (Reps.none _ _)));intro v292 w4 ho5 hb hg_ hnew_;clear hg_ hnew_;(first|rw [← Ny291.out] at ho5|(simp only [Int.reduceToNat] at ho5;rw [← Ny291.out] at ho5));have n0_:=Aside0.mk (Kd.R_lower ho5 (below_size au3));have n1_:=Aside0.mk (below_step au3 hb);clear HB;have HO293:=n0_;have HB:=n1_;clear n0_ n1_;clear hb ho5))
  go_ret
  exact ⟨_,au12,au20,au3⟩
 ·rw [if_neg c3] at H
  have c3b0:decide (6≤a0)=false:=decide_eq_false c3
  clear c3
  replace H:=Option.bind_eq_some_iff.mp H
  obtain ⟨t294,A60,H⟩:=H
  replace H:(if t294=0 then(some y291) else(some ([]:List (S24))))=some r:=H
  have A6:=Aside0.mk A60
  clear A60
  by_cases c7:t294=0
  ·rw [if_pos c7] at H
   have c7b0:(t294==0)=true:=beq_iff_eq.mpr c7
   have c7b1:(t294 != 0)=false:=bne_eq_false_iff_eq.mpr c7
   clear c7
   obtain rfl:=Option.some.inj H
   go_enter Tryd.func39,Tryd.ntmps39
   go_wp2_with (first|((with_reducible refine gate_dst (N:=9) rfl ?_);refine Kd.R_lit k24 _ 24 ?hg (N:=9) ?hd (xs:=([(⟨a0,1,0,(⟨#[]⟩:ByteArray),a1⟩:S24)]:List (S24))) (inner:=[.int .i64 a0,.int .i64 1,.int .i64 0,.string (⟨#[]⟩:ByteArray),.string a1]) (ok:=fun _=>True) (okp:=fun _=>True) ?hr ?hp (fun _ hk=>hk) trivial (Below.refl _ _) (Nat.le_refl _) au5 ?_;(case hd=>rfl);(case hg=>rfl);(case hr=>first|(go_simp;done)|(go_simp;rfl));(case hp=>exact(Reps.c5 (show Kd.M k24 _ _ _ (⟨a0,1,0,(⟨#[]⟩:ByteArray),a1⟩:S24) [.int .i64 a0,.int .i64 1,.int .i64 0,.string (⟨#[]⟩:ByteArray),.string a1] from (k24_mkM _ _ _ (⟨a0,1,0,(⟨#[]⟩:ByteArray),a1⟩:S24) )) (Reps.none _ _)));intro v292 w8 ho9 hb hg_ hnew_;clear hg_ hnew_;(first|rw [← Ny291.out] at ho9|(simp only [Int.reduceToNat] at ho9;rw [← Ny291.out] at ho9));have n0_:=Aside0.mk (Kd.R_lower ho9 (below_size au3));have n1_:=Aside0.mk (below_step au3 hb);clear HB;have HO293:=n0_;have HB:=n1_;clear n0_ n1_;clear hb ho9;obtain ⟨Ao10,co10,eo10⟩:=Kd.R_slice HO293.out;subst eo10)|(go_at_call 16;(with_reducible refine(jsontext_Check.calls k _ _ y291 t294 _ ?side3 ?side1 ?side2 A6.out).mono ?_);(case side1=>repeat(first|exact(Kd.R_reads' HO293.out).2.2|(with_reducible refine Kd.C_alloc ?_ _)|(with_reducible refine Kd.C_drewN ?_ _)|(with_reducible refine Kd.C_drew ?_)));(case side2=>exact(Kd.R_reads' HO293.out).2.1);(case side3=>first|exact HGU8.out|exact GlobU8.below HGU8.out au3|exact GlobU8.drawn HGU8.out au8);rintro e w11 ⟨rfl,hb⟩;have n0_:=Aside0.mk (Kd.R_below au70 hb);have n1_:=Aside0.mk (below_step au3 hb);clear HO293;clear HB;have HO293:=n0_;have HB:=n1_;clear n0_ n1_;(try clear hb);(try clear hb2);(try clear hk);(try clear hi)))
   go_ret
   exact ⟨_,au12,au70,au3⟩
  ·rw [if_neg c7] at H
   have c7b0:(t294==0)=false:=beq_eq_false_iff_ne.mpr c7
   have c7b1:(t294 != 0)=true:=bne_iff_ne.mpr c7
   obtain rfl:=Option.some.inj H
   go_enter Tryd.func39,Tryd.ntmps39
   go_wp2_with (first|((with_reducible refine gate_dst (N:=9) rfl ?_);refine Kd.R_lit k24 _ 24 ?hg (N:=9) ?hd (xs:=([(⟨a0,1,0,(⟨#[]⟩:ByteArray),a1⟩:S24)]:List (S24))) (inner:=[.int .i64 a0,.int .i64 1,.int .i64 0,.string (⟨#[]⟩:ByteArray),.string a1]) (ok:=fun _=>True) (okp:=fun _=>True) ?hr ?hp (fun _ hk=>hk) trivial (Below.refl _ _) (Nat.le_refl _) au5 ?_;(case hd=>rfl);(case hg=>rfl);(case hr=>first|(go_simp;done)|(go_simp;rfl));(case hp=>exact(Reps.c5 (show Kd.M k24 _ _ _ (⟨a0,1,0,(⟨#[]⟩:ByteArray),a1⟩:S24) [.int .i64 a0,.int .i64 1,.int .i64 0,.string (⟨#[]⟩:ByteArray),.string a1] from (k24_mkM _ _ _ (⟨a0,1,0,(⟨#[]⟩:ByteArray),a1⟩:S24) )) (Reps.none _ _)));intro v292 w12 ho13 hb hg_ hnew_;clear hg_ hnew_;(first|rw [← Ny291.out] at ho13|(simp only [Int.reduceToNat] at ho13;rw [← Ny291.out] at ho13));have n0_:=Aside0.mk (Kd.R_lower ho13 (below_size au3));have n1_:=Aside0.mk (below_step au3 hb);clear HB;have HO293:=n0_;have HB:=n1_;clear n0_ n1_;clear hb ho13;obtain ⟨Ao14,co14,eo14⟩:=Kd.R_slice HO293.out;subst eo14)|(go_at_call 16;(with_reducible refine(jsontext_Check.calls k _ _ y291 t294 _ ?side3 ?side1 ?side2 A6.out).mono ?_);(case side1=>repeat(first|exact(Kd.R_reads' HO293.out).2.2|(with_reducible refine Kd.C_alloc ?_ _)|(with_reducible refine Kd.C_drewN ?_ _)|(with_reducible refine Kd.C_drew ?_)));(case side2=>exact(Kd.R_reads' HO293.out).2.1);(case side3=>first|exact HGU8.out|exact GlobU8.below HGU8.out au3|exact GlobU8.drawn HGU8.out au8);rintro e w15 ⟨rfl,hb⟩;have n0_:=Aside0.mk (Kd.R_below au70 hb);have n1_:=Aside0.mk (below_step au3 hb);clear HO293;clear HB;have HO293:=n0_;have HB:=n1_;clear n0_ n1_;(try clear hb);(try clear hb2);(try clear hk);(try clear hi)))
   go_ret
   exact ⟨_,au12,au20,au3⟩
set_option maxHeartbeats 4000000 in
set_option maxRecDepth 100000 in
theorem tree_calls (k lo B:Nat) (v1 v2:Value) (ks:List ByteArray) (ls:List (List S24)) (r:List S24) (w:World) (hG:GlobU8 w) (hO:Obj w lo B v1 v2 ks ls) (h:jsontext_Object.f k ks ls=some r) :
  Calls Tryd.prog 22 #[.pointer (some ⟨B,0,none⟩)] w fun e w'=>∃ v0:Value,e=.returned v0∧Kd.R k24 24 w' w.heap.size (fun _=>True) v0 r∧Below w.heap.size w w':=by
 obtain ⟨c0,c1⟩:=hO.cells
 obtain ⟨A1,p1,rfl⟩:=Kd.R_slice hO.R1
 obtain ⟨A2,p2,rfl⟩:=Kd.R_slice hO.R2
 have h1:=Kd.R_reads' hO.R1
 have h2:=Kd.R_reads' hO.R2
 have HJ:=Lib.hid (fun(w':World) (hd:Drawn0 w w')=>jsontext_Object.calls k A1 p1 ks A2 p2 ls r w' (hG.drawn hd) (Kd.C_below h1.2.2 (by obtain ⟨n,rfl⟩:=hd.out;exact ⟨rfl,rfl,rfl,Nat.le_refl _,fun _ _=>rfl⟩)) h1.2.1 (Kd.C_below h2.2.2 (by obtain ⟨n,rfl⟩:=hd.out;exact ⟨rfl,rfl,rfl,Nat.le_refl _,fun _ _=>rfl⟩)) h2.2.1 h)
 clear h1 h2 hO h
 go_enter Tryd.func22,Tryd.ntmps22
 go_wp2
 refine start_ (n:=10) (S:=fun w'=>w'.cell? ⟨B,0,none⟩=some (.slice A1 ks.length p1)∧w'.cell? ⟨B,1,none⟩=some (.slice A2 ls.length p2)) (ds:=[8]) #[fF,fF,fF,fF,fF,fF,fF,fF,fF,fF] au2 rfl rfl ⟨c0,c1⟩ (fun hHeld=>?_)
 refine pure_ (i:=0) (N:=some 3) (v:=?_) (a':=?_) #[tT,fF,fF,fF,fF,fF,fF,fF,fF,fF] rfl rfl au2 (fun _ _ _ h=>h) (Or.inl ⟨au6,?_⟩) ?_ ?_
 rotate_left
 ·intro w'
  go_simp
  with_reducible rfl
 rotate_left
 ·simp only [Act.put,List.setIfInBounds_toArray,List.set_cons_zero,List.set_cons_succ,i64_w,i32_w]
  rfl
 refine pure_ (i:=1) (N:=some 4) (v:=?_) (a':=?_) #[tT,tT,fF,fF,fF,fF,fF,fF,fF,fF] rfl rfl au2 (fun _ _ _ h=>h) (Or.inl ⟨au6,?_⟩) ?_ ?_
 rotate_left
 ·intro w'
  go_simp
  with_reducible rfl
 rotate_left
 ·simp only [Act.put,List.setIfInBounds_toArray,List.set_cons_zero,List.set_cons_succ,i64_w,i32_w]
  rfl
 refine pure_ (i:=2) (N:=some 5) (v:=?_) (a':=?_) #[tT,tT,tT,fF,fF,fF,fF,fF,fF,fF] rfl rfl au2 (fun _ _ _ h=>h) (Or.inl ⟨au6,?_⟩) ?_ ?_
 rotate_left
 ·intro w'
  go_simp
  with_reducible rfl
 rotate_left
 ·simp only [Act.put,List.setIfInBounds_toArray,List.set_cons_zero,List.set_cons_succ,i64_w,i32_w]
  rfl
 refine pure_ (i:=4) (N:=some 7) (v:=?_) (a':=?_) #[tT,tT,tT,fF,tT,fF,fF,fF,fF,fF] rfl rfl au2 (fun _ _ _ h=>h) (Or.inl ⟨au6,?_⟩) ?_ ?_
 rotate_left
 ·intro w'
  go_simp
  with_reducible rfl
 rotate_left
 ·simp only [Act.put,List.setIfInBounds_toArray,List.set_cons_zero,List.set_cons_succ,i64_w,i32_w]
  rfl
 refine pure_ (i:=5) (N:=some 8) (v:=?_) (a':=?_) #[tT,tT,tT,fF,tT,tT,fF,fF,fF,fF] rfl rfl au2 (fun _ _ _ h=>h) (Or.inl ⟨au6,?_⟩) ?_ ?_
 rotate_left
 ·intro w'
  go_simp
  with_reducible rfl
 rotate_left
 ·simp only [Act.put,List.setIfInBounds_toArray,List.set_cons_zero,List.set_cons_succ,i64_w,i32_w]
  rfl
 refine pure_ (i:=6) (N:=some 9) (v:=?_) (a':=?_) #[tT,tT,tT,fF,tT,tT,tT,fF,fF,fF] rfl rfl au2 (fun _ _ _ h=>h) (Or.inl ⟨au6,?_⟩) ?_ ?_
 rotate_left
 ·intro w'
  go_simp
  with_reducible rfl
 rotate_left
 ·simp only [Act.put,List.setIfInBounds_toArray,List.set_cons_zero,List.set_cons_succ,i64_w,i32_w]
  rfl
 refine take_ (i:=3) (N:=some 6) (v:=?_) (a':=?_) #[tT,tT,tT,tT,tT,tT,tT,fF,fF,fF] rfl rfl au2 (fun _ _ _ h=>h) (Or.inl ⟨au6,?_⟩) hHeld ?_ ?_
 rotate_left
 ·rintro w' ⟨s0,s1⟩
  go_simp
  with_reducible rfl
 rotate_left
 ·simp only [Act.put,List.setIfInBounds_toArray,List.set_cons_zero,List.set_cons_succ,i64_w,i32_w]
  rfl
 refine take_ (i:=7) (N:=some 10) (v:=?_) (a':=?_) #[tT,tT,tT,tT,tT,tT,tT,tT,fF,fF] rfl rfl au2 (fun _ _ _ h=>h) (Or.inl ⟨au6,?_⟩) hHeld ?_ ?_
 rotate_left
 ·rintro w' ⟨s0,s1⟩
  go_simp
  with_reducible rfl
 rotate_left
 ·simp only [Act.put,List.setIfInBounds_toArray,List.set_cons_zero,List.set_cons_succ,i64_w,i32_w]
  rfl
 refine last_ (i:=8) (N:=some 11) #[tT,tT,tT,tT,tT,tT,tT,tT,tT,fF] rfl rfl au2 au1 (fun K hK=>?_)
 refine goes_ Tryd.func40 au2 rfl #[.slice A1 ks.length p1,.slice A2 ls.length p2] au6 rfl rfl au15 ?_
 with_reducible refine(HJ.out _ au17).mono ?_
 rintro e w1 ⟨v0,rfl,hr,hb⟩
 refine ⟨_,rfl,?_⟩
 refine hK.out _ _ ?_
 clear hK K
 refine norm_ (a':=?_) ?_ ?_
 rotate_left
 ·show Act.put _ (some 11) _=_
  simp only [Act.put,List.setIfInBounds_toArray,List.set_cons_zero,List.set_cons_succ,i64_w,i32_w]
  rfl
 refine pure_ (i:=9) (N:=some 2) (v:=?_) (a':=?_) #[tT,tT,tT,tT,tT,tT,tT,tT,tT,tT] rfl rfl au2 (fun _ _ _ h=>h) (Or.inl ⟨au6,?_⟩) ?_ ?_
 rotate_left
 ·intro w'
  go_simp
  with_reducible rfl
 rotate_left
 ·simp only [Act.put,List.setIfInBounds_toArray,List.set_cons_zero,List.set_cons_succ,i64_w,i32_w]
  rfl
 refine done_ au2 ?_
 go_wp2
 go_ret
 exact ⟨_,rfl,hr,(below_drew (Below.refl _ w)).trans hb⟩
theorem R_over {w w1:World} {v0:Value} {base B:Nat} {v1 v2:Value} {r:List S24} {lo:Nat} {ks:List ByteArray} {ls:List (List S24)} (hO:Obj w lo B v1 v2 ks ls) (hb:w.heap.size≤base) (h:Kd.R k24 24 w1 base (fun _=>True) v0 r) :
  Kd.R k24 24 w1 0 (fun k=>k≠B∧some k≠v1.ownBlock∧some k≠v2.ownBlock) v0 r:=by
 refine Kd.R_lower (Kd.R_mono (Kd.R_bound h) (fun k hk=>⟨?_,?_,?_⟩)) (Nat.zero_le _)
 ·have:=hO.lt
  have:=hk.2.1
  omega
 ·exact hO.fresh1 k (Nat.le_trans hb hk.2.1)
 ·exact(hO.fresh2 k (Nat.le_trans hb hk.2.1)).2
set_option maxHeartbeats 4000000 in
set_option maxRecDepth 100000 in
theorem otext_calls (k lo B:Nat) (v1 v2:Value) (o:List ByteArray × List (List S24)) (key s y:ByteArray) (t:List S24) (w:World) (hG:GlobU8 w) (hO:Obj w lo B v1 v2 o.1 o.2) (hs:response_Shown.f s=some y) (ht:jsontext_Leaf.f k 5 y=some t) (hk:o.1.length≤1000000∧o.2.length≤1000000) :
  Calls Tryd.prog 21 #[.pointer (some ⟨B,0,none⟩),.string key,.string s] w fun e w'=>e=.returned (.pointer (some ⟨B,0,none⟩))∧∃ v1 v2,Obj w' lo B v1 v2 (putL o key t).1 (putL o key t).2∧Below lo w w'∧OKept B w w':=by
 have HS:=Lib.hid (response_Shown.calls s y w hG hs)
 have HL:=Lib.hid (fun(w1:World) (hb:Below w.heap.size w w1)=>jsontext_Leaf.calls k 5 y t w1 (hG.below hb) ht)
 have HP:=Lib.hid (fun(w2:World) (vt:Value) (hO2:Obj w2 lo B v1 v2 o.1 o.2) hT=>put_calls lo B v1 v2 vt o key t w2 hO2 hT hk)
 have HO:=Lib.hid hO
 clear hO hG hs ht hk
 go_enter Tryd.func21,Tryd.ntmps21
 go_wp2_with (go_at_call 14;(with_reducible refine HS.out.mono ?_);rintro e w1 ⟨rfl,hb1⟩;have HB1:=Lib.hid hb1;clear hb1)
 go_wp2_with (go_at_call 39;(with_reducible refine(HL.out _ HB1.out).mono ?_);rintro e w2 ⟨v0,rfl,hr2,hb2⟩;have HB2:=Lib.hid hb2;have HR2:=Lib.hid hr2;clear hb2 hr2)
 have HB:=Lib.hid (HB1.out.trans (HB2.out.mono HB1.out.size))
 have HO2:=Lib.hid (HO.out.below HB.out)
 have HLO:Hid (lo≤w.heap.size):=Lib.hid (by have:=HO.out.lt;have:=HO.out.lo0;omega)
 go_wp2_with (go_at_call 28;(with_reducible refine(HP.out _ _ HO2.out (R_over HO.out HB1.out.size HR2.out)).mono ?_);rintro e w3 ⟨rfl,v3,v4,ho3,hb3,hk3⟩;have HB3:=Lib.hid hb3;have HO3:=Lib.hid ho3;have HK3:=Lib.hid hk3;clear hb3 ho3 hk3)
 go_ret
 exact ⟨rfl,_,_,HO3.out,(HB.out.mono HLO.out).trans HB3.out,(OKept.below HB.out).trans HK3.out⟩
def response_status.f (a0_0:ByteArray) (a0_1:ByteArray):Option (Int):=if a0_0.toList=([73,110,116,101,114,110,97,108,70,97,105,108,117,114,101]:List UInt8) then(some 500) else(if a0_0.toList=([83,101,114,118,105,99,101,85,110,97,118,97,105,108,97,98,108,101]:List UInt8) then(some 500) else(some 400))
set_option maxHeartbeats 8000000 in
set_option maxRecDepth 100000 in
theorem response_status.calls (a0_0:ByteArray) (a0_1:ByteArray) (r:Int) (w:World) (h:response_status.f a0_0 a0_1=some r) :
  Calls Tryd.prog 23 #[.agg #[.string a0_0,.string a0_1]] w fun e w'=>e=.returned (.int .i64 r)∧Below w.heap.size w w':=by
 have hu29:=Tryd.underlying29
 have HB:=Aside0.mk (Below.refl w.heap.size w)
 have H:(if a0_0.toList=([73,110,116,101,114,110,97,108,70,97,105,108,117,114,101]:List UInt8) then(some 500) else(if a0_0.toList=([83,101,114,118,105,99,101,85,110,97,118,97,105,108,97,98,108,101]:List UInt8) then(some 500) else(some 400)))=some r:=h
 clear h
 by_cases c2:a0_0.toList=([73,110,116,101,114,110,97,108,70,97,105,108,117,114,101]:List UInt8)
 ·rw [if_pos c2] at H
  have c2b0:(a0_0.toList==([73,110,116,101,114,110,97,108,70,97,105,108,117,114,101]:List UInt8))=true:=beq_iff_eq.mpr c2
  have c2b1:(a0_0.toList != ([73,110,116,101,114,110,97,108,70,97,105,108,117,114,101]:List UInt8))=false:=bne_eq_false_iff_eq.mpr c2
  clear c2
  obtain rfl:=Option.some.inj H
  go_enter Tryd.func23,Tryd.ntmps23
  go_wp2_with (first|((with_reducible refine gate_dst (N:=1) rfl ?_);refine box_event ?hg (N:=1) ?hd (cs:=#[.string a0_0,.string a0_1]) (t:=29) ?hr ?_;(case hd=>rfl);(case hg=>rfl);(case hr=>first|(go_simp;done)|(go_simp;rfl));intro gb318 hg w3 hbox hb;have n0_:=Aside0.mk (below_step au3 hb);have n1_:=Aside0.mk (hbox);have n2_:=Aside0.mk ((by rw [hg];exact(below_size au3):w.heap.size≤gb318));have n3_:=Aside0.mk ((by rw [hg];exact(below_size au3):w.heap.size≤gb318));clear HB;have HB:=n0_;have BK318:=n1_;have GW318:=n2_;have GE318:=n3_;clear n0_ n1_ n2_ n3_;clear hb hbox hg;have hcz4_0:w3.cell? ⟨gb318,0,none⟩=some (.string a0_0):=(blk_cell BK318.out 0).trans rfl;have hcz4_1:w3.cell? ⟨gb318,1,none⟩=some (.string a0_1):=(blk_cell BK318.out 1).trans rfl;have hfz4_0:=blk_frozen BK318.out 0;have hfz4_1:=blk_frozen BK318.out 1))
  go_ret
  exact ⟨au12,by repeat(first|(with_reducible first|exact HB.out|apply below_alloc|apply pw_below_drewN|apply below_drew1|refine below_set ?_ GE318.out)|exact HB.out)⟩
 ·rw [if_neg c2] at H
  have c2b0:(a0_0.toList==([73,110,116,101,114,110,97,108,70,97,105,108,117,114,101]:List UInt8))=false:=beq_eq_false_iff_ne.mpr c2
  have c2b1:(a0_0.toList != ([73,110,116,101,114,110,97,108,70,97,105,108,117,114,101]:List UInt8))=true:=bne_iff_ne.mpr c2
  by_cases c5:a0_0.toList=([83,101,114,118,105,99,101,85,110,97,118,97,105,108,97,98,108,101]:List UInt8)
  ·rw [if_pos c5] at H
   have c5b0:(a0_0.toList==([83,101,114,118,105,99,101,85,110,97,118,97,105,108,97,98,108,101]:List UInt8))=true:=beq_iff_eq.mpr c5
   have c5b1:(a0_0.toList != ([83,101,114,118,105,99,101,85,110,97,118,97,105,108,97,98,108,101]:List UInt8))=false:=bne_eq_false_iff_eq.mpr c5
   clear c5
   obtain rfl:=Option.some.inj H
   go_enter Tryd.func23,Tryd.ntmps23
   go_wp2_with (first|((with_reducible refine gate_dst (N:=1) rfl ?_);refine box_event ?hg (N:=1) ?hd (cs:=#[.string a0_0,.string a0_1]) (t:=29) ?hr ?_;(case hd=>rfl);(case hg=>rfl);(case hr=>first|(go_simp;done)|(go_simp;rfl));intro gb318 hg w6 hbox hb;have n0_:=Aside0.mk (below_step au3 hb);have n1_:=Aside0.mk (hbox);have n2_:=Aside0.mk ((by rw [hg];exact(below_size au3):w.heap.size≤gb318));have n3_:=Aside0.mk ((by rw [hg];exact(below_size au3):w.heap.size≤gb318));clear HB;have HB:=n0_;have BK318:=n1_;have GW318:=n2_;have GE318:=n3_;clear n0_ n1_ n2_ n3_;clear hb hbox hg;have hcz7_0:w6.cell? ⟨gb318,0,none⟩=some (.string a0_0):=(blk_cell BK318.out 0).trans rfl;have hcz7_1:w6.cell? ⟨gb318,1,none⟩=some (.string a0_1):=(blk_cell BK318.out 1).trans rfl;have hfz7_0:=blk_frozen BK318.out 0;have hfz7_1:=blk_frozen BK318.out 1))
   go_ret
   exact ⟨au12,by repeat(first|(with_reducible first|exact HB.out|apply below_alloc|apply pw_below_drewN|apply below_drew1|refine below_set ?_ GE318.out)|exact HB.out)⟩
  ·rw [if_neg c5] at H
   have c5b0:(a0_0.toList==([83,101,114,118,105,99,101,85,110,97,118,97,105,108,97,98,108,101]:List UInt8))=false:=beq_eq_false_iff_ne.mpr c5
   have c5b1:(a0_0.toList != ([83,101,114,118,105,99,101,85,110,97,118,97,105,108,97,98,108,101]:List UInt8))=true:=bne_iff_ne.mpr c5
   obtain rfl:=Option.some.inj H
   go_enter Tryd.func23,Tryd.ntmps23
   go_wp2_with (first|((with_reducible refine gate_dst (N:=1) rfl ?_);refine box_event ?hg (N:=1) ?hd (cs:=#[.string a0_0,.string a0_1]) (t:=29) ?hr ?_;(case hd=>rfl);(case hg=>rfl);(case hr=>first|(go_simp;done)|(go_simp;rfl));intro gb318 hg w8 hbox hb;have n0_:=Aside0.mk (below_step au3 hb);have n1_:=Aside0.mk (hbox);have n2_:=Aside0.mk ((by rw [hg];exact(below_size au3):w.heap.size≤gb318));have n3_:=Aside0.mk ((by rw [hg];exact(below_size au3):w.heap.size≤gb318));clear HB;have HB:=n0_;have BK318:=n1_;have GW318:=n2_;have GE318:=n3_;clear n0_ n1_ n2_ n3_;clear hb hbox hg;have hcz9_0:w8.cell? ⟨gb318,0,none⟩=some (.string a0_0):=(blk_cell BK318.out 0).trans rfl;have hcz9_1:w8.cell? ⟨gb318,1,none⟩=some (.string a0_1):=(blk_cell BK318.out 1).trans rfl;have hfz9_0:=blk_frozen BK318.out 0;have hfz9_1:=blk_frozen BK318.out 1))
   go_ret
   exact ⟨au12,by repeat(first|(with_reducible first|exact HB.out|apply below_alloc|apply pw_below_drewN|apply below_drew1|refine below_set ?_ GE318.out)|exact HB.out)⟩
def txtL (k:Nat) (o:List ByteArray × List (List S24)) (key s:ByteArray):Option (List ByteArray × List (List S24)):=(response_Shown.f s).bind fun y=>(jsontext_Leaf.f k 5 y).bind fun t=>some (putL o key t)
theorem txtL_len {k:Nat} {o o':List ByteArray × List (List S24)} {key s:ByteArray} (h:txtL k o key s=some o') {n:Nat} (hn:o.1.length≤n∧o.2.length≤n):o'.1.length≤n+1∧o'.2.length≤n+1:=by
 unfold txtL at h
 obtain ⟨y,_,h⟩:=Option.bind_eq_some_iff.1 h
 obtain ⟨t,_,h⟩:=Option.bind_eq_some_iff.1 h
 obtain rfl:=Option.some.inj h
 exact putL_len o key t n hn
theorem txt_calls (k lo B:Nat) (v1 v2:Value) (o o':List ByteArray × List (List S24)) (key s:ByteArray) (w:World) (hG:GlobU8 w) (hO:Obj w lo B v1 v2 o.1 o.2) (h:txtL k o key s=some o') (hk:o.1.length≤1000000∧o.2.length≤1000000) :
  Calls Tryd.prog 21 #[.pointer (some ⟨B,0,none⟩),.string key,.string s] w fun e w'=>e=.returned (.pointer (some ⟨B,0,none⟩))∧∃ v1 v2,Obj w' lo B v1 v2 o'.1 o'.2∧Below lo w w'∧OKept B w w':=by
 unfold txtL at h
 obtain ⟨y,hy,h⟩:=Option.bind_eq_some_iff.1 h
 obtain ⟨t,ht,h⟩:=Option.bind_eq_some_iff.1 h
 obtain rfl:=Option.some.inj h
 exact otext_calls k lo B v1 v2 o key s y t w hG hO hy ht hk
def response_FaultJson.f (k:Nat) (code param:ByteArray):Option (Int × ByteArray):=if code.size≤600000 then(txtL k ([],[]) ⟨#[95,95,116,121,112,101]⟩ ((⟨#[99,111,109,46,97,109,97,122,111,110,97,119,115,46,115,113,115,35]⟩:ByteArray)++code)).bind fun o1 =>
 (txtL k o1 ⟨#[109,101,115,115,97,103,101]⟩ param).bind fun o2=>(jsontext_Object.f k o2.1 o2.2).bind fun t=>(jsontext_Print.f t).bind fun q=>(response_status.f code param).bind fun n=>some (n,q.1) else none
theorem fj_parts {k:Nat} {code param s:ByteArray} {n:Int} (h:response_FaultJson.f k code param=some (n,s)):∃ o1 o2 r q2,code.size≤600000∧txtL k ([],[]) ⟨#[95,95,116,121,112,101]⟩ ((⟨#[99,111,109,46,97,109,97,122,111,110,97,119,115,46,115,113,115,35]⟩:ByteArray)++code)=some o1 ∧
  txtL k o1 ⟨#[109,101,115,115,97,103,101]⟩ param=some o2∧jsontext_Object.f k o2.1 o2.2=some r∧jsontext_Print.f r=some (s,q2)∧response_status.f code param=some n:=by
 unfold response_FaultJson.f at h
 split at h
 rotate_left
 ·exact absurd h au5
 rename_i hsz
 obtain ⟨o1,h1,h⟩:=Option.bind_eq_some_iff.1 h
 obtain ⟨o2,h2,h⟩:=Option.bind_eq_some_iff.1 h
 obtain ⟨r,h3,h⟩:=Option.bind_eq_some_iff.1 h
 obtain ⟨⟨q1,q2⟩,h4,h⟩:=Option.bind_eq_some_iff.1 h
 obtain ⟨n,h5,h⟩:=Option.bind_eq_some_iff.1 h
 obtain ⟨rfl,rfl⟩:=Prod.mk.inj (Option.some.inj h)
 exact ⟨o1,o2,r,q2,hsz,h1,h2,h3,h4,h5⟩
set_option maxHeartbeats 8000000 in
set_option maxRecDepth 100000 in
theorem response_FaultJson.calls (k:Nat) (a0_0:ByteArray) (a0_1:ByteArray) (r1:Int) (r2:ByteArray) (w:World) (hGU8:GlobU8 w) (h:response_FaultJson.f k a0_0 a0_1=some (r1,r2)) :
  Calls Tryd.prog 8 #[.agg #[.string a0_0,.string a0_1]] w fun e w'=>e=.returned (.tuple #[.int .i64 r1,.string r2])∧Below w.heap.size w w':=by
 obtain ⟨o1,o2,r,q2,hsz,h1,h2,h3,h4,h5⟩:=fj_parts h
 have n1:=txtL_len h1 (n:=0) ⟨Nat.le_refl _,Nat.le_refl _⟩
 have z1:(9223372036854775807<18+a0_0.size)=False:=eq_false au0
 have z2:(9223372036854775807<(⟨#[99,111,109,46,97,109,97,122,111,110,97,119,115,46,115,113,115,35]⟩:ByteArray).size+a0_0.size)=False:=z1
 have z3:(18+a0_0.size≤9223372036854775807)=True:=eq_true au0
 have hal:=heap_alloc_new w (.cells #[.string a0_0,.string a0_1] 29 (0,0))
 have hHA:Below w.heap.size w (w.alloc (.cells #[.string a0_0,.string a0_1] 29 (0,0))):=(Below.refl _ _).alloc (Nat.le_refl _) _
 have H1:=Lib.hid h1
 have H2:=Lib.hid h2
 have H3:=Lib.hid h3
 have H4:=Lib.hid h4
 have HST:=Lib.hid (fun w'=>response_status.calls a0_0 a0_1 r1 w' h5)
 have N1:=Lib.hid n1
 have HG:=Lib.hid (hGU8.below hHA)
 have HHA:=Lib.hid hHA
 clear h h1 h2 h3 h4 h5 n1 hGU8 hHA hsz
 go_enter Tryd.func8,Tryd.ntmps8
 go_wp2
 generalize hw1:w.alloc (.cells #[.string a0_0,.string a0_1] 29 (0,0))=wf at *
 clear hw1
 have c0:=(blk_cell hal 0).trans (rfl:_=some (Value.string a0_0))
 have c1:=(blk_cell hal 1).trans (rfl:_=some (Value.string a0_1))
 have HLT:=Lib.hid (blk_lt hal)
 have HC:Hid (∀ w',Below wf.heap.size wf w'→w'.cell? ⟨w.heap.size,0,none⟩=some (.string a0_0)∧w'.cell? ⟨w.heap.size,1,none⟩=some (.string a0_1)):=Lib.hid (fun w' hb=>by
  have e:=hb.block _ HLT.out
  exact ⟨(World.cell?_of_block e).trans c0,(World.cell?_of_block e).trans c1⟩)
 have HAL:=Lib.hid hal
 have HT1:Hid (Calls Tryd.prog 21 #[.pointer (some ⟨wf.heap.size,0,none⟩),.string ⟨#[95,95,116,121,112,101]⟩,.string ((⟨#[99,111,109,46,97,109,97,122,111,110,97,119,115,46,115,113,115,35]⟩:ByteArray)++a0_0)] (wf.alloc (.cells #[.slice none 0 0,.slice none 0 0] 45 (0,0))).drew fun e w'=>e=.returned (.pointer (some ⟨wf.heap.size,0,none⟩))∧∃ v1 v2,Obj w' wf.heap.size wf.heap.size v1 v2 o1.1 o1.2∧Below wf.heap.size (wf.alloc (.cells #[.slice none 0 0,.slice none 0 0] 45 (0,0))).drew w'∧OKept wf.heap.size (wf.alloc (.cells #[.slice none 0 0,.slice none 0 0] 45 (0,0))).drew w') :=
  Lib.hid (txt_calls k wf.heap.size wf.heap.size _ _ ([],[]) o1 _ _ _ (HG.out.below (below_drew (below_alloc (Below.refl _ _) _))) ((Obj.new (w:=wf) (Nat.le_refl _)).below (below_drew (Below.refl _ _))) H1.out au1)
 have HT2:=Lib.hid (fun w3 v1 v2 (hO:Obj w3 wf.heap.size wf.heap.size v1 v2 o1.1 o1.2) (hb:Below wf.heap.size wf w3)=>txt_calls k wf.heap.size wf.heap.size v1 v2 o1 o2 _ _ w3 (HG.out.below hb) hO H2.out (by have:=N1.out;omega))
 have HT3:=Lib.hid (fun w3 v1 v2 (hO:Obj w3 wf.heap.size wf.heap.size v1 v2 o2.1 o2.2) (hb:Below wf.heap.size wf w3)=>tree_calls k wf.heap.size wf.heap.size v1 v2 o2.1 o2.2 r w3 (HG.out.below hb) hO H3.out)
 have HT4:=Lib.hid (fun w3 base A5 p5 (hR:Kd.R k24 24 w3 base (fun _=>True) (.slice A5 r.length p5) r) (hb:Below wf.heap.size wf w3)=>jsontext_Print.calls A5 p5 r r2 q2 w3 (HG.out.below hb) (Kd.R_reads' hR).2.2 (Kd.R_reads' hR).2.1 H4.out)
 clear hal
 refine start_ (n:=16) (S:=fun w'=>w'.cell? ⟨w.heap.size,0,none⟩=some (.string a0_0)∧w'.cell? ⟨w.heap.size,1,none⟩=some (.string a0_1)) (ds:=[]) #[fF,fF,fF,fF,fF,fF,fF,fF,fF,fF,fF,fF,fF,fF,fF,fF] au2 rfl rfl ⟨c0,c1⟩ (fun hHeld=>?_)
 refine pure_ (i:=0) (N:=some 7) (v:=?_) (a':=?_) #[tT,fF,fF,fF,fF,fF,fF,fF,fF,fF,fF,fF,fF,fF,fF,fF] rfl rfl au2 (fun _ _ _ h=>h) (Or.inl ⟨au6,?_⟩) ?_ ?_
 rotate_left
 ·intro w'
  go_simp
  with_reducible rfl
 rotate_left
 ·simp only [Act.put,List.setIfInBounds_toArray,List.set_cons_zero,List.set_cons_succ,i64_w,i32_w]
  rfl
 refine pure_ (i:=2) (N:=some 9) (v:=?_) (a':=?_) #[tT,fF,tT,fF,fF,fF,fF,fF,fF,fF,fF,fF,fF,fF,fF,fF] rfl rfl au2 (fun _ _ _ h=>h) (Or.inl ⟨au6,?_⟩) ?_ ?_
 rotate_left
 ·intro w'
  go_simp
  with_reducible rfl
 rotate_left
 ·simp only [Act.put,List.setIfInBounds_toArray,List.set_cons_zero,List.set_cons_succ,i64_w,i32_w]
  rfl
 refine pure_ (i:=6) (N:=some 13) (v:=?_) (a':=?_) #[tT,fF,tT,fF,fF,fF,tT,fF,fF,fF,fF,fF,fF,fF,fF,fF] rfl rfl au2 (fun _ _ _ h=>h) (Or.inl ⟨au6,?_⟩) ?_ ?_
 rotate_left
 ·intro w'
  go_simp
  with_reducible rfl
 rotate_left
 ·simp only [Act.put,List.setIfInBounds_toArray,List.set_cons_zero,List.set_cons_succ,i64_w,i32_w]
  rfl
 refine take_ (i:=3) (N:=some 10) (v:=?_) (a':=?_) #[tT,fF,tT,tT,fF,fF,tT,fF,fF,fF,fF,fF,fF,fF,fF,fF] rfl rfl au2 (fun _ _ _ h=>h) (Or.inl ⟨au6,?_⟩) hHeld ?_ ?_
 rotate_left
 ·rintro w' ⟨s0,s1⟩
  go_simp
  with_reducible rfl
 rotate_left
 ·simp only [Act.put,List.setIfInBounds_toArray,List.set_cons_zero,List.set_cons_succ,i64_w,i32_w]
  rfl
 refine pure_ (i:=4) (N:=some 11) (v:=?_) (a':=?_) #[tT,fF,tT,tT,tT,fF,tT,fF,fF,fF,fF,fF,fF,fF,fF,fF] rfl rfl au2 (fun _ _ _ h=>h) (Or.inl ⟨au6,?_⟩) ?_ ?_
 rotate_left
 ·intro w'
  go_simp
  with_reducible rfl
 rotate_left
 ·simp only [Act.put,List.setIfInBounds_toArray,List.set_cons_zero,List.set_cons_succ,i64_w,i32_w]
  rfl
 refine take_ (i:=7) (N:=some 14) (v:=?_) (a':=?_) #[tT,fF,tT,tT,tT,fF,tT,tT,fF,fF,fF,fF,fF,fF,fF,fF] rfl rfl au2 (fun _ _ _ h=>h) (Or.inl ⟨au6,?_⟩) hHeld ?_ ?_
 rotate_left
 ·rintro w' ⟨s0,s1⟩
  go_simp
  with_reducible rfl
 rotate_left
 ·simp only [Act.put,List.setIfInBounds_toArray,List.set_cons_zero,List.set_cons_succ,i64_w,i32_w]
  rfl
 refine one_ (i:=1) (N:=some 8) #[tT,tT,tT,tT,tT,fF,tT,tT,fF,fF,fF,fF,fF,fF,fF,fF] rfl rfl au2 au1 (fun K hK=>?_)
 refine value_ (w1:=?_) (v:=?_) au6 rfl ?_ ?_
 rotate_left 2
 ·go_simp
  constructor
  ·rfl
  ·rfl
 have HA:=Lib.hid (below_drew (below_alloc (Below.refl _ wf) (.cells #[.slice none 0 0,.slice none 0 0] 45 (0,0))))
 refine hK.out _ _ ⟨(HC.out _ HA.out).1,(HC.out _ HA.out).2⟩ (fun hHeld=>?_)
 clear hK K
 refine norm_ (a':=?_) ?_ ?_
 rotate_left
 ·show Act.put _ (some 8) _=_
  simp only [Act.put,List.setIfInBounds_toArray,List.set_cons_zero,List.set_cons_succ,i64_w,i32_w]
  rfl
 refine one_ (i:=5) (N:=some 12) #[tT,tT,tT,tT,tT,tT,tT,tT,fF,fF,fF,fF,fF,fF,fF,fF] rfl rfl au2 au1 (fun K hK=>?_)
 refine goes_ Tryd.func21 au2 rfl #[.pointer (some ⟨wf.heap.size,0,none⟩),.string ⟨#[95,95,116,121,112,101]⟩,.string (⟨#[99,111,109,46,97,109,97,122,111,110,97,119,115,46,115,113,115,35]⟩++a0_0)] au6 rfl rfl au15 ?_
 with_reducible refine(HT1.out).mono ?_
 rintro e w3 ⟨rfl,v1,v2,ho3,hb3,_⟩
 refine ⟨_,rfl,?_⟩
 have HO3:=Lib.hid ho3
 have HB3:=Lib.hid (HA.out.trans hb3)
 clear ho3 hb3
 refine hK.out _ _ ⟨(HC.out _ HB3.out).1,(HC.out _ HB3.out).2⟩ (fun hHeld=>?_)
 clear hK K
 refine norm_ (a':=?_) ?_ ?_
 rotate_left
 ·show Act.put _ (some 12) _=_
  simp only [Act.put,List.setIfInBounds_toArray,List.set_cons_zero,List.set_cons_succ,i64_w,i32_w]
  rfl
 refine one_ (i:=8) (N:=some 15) #[tT,tT,tT,tT,tT,tT,tT,tT,tT,fF,fF,fF,fF,fF,fF,fF] rfl rfl au2 au1 (fun K hK=>?_)
 refine goes_ Tryd.func21 au2 rfl #[.pointer (some ⟨wf.heap.size,0,none⟩),.string ⟨#[109,101,115,115,97,103,101]⟩,.string a0_1] au6 rfl rfl au15 ?_
 with_reducible refine(HT2.out _ _ _ HO3.out HB3.out).mono ?_
 rintro e w4 ⟨rfl,v3,v4,ho4,hb4,_⟩
 refine ⟨_,rfl,?_⟩
 have HO4:=Lib.hid ho4
 have HB4:=Lib.hid (HB3.out.trans hb4)
 clear ho4 hb4
 refine hK.out _ _ ⟨(HC.out _ HB4.out).1,(HC.out _ HB4.out).2⟩ (fun hHeld=>?_)
 clear hK K
 refine norm_ (a':=?_) ?_ ?_
 rotate_left
 ·show Act.put _ (some 15) _=_
  simp only [Act.put,List.setIfInBounds_toArray,List.set_cons_zero,List.set_cons_succ,i64_w,i32_w]
  rfl
 refine one_ (i:=9) (N:=some 16) #[tT,tT,tT,tT,tT,tT,tT,tT,tT,tT,fF,fF,fF,fF,fF,fF] rfl rfl au2 au1 (fun K hK=>?_)
 refine goes_ Tryd.func22 au2 rfl #[.pointer (some ⟨wf.heap.size,0,none⟩)] au6 rfl rfl au15 ?_
 with_reducible refine(HT3.out _ _ _ HO4.out HB4.out).mono ?_
 rintro e w5 ⟨v5,rfl,hr5,hb5⟩
 refine ⟨_,rfl,?_⟩
 obtain ⟨A5,p5,rfl⟩:=Kd.R_slice hr5
 have HR5:=Lib.hid hr5
 have HB5:=Lib.hid (HB4.out.trans (hb5.mono HB4.out.size))
 clear hr5 hb5
 refine hK.out _ _ ⟨(HC.out _ HB5.out).1,(HC.out _ HB5.out).2⟩ (fun hHeld=>?_)
 clear hK K
 refine norm_ (a':=?_) ?_ ?_
 rotate_left
 ·show Act.put _ (some 16) _=_
  simp only [Act.put,List.setIfInBounds_toArray,List.set_cons_zero,List.set_cons_succ,i64_w,i32_w]
  rfl
 refine one_ (i:=10) (N:=some 17) #[tT,tT,tT,tT,tT,tT,tT,tT,tT,tT,tT,fF,fF,fF,fF,fF] rfl rfl au2 au1 (fun K hK=>?_)
 refine goes_ Tryd.func20 au2 rfl #[.slice A5 r.length p5] au6 rfl rfl au15 ?_
 with_reducible refine(HT4.out _ _ _ _ HR5.out HB5.out).mono ?_
 rintro e w6 ⟨rfl,hb6⟩
 refine ⟨_,rfl,?_⟩
 have HB6:=Lib.hid (HB5.out.trans (hb6.mono HB5.out.size))
 clear hb6
 refine hK.out _ _ ⟨(HC.out _ HB6.out).1,(HC.out _ HB6.out).2⟩ (fun hHeld=>?_)
 clear hK K
 refine norm_ (a':=?_) ?_ ?_
 rotate_left
 ·show Act.put _ (some 17) _=_
  simp only [Act.put,List.setIfInBounds_toArray,List.set_cons_zero,List.set_cons_succ,i64_w,i32_w]
  rfl
 refine pure_ (i:=11) (N:=some 6) (v:=?_) (a':=?_) #[tT,tT,tT,tT,tT,tT,tT,tT,tT,tT,tT,tT,fF,fF,fF,fF] rfl rfl au2 (fun _ _ _ h=>h) (Or.inl ⟨au6,?_⟩) ?_ ?_
 rotate_left
 ·intro w'
  go_simp
  with_reducible rfl
 rotate_left
 ·simp only [Act.put,List.setIfInBounds_toArray,List.set_cons_zero,List.set_cons_succ,i64_w,i32_w]
  rfl
 refine pure_ (i:=12) (N:=some 18) (v:=?_) (a':=?_) #[tT,tT,tT,tT,tT,tT,tT,tT,tT,tT,tT,tT,tT,fF,fF,fF] rfl rfl au2 (fun _ _ _ h=>h) (Or.inl ⟨au6,?_⟩) ?_ ?_
 rotate_left
 ·intro w'
  go_simp
  with_reducible rfl
 rotate_left
 ·simp only [Act.put,List.setIfInBounds_toArray,List.set_cons_zero,List.set_cons_succ,i64_w,i32_w]
  rfl
 refine pure_ (i:=13) (N:=some 19) (v:=?_) (a':=?_) #[tT,tT,tT,tT,tT,tT,tT,tT,tT,tT,tT,tT,tT,tT,fF,fF] rfl rfl au2 (fun _ _ _ h=>h) (Or.inl ⟨au6,?_⟩) ?_ ?_
 rotate_left
 ·intro w'
  go_simp
  with_reducible rfl
 rotate_left
 ·simp only [Act.put,List.setIfInBounds_toArray,List.set_cons_zero,List.set_cons_succ,i64_w,i32_w]
  rfl
 refine pure_ (i:=14) (N:=some 4) (v:=?_) (a':=?_) #[tT,tT,tT,tT,tT,tT,tT,tT,tT,tT,tT,tT,tT,tT,tT,fF] rfl rfl au2 (fun _ _ _ h=>h) (Or.inl ⟨au6,?_⟩) ?_ ?_
 rotate_left
 ·intro w'
  go_simp
  with_reducible rfl
 rotate_left
 ·simp only [Act.put,List.setIfInBounds_toArray,List.set_cons_zero,List.set_cons_succ,i64_w,i32_w]
  rfl
 refine pure_ (i:=15) (N:=some 5) (v:=?_) (a':=?_) #[tT,tT,tT,tT,tT,tT,tT,tT,tT,tT,tT,tT,tT,tT,tT,tT] rfl rfl au2 (fun _ _ _ h=>h) (Or.inl ⟨au6,?_⟩) ?_ ?_
 rotate_left
 ·intro w'
  go_simp
  with_reducible rfl
 rotate_left
 ·simp only [Act.put,List.setIfInBounds_toArray,List.set_cons_zero,List.set_cons_succ,i64_w,i32_w]
  rfl
 refine done_ au2 ?_
 have z0:=(HC.out _ HB6.out).1
 have z9:=(HC.out _ HB6.out).2
 go_wp2_with (go_at_call 23;(with_reducible refine(HST.out _).mono ?_);rintro e w7 ⟨rfl,hb7⟩;have HB7:=Lib.hid (HB6.out.trans (hb7.mono HB6.out.size));clear hb7)
 go_ret2
 exact ⟨rfl,HHA.out.trans (HB7.out.mono HHA.out.size)⟩
def racewayref29_object.l0:Nat→List (S53)→List ByteArray→List (List (S24))→Int→Option ((List (S24)))
 | 0,_,_,_,_=>none
 | k+1,x0,x3,x4,x5=>if x5<(x0.length:Int) then(if 0≤x5 then(if x3.length<8796093022208 then(if x4.length<5864062014805 then(racewayref29_object.l0 k x0 (x3++[(rd_T53 x0 x5).f0]) (x4++[(rd_T53 x0 x5).f1]) (wrap64 (x5+1))) else(none)) else(none)) else(none)) else((racewayref25_Made.f k 7 x3 x4).bind fun t221=>(some t221))
def racewayref29_object.f (k:Nat) (l0:List (S53)):Option ((List (S24))):=racewayref29_object.l0 k l0 ([]:List ByteArray) ([]:List (List (S24))) 0
set_option maxHeartbeats 8000000 in
set_option maxRecDepth 100000 in
theorem racewayref29_object.calls (k:Nat) (P0_:Nat→Prop) (A0:Option Addr) (c0:Nat) (l0:List (S53)) (r:List (S24)) (w:World) (hs0:Kd.V k53 53 w w.heap.size (fun k_=>P0_ k_) (.slice A0 l0.length c0) l0) (h:racewayref29_object.f k l0=some r) :
  Calls Tryd.prog 25 #[.slice A0 l0.length c0] w fun e w'=>∃ v0_:Value,e=.returned (v0_)∧Kd.R k24 24 w' w.heap.size (fun k_=>(w.heap.size≤k_)) v0_ r∧Below w.heap.size w w':=by
 have HO0:=Aside0.mk (show Kd.V k53 53 w w.heap.size (fun k_=>(P0_ k_∨w.heap.size≤k_)) (.slice A0 l0.length c0) l0 from Kd.V_mono hs0 (fun k_ hk=>.inl hk))
 have HB:=Aside0.mk (Below.refl w.heap.size w)
 have H:(racewayref29_object.l0 k l0 ([]:List ByteArray) ([]:List (List (S24))) 0)=some r:=h
 clear h
 have H':=Aside0.mk H
 clear H
 go_enter Tryd.func25,Tryd.ntmps25
 go_wp2
 go_loopg [3,4,5] k (fun kq v3 v4 v5 w'=>∃(x3_1:List ByteArray) (x4_1:List (List (S24))) (x5_1:Int),v5=.int .i64 x5_1∧Aside0 (racewayref29_object.l0 kq l0 x3_1 x4_1 x5_1=some r)∧Aside0 (kq≤k)∧Aside0 (Kd.V k53 53 w' w.heap.size (fun k_=>(P0_ k_∨w.heap.size≤k_)∧some k_≠(v3:Value).ownBlock∧some k_≠(v4:Value).ownBlock) (.slice A0 l0.length c0) l0)∧Aside0 (Kd.R Kd.string 9 w' w.heap.size (fun k_=>(w.heap.size≤k_)) v3 x3_1)∧Aside0 (Kd.N (Kd.slice 24 k24) 22 w' w.heap.size (fun k_=>(P0_ k_∨w.heap.size≤k_)∧some k_≠(v3:Value).ownBlock) v4 x4_1)∧Aside0 (Below w.heap.size w w'))
 case atStart=>exact ⟨(([]:List ByteArray)),(([]:List (List (S24)))),(0),au4,au9,⟨Nat.le_refl _⟩,⟨by(with_reducible repeat(first|apply Kd.V_alloc|apply Kd.V_drewN|apply Kd.V_drew));exact Kd.V_mono HO0.out (fun _ hk=>⟨hk,⟨au30,au30⟩⟩)⟩,⟨au20⟩,⟨by first|exact Kd.S_nil _ _ _ _ _|exact Kd.N_nil _ _ _ _ _|exact Kd.V_nil _ _ _ _ _|exact Kd.Q_nil _ _ _ _ _|exact Kd.R_nil _ _ _ _ _⟩,⟨au3⟩⟩
 case round =>
  clear H'
  obtain ⟨x3_1,x4_1,x5_1,rfl,HA,HK1,HO_0,HO_3,HO_4,HB⟩:=hrel
  cases gk with
  | zero=>exact absurd HA.out (by simp [racewayref29_object.l0])
  | succ k1 =>
   have H:=HA.out
   clear HA
   simp only [racewayref29_object.l0] at H
   by_cases c2:x5_1<(l0.length:Int)
   ·rw [if_pos c2] at H
    have c2b0:decide (x5_1<(l0.length:Int))=true:=decide_eq_true c2
    clear c2
    by_cases c3:0≤x5_1
    ·rw [if_pos c3] at H
     have c3b0:decide (0≤x5_1)=true:=decide_eq_true c3
     clear c3
     by_cases c4:x3_1.length<8796093022208
     ·rw [if_pos c4] at H
      have LMc4:=Aside0.mk c4
      clear c4
      obtain ⟨y214,hy214⟩:∃ y_:List ByteArray,y_=(x3_1++[(rd_T53 l0 x5_1).f0]):=⟨_,rfl⟩
      replace H:(if x4_1.length<5864062014805 then(racewayref29_object.l0 k1 l0 y214 (x4_1++[(rd_T53 l0 x5_1).f1]) (wrap64 (x5_1+1))) else(none))=some r:=by first|(rw [hy214];with_reducible exact H)|(have H2_:=(Option.bind_some _ _).symm.trans H;rw [hy214];with_reducible exact H2_)|(have H2_:=(Option.bind_some _ _).symm.trans H;with_reducible exact H2_)|with_reducible exact H|(rw [hy214];exact H)|exact H
      have Ny214:=Aside0.mk hy214
      clear hy214
      by_cases c5:x4_1.length<5864062014805
      ·rw [if_pos c5] at H
       have LMc5:=Aside0.mk c5
       clear c5
       obtain ⟨y218,hy218⟩:∃ y_:List (List (S24)),y_=(x4_1++[(rd_T53 l0 x5_1).f1]):=⟨_,rfl⟩
       replace H:(racewayref29_object.l0 k1 l0 y214 y218 (wrap64 (x5_1+1)))=some r:=by first|(rw [hy218];with_reducible exact H)|(have H2_:=(Option.bind_some _ _).symm.trans H;rw [hy218];with_reducible exact H2_)|(have H2_:=(Option.bind_some _ _).symm.trans H;with_reducible exact H2_)|with_reducible exact H|(rw [hy218];exact H)|exact H
       have Ny218:=Aside0.mk hy218
       clear hy218
       have H':=Aside0.mk H
       clear H
       have p213:0≤(x5_1:Int):=of_decide_eq_true au7
       have q213:x5_1<(l0.length:Int):=of_decide_eq_true au7
       obtain ⟨ad213,A213_1,c213_1,e213,hx213_0,hx213_1,hl213_1,hi213_1⟩:=at_T53 (Kd.V_reads' HO_0.out).2.2 x5_1 p213 q213
       cases e213
       obtain ⟨ce213,hce213,hMe213,hcc213⟩:=Kd.V_get HO_0.out z53 x5_1 p213 (by first|exact q213|exact of_decide_eq_true au7|(have e_:=(Kd.V_reads' HO_0.out).1;omega))
       obtain ⟨ua213_1,uc213_1,rfl,ul213_1,ge213_1⟩:=k53_openF hMe213
       have hv213_1:=hcc213 1 _ rfl
       rw [add_field _ _ 1 au0] at hv213_1
       replace hv213_1:=Option.some.inj (hv213_1.symm.trans hx213_1)
       injection hv213_1 with hva_ hvn_ hvc_
       rw [hva_] at ge213_1
       rw [hvc_] at ul213_1
       have HL213_1:=Aside0.mk (show Kd.V k24 24 _ w.heap.size _ _ ((rd_T53 l0 x5_1).f1) from Kd.V_mk ul213_1 ge213_1)
       clear hva_ hvn_ hvc_ ge213_1 ul213_1
       clear hcc213 hce213
       have HR213_1:=Aside0.mk hi213_1
       have HC213_1:=Aside0.mk hl213_1
       clear hi213_1 hl213_1
       replace p213:=eq_true p213
       replace q213:=eq_true q213
       go_wp2_with (first|((with_reducible refine gate_builtin (b:=.append) (xs:=#[.tmp 12,.tmp 18]) rfl ?_);at_builtin;refine Kd.R_append Kd.string (w0:=w) w.heap.size rfl (.tmp 12) (.tmp 18) 42 9 (.string ⟨#[]⟩) 16 rfl Tryd.underlying42 info9 rfl au1 au0 u3 x3_1 ((rd_T53 l0 x5_1).f0) [.string ((rd_T53 l0 x5_1).f0)] (fun k_=>(w.heap.size≤k_)) (fun _=>False) rfl rfl ?aP (fun _ hk=>hk.elim) ?aF ?aO ?aB ?aS ?aL ?_;(case aP=>exact rfl);(case aB=>exact au3);(case aF=>exact(fun k_ hk=>(Nat.le_trans (below_size au3) hk)));(case aO=>exact au22);(case aS=>exact(below_size au3));(case aL=>have:=LMc4.out;omega);intro v215 w6 ho hb hg hat;rw [← Ny214.out] at ho;have n0_:=Aside0.mk (Kd.V_afterv (ok:=(fun k_=>(P0_ k_∨w.heap.size≤k_)∧some k_≠(u4:Value).ownBlock)) (by(with_reducible repeat(first|apply Kd.V_alloc|apply Kd.V_drewN|apply Kd.V_drew));exact Kd.V_mono HO_0.out (fun _ hk=>⟨⟨hk.1,hk.2.2⟩,hk.2.1⟩)) hg hat);have n1_:=Aside0.mk (Kd.N_afterv (ok:=(fun k_=>(P0_ k_∨w.heap.size≤k_))) au62 hg hat);have n2_:=Aside0.mk (Kd.V_afterv (ok:=(fun k_=>(P0_ k_∨w.heap.size≤k_)∧some k_≠(u4:Value).ownBlock)) (by(with_reducible repeat(first|apply Kd.V_alloc|apply Kd.V_drewN|apply Kd.V_drew));exact Kd.V_mono HL213_1.out (fun _ hk=>⟨⟨hk.1,hk.2.2⟩,hk.2.1⟩)) hg hat);have n3_:=Aside0.mk (hb);have n4_:=Aside0.mk (ho);clear HO_0;clear HO_4;clear HL213_1;clear HB;clear HO_3;have HO_0:=n0_;have HO_4:=n1_;have HL213_1:=n2_;have HB:=n3_;have HO216:=n4_;clear n0_ n1_ n2_ n3_ n4_;clear ho hb hg hat;have p217:0≤(x5_1:Int):=of_decide_eq_true au7;have q217:x5_1<(l0.length:Int):=of_decide_eq_true au7;obtain ⟨ad217,A217_1,c217_1,e217,hx217_0,hx217_1,hl217_1,hi217_1⟩:=at_T53 (Kd.V_reads' HO_0.out).2.2 x5_1 p217 q217;obtain rfl:ad213=ad217:=(by injection e217);obtain ⟨ce217,hce217,hMe217,hcc217⟩:=Kd.V_get HO_0.out z53 x5_1 p217 (by first|exact q217|exact of_decide_eq_true au7|(have e_:=(Kd.V_reads' HO_0.out).1;omega));obtain ⟨ua217_1,uc217_1,rfl,ul217_1,ge217_1⟩:=k53_openF hMe217;have hv217_1:=hcc217 1 _ rfl;rw [add_field _ _ 1 au0] at hv217_1;replace hv217_1:=Option.some.inj (hv217_1.symm.trans hx217_1);injection hv217_1 with hva_ hvn_ hvc_;rw [hva_] at ge217_1;rw [hvc_] at ul217_1;have HL217_1:=Aside0.mk (show Kd.V k24 24 _ w.heap.size _ _ ((rd_T53 l0 x5_1).f1) from Kd.V_mk ul217_1 ge217_1);clear hva_ hvn_ hvc_ ge217_1 ul217_1;clear hcc217 hce217;have HR217_1:=Aside0.mk hi217_1;have HC217_1:=Aside0.mk hl217_1;clear hi217_1 hl217_1;replace p217:=eq_true p217;replace q217:=eq_true q217)|((with_reducible refine gate_builtin (b:=.append) (xs:=#[.tmp 20,.tmp 26]) rfl ?_);at_builtin;refine Kd.N_append (Kd.slice 24 k24) (w0:=w) w.heap.size rfl (.tmp 20) (.tmp 26) 43 22 (.slice none 0 0) 24 rfl Tryd.underlying43 info22 rfl au1 au0 u4 x4_1 ((rd_T53 l0 x5_1).f1) [.slice A217_1 ((rd_T53 l0 x5_1).f1).length c217_1] (fun k_=>(P0_ k_∨w.heap.size≤k_)∧some k_≠(v215:Value).ownBlock) (fun k_=>((fun k_=>(P0_ k_∨w.heap.size≤k_)∧some k_≠(v215:Value).ownBlock)) k_∧some k_≠(u4:Value).ownBlock) rfl rfl ?aP (fun _ hk=>hk) ?aF ?aO ?aB ?aS ?aL ?_;(case aP=>exact(Kd.FK_slice_mk (Kd.V_reads' (Kd.V_mono (ok':=(fun k_=>((fun k_=>(P0_ k_∨w.heap.size≤k_)∧some k_≠(v215:Value).ownBlock)) k_∧some k_≠(u4:Value).ownBlock)) (HL217_1.out) (fun k_ hk=>⟨⟨hk.1.1,hk.2⟩,hk.1.2⟩))).2.1 (Kd.V_F (Kd.V_mono (ok':=(fun k_=>((fun k_=>(P0_ k_∨w.heap.size≤k_)∧some k_≠(v215:Value).ownBlock)) k_∧some k_≠(u4:Value).ownBlock)) (HL217_1.out) (fun k_ hk=>⟨⟨hk.1.1,hk.2⟩,hk.1.2⟩)))));(case aB=>exact au3);(case aF=>exact(fun k_ hk=>⟨(.inr (Nat.le_trans (below_size au3) hk)),Kd.fresh' (Kd.R_lt au71) k_ hk⟩));(case aO=>exact au62);(case aS=>exact(below_size au3));(case aL=>have:=LMc5.out;omega);intro v219 w7 ho hb hg hat;rw [← Ny218.out] at ho;have n0_:=Aside0.mk (Kd.V_afterv (ok:=(fun k_=>(P0_ k_∨w.heap.size≤k_)∧some k_≠(v215:Value).ownBlock)) (by(with_reducible repeat(first|apply Kd.V_alloc|apply Kd.V_drewN|apply Kd.V_drew));exact Kd.V_mono HO_0.out (fun _ hk=>⟨⟨hk.1.1,hk.2⟩,hk.1.2⟩)) hg hat);have n1_:=Aside0.mk (Kd.V_afterv (ok:=(fun k_=>(P0_ k_∨w.heap.size≤k_)∧some k_≠(v215:Value).ownBlock)) (by(with_reducible repeat(first|apply Kd.V_alloc|apply Kd.V_drewN|apply Kd.V_drew));exact Kd.V_mono HL213_1.out (fun _ hk=>⟨⟨hk.1.1,hk.2⟩,hk.1.2⟩)) hg hat);have n2_:=Aside0.mk (Kd.R_over' au71 (Kd.N_typed au62) au1 hg);have n3_:=Aside0.mk (Kd.V_afterv (ok:=(fun k_=>(P0_ k_∨w.heap.size≤k_)∧some k_≠(v215:Value).ownBlock)) (by(with_reducible repeat(first|apply Kd.V_alloc|apply Kd.V_drewN|apply Kd.V_drew));exact Kd.V_mono HL217_1.out (fun _ hk=>⟨⟨hk.1.1,hk.2⟩,hk.1.2⟩)) hg hat);have n4_:=Aside0.mk (hb);have n5_:=Aside0.mk (ho);clear HO_0;clear HL213_1;clear HO216;clear HL217_1;clear HB;clear HO_4;have HO_0:=n0_;have HL213_1:=n1_;have HO216:=n2_;have HL217_1:=n3_;have HB:=n4_;have HO220:=n5_;clear n0_ n1_ n2_ n3_ n4_ n5_;clear ho hb hg hat))
       go_roundg k1
       case measure=>have:=HK1.out;omega
       case rel=>exact ⟨(y214),(y218),(wrap64 (x5_1+1)),au4,au9,⟨by have:=HK1.out;omega⟩,⟨by(with_reducible repeat(first|apply Kd.V_alloc|apply Kd.V_drewN|apply Kd.V_drew));exact Kd.V_mono HO_0.out (fun _ hk=>⟨hk.1.1,⟨hk.1.2,hk.2⟩⟩)⟩,⟨au71⟩,⟨by(with_reducible repeat(first|apply Kd.N_alloc|apply Kd.N_drewN|apply Kd.N_drew));exact HO220.out⟩,⟨au3⟩⟩
      ·rw [if_neg c5] at H
       exact absurd H au5
     ·rw [if_neg c4] at H
      exact absurd H au5
    ·rw [if_neg c3] at H
     exact absurd H au5
   ·rw [if_neg c2] at H
    have c2b0:decide (x5_1<(l0.length:Int))=false:=decide_eq_false c2
    clear c2
    replace H:=Option.bind_eq_some_iff.mp H
    obtain ⟨t221,A80,H⟩:=H
    replace H:(some t221)=some r:=H
    have A8:=Aside0.mk A80
    clear A80
    obtain rfl:=Option.some.inj H
    obtain ⟨Ao9,co9,eo9⟩:=Kd.R_slice HO_3.out
    subst eo9
    obtain ⟨Ao10,co10,eo10⟩:=Kd.N_slice HO_4.out
    subst eo10
    go_wp2_with (first|((with_reducible refine gate_callee (f:=42) rfl ?_);refine goesL_ (some 30) rfl rfl Tryd.func42 au2 rfl #[.int .i64 7,.slice Ao9 x3_1.length co9,.slice Ao10 x4_1.length co10] rfl au10 ?_;(with_reducible refine(racewayref25_Made.calls k1 7 _ _ x3_1 _ _ x4_1 t221 _ ?side1 ?side2 ?side3 ?side4 A8.out).mono ?_);(case side1=>repeat(first|exact(Kd.R_reads' HO_3.out).2.2|(with_reducible refine Kd.C_alloc ?_ _)|(with_reducible refine Kd.C_drewN ?_ _)|(with_reducible refine Kd.C_drew ?_)));(case side2=>exact(Kd.R_reads' HO_3.out).2.1);(case side3=>repeat(first|exact(Kd.N_reads' HO_4.out).2.2|(with_reducible refine Kd.C_alloc ?_ _)|(with_reducible refine Kd.C_drewN ?_ _)|(with_reducible refine Kd.C_drew ?_)));(case side4=>exact(Kd.N_reads' HO_4.out).2.1);rintro e w11 ⟨v222,rfl,ho0,hb⟩;refine ⟨_,rfl,?_⟩;have n0_:=Aside0.mk (Kd.V_elder' (by(with_reducible repeat(first|apply Kd.V_alloc|apply Kd.V_drewN|apply Kd.V_drew));exact HO_0.out) (Kd.R_base ho0) hb);have n1_:=Aside0.mk (Kd.R_below au22 hb);have n2_:=Aside0.mk (Kd.N_elder' au62 (Kd.R_base ho0) hb);have n3_:=Aside0.mk (Kd.R_lower (Kd.R_newM (M:=fun k_=>(w.heap.size≤k_)) ho0 (below_size au3) (fun k_ h_=>h_)) (below_size au3));have n4_:=Aside0.mk (below_step au3 hb);clear HO_0;clear HO_3;clear HO_4;clear HB;have HO_0:=n0_;have HO_3:=n1_;have HO_4:=n2_;have HO223:=n3_;have HB:=n4_;clear n0_ n1_ n2_ n3_ n4_;(try clear hb);(try clear hb2);(try clear hk);(try clear hi);(try clear ho0)))
    go_ret
    exact ⟨_,au12,by(with_reducible repeat(first|apply Kd.R_alloc|apply Kd.R_drewN|apply Kd.R_drew));exact Kd.R_mono HO223.out (fun _ hk=>hk.1),au3⟩
def racewayref29_text.f (k:Nat) (a0:ByteArray) (a1:ByteArray):Option (ByteArray × (List (S24))):=(racewayref29_Shown.f k a1).bind fun t225=>(some (a0,(([(⟨5,1,0,(⟨#[]⟩:ByteArray),t225⟩:S24)]:List (S24)))))
set_option maxHeartbeats 8000000 in
set_option maxRecDepth 100000 in
theorem racewayref29_text.calls (k:Nat) (a0:ByteArray) (a1:ByteArray) (r1:ByteArray) (r2:List (S24)) (w:World) (h:racewayref29_text.f k a0 a1=some (r1,r2)) :
  Calls Tryd.prog 26 #[.string a0,.string a1] w fun e w'=>∃ v1_:Value,e=.returned (.agg #[.string r1,v1_])∧Kd.R k24 24 w' w.heap.size (fun _=>True) v1_ r2∧Below w.heap.size w w':=by
 have hu53:=Tryd.underlying53
 have hu24:=Tryd.underlying24
 have HB:=Aside0.mk (Below.refl w.heap.size w)
 have H:((racewayref29_Shown.f k a1).bind fun t225=>(some (a0,(([(⟨5,1,0,(⟨#[]⟩:ByteArray),t225⟩:S24)]:List (S24))))))=some (r1,r2):=h
 clear h
 replace H:=Option.bind_eq_some_iff.mp H
 obtain ⟨t225,A30,H⟩:=H
 replace H:(some (a0,(([(⟨5,1,0,(⟨#[]⟩:ByteArray),t225⟩:S24)]:List (S24)))))=some (r1,r2):=H
 have A3:=Aside0.mk A30
 clear A30
 obtain ⟨y226,hy226⟩:∃ y_:List (S24),y_=(([(⟨5,1,0,(⟨#[]⟩:ByteArray),t225⟩:S24)]:List (S24))):=⟨_,rfl⟩
 replace H:(some (a0,y226))=some (r1,r2):=by first|(rw [hy226];with_reducible exact H)|(have H2_:=(Option.bind_some _ _).symm.trans H;rw [hy226];with_reducible exact H2_)|(have H2_:=(Option.bind_some _ _).symm.trans H;with_reducible exact H2_)|with_reducible exact H|(rw [hy226];exact H)|exact H
 have Ny226:=Aside0.mk hy226
 clear hy226
 simp only [Option.some.injEq,Prod.mk.injEq] at H
 obtain ⟨rfl,rfl⟩:=H
 go_enter Tryd.func26,Tryd.ntmps26
 go_wp2_with (first|((with_reducible refine gate_dst (N:=4) rfl ?_);refine box_event ?hg (N:=4) ?hd (cs:=#[.string (⟨#[]⟩:ByteArray),.slice none 0 0]) (t:=53) ?hr ?_;(case hd=>rfl);(case hg=>rfl);(case hr=>first|(go_simp;done)|(go_simp;rfl));intro gb224 hg w4 hbox hb;have n0_:=Aside0.mk (below_step au3 hb);have n1_:=Aside0.mk (hbox);have n2_:=Aside0.mk ((by rw [hg];exact(below_size au3):w.heap.size≤gb224));have n3_:=Aside0.mk ((by rw [hg];exact(below_size au3):w.heap.size≤gb224));clear HB;have HB:=n0_;have BK224:=n1_;have GW224:=n2_;have GE224:=n3_;clear n0_ n1_ n2_ n3_;clear hb hbox hg)|((with_reducible refine gate_callee (f:=15) rfl ?_);refine goesL_ (some 7) rfl rfl Tryd.func15 au2 rfl #[.string a1] rfl au10 ?_;(with_reducible refine(racewayref29_Shown.calls k a1 t225 _ A3.out).mono ?_);rintro e w5 ⟨rfl,hb⟩;refine ⟨_,rfl,?_⟩;have n0_:=Aside0.mk (blk_below (g:=gb224) (o:=.cells #[.string (⟨#[]⟩:ByteArray),.slice none 0 0] 53 (0,0)) (by(with_reducible repeat(first|refine blk_drewN ?_ _|refine blk_drew ?_|refine blk_alloc ?_ _));exact BK224.out) hb);have n1_:=Aside0.mk (below_step (by repeat(first|(with_reducible first|exact HB.out|apply below_alloc|apply pw_below_drewN|apply below_drew1|refine below_set ?_ GE224.out)|exact HB.out)) hb);clear BK224;clear HB;have BK224:=n0_;have HB:=n1_;clear n0_ n1_;(try clear hb);(try clear hb2);(try clear hk);(try clear hi))|((with_reducible refine gate_dst (N:=9) rfl ?_);refine Kd.R_lit k24 _ 24 ?hg (N:=9) ?hd (xs:=([(⟨5,1,0,(⟨#[]⟩:ByteArray),t225⟩:S24)]:List (S24))) (inner:=[.int .i64 5,.int .i64 1,.int .i64 0,.string (⟨#[]⟩:ByteArray),.string t225]) (ok:=fun _=>True) (okp:=fun _=>True) ?hr ?hp (fun _ hk=>hk) trivial (Below.refl _ _) (Nat.le_refl _) au5 ?_;(case hd=>rfl);(case hg=>rfl);(case hr=>first|(go_simp;done)|(go_simp;rfl));(case hp=>exact(Reps.c5 (show Kd.M k24 _ _ _ (⟨5,1,0,(⟨#[]⟩:ByteArray),t225⟩:S24) [.int .i64 5,.int .i64 1,.int .i64 0,.string (⟨#[]⟩:ByteArray),.string t225] from (k24_mkM _ _ _ (⟨5,1,0,(⟨#[]⟩:ByteArray),t225⟩:S24) )) (Reps.none _ _)));intro v227 w6 ho7 hb hg_ hnew_;clear hg_ hnew_;(first|rw [← Ny226.out] at ho7|(simp only [Int.reduceToNat] at ho7;rw [← Ny226.out] at ho7));have n0_:=Aside0.mk (Kd.R_lower ho7 (below_size (by repeat(first|(with_reducible first|exact HB.out|apply below_alloc|apply pw_below_drewN|apply below_drew1|refine below_set ?_ GE224.out)|exact HB.out))));have n1_:=Aside0.mk (blk_below (g:=gb224) (o:=.cells #[.string (⟨#[]⟩:ByteArray),.slice none 0 0] 53 (0,0)) (by(with_reducible repeat(first|refine blk_drewN ?_ _|refine blk_drew ?_|refine blk_alloc ?_ _));exact BK224.out) hb);have n2_:=Aside0.mk (below_step (by repeat(first|(with_reducible first|exact HB.out|apply below_alloc|apply pw_below_drewN|apply below_drew1|refine below_set ?_ GE224.out)|exact HB.out)) hb);clear BK224;clear HB;have HO228:=n0_;have BK224:=n1_;have HB:=n2_;clear n0_ n1_ n2_;clear hb ho7;obtain ⟨Ao8,co8,eo8⟩:=Kd.R_slice HO228.out;subst eo8;have hcz9_0:w6.cell? ⟨gb224,0,none⟩=some (.string (⟨#[]⟩:ByteArray)):=(blk_cell BK224.out 0).trans rfl;have hcz9_1:w6.cell? ⟨gb224,1,none⟩=some (.slice none 0 0):=(blk_cell BK224.out 1).trans rfl;have hfz9_0:=blk_frozen BK224.out 0;have hfz9_1:=blk_frozen BK224.out 1))
 refine bodyPost_ret (results_cell_row rfl _ _ gb224 53 #[.string a0,.slice Ao8 y226.length co8] (0,0) _ rfl (by(with_reducible repeat(first|refine blk_drewN ?_ _|refine blk_drew ?_|refine blk_alloc ?_ _));refine blk_put (cs:=#[.string a0,.slice none 0 0]) ?_ 1 _ rfl;(with_reducible repeat(first|refine blk_drewN ?_ _|refine blk_drew ?_|refine blk_alloc ?_ _));refine blk_put (cs:=#[.string (⟨#[]⟩:ByteArray),.slice none 0 0]) ?_ 0 _ rfl;(with_reducible repeat(first|refine blk_drewN ?_ _|refine blk_drew ?_|refine blk_alloc ?_ _));exact BK224.out) Tryd.underlying53 rfl au2) rfl ?_
 exact ⟨_,au12,by(with_reducible repeat(first|apply Kd.R_alloc|apply Kd.R_drewN|apply Kd.R_drew));exact Kd.R_mono (Kd.R_far (p:=⟨gb224,1,none⟩) (Kd.R_far (p:=⟨gb224,0,none⟩) (Kd.R_types HO228.out BK224.out au1) (fun _ hk=>hk.2) (.string a0)) (fun _ hk=>hk.2) (.slice Ao8 y226.length co8)) (fun _ hk=>trivial),by repeat(first|(with_reducible first|exact HB.out|apply below_alloc|apply pw_below_drewN|apply below_drew1|refine below_set ?_ GE224.out)|exact HB.out)⟩
end Go.Proofs.YtjehflambbjoaaaDoor.X
namespace Go.Proofs.YtjehflambbjoaaaDoor.Pure
open Go.Proofs.YtjehflambbjoaaaDoor.X Go.RowKit Go.Proofs.YtjehflambbjoaaaDoorW.PrintWords Go.Proofs.YtjehflambbjoaaaDoorW.PrintMore
def sh64:Bs:=[98,97,115,101,54,52,58]
def shown (s:Bs):Bs:=if Lib.validD s=true then s else sh64++encR (s.map fun c=>(c.toNat:Int))
theorem signB_lt (x:Int):(signB x).toNat<128:=by
 unfold signB
 rw [List.getD_eq_getElem?_getD]
 generalize x.toNat=n
 by_cases h:n<64
 ·revert n
  decide
 ·rw [List.getElem?_eq_none au16]
  decide
theorem encR_lt:∀ l:List Int,∀ b∈encR l,b.toNat<128
 | [],b,h=>by simp [encR] at h
 | [x],b,h=>by
  simp only [encR,List.mem_cons,List.not_mem_nil,or_false] at h
  rcases h with rfl|rfl|rfl|rfl<;>first|exact signB_lt _|decide
 | [x,y],b,h=>by
  simp only [encR,List.mem_cons,List.not_mem_nil,or_false] at h
  rcases h with rfl|rfl|rfl|rfl<;>first|exact signB_lt _|decide
 | x :: y :: z :: l,b,h=>by
  simp only [encR,List.mem_cons] at h
  rcases h with rfl|rfl|rfl|rfl|h<;>first|exact signB_lt _|exact encR_lt l b h
theorem encR_size:∀ l:List Int,(encR l).length≤2*l.length+4
 | []=>by simp [encR]
 | [x]=>by simp [encR]
 | [x,y]=>by simp [encR]
 | x :: y :: z :: l=>by have:=encR_size l;simp only [encR,List.length_cons];omega
theorem shown_valid (s:Bs):Lib.validD (shown s)=true:=by
 unfold shown
 split
 ·assumption
 ·rw [Lib.validD_ascii (sh64++encR (s.map fun c=>(c.toNat:Int))).length _ (fun b hb=>?_),List.drop_length]
  ·rfl
  ·rw [List.take_length] at hb
   rcases List.mem_append.1 hb with h|h
   ·clear hb
    revert b
    decide
   ·exact encR_lt _ b h
theorem shown_size (s:Bs):(shown s).length≤2*s.length+11:=by
 unfold shown
 split
 ·omega
 ·have:=encR_size (s.map fun c=>(c.toNat:Int))
  simp only [List.length_append,List.length_map] at this ⊢
  simp only [sh64,List.length_cons,List.length_nil]
  omega
theorem shown_both (s:Bs) (hs:s.length≤70000) (k:Nat) (hk:2000000≤k):response_Shown.f (str s)=some (str (shown s))∧racewayref29_Shown.f k (str s)=some (str (shown s)):=by
 have hv:=valid_is (str s) au25 k au25
 have hsl:(str s).data.toList=s:=rfl
 have hb:byteL (bytesOf (str s)):=by
  intro x hx
  simp only [bytesOf,List.mem_map] at hx
  obtain ⟨c,_,rfl⟩:=hx
  have:=c.toNat_lt
  omega
 have hbl:(bytesOf (str s)).length≤70000:=by rw [bytesOf_length,msize];exact hs
 have e1:=Encode_is (bytesOf (str s)) hb au0
 have e2:=rEncode_is (bytesOf (str s)) hb au0 k au0
 have he:(⟨(encR (bytesOf (str s))).toArray⟩:ByteArray)=str (encR (s.map fun c=>(c.toNat:Int))):=rfl
 have hz:=encR_size (s.map fun c=>(c.toNat:Int))
 rw [List.length_map] at hz
 unfold response_Shown.f racewayref29_Shown.f
 have hz7:(str s).size≤700000:=by rw [msize];omega
 rw [if_pos hz7,if_pos hz7,hv,hsl,Option.bind_some]
 unfold shown
 by_cases h:Lib.validD s=true
 ·simp only [if_pos h]
  exact ⟨trivial,trivial⟩
 ·have hz8:(str (encR (s.map fun c=>(c.toNat:Int)))).size≤100000000:=by rw [msize];omega
  simp only [if_neg h]
  rw [e1,e2,he,Option.bind_some,if_pos hz8]
  exact ⟨congrArg some (mstr_app sh64 _),congrArg some (mstr_app sh64 _)⟩
def leafF (y:Bs):F:=.leaf [] 5 y .nil
theorem leafF_tr (y:Bs) (hv:Lib.validD y=true) (hy:y.length≤1000000) (d:Nat) (hd:1≤d):Tr d 1 (leafF y):=by
 refine ⟨trivial,?_,?_,Nat.le_refl _⟩
 ·simp only [leafF,good,leafB,Bool.and_eq_true,decide_eq_true_eq]
  refine ⟨⟨⟨⟨hd,au5⟩,rfl⟩,?_⟩,trivial⟩
  simpa using hv
 ·unfold fit
  simp only [leafF,F.flat,List.length_cons,List.length_nil,List.all_cons,List.all_nil,Bool.and_true,Bool.and_eq_true,decide_eq_true_eq]
  refine ⟨au1,⟨⟨⟨⟨?_,?_⟩,au1⟩,au1⟩,au1⟩⟩
  ·rw [msize];exact Nat.zero_le _
  ·rw [msize];exact hy
theorem leaf_is (y:Bs) (hv:Lib.validD y=true) (hy:y.length≤1000000) (k:Nat) (hk:14000000≤k):jsontext_Leaf.f k 5 (str y)=some (leafF y).flat:=by
 have h:=((leafF_tr y hv hy 1 (Nat.le_refl _)).checks au0 au0 k hk).1
 have e:([(⟨5,1,0,(⟨#[]⟩:ByteArray),str y⟩:S24)]:List S24)=(leafF y).flat:=rfl
 unfold jsontext_Leaf.f
 rw [e,Option.bind_some,if_neg au1,h,Option.bind_some,if_pos rfl]
def keysOf (all:List (Bs × F)):List ByteArray:=all.map fun q=>str q.1
def treesOf (all:List (Bs × F)):List (List S24):=all.map fun q=>q.2.flat
theorem putL_is (all:List (Bs × F)) (key:Bs) (u:F) (hu:u.one):putL (keysOf all,treesOf all) (str key) u.flat=(keysOf (all++[(key,u)]),treesOf (all++[(key,u)])):=by
 obtain ⟨x,tl,e,_⟩:=setKey_flat [] u hu
 unfold putL
 rw [if_neg (by rw [e];simp)]
 simp [keysOf,treesOf]
theorem txtL_is (all:List (Bs × F)) (key s:Bs) (hs:s.length≤70000) (k:Nat) (hk:14000000≤k):txtL k (keysOf all,treesOf all) (str key) (str s)=some (keysOf (all++[(key,leafF (shown s))]),treesOf (all++[(key,leafF (shown s))])):=by
 unfold txtL
 rw [(shown_both s hs k au0).1,Option.bind_some,leaf_is _ (shown_valid s) (by have:=shown_size s;omega) k hk,Option.bind_some,putL_is all key (leafF (shown s)) trivial]
def memsOf (all:List (Bs × F)):List S53:=all.map fun q=>⟨str q.1,q.2.flat⟩
theorem rtext_is (key s:Bs) (hs:s.length≤70000) (k:Nat) (hk:2000000≤k):racewayref29_text.f k (str key) (str s)=some (str key,(leafF (shown s)).flat):=by
 unfold racewayref29_text.f
 rw [(shown_both s hs k hk).2,Option.bind_some]
 rfl
theorem robj_l0 (B:Nat) (all:List (Bs × F)) (hall:∀ q∈all,Tr 31 B q.2∧Lib.validD q.1=true∧q.1.length≤700000) (hB:B≤1000000) (hn:all.length≤10000):∀(rest:List (Bs × F)) (i k:Nat),all.drop i=rest→14200000+rest.length≤k →
  racewayref29_object.l0 k (memsOf all) (keysOf (all.take i)) (treesOf (all.take i)) (i:Int)=some (objF all).flat
 | [],i,k,h,hk=>by
  obtain ⟨k,rfl⟩:∃ k',k=k'+1:=⟨k - 1,au0⟩
  have hi:all.length≤i:=List.drop_eq_nil_iff.1 h
  have hl:((memsOf all).length:Int)=(all.length:Int):=by simp [memsOf]
  have:=(obj_made B all hall hB hn k au0).2
  rw [racewayref29_object.l0,if_neg au0,List.take_of_length_le hi]
  show(racewayref25_Made.f k 7 (keysOf all) (treesOf all)).bind _=_
  rw [show racewayref25_Made.f k 7 (keysOf all) (treesOf all)=_ from this]
  rfl
 | q :: rest,i,k,h,hk=>by
  simp only [List.length_cons] at hk
  obtain ⟨k,rfl⟩:∃ k',k=k'+1:=⟨k - 1,au0⟩
  have hi:i<all.length:=by
   have:=congrArg List.length h
   simp at this
   omega
  have hr:all.drop (i+1)=rest:=by
   rw [List.drop_eq_getElem_cons hi] at h
   injection h
  have hg:all[i]=q:=by
   rw [List.drop_eq_getElem_cons hi] at h
   injection h
  have hl:((memsOf all).length:Int)=(all.length:Int):=by simp [memsOf]
  have hrd:rd_T53 (memsOf all) (i:Int)=⟨str q.1,q.2.flat⟩:=by
   unfold rd_T53 memsOf
   rw [Int.toNat_natCast,List.getD_eq_getElem?_getD,List.getElem?_map,List.getElem?_eq_getElem hi,hg]
   rfl
  have t1:all.take (i+1)=all.take i++[q]:=by rw [List.take_add_one,List.getElem?_eq_getElem hi,hg];rfl
  have ih:=robj_l0 B all hall hB hn rest (i+1) k hr au0
  rw [t1] at ih
  have e1:keysOf (all.take i++[q])=keysOf (all.take i)++[str q.1]:=by simp [keysOf]
  have e2:treesOf (all.take i++[q])=treesOf (all.take i)++[q.2.flat]:=by simp [treesOf]
  rw [e1,e2] at ih
  have l1:(keysOf (all.take i)).length=i:=by simp only [keysOf,List.length_map,List.length_take];omega
  have l2:(treesOf (all.take i)).length=i:=by simp only [treesOf,List.length_map,List.length_take];omega
  have hw:wrap64 ((i:Int)+1)=((i+1:Nat):Int):=by unfold wrap64;omega
  rw [racewayref29_object.l0,if_pos au0,if_pos au0,if_pos au0,if_pos au0,hrd,hw]
  exact ih
theorem robj_is (B:Nat) (all:List (Bs × F)) (hall:∀ q∈all,Tr 31 B q.2∧Lib.validD q.1=true∧q.1.length≤700000) (hB:B≤1000000) (hn:all.length≤10000) (k:Nat) (hk:14300000≤k):racewayref29_object.f k (memsOf all)=some (objF all).flat :=
 robj_l0 B all hall hB hn all 0 k rfl au0
theorem obj_is (B:Nat) (all:List (Bs × F)) (hall:∀ q∈all,Tr 31 B q.2∧Lib.validD q.1=true∧q.1.length≤700000) (hB:B≤1000000) (hn:all.length≤10000) (k:Nat) (hk:14300000≤k):jsontext_Object.f k (keysOf all) (treesOf all)=some (objF all).flat :=
 (obj_made B all hall hB hn k au0).1
theorem setKey_good (k:Bs) (u:F) (d:Nat) (h1:u.one) (h:good u d false=true) (hk:Lib.validD k=true):good (F.setKey k u) d true=true:=by
 match u,h1 with
 | .leaf _ _ _ .nil,_ =>
  simp only [good,F.setKey,Bool.and_eq_true] at h ⊢
  exact ⟨⟨⟨⟨h.1.1.1.1,au5⟩,hk⟩,h.1.2⟩,trivial⟩
 | .node _ _ _ .nil,_ =>
  simp only [good,F.setKey,Bool.and_eq_true] at h ⊢
  exact ⟨⟨⟨⟨⟨h.1.1.1.1.1,au5⟩,hk⟩,h.1.1.2⟩,h.1.2⟩,trivial⟩
theorem rowF_good (d:Nat):∀ m:List (Bs × F),(∀ q∈m,q.2.one∧good q.2 d false=true∧Lib.validD q.1=true)→good (rowF m) d true=true
 | [],_=>rfl
 | q :: r,h=>by
  obtain ⟨a,b,c⟩:=h q List.mem_cons_self
  rw [rowF,good_app,setKey_good q.1 q.2 d a b c,rowF_good d r (fun p hp=>h p (List.mem_cons_of_mem _ hp))]
  rfl
theorem rowF_mem:∀(m:List (Bs × F)),(∀ q∈m,q.2.one)→∀ x∈(rowF m).flat,∃ q∈m,∃ y∈q.2.flat,x.f0=y.f0∧x.f1=y.f1∧x.f2=y.f2∧x.f4=y.f4∧(x.f3=y.f3∨x.f3=str q.1)
 | [],_,x,hx=>by simp [rowF,F.flat] at hx
 | q :: r,h,x,hx=>by
  rw [rowF,F.flat_app] at hx
  obtain ⟨y,tl,e1,e2,_⟩:=setKey_flat q.1 q.2 (h q List.mem_cons_self)
  rcases List.mem_append.1 hx with hx|hx
  ·rw [e2] at hx
   rcases List.mem_cons.1 hx with rfl|hx
   ·exact ⟨q,List.mem_cons_self,y,by rw [e1];exact List.mem_cons_self,rfl,rfl,rfl,rfl,.inr rfl⟩
   ·exact ⟨q,List.mem_cons_self,x,by rw [e1];exact List.mem_cons_of_mem _ hx,rfl,rfl,rfl,rfl,.inl rfl⟩
  ·obtain ⟨p,hp,z⟩:=rowF_mem r (fun p hp=>h p (List.mem_cons_of_mem _ hp)) x hx
   exact ⟨p,List.mem_cons_of_mem _ hp,z⟩
theorem rowF_len (B:Nat):∀(m:List (Bs × F)),(∀ q∈m,q.2.one∧q.2.flat.length≤B)→(rowF m).flat.length≤m.length*B
 | [],_=>Nat.zero_le _
 | q :: r,h=>by
  obtain ⟨a,b⟩:=h q List.mem_cons_self
  obtain ⟨y,tl,e1,e2,_⟩:=setKey_flat q.1 q.2 a
  have ih:=rowF_len B r (fun p hp=>h p (List.mem_cons_of_mem _ hp))
  rw [e1] at b
  have e:(r.length+1)*B=r.length*B+B:=Nat.succ_mul _ _
  rw [rowF,F.flat_app,List.length_append,e2,List.length_cons,List.length_cons,e]
  simp only [List.length_cons] at b
  omega
theorem fit_all {l:List S24} (hl:l.length≤1000000) (h:∀ x∈l,x.f3.size≤1000000∧x.f4.size≤1000000∧x.f2≤9223372036854775807 ∧ -9223372036854775808≤x.f1∧x.f1≤9223372036854775807):fit l=true:=by
 unfold fit
 simp only [Bool.and_eq_true,decide_eq_true_eq,List.all_eq_true]
 exact ⟨au0,fun x hx=>⟨⟨⟨⟨(h x hx).1,(h x hx).2.1⟩,(h x hx).2.2.1⟩,(h x hx).2.2.2.1⟩,(h x hx).2.2.2.2⟩⟩
theorem objF_tr (d B C:Nat) (all:List (Bs × F)) (hall:∀ q∈all,Tr d B q.2∧Lib.validD q.1=true∧q.1.length≤700000) (hC:all.length*B+1≤C) (hC2:C≤1000000) (hn:all.length≤10000):Tr (d+1) C (objF all):=by
 have hlen:=rowF_len B all (fun q hq=>⟨(hall q hq).1.one,(hall q hq).1.len⟩)
 have hcnt:=rowF_count all (fun q hq=>(hall q hq).1.one)
 have hfl:(objF all).flat=(⟨7,((rowF all).flat.length+1:Nat),((rowF all).count:Nat),str [],str []⟩:S24) :: (rowF all).flat:=by
  rw [objF,F.flat]
  simp [F.flat]
 have hl2:(objF all).flat.length≤C:=by rw [hfl,List.length_cons];omega
 refine ⟨trivial,?_,fit_all au0 (fun x hx=>?_),hl2⟩
 ·simp only [objF,good,Bool.and_eq_true]
  refine ⟨⟨⟨⟨⟨decide_eq_true au0,au5⟩,rfl⟩,au5⟩,?_⟩,trivial⟩
  exact rowF_good d all (fun q hq=>⟨(hall q hq).1.one,(hall q hq).1.good,(hall q hq).2.1⟩)
 ·rw [hfl] at hx
  rcases List.mem_cons.1 hx with rfl|hx
  ·refine ⟨by simp [str,ByteArray.size],by simp [str,ByteArray.size],?_,?_,?_⟩<;>simp only<;>omega
  ·obtain ⟨q,hq,y,hy,e0,e1,e2,e4,e3⟩:=rowF_mem all (fun q hq=>(hall q hq).1.one) x hx
   have hf:=fit_at (hall q hq).1.fit hy
   rw [e4,e1,e2]
   refine ⟨?_,hf.2⟩
   rcases e3 with e3|e3
   ·rw [e3];exact hf.1
   ·rw [e3,msize]
    have:=(hall q hq).2.2
    omega
theorem out_len (M C:Nat) (hC:12*M+20≤C):∀(f:F) (ob first:Bool),(∀ x∈f.flat,x.f3.size≤M∧x.f4.size≤M)→(f.out ob first).length≤f.flat.length*C
 | .nil,ob,first,h=>by simp [F.out]
 | .leaf k kd t r,ob,first,h=>by
  have ih:=out_len M C hC r ob false (fun x hx=>h x (by simp [F.flat,hx]))
  have h1:=h ⟨kd,1,0,str k,str t⟩ au21
  simp only [msize] at h1
  have hk:=quote_len k
  have ht:=quote_len t
  have hlt:(ltx kd t).length≤6*t.length+7:=by
   unfold ltx
   repeat' split
   all_goals try simp only [List.length_cons,List.length_nil]
   all_goals omega
  have hc:(if first then([]:Bs) else [44]).length≤1:=by split<;>simp
  have hq:(if ob then quote k++[58] else([]:Bs)).length≤6*k.length+3:=by
   split
   ·simp only [List.length_append,List.length_cons,List.length_nil]
    omega
   ·simp
  simp only [F.out,F.flat,List.length_append,List.length_cons]
  rw [Nat.succ_mul]
  omega
 | .node k kd ks r,ob,first,h=>by
  have ih:=out_len M C hC r ob false (fun x hx=>h x (by simp [F.flat,hx]))
  have ihk:∀ b,(ks.out b true).length≤ks.flat.length*C:=fun b=>out_len M C hC ks b true (fun x hx=>h x (by simp [F.flat,hx]))
  have h1:=h ⟨kd,(ks.flat.length+1:Nat),(ks.count:Nat),str k,str []⟩ au21
  simp only [msize] at h1
  have hk:=quote_len k
  have hc:(if first then([]:Bs) else [44]).length≤1:=by split<;>simp
  have hq:(if ob then quote k++[58] else([]:Bs)).length≤6*k.length+3:=by
   split
   ·simp only [List.length_append,List.length_cons,List.length_nil]
    omega
   ·simp
  have hn:(if kd=7 then 123 :: (ks.out true true++[125]) else 91 :: (ks.out false true++[93])).length≤ks.flat.length*C+2:=by
   have a:=ihk true
   have b:=ihk false
   split
   ·simp only [List.length_append,List.length_cons,List.length_nil]
    omega
   ·simp only [List.length_append,List.length_cons,List.length_nil]
    omega
  simp only [F.out,F.flat,List.length_append,List.length_cons]
  rw [Nat.succ_mul,Nat.add_mul]
  omega
theorem print_both {d B:Nat} {t:F} (h:Tr d B t) (hd:d≤32) (hB:B≤1000000) (k:Nat) (hk:20000000≤k):jsontext_Print.f t.flat=some (str t.txt,0)∧racewayref25_Print.f k t.flat=some (str t.txt,0):=by
 have hfl:=h.len
 have ht:=h.tree hd
 have hfx:∀ x∈t.flat,x.f3.size≤1000000∧x.f4.size≤1000000:=fun x hx=>⟨(fit_at h.fit hx).1,(fit_at h.fit hx).2.1⟩
 have ho:=out_len 1000000 12000020 au0 t false true hfx
 have hm:t.flat.length*12000020≤1000000*12000020:=Nat.mul_le_mul_right _ au0
 have hw:=writ_tree t.flat h.fit au0 h.one (tree_flat ht).2.2 [] 0 k au5 au0 au0
 refine ⟨?_,?_⟩
 ·unfold jsontext_Print.f
  rw [if_pos h.fit,ht]
  simp only
  rw [if_pos (by unfold F.txt;omega)]
 ·unfold racewayref25_Print.f
  rw [(h.checks hd hB k au0).2,Option.bind_some,if_pos rfl]
  rw [show racewayref25_written.f k t.flat 0=some (str (t.out false true)) from hw]
  rfl
end Go.Proofs.YtjehflambbjoaaaDoor.Pure
namespace Go.Proofs.YtjehflambbjoaaaDoor.X
open Go.RowKit Go.Proofs.YtjehflambbjoaaaDoorW.PrintWords Go.Proofs.YtjehflambbjoaaaDoorW.PrintLast Go.Proofs.YtjehflambbjoaaaDoorW.PrintMore
def strings_Replace.f (s old new:ByteArray) (n:Int):Option ByteArray :=
 if s.size<4294967281∧1≤old.size∧new.size≤16 then some ⟨(Lib.replace s.data.toList old.data.toList new.data.toList n).toArray⟩ else none
theorem strings_Replace.calls (a0 a1 a2:ByteArray) (a3:Int) (r:ByteArray) (w:World) (hGMax:GlobMax w) (h:strings_Replace.f a0 a1 a2 a3=some r) :
  Calls Tryd.prog 66 #[.string a0,.string a1,.string a2,.int .i64 a3] w fun e w'=>e=.returned (.string r)∧Below w.heap.size w w':=by
 unfold strings_Replace.f at h
 split at h
 ·rename_i hh
  obtain rfl:=Option.some.inj h
  obtain ⟨_,m,hm⟩:=hGMax
  have hc:=Lib.countB_le a1 hh.2.1 _ a0 (Nat.le_refl _)
  have hm2:=Nat.mul_le_mul hc hh.2.2
  exact Tryd.strings_Replace a0 a1 a2 a3 m w hh.1 hm hh.2.1 au0
 ·exact absurd h au5
attribute [local go_sem] max2_int min2_int max_two min_two max_three min_three max_four min_four
def strings_ReplaceAll.f (a0:ByteArray) (a1:ByteArray) (a2:ByteArray):Option (ByteArray):=(strings_Replace.f a0 a1 a2 (-1)).bind fun t311=>(some t311)
set_option maxHeartbeats 8000000 in
set_option maxRecDepth 100000 in
theorem strings_ReplaceAll.calls (a0:ByteArray) (a1:ByteArray) (a2:ByteArray) (r:ByteArray) (w:World) (hGMax:GlobMax w) (h:strings_ReplaceAll.f a0 a1 a2=some r) :
  Calls Tryd.prog 59 #[.string a0,.string a1,.string a2] w fun e w'=>e=.returned (.string r)∧Below w.heap.size w w':=by
 have HGMax:=Aside0.mk hGMax
 clear hGMax
 have HB:=Aside0.mk (Below.refl w.heap.size w)
 have H:((strings_Replace.f a0 a1 a2 (-1)).bind fun t311=>(some t311))=some r:=h
 clear h
 replace H:=Option.bind_eq_some_iff.mp H
 obtain ⟨t311,A40,H⟩:=H
 replace H:(some t311)=some r:=H
 have A4:=Aside0.mk A40
 clear A40
 obtain rfl:=Option.some.inj H
 go_enter Tryd.func59,Tryd.ntmps59
 go_wp2_with (first|((with_reducible refine gate_callee (f:=66) rfl ?_);refine goesL_ (some 10) rfl rfl Tryd.func66 au2 rfl #[.string a0,.string a1,.string a2,.int .i64 (-1)] rfl au10 ?_;(with_reducible refine(strings_Replace.calls a0 a1 a2 (-1) t311 _ ?side1 A4.out).mono ?_);(case side1=>first|exact HGMax.out|exact GlobMax.below HGMax.out au3|exact GlobMax.drawn HGMax.out au8);rintro e w5 ⟨rfl,hb⟩;refine ⟨_,rfl,?_⟩;have n0_:=Aside0.mk (below_step au3 hb);clear HB;have HB:=n0_;clear n0_;(try clear hb);(try clear hb2);(try clear hk);(try clear hi)))
 go_ret
 exact ⟨au12,au3⟩
def response_safe.l0:Nat→ByteArray→List (S100)→Int→Int→Option (ByteArray)
 | 0,_,_,_,_=>none
 | k+1,x0,x9,x10,x11=>if x11<x10 then(if 0≤x11 then(if x11<(x9.length:Int) then((strings_ReplaceAll.f x0 ((rd_T100 x9 x11).f0) ((rd_T100 x9 x11).f1)).bind fun t317=>(response_safe.l0 k t317 x9 x10 (wrap64 (x11+1)))) else(none)) else(none)) else(some x0)
def response_safe.f (k:Nat) (a0:ByteArray):Option (ByteArray):=(some (([(⟨(⟨#[38]⟩:ByteArray),(⟨#[38,97,109,112,59]⟩:ByteArray)⟩:S100),(⟨(⟨#[60]⟩:ByteArray),(⟨#[38,108,116,59]⟩:ByteArray)⟩:S100),(⟨(⟨#[62]⟩:ByteArray),(⟨#[38,103,116,59]⟩:ByteArray)⟩:S100),(⟨(⟨#[34]⟩:ByteArray),(⟨#[38,113,117,111,116,59]⟩:ByteArray)⟩:S100)]:List (S100)):List (S100))).bind fun y312=>(response_safe.l0 k a0 y312 (y312.length:Int) 0)
set_option maxHeartbeats 8000000 in
set_option maxRecDepth 100000 in
theorem response_safe.calls (k:Nat) (a0:ByteArray) (r:ByteArray) (w:World) (hGMax:GlobMax w) (h:response_safe.f k a0=some r) :
  Calls Tryd.prog 48 #[.string a0] w fun e w'=>e=.returned (.string r)∧Below w.heap.size w w':=by
 have hu100:=Tryd.underlying100
 have HGMax:=Aside0.mk hGMax
 clear hGMax
 have HB:=Aside0.mk (Below.refl w.heap.size w)
 have H:((some (([(⟨(⟨#[38]⟩:ByteArray),(⟨#[38,97,109,112,59]⟩:ByteArray)⟩:S100),(⟨(⟨#[60]⟩:ByteArray),(⟨#[38,108,116,59]⟩:ByteArray)⟩:S100),(⟨(⟨#[62]⟩:ByteArray),(⟨#[38,103,116,59]⟩:ByteArray)⟩:S100),(⟨(⟨#[34]⟩:ByteArray),(⟨#[38,113,117,111,116,59]⟩:ByteArray)⟩:S100)]:List (S100)):List (S100))).bind fun y312=>(response_safe.l0 k a0 y312 (y312.length:Int) 0))=some r:=h
 clear h
 obtain ⟨y312,hy312⟩:∃ y_:List (S100),y_=(([(⟨(⟨#[38]⟩:ByteArray),(⟨#[38,97,109,112,59]⟩:ByteArray)⟩:S100),(⟨(⟨#[60]⟩:ByteArray),(⟨#[38,108,116,59]⟩:ByteArray)⟩:S100),(⟨(⟨#[62]⟩:ByteArray),(⟨#[38,103,116,59]⟩:ByteArray)⟩:S100),(⟨(⟨#[34]⟩:ByteArray),(⟨#[38,113,117,111,116,59]⟩:ByteArray)⟩:S100)]:List (S100))):=⟨_,rfl⟩
 replace H:(response_safe.l0 k a0 y312 (y312.length:Int) 0)=some r:=by first|(rw [hy312];with_reducible exact H)|(have H2_:=(Option.bind_some _ _).symm.trans H;rw [hy312];with_reducible exact H2_)|(have H2_:=(Option.bind_some _ _).symm.trans H;with_reducible exact H2_)|with_reducible exact H|(rw [hy312];exact H)|exact H
 have Ny312:=Aside0.mk hy312
 clear hy312
 have H':=Aside0.mk H
 clear H
 go_enter Tryd.func48,Tryd.ntmps48
 go_wp2_with (first|((with_reducible refine gate_dst (N:=9) rfl ?_);refine Kd.R_lit k100 _ 100 ?hg (N:=9) ?hd (xs:=([(⟨(⟨#[38]⟩:ByteArray),(⟨#[38,97,109,112,59]⟩:ByteArray)⟩:S100),(⟨(⟨#[60]⟩:ByteArray),(⟨#[38,108,116,59]⟩:ByteArray)⟩:S100),(⟨(⟨#[62]⟩:ByteArray),(⟨#[38,103,116,59]⟩:ByteArray)⟩:S100),(⟨(⟨#[34]⟩:ByteArray),(⟨#[38,113,117,111,116,59]⟩:ByteArray)⟩:S100)]:List (S100))) (inner:=[.string (⟨#[38]⟩:ByteArray),.string (⟨#[38,97,109,112,59]⟩:ByteArray),.string (⟨#[60]⟩:ByteArray),.string (⟨#[38,108,116,59]⟩:ByteArray),.string (⟨#[62]⟩:ByteArray),.string (⟨#[38,103,116,59]⟩:ByteArray),.string (⟨#[34]⟩:ByteArray),.string (⟨#[38,113,117,111,116,59]⟩:ByteArray)]) (ok:=fun _=>True) (okp:=fun _=>True) ?hr ?hp (fun _ hk=>hk) trivial (Below.refl _ _) (Nat.le_refl _) au5 ?_;(case hd=>rfl);(case hg=>rfl);(case hr=>first|(go_simp;done)|(go_simp;rfl));(case hp=>exact(Reps.c2 (show Kd.M k100 _ _ _ (⟨(⟨#[38]⟩:ByteArray),(⟨#[38,97,109,112,59]⟩:ByteArray)⟩:S100) [.string (⟨#[38]⟩:ByteArray),.string (⟨#[38,97,109,112,59]⟩:ByteArray)] from (k100_mkM _ _ _ (⟨(⟨#[38]⟩:ByteArray),(⟨#[38,97,109,112,59]⟩:ByteArray)⟩:S100) )) (Reps.c2 (show Kd.M k100 _ _ _ (⟨(⟨#[60]⟩:ByteArray),(⟨#[38,108,116,59]⟩:ByteArray)⟩:S100) [.string (⟨#[60]⟩:ByteArray),.string (⟨#[38,108,116,59]⟩:ByteArray)] from (k100_mkM _ _ _ (⟨(⟨#[60]⟩:ByteArray),(⟨#[38,108,116,59]⟩:ByteArray)⟩:S100) )) (Reps.c2 (show Kd.M k100 _ _ _ (⟨(⟨#[62]⟩:ByteArray),(⟨#[38,103,116,59]⟩:ByteArray)⟩:S100) [.string (⟨#[62]⟩:ByteArray),.string (⟨#[38,103,116,59]⟩:ByteArray)] from (k100_mkM _ _ _ (⟨(⟨#[62]⟩:ByteArray),(⟨#[38,103,116,59]⟩:ByteArray)⟩:S100) )) (Reps.c2 (show Kd.M k100 _ _ _ (⟨(⟨#[34]⟩:ByteArray),(⟨#[38,113,117,111,116,59]⟩:ByteArray)⟩:S100) [.string (⟨#[34]⟩:ByteArray),.string (⟨#[38,113,117,111,116,59]⟩:ByteArray)] from (k100_mkM _ _ _ (⟨(⟨#[34]⟩:ByteArray),(⟨#[38,113,117,111,116,59]⟩:ByteArray)⟩:S100) )) (Reps.none _ _))))));intro v313 w2 ho3 hb hg_ hnew_;clear hg_ hnew_;(first|rw [← Ny312.out] at ho3|(simp only [Int.reduceToNat] at ho3;rw [← Ny312.out] at ho3));have n0_:=Aside0.mk (Kd.R_lower ho3 (below_size au3));have n1_:=Aside0.mk (below_step au3 hb);clear HB;have HO314:=n0_;have HB:=n1_;clear n0_ n1_;clear hb ho3;obtain ⟨Ao4,co4,eo4⟩:=Kd.R_slice HO314.out;subst eo4))
 go_loopg [0,11] k (fun kq v0 v11 w'=>∃(x0_1:ByteArray) (x11_1:Int),v0=.string x0_1∧v11=.int .i64 x11_1∧Aside0 (response_safe.l0 kq x0_1 y312 (y312.length:Int) x11_1=some r)∧Aside0 (kq≤k)∧Aside0 (Kd.R k100 100 w' w.heap.size (fun _=>True) (.slice Ao4 y312.length co4) y312)∧Aside0 (Below w.heap.size w w'))
 case atStart=>exact ⟨(a0),(0),au4,au4,au9,⟨Nat.le_refl _⟩,⟨by(with_reducible repeat(first|apply Kd.R_alloc|apply Kd.R_drewN|apply Kd.R_drew));exact HO314.out⟩,⟨au3⟩⟩
 case round =>
  clear H'
  obtain ⟨x0_1,x11_1,rfl,rfl,HA,HK1,HO_9,HB⟩:=hrel
  cases gk with
  | zero=>exact absurd HA.out (by simp [response_safe.l0])
  | succ k1 =>
   have H:=HA.out
   clear HA
   simp only [response_safe.l0] at H
   by_cases c5:x11_1<(y312.length:Int)
   ·rw [if_pos c5] at H
    have c5b0:decide (x11_1<(y312.length:Int))=true:=decide_eq_true c5
    clear c5
    by_cases c6:0≤x11_1
    ·rw [if_pos c6] at H
     have c6b0:decide (0≤x11_1)=true:=decide_eq_true c6
     clear c6
     by_cases c7:x11_1<(y312.length:Int)
     ·rw [if_pos c7] at H
      have c7b0:decide (x11_1<(y312.length:Int))=true:=decide_eq_true c7
      clear c7
      replace H:=Option.bind_eq_some_iff.mp H
      obtain ⟨t317,A80,H⟩:=H
      replace H:(response_safe.l0 k1 t317 y312 (y312.length:Int) (wrap64 (x11_1+1)))=some r:=H
      have A8:=Aside0.mk A80
      clear A80
      have H':=Aside0.mk H
      clear H
      have p315:0≤(x11_1:Int):=of_decide_eq_true au7
      have q315:x11_1<(y312.length:Int):=of_decide_eq_true au7
      obtain ⟨ad315,e315,hx315_0,hx315_1⟩:=at_T100 (Kd.R_reads' HO_9.out).2.2 x11_1 p315 q315
      cases e315
      replace p315:=eq_true p315
      replace q315:=eq_true q315
      go_wp2_with (first|((with_reducible refine gate_dst (N:=4) rfl ?_);refine box_event ?hg (N:=4) ?hd (cs:=#[.string (⟨#[]⟩:ByteArray),.string (⟨#[]⟩:ByteArray)]) (t:=100) ?hr ?_;(case hd=>rfl);(case hg=>rfl);(case hr=>first|(go_simp;done)|(go_simp;rfl));intro gb316 hg w9 hbox hb;have n0_:=Aside0.mk (Kd.R_below (Kd.R_elderB (by(with_reducible repeat(first|apply Kd.R_alloc|apply Kd.R_drewN|apply Kd.R_drew));exact HO_9.out) gb316 (Nat.le_of_eq hg.symm)) hb);have n1_:=Aside0.mk (below_step au3 hb);have n2_:=Aside0.mk (hbox);have n3_:=Aside0.mk ((by rw [hg];exact(below_size au3):w.heap.size≤gb316));have n4_:=Aside0.mk ((by rw [hg];exact(below_size au3):w.heap.size≤gb316));clear HO_9;clear HB;have HO_9:=n0_;have HB:=n1_;have BK316:=n2_;have GW316:=n3_;have GE316:=n4_;clear n0_ n1_ n2_ n3_ n4_;clear hb hbox hg;have hcz10_0:w9.cell? ⟨gb316,0,none⟩=some (.string (⟨#[]⟩:ByteArray)):=(blk_cell BK316.out 0).trans rfl;have hcz10_1:w9.cell? ⟨gb316,1,none⟩=some (.string (⟨#[]⟩:ByteArray)):=(blk_cell BK316.out 1).trans rfl;have hfz10_0:=blk_frozen BK316.out 0;have hfz10_1:=blk_frozen BK316.out 1)|((with_reducible refine gate_callee (f:=59) rfl ?_);refine goesL_ (some 20) rfl rfl Tryd.func59 au2 rfl #[.string x0_1,.string ((rd_T100 y312 x11_1).f0),.string ((rd_T100 y312 x11_1).f1)] rfl au10 ?_;(with_reducible refine(strings_ReplaceAll.calls x0_1 ((rd_T100 y312 x11_1).f0) ((rd_T100 y312 x11_1).f1) t317 _ ?side1 A8.out).mono ?_);(case side1=>first|exact HGMax.out|exact GlobMax.below HGMax.out (by repeat(first|(with_reducible first|exact HB.out|apply below_alloc|apply pw_below_drewN|apply below_drew1|refine below_set ?_ GE316.out)|exact HB.out))|exact GlobMax.drawn HGMax.out au8);rintro e w11 ⟨rfl,hb⟩;refine ⟨_,rfl,?_⟩;have n0_:=Aside0.mk (Kd.R_below (by(with_reducible repeat(first|apply Kd.R_alloc|apply Kd.R_drewN|apply Kd.R_drew));exact(Kd.R_mono (Kd.R_far (p:=⟨gb316,1,none⟩) (Kd.R_far (p:=⟨gb316,0,none⟩) (Kd.R_mono HO_9.out (fun k_ hk=>(⟨hk,hk.2⟩:_∧k_≠gb316))) (fun _ hk=>hk.2) (.string ((rd_T100 y312 x11_1).f0))) (fun _ hk=>hk.2) (.string ((rd_T100 y312 x11_1).f1))) (fun _ h_=>h_.1))) hb);have n1_:=Aside0.mk (blk_below (g:=gb316) (o:=.cells #[.string ((rd_T100 y312 x11_1).f0),.string ((rd_T100 y312 x11_1).f1)] 100 (0,0)) (by(with_reducible repeat(first|refine blk_drewN ?_ _|refine blk_drew ?_|refine blk_alloc ?_ _));refine blk_put (cs:=#[.string ((rd_T100 y312 x11_1).f0),.string (⟨#[]⟩:ByteArray)]) ?_ 1 _ rfl;(with_reducible repeat(first|refine blk_drewN ?_ _|refine blk_drew ?_|refine blk_alloc ?_ _));refine blk_put (cs:=#[.string (⟨#[]⟩:ByteArray),.string (⟨#[]⟩:ByteArray)]) ?_ 0 _ rfl;(with_reducible repeat(first|refine blk_drewN ?_ _|refine blk_drew ?_|refine blk_alloc ?_ _));exact BK316.out) hb);have n2_:=Aside0.mk (below_step (by repeat(first|(with_reducible first|exact HB.out|apply below_alloc|apply pw_below_drewN|apply below_drew1|refine below_set ?_ GE316.out)|exact HB.out)) hb);clear HO_9;clear BK316;clear HB;have HO_9:=n0_;have BK316:=n1_;have HB:=n2_;clear n0_ n1_ n2_;(try clear hb);(try clear hb2);(try clear hk);(try clear hi)))
      go_roundg k1
      case measure=>have:=HK1.out;omega
      case rel=>exact ⟨(t317),(wrap64 (x11_1+1)),au4,au4,au9,⟨by have:=HK1.out;omega⟩,⟨by(with_reducible repeat(first|apply Kd.R_alloc|apply Kd.R_drewN|apply Kd.R_drew));exact Kd.R_mono HO_9.out (fun _ hk=>trivial)⟩,⟨by repeat(first|(with_reducible first|exact HB.out|apply below_alloc|apply pw_below_drewN|apply below_drew1|refine below_set ?_ GE316.out)|exact HB.out)⟩⟩
     ·rw [if_neg c7] at H
      exact absurd H au5
    ·rw [if_neg c6] at H
     exact absurd H au5
   ·rw [if_neg c5] at H
    have c5b0:decide (x11_1<(y312.length:Int))=false:=decide_eq_false c5
    clear c5
    obtain rfl:=Option.some.inj H
    go_wp2
    go_ret
    exact ⟨au12,au3⟩
mutual
def jsontext_Kids.j0:Nat→List (S24)→Int→Bool→Option (List Int)
 | 0,_,_,_=>none
 | k+1,x0,x1,x19=>if x19=true then(some ([]:List Int)) else(if 0≤x1 then(if x1<(x0.length:Int) then(jsontext_Kids.l0 k x0 ([]:List Int) (wrap64 (x1+1)) ((rd_T24 x0 x1).f2) 0) else(none)) else(none))
def jsontext_Kids.l0:Nat→List (S24)→List Int→Int→Int→Int→Option (List Int)
 | 0,_,_,_,_,_=>none
 | k+1,x0,x5,x6,x26,x27=>if x27<x26 then(if x5.length<17592186044416 then(if 0≤x6 then(if x6<(x0.length:Int) then(jsontext_Kids.l0 k x0 (x5++[x6]) (wrap64 (x6+((rd_T24 x0 x6).f1))) x26 (wrap64 (x27+1))) else(none)) else(none)) else(none)) else(some x5)
end
def jsontext_Kids.f (k:Nat) (l0:List (S24)) (a1:Int):Option (List Int):=(jsontext_Check.f k l0).bind fun t285=>(if t285=0 then(if a1<0 then(jsontext_Kids.j0 k l0 a1 true) else(jsontext_Kids.j0 k l0 a1 (decide (a1≥(l0.length:Int))))) else(jsontext_Kids.j0 k l0 a1 true))
set_option maxHeartbeats 8000000 in
set_option maxRecDepth 100000 in
theorem jsontext_Kids.calls (k:Nat) (A0:Option Addr) (c0:Nat) (l0:List (S24)) (a1:Int) (r:List Int) (w:World) (hGU8:GlobU8 w) (hr0:Kd.C k24 w A0 l0.length l0) (hc0:l0.length≤c0) (h:jsontext_Kids.f k l0 a1=some r) :
  Calls Tryd.prog 49 #[.slice A0 l0.length c0,.int .i64 a1] w fun e w'=>∃ v0_:Value,e=.returned (v0_)∧Kd.R (Kd.int .i64) 3 w' w.heap.size (fun _=>True) v0_ r∧Below w.heap.size w w':=by
 have HGU8:=Aside0.mk hGU8
 clear hGU8
 have HR0:=Aside0.mk hr0
 have HC0:=Aside0.mk hc0
 clear hr0 hc0
 have HB:=Aside0.mk (Below.refl w.heap.size w)
 have H:((jsontext_Check.f k l0).bind fun t285=>(if t285=0 then(if a1<0 then(jsontext_Kids.j0 k l0 a1 true) else(jsontext_Kids.j0 k l0 a1 (decide (a1≥(l0.length:Int))))) else(jsontext_Kids.j0 k l0 a1 true)))=some r:=h
 clear h
 have HC3:=Aside0.mk H
 clear H
 go_enter Tryd.func49,Tryd.ntmps49
 go_upto_region 1 with(fail)
 go_cut [19] (fun v19 wc=>∃(kq:Nat) (x19_2:Bool),v19=.bool x19_2∧Aside0 (jsontext_Kids.j0 kq l0 a1 x19_2=some r)∧Aside0 (kq≤k)∧Aside0 (Below w.heap.size w wc))
 case first =>
  have H:=HC3.out
  clear HC3
  replace H:=Option.bind_eq_some_iff.mp H
  obtain ⟨t285,A40,H⟩:=H
  replace H:(if t285=0 then(if a1<0 then(jsontext_Kids.j0 k l0 a1 true) else(jsontext_Kids.j0 k l0 a1 (decide (a1≥(l0.length:Int))))) else(jsontext_Kids.j0 k l0 a1 true))=some r:=H
  have A4:=Aside0.mk A40
  clear A40
  by_cases c5:t285=0
  ·rw [if_pos c5] at H
   have c5b0:(t285==0)=true:=beq_iff_eq.mpr c5
   have c5b1:(t285 != 0)=false:=bne_eq_false_iff_eq.mpr c5
   clear c5
   (first|rw [c5b0]|(simp only [i64_w,i32_w];rw [c5b0])|skip)
   by_cases c6:a1<0
   ·rw [if_pos c6] at H
    have c6b0:decide (a1<0)=true:=decide_eq_true c6
    clear c6
    have H':=Aside0.mk H
    clear H
    go_wp2_with (first|((with_reducible refine gate_callee (f:=16) rfl ?_);refine goesL_ (some 8) rfl rfl Tryd.func16 au2 rfl #[.slice A0 l0.length c0] rfl au10 ?_;(with_reducible refine(jsontext_Check.calls k _ _ l0 t285 _ ?side3 ?side1 ?side2 A4.out).mono ?_);(case side1=>repeat(first|exact(Kd.C_below HR0.out HB.out)|(with_reducible refine Kd.C_alloc ?_ _)|(with_reducible refine Kd.C_drewN ?_ _)|(with_reducible refine Kd.C_drew ?_)));(case side2=>exact HC0.out);(case side3=>first|exact HGU8.out|exact GlobU8.below HGU8.out au3|exact GlobU8.drawn HGU8.out au8);rintro e w7 ⟨rfl,hb⟩;refine ⟨_,rfl,?_⟩;have n0_:=Aside0.mk (below_step au3 hb);clear HB;have HB:=n0_;clear n0_;(try clear hb);(try clear hb2);(try clear hk);(try clear hi)))
    go_meet
    case rel=>exact ⟨_,(true),au4,au9,⟨au14⟩,⟨au3⟩⟩
   ·rw [if_neg c6] at H
    have c6b0:decide (a1<0)=false:=decide_eq_false c6
    clear c6
    have H':=Aside0.mk H
    clear H
    go_wp2_with (first|((with_reducible refine gate_callee (f:=16) rfl ?_);refine goesL_ (some 8) rfl rfl Tryd.func16 au2 rfl #[.slice A0 l0.length c0] rfl au10 ?_;(with_reducible refine(jsontext_Check.calls k _ _ l0 t285 _ ?side3 ?side1 ?side2 A4.out).mono ?_);(case side1=>repeat(first|exact(Kd.C_below HR0.out HB.out)|(with_reducible refine Kd.C_alloc ?_ _)|(with_reducible refine Kd.C_drewN ?_ _)|(with_reducible refine Kd.C_drew ?_)));(case side2=>exact HC0.out);(case side3=>first|exact HGU8.out|exact GlobU8.below HGU8.out au3|exact GlobU8.drawn HGU8.out au8);rintro e w8 ⟨rfl,hb⟩;refine ⟨_,rfl,?_⟩;have n0_:=Aside0.mk (below_step au3 hb);clear HB;have HB:=n0_;clear n0_;(try clear hb);(try clear hb2);(try clear hk);(try clear hi)))
    go_meet
    case rel=>exact ⟨_,(decide (a1≥(l0.length:Int))),au4,au9,⟨au14⟩,⟨au3⟩⟩
  ·rw [if_neg c5] at H
   have c5b0:(t285==0)=false:=beq_eq_false_iff_ne.mpr c5
   have c5b1:(t285 != 0)=true:=bne_iff_ne.mpr c5
   (first|rw [c5b0]|(simp only [i64_w,i32_w];rw [c5b0])|skip)
   have H':=Aside0.mk H
   clear H
   go_wp2_with (first|((with_reducible refine gate_callee (f:=16) rfl ?_);refine goesL_ (some 8) rfl rfl Tryd.func16 au2 rfl #[.slice A0 l0.length c0] rfl au10 ?_;(with_reducible refine(jsontext_Check.calls k _ _ l0 t285 _ ?side3 ?side1 ?side2 A4.out).mono ?_);(case side1=>repeat(first|exact(Kd.C_below HR0.out HB.out)|(with_reducible refine Kd.C_alloc ?_ _)|(with_reducible refine Kd.C_drewN ?_ _)|(with_reducible refine Kd.C_drew ?_)));(case side2=>exact HC0.out);(case side3=>first|exact HGU8.out|exact GlobU8.below HGU8.out au3|exact GlobU8.drawn HGU8.out au8);rintro e w9 ⟨rfl,hb⟩;refine ⟨_,rfl,?_⟩;have n0_:=Aside0.mk (below_step au3 hb);clear HB;have HB:=n0_;clear n0_;(try clear hb);(try clear hb2);(try clear hk);(try clear hi)))
   go_meet
   case rel=>exact ⟨_,(true),au4,au9,⟨au14⟩,⟨au3⟩⟩
 case rest =>
  clear HC3
  obtain ⟨kq,x19_2,rfl,HA,HJ2,HB⟩:=hcut
  cases kq with
  | zero=>exact absurd HA.out (by simp [jsontext_Kids.j0])
  | succ kj2 =>
   have H:=HA.out
   clear HA
   simp only [jsontext_Kids.j0] at H
   by_cases c10:x19_2=true
   ·subst c10
    replace H:(some ([]:List Int))=some r:=by rw [if_pos rfl] at H;exact H
    obtain rfl:=Option.some.inj H
    go_wp2
    go_ret
    exact ⟨_,au12,au20,au3⟩
   ·replace c10:=Bool.eq_false_iff.mpr c10
    subst c10
    replace H:(if 0≤a1 then(if a1<(l0.length:Int) then(jsontext_Kids.l0 kj2 l0 ([]:List Int) (wrap64 (a1+1)) ((rd_T24 l0 a1).f2) 0) else(none)) else(none))=some r:=by rw [if_neg (show ¬ (false=true) by decide)] at H;exact H
    by_cases c11:0≤a1
    ·rw [if_pos c11] at H
     have c11b0:decide (0≤a1)=true:=decide_eq_true c11
     clear c11
     by_cases c12:a1<(l0.length:Int)
     ·rw [if_pos c12] at H
      have c12b0:decide (a1<(l0.length:Int))=true:=decide_eq_true c12
      clear c12
      have H':=Aside0.mk H
      clear H
      have p286:0≤(a1:Int):=of_decide_eq_true au7
      have q286:a1<(l0.length:Int):=of_decide_eq_true au7
      obtain ⟨ad286,e286,hx286_0,hx286_1,hx286_2,hx286_3,hx286_4⟩:=at_T24 HR0.out a1 p286 q286
      cases e286
      replace hx286_0:=(HB.out.cell (World.block_lt_of_cell? w _ hx286_0)).trans hx286_0
      replace hx286_1:=(HB.out.cell (World.block_lt_of_cell? w _ hx286_1)).trans hx286_1
      replace hx286_2:=(HB.out.cell (World.block_lt_of_cell? w _ hx286_2)).trans hx286_2
      replace hx286_3:=(HB.out.cell (World.block_lt_of_cell? w _ hx286_3)).trans hx286_3
      replace hx286_4:=(HB.out.cell (World.block_lt_of_cell? w _ hx286_4)).trans hx286_4
      replace p286:=eq_true p286
      replace q286:=eq_true q286
      go_wp2
      go_loopg [5,6,27] kj2 (fun kq v5 v6 v27 w'=>∃(x5_2:List Int) (x6_2:Int) (x27_2:Int),v6=.int .i64 x6_2∧v27=.int .i64 x27_2∧Aside0 (jsontext_Kids.l0 kq l0 x5_2 x6_2 ((rd_T24 l0 a1).f2) x27_2=some r)∧Aside0 (kq≤kj2)∧Aside0 (Kd.R (Kd.int .i64) 3 w' w.heap.size (fun _=>True) v5 x5_2)∧Aside0 (Below w.heap.size w w'))
      case atStart=>exact ⟨(([]:List Int)),(wrap64 (a1+1)),(0),au4,au4,au9,⟨Nat.le_refl _⟩,⟨au20⟩,⟨au3⟩⟩
      case round =>
       clear H'
       obtain ⟨x5_2,x6_2,x27_2,rfl,rfl,HA,HK2,HO_5,HB⟩:=hrel
       cases gk with
       | zero=>exact absurd HA.out (by simp [jsontext_Kids.l0])
       | succ k2 =>
        have H:=HA.out
        clear HA
        simp only [jsontext_Kids.l0] at H
        by_cases c13:x27_2<((rd_T24 l0 a1).f2)
        ·rw [if_pos c13] at H
         have c13b0:decide (x27_2<((rd_T24 l0 a1).f2))=true:=decide_eq_true c13
         clear c13
         by_cases c14:x5_2.length<17592186044416
         ·rw [if_pos c14] at H
          have LMc14:=Aside0.mk c14
          clear c14
          obtain ⟨y287,hy287⟩:∃ y_:List Int,y_=(x5_2++[x6_2]):=⟨_,rfl⟩
          replace H:(if 0≤x6_2 then(if x6_2<(l0.length:Int) then(jsontext_Kids.l0 k2 l0 y287 (wrap64 (x6_2+((rd_T24 l0 x6_2).f1))) ((rd_T24 l0 a1).f2) (wrap64 (x27_2+1))) else(none)) else(none))=some r:=by first|(rw [hy287];with_reducible exact H)|(have H2_:=(Option.bind_some _ _).symm.trans H;rw [hy287];with_reducible exact H2_)|(have H2_:=(Option.bind_some _ _).symm.trans H;with_reducible exact H2_)|with_reducible exact H|(rw [hy287];exact H)|exact H
          have Ny287:=Aside0.mk hy287
          clear hy287
          by_cases c15:0≤x6_2
          ·rw [if_pos c15] at H
           have c15b0:decide (0≤x6_2)=true:=decide_eq_true c15
           clear c15
           by_cases c16:x6_2<(l0.length:Int)
           ·rw [if_pos c16] at H
            have c16b0:decide (x6_2<(l0.length:Int))=true:=decide_eq_true c16
            clear c16
            have H':=Aside0.mk H
            clear H
            go_wp2_with (first|((with_reducible refine gate_builtin (b:=.append) (xs:=#[.tmp 29,.tmp 31]) rfl ?_);(try(refine gate_guard au6 ?_;dsimp only));at_builtin;refine Kd.R_append (Kd.int .i64) (w0:=w) w.heap.size rfl (.tmp 29) (.tmp 31) 86 3 (.int .i64 0) 8 rfl Tryd.underlying86 info3 rfl au1 au0 u5 x5_2 x6_2 [.int .i64 x6_2] (fun _=>True) (fun _=>False) rfl rfl ?aP (fun _ hk=>hk.elim) ?aF ?aO ?aB ?aS ?aL ?_;(case aP=>exact rfl);(case aB=>exact au3);(case aF=>exact(fun _ _=>trivial));(case aO=>exact(by(with_reducible repeat(first|apply Kd.R_alloc|apply Kd.R_drewN|apply Kd.R_drew));exact HO_5.out));(case aS=>exact(below_size au3));(case aL=>have:=LMc14.out;omega);intro v288 w17 ho hb hg hat;rw [← Ny287.out] at ho;have n0_:=Aside0.mk (hb);have n1_:=Aside0.mk (ho);clear HB;clear HO_5;have HB:=n0_;have HO289:=n1_;clear n0_ n1_;clear ho hb hg hat;have p290:0≤(x6_2:Int):=of_decide_eq_true au7;have q290:x6_2<(l0.length:Int):=of_decide_eq_true au7;obtain ⟨ad290,e290,hx290_0,hx290_1,hx290_2,hx290_3,hx290_4⟩:=at_T24 HR0.out x6_2 p290 q290;obtain rfl:ad286=ad290:=(by injection e290);replace hx290_0:=(HB.out.cell (World.block_lt_of_cell? w _ hx290_0)).trans hx290_0;replace hx290_1:=(HB.out.cell (World.block_lt_of_cell? w _ hx290_1)).trans hx290_1;replace hx290_2:=(HB.out.cell (World.block_lt_of_cell? w _ hx290_2)).trans hx290_2;replace hx290_3:=(HB.out.cell (World.block_lt_of_cell? w _ hx290_3)).trans hx290_3;replace hx290_4:=(HB.out.cell (World.block_lt_of_cell? w _ hx290_4)).trans hx290_4;replace p290:=eq_true p290;replace q290:=eq_true q290))
            go_roundg k2
            case measure=>have:=HJ2.out;have:=HK2.out;omega
            case rel=>exact ⟨(y287),(wrap64 (x6_2+((rd_T24 l0 x6_2).f1))),(wrap64 (x27_2+1)),au4,au4,au9,⟨by have:=HJ2.out;have:=HK2.out;omega⟩,⟨by(with_reducible repeat(first|apply Kd.R_alloc|apply Kd.R_drewN|apply Kd.R_drew));exact HO289.out⟩,⟨au3⟩⟩
           ·rw [if_neg c16] at H
            exact absurd H au5
          ·rw [if_neg c15] at H
           exact absurd H au5
         ·rw [if_neg c14] at H
          exact absurd H au5
        ·rw [if_neg c13] at H
         have c13b0:decide (x27_2<((rd_T24 l0 a1).f2))=false:=decide_eq_false c13
         clear c13
         obtain rfl:=Option.some.inj H
         go_wp2
         go_ret
         exact ⟨_,au12,by(with_reducible repeat(first|apply Kd.R_alloc|apply Kd.R_drewN|apply Kd.R_drew));exact HO_5.out,au3⟩
     ·rw [if_neg c12] at H
      exact absurd H au5
    ·rw [if_neg c11] at H
     exact absurd H au5
end Go.Proofs.YtjehflambbjoaaaDoor.X
namespace Go.Proofs.YtjehflambbjoaaaDoor.Pure
open Go.Proofs.YtjehflambbjoaaaDoor.X Go.RowKit Go.Proofs.YtjehflambbjoaaaDoorW.PrintWords Go.Proofs.YtjehflambbjoaaaDoorW.PrintMore
theorem count_nil {f:F} (h:f.count=0):f=.nil:=by
 match f,h with
 | .nil,_=>rfl
theorem kids_l0 (l:List S24) (hlen:l.length≤1000000) (N:Int):∀(n:Nat) (f:F) (rest:List S24) (out:List Int) (next cnt k:Nat),f.count=n→l.drop next=f.flat++rest→((cnt+n:Nat):Int)=N→n+1≤k→out.length+n≤10000000→cnt+n≤10000000 →
  jsontext_Kids.l0 k l out (next:Int) N (cnt:Int)=some (out++starts next f)
 | n,f,rest,out,next,cnt,0,hf,h,hN,hk,ho,hc=>by omega
 | 0,f,rest,out,next,cnt,k+1,hf,h,hN,hk,ho,hc=>by
  rw [jsontext_Kids.l0,if_neg au0,count_nil hf]
  simp [starts]
 | n+1,f,rest,out,next,cnt,k+1,hf,h,hN,hk,ho,hc=>by
  obtain ⟨sz,g,e1,e2,e3,e4,e5,e6,e7⟩:=first_of l next f rest h au0
  rw [jsontext_Kids.l0,if_pos au0,if_pos au0,if_pos au0,if_pos au0,e1,w64v au0 au0,w64v au0 au0,show((next:Int)+(sz:Int))=((next+sz:Nat):Int) by omega,show((cnt:Int)+1)=((cnt+1:Nat):Int) by omega,
   kids_l0 l hlen N n g rest (out++[(next:Int)]) (next+sz) (cnt+1) k au0 e3 au0 au0 au61 au0,e5]
  simp
end Go.Proofs.YtjehflambbjoaaaDoor.Pure
namespace Go.Proofs.YtjehflambbjoaaaDoor.Pure
open Go.Proofs.YtjehflambbjoaaaDoor.X Go.RowKit Go.Lib Go.Proofs.YtjehflambbjoaaaDoorW.PrintWords Go.Proofs.YtjehflambbjoaaaDoorW.PrintMore
theorem rd_at2 (L:List Int) (j:Nat) (q:Int) (r:List Int) (h:L.drop j=q :: r):rd L (j:Int)=q∧j<L.length∧L.drop (j+1)=r∧q∈L:=by
 have hj:j<L.length:=by
  have:=congrArg List.length h
  simp at this
  omega
 rw [List.drop_eq_getElem_cons hj] at h
 injection h with h1 h2
 refine ⟨?_,hj,h2,?_⟩
 ·unfold rd
  rw [Int.toNat_natCast,List.getD_eq_getElem?_getD,List.getElem?_eq_getElem hj]
  exact h1
 ·rw [← h1]
  exact List.getElem_mem hj
theorem ones_size (c:UInt8) (new:Bs) (hn:new.length≤6):∀ s:Bs,(s.flatMap (one c new)).length≤6*s.length
 | []=>by simp
 | b :: l=>by
  have:=ones_size c new hn l
  have h1:(one c new b).length≤6:=by
   unfold one
   split
   ·exact hn
   ·simp
  simp only [List.flatMap_cons,List.length_append,List.length_cons]
  omega
theorem rall (s:Bs) (c:UInt8) (new:Bs) (hs:s.length≤4000000000) (hn:new.length≤6):strings_ReplaceAll.f (str s) (str [c]) (str new)=some (str (replaceAll s [c] new)):=by
 have h1:(str s).size<4294967281:=by rw [msize];omega
 unfold strings_ReplaceAll.f strings_Replace.f
 rw [if_pos ⟨h1,by rw [msize];exact Nat.le_refl _,au25⟩]
 rfl
theorem safe_law (t:Bs) (h:t.length≤1000000) (k:Nat) (hk:5≤k):response_safe.f k (str t)=some (str (t.flatMap esc)):=by
 obtain ⟨k,rfl⟩:∃ k',k=k'+5:=⟨k - 5,au0⟩
 have w0:wrap64 (0+1)=1:=by unfold wrap64;omega
 have w1:wrap64 (1+1)=2:=by unfold wrap64;omega
 have w2:wrap64 (2+1)=3:=by unfold wrap64;omega
 have w3:wrap64 (3+1)=4:=by unfold wrap64;omega
 have r1:=replaceAll_one 38 [38,97,109,112,59] t au1
 have l1:(replaceAll t [38] [38,97,109,112,59]).length≤6*t.length:=by rw [r1];exact ones_size _ _ au1 t
 have r2:=replaceAll_one 60 [38,108,116,59] (replaceAll t [38] [38,97,109,112,59]) au1
 have l2:(replaceAll (replaceAll t [38] [38,97,109,112,59]) [60] [38,108,116,59]).length≤36*t.length:=by
  rw [r2]
  have:=ones_size 60 [38,108,116,59] au1 (replaceAll t [38] [38,97,109,112,59])
  omega
 have r3:=replaceAll_one 62 [38,103,116,59] (replaceAll (replaceAll t [38] [38,97,109,112,59]) [60] [38,108,116,59]) au1
 have l3:(replaceAll (replaceAll (replaceAll t [38] [38,97,109,112,59]) [60] [38,108,116,59]) [62] [38,103,116,59]).length≤216*t.length:=by
  rw [r3]
  have:=ones_size 62 [38,103,116,59] au1 (replaceAll (replaceAll t [38] [38,97,109,112,59]) [60] [38,108,116,59])
  omega
 have e1:=rall t 38 [38,97,109,112,59] au0 au1
 have e2:=rall _ 60 [38,108,116,59] (Nat.le_trans l1 au0) au1
 have e3:=rall _ 62 [38,103,116,59] (Nat.le_trans l2 au0) au1
 have e4:=rall _ 34 [38,113,117,111,116,59] (Nat.le_trans l3 au0) au1
 rw [← esc_all]
 have key:∀ tbl:List S100,tbl.length=4→rd_T100 tbl 0=⟨str [38],str [38,97,109,112,59]⟩→rd_T100 tbl 1=⟨str [60],str [38,108,116,59]⟩→rd_T100 tbl 2=⟨str [62],str [38,103,116,59]⟩→rd_T100 tbl 3=⟨str [34],str [38,113,117,111,116,59]⟩ →
   response_safe.l0 (k+5) (str t) tbl (tbl.length:Int) 0=some (str (replaceAll (replaceAll (replaceAll (replaceAll t [38] [38,97,109,112,59]) [60] [38,108,116,59]) [62] [38,103,116,59]) [34] [38,113,117,111,116,59])):=by
  intro tbl hl a0 a1 a2 a3
  rw [hl,response_safe.l0,if_pos au1,if_pos au1,if_pos (by rw [hl];decide),w0,a0,e1,Option.bind_some]
  rw [response_safe.l0,if_pos au1,if_pos au1,if_pos (by rw [hl];decide),w1,a1,e2,Option.bind_some]
  rw [response_safe.l0,if_pos au1,if_pos au1,if_pos (by rw [hl];decide),w2,a2,e3,Option.bind_some]
  rw [response_safe.l0,if_pos au1,if_pos au1,if_pos (by rw [hl];decide),w3,a3,e4,Option.bind_some]
  rw [response_safe.l0,if_neg au1]
 unfold response_safe.f
 rw [Option.bind_some]
 exact key _ rfl rfl rfl rfl rfl
theorem parts2:∀ f:F,f=.nil∨∃(u g:F) (x:Nd) (tl:List Nd) (key:Bs),u.count=1∧f.flat=u.flat++g.flat∧f.count=g.count+1∧(∀ nm:Option Bs,mkup nm f=mkup (some (nm.getD key)) u++mkup nm g) ∧
  (∀ p,starts p f=(p:Int) :: starts (p+u.flat.length) g)∧dep u≤dep f∧dep g≤dep f∧(∀ M T,fine M T f→key.length≤M∧fine M T u∧fine M T g)∧(∀ K,cost K f=cost K u+cost K g)∧u.flat=x :: tl∧x.f3=str key
 | .nil=>.inl rfl
 | .leaf k d t r=>.inr ⟨.leaf k d t .nil,r,⟨d,1,0,str k,str t⟩,[],k,rfl,au21,rfl,fun nm=>by simp [mkup],fun p=>by simp [starts,F.flat],au36,au36,
   fun M T h=>⟨h.1,⟨h.1,h.2.1,h.2.2.1,h.2.2.2.1,trivial⟩,h.2.2.2.2⟩,fun K=>by simp only [cost];omega,au21,rfl⟩
 | .node k d ks r=>.inr ⟨.node k d ks .nil,r,⟨d,(ks.flat.length+1:Nat),(ks.count:Nat),str k,str []⟩,ks.flat,k,rfl,au21,rfl,fun nm=>by simp [mkup],fun p=>by simp [starts,F.flat],au36,au36,
   fun M T h=>⟨h.1,⟨h.1,h.2.1,h.2.2.1,trivial⟩,h.2.2.2⟩,fun K=>by simp only [cost];omega,au21,rfl⟩
def nmOf (d:Int) (name:Bs):Option Bs:=if d=6 then some name else none
theorem kids_at (l:List S24) (hlen:l.length≤1000000) (p k N:Nat) (f:F) (r:List S24) (hp:p<l.length) (h:l.drop (p+1)=f.flat++r) (hN:(rd_T24 l (p:Int)).f2=(f.count:Nat)) (hC:jsontext_Check.f k l=some 0) (hk:l.length+5≤k) :
  jsontext_Kids.f k l (p:Int)=some (starts (p+1) f):=by
 have hcl:=flat_count f
 have hfl:=congrArg List.length h
 simp only [List.length_drop,List.length_append] at hfl
 obtain ⟨k',rfl⟩:∃ k',k=k'+1:=⟨k - 1,au0⟩
 rw [jsontext_Kids.f,hC,Option.bind_some,if_pos (show(0:Int)=0 from rfl),if_neg au0,jsontext_Kids.j0,if_neg au16,if_pos au0,if_pos au0,w64v au0 au0,hN]
 exact kids_l0 l hlen _ f.count f r [] (p+1) 0 k' rfl h au0 au0 au16 au0
end Go.Proofs.YtjehflambbjoaaaDoor.Pure
