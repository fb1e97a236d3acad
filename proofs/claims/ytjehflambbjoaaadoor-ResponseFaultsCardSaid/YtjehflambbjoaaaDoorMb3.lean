/-
  What the claim's law rests on, part 3 of 7: printed walks, externals, plain lemmas; conditions: none of its own.
-/
import Derived.Test.YtjehflambbjoaaaDoorMb2
set_option linter.unusedVariables false
set_option linter.unusedSimpArgs false
namespace Go.Proofs.YtjehflambbjoaaaDoor.X
open Go.RowKit Go.Proofs.YtjehflambbjoaaaDoorW.PrintWords Go.Proofs.YtjehflambbjoaaaDoorW.PrintLast Go.Proofs.YtjehflambbjoaaaDoorW.PrintMore
def jsontext_Parse.f (s:ByteArray):Option (List (S24) × Int × Int):=some ((parse s.data.toList).1.flat,(parse s.data.toList).2.1,(parse s.data.toList).2.2)
def PostP (w:World) (x:F × Int × Int) (e:Ending) (w':World):Prop :=
 ∃ v0:Value,e=.returned (.tuple #[v0,.int .i64 x.2.1,.int .i64 x.2.2])∧Kd.R kN 24 w' w.heap.size (fun _=>True) v0 x.1.flat∧Below w.heap.size w w'
theorem Res3.ch {w w':World} {B g base p:Nat} {s:ByteArray} {v u u':Value} {a e:Int} {xs:List Nd} (h:Res3 w B v a e) (hP:PS w g base s p u xs) (hc:Ch g u u' w w'):Res3 w' B v a e :=
 ⟨hc.keep hP.R h.V au1 (ne_par hP.P h.V au1),hc.keep hP.R h.A au1 (ne_par hP.P h.A au1),hc.keep hP.R h.E au1 (ne_par hP.P h.E au1)⟩
theorem Res3.cells {w:World} {B:Nat} {v:Value} {a e:Int} (h:Res3 w B v a e):w.cell? ⟨B,0,none⟩=some v∧w.cell? ⟨B+1,0,none⟩=some (.int .i64 a)∧w.cell? ⟨B+1+1,0,none⟩=some (.int .i64 e) :=
 ⟨(blk_cell h.V 0).trans rfl,(blk_cell h.A 0).trans rfl,(blk_cell h.E 0).trans rfl⟩
set_option maxHeartbeats 4000000 in
set_option maxRecDepth 100000 in
theorem parse_calls (s:ByteArray) (w:World) (hGU8:GlobU8 w):Calls Tryd.prog 65 #[.string s] w (PostP w (parse s.data.toList)):=by
 have hmf:∀(fn:Fn) (first cap:Array Value) (w:World),(Instr.makeFunc fn first cap).run Tryd.prog w=.ok (.func fn first cap) w:=fun _ _ _ _=>rfl
 have HG:=Lib.hid hGU8
 clear hGU8
 have hsl:s.data.toList.length=s.size:=by simp
 by_cases hl:65536<s.size
 ·have hp:parse s.data.toList=(.nil,0,3):=by
   unfold parse
   rw [if_pos au0]
  have HPP:=Lib.hid hp
  have d1:decide (65536<(s.size:Int))=true:=decide_eq_true au0
  clear hp hsl
  go_enter_defers Tryd.func65,Tryd.ntmps65
  go_wp2_with fail
  have z2:(((w.alloc (.cells #[.slice none 0 0] 22 (0,0))).alloc (.cells #[.int .i64 0] 3 (0,0))).alloc (.cells #[.int .i64 3] 33 (0,0))).cell? ⟨w.heap.size+1+1,0,none⟩=some (.int .i64 3):=by
   have:=World.cell?_alloc_new ((w.alloc (.cells #[.slice none 0 0] 22 (0,0))).alloc (.cells #[.int .i64 0] 3 (0,0))) #[.int .i64 3] 33 0
   simpa using this
  have hpost:PostP w (parse s.data.toList) (.returned (.tuple #[.slice none 0 0,.int .i64 0,.int .i64 3])) (((w.alloc (.cells #[.slice none 0 0] 22 (0,0))).alloc (.cells #[.int .i64 0] 3 (0,0))).alloc (.cells #[.int .i64 3] 33 (0,0))):=by
   rw [HPP.out]
   refine ⟨_,rfl,Kd.R_nil _ _ _ _ _,?_⟩
   exact(((Below.refl _ _).alloc (Nat.le_refl _) _).alloc au39 _).alloc (by rw [World.size_alloc,World.size_alloc];omega) _
  simp [bodyPostD,Leaves,settle,results,Tryd.results65,go_sem]
  exact hpost
 ·have hs:s.size≤65536:=by omega
  have d1:decide (65536<(s.size:Int))=false:=decide_eq_false au0
  generalize hO:value 32 [] (blanks s.data.toList)=O
  have HO:=Lib.hid hO
  clear hO hsl
  go_enter_defers Tryd.func65,Tryd.ntmps65
  go_upto_region 5 with(fail)
  have hbel:Below w.heap.size w ((((w.alloc (.cells #[.slice none 0 0] 22 (0,0))).alloc (.cells #[.int .i64 0] 3 (0,0))).alloc (.cells #[.int .i64 0] 33 (0,0))).alloc (.cells #[.string s,.int .i64 0,.slice none 0 0] 117 (0,0))) :=
   ((((Below.refl _ _).alloc (Nat.le_refl _) _).alloc au39 _).alloc (by rw [World.size_alloc,World.size_alloc];omega) _).alloc (by rw [World.size_alloc,World.size_alloc,World.size_alloc];omega) _
  have hr3:Res3 ((((w.alloc (.cells #[.slice none 0 0] 22 (0,0))).alloc (.cells #[.int .i64 0] 3 (0,0))).alloc (.cells #[.int .i64 0] 33 (0,0))).alloc (.cells #[.string s,.int .i64 0,.slice none 0 0] 117 (0,0))) w.heap.size (.slice none 0 0) 0 0:=by
   refine ⟨?_,?_,?_⟩
   ·rw [Lib.alloc_old _ _ _ au34,Lib.alloc_old _ _ _ au34,Lib.alloc_old _ _ _ au34]
    exact heap_alloc_new w _
   ·rw [Lib.alloc_old _ _ _ au34,Lib.alloc_old _ _ _ au34]
    have:=heap_alloc_new (w.alloc (.cells #[.slice none 0 0] 22 (0,0))) (.cells #[.int .i64 0] 3 (0,0))
    rw [World.size_alloc] at this
    exact this
   ·rw [Lib.alloc_old _ _ _ au34]
    have:=heap_alloc_new ((w.alloc (.cells #[.slice none 0 0] 22 (0,0))).alloc (.cells #[.int .i64 0] 3 (0,0))) (.cells #[.int .i64 0] 33 (0,0))
    rw [World.size_alloc,World.size_alloc] at this
    exact this
  have hpb:PB ((((w.alloc (.cells #[.slice none 0 0] 22 (0,0))).alloc (.cells #[.int .i64 0] 3 (0,0))).alloc (.cells #[.int .i64 0] 33 (0,0))).alloc (.cells #[.string s,.int .i64 0,.slice none 0 0] 117 (0,0))) (w.heap.size+1+1+1) s 0 (.slice none 0 0):=by
   have:=heap_alloc_new (((w.alloc (.cells #[.slice none 0 0] 22 (0,0))).alloc (.cells #[.int .i64 0] 3 (0,0))).alloc (.cells #[.int .i64 0] 33 (0,0))) (.cells #[.string s,.int .i64 0,.slice none 0 0] 117 (0,0))
   rw [World.size_alloc,World.size_alloc,World.size_alloc] at this
   exact this
  generalize hw4:((((w.alloc (.cells #[.slice none 0 0] 22 (0,0))).alloc (.cells #[.int .i64 0] 3 (0,0))).alloc (.cells #[.int .i64 0] 33 (0,0))).alloc (.cells #[.string s,.int .i64 0,.slice none 0 0] 117 (0,0)))=w4 at hbel hr3 hpb
  have HW4:=Lib.hid hw4
  have HBEL:=Lib.hid hbel
  have HR3:=Lib.hid hr3
  have HP4:Hid (PS w4 (w.heap.size+1+1+1) w.heap.size s 0 (.slice none 0 0) []):=Lib.hid ⟨hpb,Row.mk_ (Kd.R_nil _ _ _ _ (fun _=>True))⟩
  have HG4:Hid (GlobU8 w4):=Lib.hid (HG.out.below hbel)
  have hB:2≤w.heap.size:=by have:=HG.out.L;omega
  have HB:=Lib.hid hB
  have hg2:1<w.heap.size+1+1+1:=by omega
  have hbg:w.heap.size≤w.heap.size+1+1+1:=by omega
  have HG2:=Lib.hid hg2
  have HBG:=Lib.hid hbg
  clear hw4 hbel hr3 hpb hB hg2 hbg
  go_upto_region 6 with(go_at_call 69;refine(blanks_calls (w.heap.size+1+1+1) s 0 (.slice none 0 0) s.data.toList _ hs HP4.out.P (At.start s)).mono ?_;rintro e w5 ⟨rfl,⟨q5,ha5,hp5⟩,hu5⟩;have HA5:=Lib.hid ha5;have HPB5:=Lib.hid hp5;have HU5:=Lib.hid hu5;clear ha5 hp5 hu5)
  have HP5:Hid (PS w5 (w.heap.size+1+1+1) w.heap.size s q5 (.slice none 0 0) []):=Lib.hid (HP4.out.upd HPB5.out HU5.out)
  have HG5:Hid (GlobU8 w5):=Lib.hid (HG4.out.upd HG2.out HU5.out)
  have HC5:Hid (Ch (w.heap.size+1+1+1) (.slice none 0 0) (.slice none 0 0) w4 w5):=Lib.hid (Ch.of_upd HU5.out)
  cases O with
  | bad r x =>
   have HPP:Hid (parse s.data.toList=(.nil,((s.size - r.length:Nat):Int),x)):=Lib.hid (by unfold parse;rw [if_neg au16,HO.out];simp)
   go_wp2_with (go_at_call 70;refine(value_ok 32 0 rfl (w.heap.size+1+1+1) w.heap.size s q5 _ [] [] (blanks s.data.toList) _ hs HG5.out HG2.out HB.out HBG.out HP5.out HA5.out (Nat.zero_le _)).mono ?_;rw [HO.out];rintro e w6 ⟨hst,v6,hc6⟩;have HST:=Lib.hid hst;have HC6:=Lib.hid hc6;clear hc6;unfold Stops at hst;subst hst)
   have hr6:Res3 w6 w.heap.size (.slice none 0 0) 0 0:=(HR3.out.ch HP4.out HC5.out).ch HP5.out HC6.out
   have hbl:Below w.heap.size w w6:=HBEL.out.trans ((HC5.out.trans HC6.out).base_ HP4.out HBG.out)
   refine leaves_cons (f:=68) (args:=#[.pointer (some ⟨w.heap.size,0,none⟩),.pointer (some ⟨w.heap.size+1,0,none⟩),.pointer (some ⟨w.heap.size+1+1,0,none⟩)]) au5 (by simp [go_sem]) ?_
   refine(catch_panicking w.heap.size _ 0 0 _ x [] w6 hr6).mono ?_
   rintro e u' w'' ⟨rfl,rfl,hres,hold,hsz,hos,htp,hout⟩
   obtain ⟨z0,z1,z2⟩:=hres.cells
   have hfin:Below w.heap.size w w'':=⟨hos.trans hbl.os,htp.trans hbl.tape,hout.trans hbl.output,Nat.le_trans hbl.size hsz,fun k hk=>(hold k hk).trans (hbl.block k hk)⟩
   have hpost:PostP w (parse s.data.toList) (.returned (.tuple #[.slice none 0 0,.int .i64 ((s.size - r.length:Nat):Int),.int .i64 x])) w'':=by
    rw [HPP.out]
    exact ⟨_,rfl,Kd.R_nil _ _ _ _ _,hfin⟩
   simp [Leaves,settle,results,Tryd.results65,go_sem,z0,z1,z2]
   exact hpost
  | ok r f =>
   go_upto_region 8 with(first
    | (go_at_call 70;refine(value_ok 32 0 rfl (w.heap.size+1+1+1) w.heap.size s q5 _ [] [] (blanks s.data.toList) _ hs HG5.out HG2.out HB.out HBG.out HP5.out HA5.out (Nat.zero_le _)).mono ?_;rw [HO.out];rintro e w6 ⟨rfl,q6,v6,ha6,hp6,hc6⟩;have HA6:=Lib.hid ha6;have HP6:=Lib.hid hp6;have HC6:=Lib.hid hc6;clear ha6 hp6 hc6)
    | (go_at_call 69;refine(blanks_calls (w.heap.size+1+1+1) s q6 v6 r _ hs HP6.out.P HA6.out).mono ?_;rintro e w7 ⟨rfl,⟨q7,ha7,hp7⟩,hu7⟩;have HA7:=Lib.hid ha7;have HPB7:=Lib.hid hp7;have HU7:=Lib.hid hu7;clear ha7 hp7 hu7))
   have HP7:Hid (PS w7 (w.heap.size+1+1+1) w.heap.size s q7 v6 f.flat):=Lib.hid (HP6.out.upd HPB7.out HU7.out)
   have HC7:Hid (Ch (w.heap.size+1+1+1) (.slice none 0 0) v6 w4 w7):=Lib.hid ((HC5.out.trans HC6.out).trans (Ch.of_upd HU7.out))
   have hr7:Res3 w7 w.heap.size (.slice none 0 0) 0 0:=HR3.out.ch HP4.out HC7.out
   have hbl:Below w.heap.size w w7:=HBEL.out.trans (HC7.out.base_ HP4.out HBG.out)
   obtain ⟨x0,x1,x2⟩:=HPB7.out.cells
   have HR7:=Lib.hid hr7
   have HBL:=Lib.hid hbl
   clear x0 hr7 hbl
   cases hm:blanks r with
   | nil =>
    have HPP:Hid (parse s.data.toList=(f,0,0)):=Lib.hid (by unfold parse;rw [if_neg au16,HO.out];simp [hm])
    have HA8:Hid (At s q7 []):=Lib.hid (hm ▸ HA7.out)
    obtain ⟨e1,e2⟩:=at_ge HA8.out
    clear hm
    obtain ⟨A6,k6,rfl⟩:=Kd.R_slice HP7.out.R.all
    obtain ⟨c0,c1,c2⟩:=HR7.out.cells
    have g0:=blk_frozen HR7.out.V 0
    have g1:=blk_frozen HR7.out.A 0
    have g2:w7.frozen? ⟨w.heap.size+1+1,0,none⟩=false:=blk_frozen HR7.out.E 0
    go_wp2_with fail
    clear g0 g1 g2 c0 c1 c2 x1 x2
    have t0:((((w7.setCell ⟨w.heap.size,0,none⟩ (.slice A6 f.flat.length k6)).setCell ⟨w.heap.size+1,0,none⟩ (.int .i64 0)).setCell ⟨w.heap.size+1+1,0,none⟩ (.int .i64 0))).heap[w.heap.size]?=some (.cells #[.slice A6 f.flat.length k6] 22 (0,0)) :=
     blk_far (blk_far (by simpa using blk_set HR7.out.V 0 (.slice A6 f.flat.length k6)) au5 _) au16 _
    have t1:((((w7.setCell ⟨w.heap.size,0,none⟩ (.slice A6 f.flat.length k6)).setCell ⟨w.heap.size+1,0,none⟩ (.int .i64 0)).setCell ⟨w.heap.size+1+1,0,none⟩ (.int .i64 0))).heap[w.heap.size+1]?=some (.cells #[.int .i64 0] 3 (0,0)) :=
     blk_far (by simpa using blk_set (blk_far HR7.out.A au5 _) 0 (.int .i64 0)) au5 _
    have t2:((((w7.setCell ⟨w.heap.size,0,none⟩ (.slice A6 f.flat.length k6)).setCell ⟨w.heap.size+1,0,none⟩ (.int .i64 0)).setCell ⟨w.heap.size+1+1,0,none⟩ (.int .i64 0))).heap[w.heap.size+2]?=some (.cells #[.int .i64 0] 33 (0,0)) :=
     by simpa using blk_set (blk_far (blk_far HR7.out.E au5 _) au5 _) 0 (.int .i64 0)
    have hb8:Below w.heap.size w (((w7.setCell ⟨w.heap.size,0,none⟩ (.slice A6 f.flat.length k6)).setCell ⟨w.heap.size+1,0,none⟩ (.int .i64 0)).setCell ⟨w.heap.size+1+1,0,none⟩ (.int .i64 0)) :=
     ((HBL.out.setCell (Nat.le_refl _) (p:=⟨w.heap.size,0,none⟩) _).setCell (p:=⟨w.heap.size+1,0,none⟩) (by simp only;omega) _).setCell (p:=⟨w.heap.size+1+1,0,none⟩) (by simp only;omega) _
    have hrow:Kd.R kN 24 (((w7.setCell ⟨w.heap.size,0,none⟩ (.slice A6 f.flat.length k6)).setCell ⟨w.heap.size+1,0,none⟩ (.int .i64 0)).setCell ⟨w.heap.size+1+1,0,none⟩ (.int .i64 0)) w.heap.size (fun _=>True) (.slice A6 f.flat.length k6) f.flat:=by
     refine Row.all (HP7.out.R.move (fun k hk=>?_))
     have n0:=HP7.out.R.ne HR7.out.V au1
     have n1:=HP7.out.R.ne HR7.out.A au1
     have n2:=HP7.out.R.ne HR7.out.E au1
     rw [hk] at n0 n1 n2
     have e1:=Below.heap_setCell w7 ⟨w.heap.size,0,none⟩ (.slice A6 f.flat.length k6) k (fun e=>n0 (by rw [e]))
     have e2:=Below.heap_setCell (w7.setCell ⟨w.heap.size,0,none⟩ (.slice A6 f.flat.length k6)) ⟨w.heap.size+1,0,none⟩ (.int .i64 0) k (fun e=>n1 (by rw [e]))
     have e3:=Below.heap_setCell ((w7.setCell ⟨w.heap.size,0,none⟩ (.slice A6 f.flat.length k6)).setCell ⟨w.heap.size+1,0,none⟩ (.int .i64 0)) ⟨w.heap.size+1+1,0,none⟩ (.int .i64 0) k (fun e=>n2 (by rw [e]))
     exact e3.trans (e2.trans e1)
    generalize ((w7.setCell ⟨w.heap.size,0,none⟩ (.slice A6 f.flat.length k6)).setCell ⟨w.heap.size+1,0,none⟩ (.int .i64 0)).setCell ⟨w.heap.size+1+1,0,none⟩ (.int .i64 0)=w8 at t0 t1 t2 hb8 hrow
    refine leaves_cons (f:=68) (args:=#[.pointer (some ⟨w.heap.size,0,none⟩),.pointer (some ⟨w.heap.size+1,0,none⟩),.pointer (some ⟨w.heap.size+1+1,0,none⟩)]) au5 (by simp [go_sem]) ?_
    refine(catch_idle w.heap.size _ 0 0 w8 ⟨t0,t1,t2⟩).mono ?_
    rintro e u' w'' ⟨rfl,rfl,hb9⟩
    have z0:w''.cell? ⟨w.heap.size,0,none⟩=some (.slice A6 f.flat.length k6):=(cell_same (hb9.block _ (blk_lt t0))).trans ((blk_cell t0 0).trans rfl)
    have z1:w''.cell? ⟨w.heap.size+1,0,none⟩=some (.int .i64 0):=(cell_same (hb9.block _ (blk_lt t1))).trans ((blk_cell t1 0).trans rfl)
    have z2:w''.cell? ⟨w.heap.size+1+1,0,none⟩=some (.int .i64 0):=(cell_same (hb9.block _ (blk_lt t2))).trans ((blk_cell t2 0).trans rfl)
    have hpost:PostP w (parse s.data.toList) (.returned (.tuple #[.slice A6 f.flat.length k6,.int .i64 0,.int .i64 0])) w'':=by
     rw [HPP.out]
     exact ⟨_,rfl,Kd.R_below hrow hb9,hb8.trans (hb9.mono hb8.size)⟩
    simp [Leaves,settle,results,Tryd.results65,go_sem,z0,z1,z2]
    exact hpost
   | cons c r2 =>
    have HPP:Hid (parse s.data.toList=(.nil,((s.size - (c :: r2).length:Nat):Int),5)):=Lib.hid (by unfold parse;rw [if_neg au16,HO.out];simp [hm])
    have HA8:Hid (At s q7 (c :: r2)):=Lib.hid (hm ▸ HA7.out)
    obtain ⟨e1,e2⟩:=at_lt HA8.out
    have hst:=HA8.out.stops 5
    unfold Stops at hst
    have hq:(q7:Int)=((s.size - (c :: r2).length:Nat):Int):=by have:=HA8.out.pos;omega
    have HQ:=Lib.hid hq
    clear hm hst hq
    go_wp2_with (go_at_call 71;refine(fail_calls _ _ _).mono ?_;rintro e w8 ⟨rfl,rfl⟩)
    refine leaves_cons (f:=68) (args:=#[.pointer (some ⟨w.heap.size,0,none⟩),.pointer (some ⟨w.heap.size+1,0,none⟩),.pointer (some ⟨w.heap.size+1+1,0,none⟩)]) au5 (by simp [go_sem]) ?_
    refine(catch_panicking w.heap.size _ 0 0 _ 5 [] _ HR7.out).mono ?_
    rintro e u' w'' ⟨rfl,rfl,hres,hold,hsz,hos,htp,hout⟩
    obtain ⟨z0,z1,z2⟩:=hres.cells
    have hbl:=HBL.out
    have hfin:Below w.heap.size w w'':=⟨hos.trans hbl.os,htp.trans hbl.tape,hout.trans hbl.output,Nat.le_trans hbl.size hsz,fun k hk=>(hold k hk).trans (hbl.block k hk)⟩
    have hpost:PostP w (parse s.data.toList) (.returned (.tuple #[.slice none 0 0,.int .i64 (q7:Int),.int .i64 5])) w'':=by
     rw [HPP.out,HQ.out]
     exact ⟨_,rfl,Kd.R_nil _ _ _ _ _,hfin⟩
    simp [Leaves,settle,results,Tryd.results65,go_sem,z0,z1,z2]
    exact hpost
theorem jsontext_Parse.calls (a0:ByteArray) (r1:List (S24)) (r2 r3:Int) (w:World) (hGU8:GlobU8 w) (h:jsontext_Parse.f a0=some (r1,r2,r3)) :
  Calls Tryd.prog 65 #[.string a0] w fun e w'=>∃ v0,e=.returned (.tuple #[v0,.int .i64 r2,.int .i64 r3])∧Kd.R k24 24 w' w.heap.size (fun _=>True) v0 r1∧Below w.heap.size w w':=by
 unfold jsontext_Parse.f at h
 injection h with h
 injection h with h1 h2
 injection h2 with h2 h3
 subst h1 h2 h3
 exact parse_calls a0 w hGU8
attribute [local go_sem] max2_int min2_int max_two min_two max_three min_three max_four min_four
def jsontext_number.f (a0:ByteArray):Option (Bool):=if a0.toList=([]:List UInt8) then(some false) else(if 0<(a0.size:Int) then((strings_IndexByte.f (⟨#[45,48,49,50,51,52,53,54,55,56,57]⟩:ByteArray) (bt a0 0)).bind fun t101=>(if t101<0 then(some false) else((jsontext_Parse.f a0).bind fun bt102=>(if bt102.2.2=0 then(if 0<(bt102.1.length:Int) then(if((rd_T24 bt102.1 0).f0)=4 then(some (((rd_T24 bt102.1 0).f4).toList==a0.toList)) else(some false)) else(none)) else(some false))))) else(none))
set_option maxHeartbeats 8000000 in
set_option maxRecDepth 100000 in
theorem jsontext_number.calls (a0:ByteArray) (r:Bool) (w:World) (hGU8:GlobU8 w) (h:jsontext_number.f a0=some r) :
  Calls Tryd.prog 58 #[.string a0] w fun e w'=>e=.returned (.bool r)∧Below w.heap.size w w':=by
 have HGU8:=Aside0.mk hGU8
 clear hGU8
 have HB:=Aside0.mk (Below.refl w.heap.size w)
 have H:(if a0.toList=([]:List UInt8) then(some false) else(if 0<(a0.size:Int) then((strings_IndexByte.f (⟨#[45,48,49,50,51,52,53,54,55,56,57]⟩:ByteArray) (bt a0 0)).bind fun t101=>(if t101<0 then(some false) else((jsontext_Parse.f a0).bind fun bt102=>(if bt102.2.2=0 then(if 0<(bt102.1.length:Int) then(if((rd_T24 bt102.1 0).f0)=4 then(some (((rd_T24 bt102.1 0).f4).toList==a0.toList)) else(some false)) else(none)) else(some false))))) else(none)))=some r:=h
 clear h
 by_cases c2:a0.toList=([]:List UInt8)
 ·rw [if_pos c2] at H
  have c2b0:(a0.toList==([]:List UInt8))=true:=beq_iff_eq.mpr c2
  have c2b1:(a0.toList != ([]:List UInt8))=false:=bne_eq_false_iff_eq.mpr c2
  clear c2
  obtain rfl:=Option.some.inj H
  go_enter Tryd.func58,Tryd.ntmps58
  go_wp2
  go_ret
  exact ⟨au12,au3⟩
 ·rw [if_neg c2] at H
  have c2b0:(a0.toList==([]:List UInt8))=false:=beq_eq_false_iff_ne.mpr c2
  have c2b1:(a0.toList != ([]:List UInt8))=true:=bne_iff_ne.mpr c2
  by_cases c3:0<(a0.size:Int)
  ·rw [if_pos c3] at H
   have c3b0:decide (0<(a0.size:Int))=true:=decide_eq_true c3
   have c3b1:decide (0<a0.size)=true:=decide_eq_true au0
   clear c3
   replace H:=Option.bind_eq_some_iff.mp H
   obtain ⟨t101,A50,H⟩:=H
   replace H:(if t101<0 then(some false) else((jsontext_Parse.f a0).bind fun bt102=>(if bt102.2.2=0 then(if 0<(bt102.1.length:Int) then(if((rd_T24 bt102.1 0).f0)=4 then(some (((rd_T24 bt102.1 0).f4).toList==a0.toList)) else(some false)) else(none)) else(some false))))=some r:=H
   have A5:=Aside0.mk A50
   clear A50
   by_cases c6:t101<0
   ·rw [if_pos c6] at H
    have c6b0:decide (t101<0)=true:=decide_eq_true c6
    clear c6
    obtain rfl:=Option.some.inj H
    have p4:0≤(0:Int):=au0
    have q4:0<a0.size:=(by have:(0:Int)<(a0.size:Int):=of_decide_eq_true au7;omega)
    have hx4:∀ h:0<a0.size,((a0[0]'h).toNat:Int)=bt a0 0:=bt_at a0 0
    clear p4
    have qi4:(0<(a0.size:Int))=True:=eq_true (of_decide_eq_true au7)
    replace q4:=eq_true q4
    go_enter Tryd.func58,Tryd.ntmps58
    go_wp2_with (first|(go_at_call 63;(with_reducible refine(strings_IndexByte.calls (⟨#[45,48,49,50,51,52,53,54,55,56,57]⟩:ByteArray) (bt a0 0) t101 _ A5.out).mono ?_);rintro e w' ⟨rfl,⟨nd,rfl⟩⟩))
    go_ret
    exact ⟨au12,au3⟩
   ·rw [if_neg c6] at H
    have c6b0:decide (t101<0)=false:=decide_eq_false c6
    clear c6
    replace H:=Option.bind_eq_some_iff.mp H
    obtain ⟨⟨t102,t103,t104⟩,A70,H⟩:=H
    replace H:(if t104=0 then(if 0<(t102.length:Int) then(if((rd_T24 t102 0).f0)=4 then(some (((rd_T24 t102 0).f4).toList==a0.toList)) else(some false)) else(none)) else(some false))=some r:=H
    have A7:=Aside0.mk A70
    clear A70
    by_cases c8:t104=0
    ·rw [if_pos c8] at H
     have c8b0:(t104==0)=true:=beq_iff_eq.mpr c8
     have c8b1:(t104 != 0)=false:=bne_eq_false_iff_eq.mpr c8
     clear c8
     by_cases c9:0<(t102.length:Int)
     ·rw [if_pos c9] at H
      have c9b0:decide (0<(t102.length:Int))=true:=decide_eq_true c9
      have c9b1:decide (0<t102.length)=true:=decide_eq_true au0
      clear c9
      by_cases c10:((rd_T24 t102 0).f0)=4
      ·rw [if_pos c10] at H
       have c10b0:(((rd_T24 t102 0).f0)==4)=true:=beq_iff_eq.mpr c10
       have c10b1:(((rd_T24 t102 0).f0) != 4)=false:=bne_eq_false_iff_eq.mpr c10
       clear c10
       obtain rfl:=Option.some.inj H
       have p4:0≤(0:Int):=au0
       have q4:0<a0.size:=(by have:(0:Int)<(a0.size:Int):=of_decide_eq_true au7;omega)
       have hx4:∀ h:0<a0.size,((a0[0]'h).toNat:Int)=bt a0 0:=bt_at a0 0
       clear p4
       have qi4:(0<(a0.size:Int))=True:=eq_true (of_decide_eq_true au7)
       replace q4:=eq_true q4
       go_enter Tryd.func58,Tryd.ntmps58
       go_wp2_with (first|(go_at_call 63;(with_reducible refine(strings_IndexByte.calls (⟨#[45,48,49,50,51,52,53,54,55,56,57]⟩:ByteArray) (bt a0 0) t101 _ A5.out).mono ?_);rintro e w' ⟨rfl,⟨nd,rfl⟩⟩)|((with_reducible refine gate_callee (f:=65) rfl ?_);refine goesL_ (some 16) rfl rfl Tryd.func65 au2 rfl #[.string a0] rfl au10 ?_;(with_reducible refine(jsontext_Parse.calls a0 t102 t103 t104 _ ?side1 A7.out).mono ?_);(case side1=>first|exact HGU8.out|exact GlobU8.below HGU8.out au3|exact GlobU8.drawn HGU8.out au8);rintro e w11 ⟨v105,rfl,ho0,hb⟩;refine ⟨_,rfl,?_⟩;have n0_:=Aside0.mk (Kd.R_lower ho0 (below_size au3));have n1_:=Aside0.mk (below_step au3 hb);clear HB;have HO106:=n0_;have HB:=n1_;clear n0_ n1_;(try clear hb);(try clear hb2);(try clear hk);(try clear hi);(try clear ho0);obtain ⟨Ao12,co12,eo12⟩:=Kd.R_slice HO106.out;subst eo12;have p107:0≤(0:Int):=au0;have q107:0<(t102.length:Int):=of_decide_eq_true au7;obtain ⟨ad107,e107,hx107_0,hx107_1,hx107_2,hx107_3,hx107_4⟩:=at_T24 (Kd.R_reads' HO106.out).2.2 0 p107 q107;cases e107;have qi107:(0<t102.length)=True:=eq_true au0;(try rw [show((0:Int)).toNat=0 from rfl] at hx107_0);(try rw [show 0*5=0 from rfl] at hx107_0);(try rw [Addr.add_zero'] at hx107_0);(try rw [show((0:Int)).toNat=0 from rfl] at hx107_1);(try rw [show 0*5=0 from rfl] at hx107_1);(try rw [Addr.add_zero'] at hx107_1);(try rw [show((0:Int)).toNat=0 from rfl] at hx107_2);(try rw [show 0*5=0 from rfl] at hx107_2);(try rw [Addr.add_zero'] at hx107_2);(try rw [show((0:Int)).toNat=0 from rfl] at hx107_3);(try rw [show 0*5=0 from rfl] at hx107_3);(try rw [Addr.add_zero'] at hx107_3);(try rw [show((0:Int)).toNat=0 from rfl] at hx107_4);(try rw [show 0*5=0 from rfl] at hx107_4);(try rw [Addr.add_zero'] at hx107_4);replace p107:=eq_true p107;replace q107:=eq_true q107;have p108:0≤(0:Int):=au0;have q108:0<(t102.length:Int):=of_decide_eq_true au7;obtain ⟨ad108,e108,hx108_0,hx108_1,hx108_2,hx108_3,hx108_4⟩:=at_T24 (Kd.R_reads' HO106.out).2.2 0 p108 q108;obtain rfl:ad107=ad108:=(by injection e108);have qi108:(0<t102.length)=True:=eq_true au0;(try rw [show((0:Int)).toNat=0 from rfl] at hx108_0);(try rw [show 0*5=0 from rfl] at hx108_0);(try rw [Addr.add_zero'] at hx108_0);(try rw [show((0:Int)).toNat=0 from rfl] at hx108_1);(try rw [show 0*5=0 from rfl] at hx108_1);(try rw [Addr.add_zero'] at hx108_1);(try rw [show((0:Int)).toNat=0 from rfl] at hx108_2);(try rw [show 0*5=0 from rfl] at hx108_2);(try rw [Addr.add_zero'] at hx108_2);(try rw [show((0:Int)).toNat=0 from rfl] at hx108_3);(try rw [show 0*5=0 from rfl] at hx108_3);(try rw [Addr.add_zero'] at hx108_3);(try rw [show((0:Int)).toNat=0 from rfl] at hx108_4);(try rw [show 0*5=0 from rfl] at hx108_4);(try rw [Addr.add_zero'] at hx108_4);replace p108:=eq_true p108;replace q108:=eq_true q108))
       go_ret
       exact ⟨au12,au3⟩
      ·rw [if_neg c10] at H
       have c10b0:(((rd_T24 t102 0).f0)==4)=false:=beq_eq_false_iff_ne.mpr c10
       have c10b1:(((rd_T24 t102 0).f0) != 4)=true:=bne_iff_ne.mpr c10
       obtain rfl:=Option.some.inj H
       have p4:0≤(0:Int):=au0
       have q4:0<a0.size:=(by have:(0:Int)<(a0.size:Int):=of_decide_eq_true au7;omega)
       have hx4:∀ h:0<a0.size,((a0[0]'h).toNat:Int)=bt a0 0:=bt_at a0 0
       clear p4
       have qi4:(0<(a0.size:Int))=True:=eq_true (of_decide_eq_true au7)
       replace q4:=eq_true q4
       go_enter Tryd.func58,Tryd.ntmps58
       go_wp2_with (first|(go_at_call 63;(with_reducible refine(strings_IndexByte.calls (⟨#[45,48,49,50,51,52,53,54,55,56,57]⟩:ByteArray) (bt a0 0) t101 _ A5.out).mono ?_);rintro e w' ⟨rfl,⟨nd,rfl⟩⟩)|((with_reducible refine gate_callee (f:=65) rfl ?_);refine goesL_ (some 16) rfl rfl Tryd.func65 au2 rfl #[.string a0] rfl au10 ?_;(with_reducible refine(jsontext_Parse.calls a0 t102 t103 t104 _ ?side1 A7.out).mono ?_);(case side1=>first|exact HGU8.out|exact GlobU8.below HGU8.out au3|exact GlobU8.drawn HGU8.out au8);rintro e w13 ⟨v105,rfl,ho0,hb⟩;refine ⟨_,rfl,?_⟩;have n0_:=Aside0.mk (Kd.R_lower ho0 (below_size au3));have n1_:=Aside0.mk (below_step au3 hb);clear HB;have HO106:=n0_;have HB:=n1_;clear n0_ n1_;(try clear hb);(try clear hb2);(try clear hk);(try clear hi);(try clear ho0);obtain ⟨Ao14,co14,eo14⟩:=Kd.R_slice HO106.out;subst eo14;have p107:0≤(0:Int):=au0;have q107:0<(t102.length:Int):=of_decide_eq_true au7;obtain ⟨ad107,e107,hx107_0,hx107_1,hx107_2,hx107_3,hx107_4⟩:=at_T24 (Kd.R_reads' HO106.out).2.2 0 p107 q107;cases e107;have qi107:(0<t102.length)=True:=eq_true au0;(try rw [show((0:Int)).toNat=0 from rfl] at hx107_0);(try rw [show 0*5=0 from rfl] at hx107_0);(try rw [Addr.add_zero'] at hx107_0);(try rw [show((0:Int)).toNat=0 from rfl] at hx107_1);(try rw [show 0*5=0 from rfl] at hx107_1);(try rw [Addr.add_zero'] at hx107_1);(try rw [show((0:Int)).toNat=0 from rfl] at hx107_2);(try rw [show 0*5=0 from rfl] at hx107_2);(try rw [Addr.add_zero'] at hx107_2);(try rw [show((0:Int)).toNat=0 from rfl] at hx107_3);(try rw [show 0*5=0 from rfl] at hx107_3);(try rw [Addr.add_zero'] at hx107_3);(try rw [show((0:Int)).toNat=0 from rfl] at hx107_4);(try rw [show 0*5=0 from rfl] at hx107_4);(try rw [Addr.add_zero'] at hx107_4);replace p107:=eq_true p107;replace q107:=eq_true q107))
       go_ret
       exact ⟨au12,au3⟩
     ·rw [if_neg c9] at H
      exact absurd H au5
    ·rw [if_neg c8] at H
     have c8b0:(t104==0)=false:=beq_eq_false_iff_ne.mpr c8
     have c8b1:(t104 != 0)=true:=bne_iff_ne.mpr c8
     obtain rfl:=Option.some.inj H
     have p4:0≤(0:Int):=au0
     have q4:0<a0.size:=(by have:(0:Int)<(a0.size:Int):=of_decide_eq_true au7;omega)
     have hx4:∀ h:0<a0.size,((a0[0]'h).toNat:Int)=bt a0 0:=bt_at a0 0
     clear p4
     have qi4:(0<(a0.size:Int))=True:=eq_true (of_decide_eq_true au7)
     replace q4:=eq_true q4
     go_enter Tryd.func58,Tryd.ntmps58
     go_wp2_with (first|(go_at_call 63;(with_reducible refine(strings_IndexByte.calls (⟨#[45,48,49,50,51,52,53,54,55,56,57]⟩:ByteArray) (bt a0 0) t101 _ A5.out).mono ?_);rintro e w' ⟨rfl,⟨nd,rfl⟩⟩)|((with_reducible refine gate_callee (f:=65) rfl ?_);refine goesL_ (some 16) rfl rfl Tryd.func65 au2 rfl #[.string a0] rfl au10 ?_;(with_reducible refine(jsontext_Parse.calls a0 t102 t103 t104 _ ?side1 A7.out).mono ?_);(case side1=>first|exact HGU8.out|exact GlobU8.below HGU8.out au3|exact GlobU8.drawn HGU8.out au8);rintro e w15 ⟨v105,rfl,ho0,hb⟩;refine ⟨_,rfl,?_⟩;have n0_:=Aside0.mk (Kd.R_lower ho0 (below_size au3));have n1_:=Aside0.mk (below_step au3 hb);clear HB;have HO106:=n0_;have HB:=n1_;clear n0_ n1_;(try clear hb);(try clear hb2);(try clear hk);(try clear hi);(try clear ho0)))
     go_ret
     exact ⟨au12,au3⟩
  ·rw [if_neg c3] at H
   exact absurd H au5
mutual
def jsontext_wrong.j0:Nat→Bool→Bool→Int→Int→Int→ByteArray→ByteArray→Option (Bool)
 | 0,_,_,_,_,_,_,_=>none
 | k+1,x1,x7,x110000,x110001,x110002,x110003,x110004=>if x7=true then(some true) else(if x110002 > 0 then(jsontext_wrong.j1 k x1 (decide (x110000<6)) x110000 x110001 x110002 x110003 x110004) else(jsontext_wrong.j1 k x1 false x110000 x110001 x110002 x110003 x110004))
def jsontext_wrong.j1:Nat→Bool→Bool→Int→Int→Int→ByteArray→ByteArray→Option (Bool)
 | 0,_,_,_,_,_,_,_=>none
 | k+1,x1,x30,x110000,x110001,x110002,x110003,x110004=>if x30=true then(jsontext_wrong.j2 k x30 x110000 x110001 x110002 x110003 x110004) else(if x110003.toList=([]:List UInt8) then((utf8_ValidString.f x110003).bind fun t110=>(jsontext_wrong.j2 k (!t110) x110000 x110001 x110002 x110003 x110004)) else(if x1=true then((utf8_ValidString.f x110003).bind fun t111=>(jsontext_wrong.j2 k (!t111) x110000 x110001 x110002 x110003 x110004)) else(jsontext_wrong.j2 k (!x1) x110000 x110001 x110002 x110003 x110004)))
def jsontext_wrong.j2:Nat→Bool→Int→Int→Int→ByteArray→ByteArray→Option (Bool)
 | 0,_,_,_,_,_,_=>none
 | k+1,x30,x110000,x110001,x110002,x110003,x110004=>if x30=true then(some true) else(if x110000=4 then(if(x110004.size:Int) > 65536 then(some true) else((jsontext_number.f x110004).bind fun t112=>(some (!t112)))) else(if x110000=5 then((utf8_ValidString.f x110004).bind fun t113=>(some (!t113))) else(some (x110004.toList != ([]:List UInt8)))))
end
def jsontext_wrong.f (k:Nat) (a0_0:Int) (a0_1:Int) (a0_2:Int) (a0_3:ByteArray) (a0_4:ByteArray) (a1:Bool) (a2:Int):Option (Bool):=if a0_0<1 then(jsontext_wrong.j0 k a1 true a0_0 a0_1 a0_2 a0_3 a0_4) else(if a0_0 > 7 then(jsontext_wrong.j0 k a1 true a0_0 a0_1 a0_2 a0_3 a0_4) else(if a0_1<1 then(jsontext_wrong.j0 k a1 true a0_0 a0_1 a0_2 a0_3 a0_4) else(if a0_2<0 then(jsontext_wrong.j0 k a1 true a0_0 a0_1 a0_2 a0_3 a0_4) else(jsontext_wrong.j0 k a1 (decide (a2≥32)) a0_0 a0_1 a0_2 a0_3 a0_4))))
set_option maxHeartbeats 8000000 in
set_option maxRecDepth 100000 in
theorem jsontext_wrong.calls (k:Nat) (a0_0:Int) (a0_1:Int) (a0_2:Int) (a0_3:ByteArray) (a0_4:ByteArray) (a1:Bool) (a2:Int) (r:Bool) (w:World) (hGU8:GlobU8 w) (h:jsontext_wrong.f k a0_0 a0_1 a0_2 a0_3 a0_4 a1 a2=some r) :
  Calls Tryd.prog 47 #[.agg #[.int .i64 a0_0,.int .i64 a0_1,.int .i64 a0_2,.string a0_3,.string a0_4],.bool a1,.int .i64 a2] w fun e w'=>e=.returned (.bool r)∧Below w.heap.size w w':=by
 have hu24:=Tryd.underlying24
 have HGU8:=Aside0.mk hGU8
 clear hGU8
 have HB:=Aside0.mk (Below.refl w.heap.size w)
 have H:(if a0_0<1 then(jsontext_wrong.j0 k a1 true a0_0 a0_1 a0_2 a0_3 a0_4) else(if a0_0 > 7 then(jsontext_wrong.j0 k a1 true a0_0 a0_1 a0_2 a0_3 a0_4) else(if a0_1<1 then(jsontext_wrong.j0 k a1 true a0_0 a0_1 a0_2 a0_3 a0_4) else(if a0_2<0 then(jsontext_wrong.j0 k a1 true a0_0 a0_1 a0_2 a0_3 a0_4) else(jsontext_wrong.j0 k a1 (decide (a2≥32)) a0_0 a0_1 a0_2 a0_3 a0_4)))))=some r:=h
 clear h
 have HC4:=Aside0.mk H
 clear H
 go_enter Tryd.func47,Tryd.ntmps47
 go_upto_region 1 with(first|((with_reducible refine gate_dst (N:=3) rfl ?_);refine box_event ?hg (N:=3) ?hd (cs:=#[.int .i64 a0_0,.int .i64 a0_1,.int .i64 a0_2,.string a0_3,.string a0_4]) (t:=24) ?hr ?_;(case hd=>rfl);(case hg=>rfl);(case hr=>first|(go_simp;done)|(go_simp;rfl));intro gb109 hg w5 hbox hb;have n0_:=Aside0.mk (below_step au3 hb);have n1_:=Aside0.mk (hbox);have n2_:=Aside0.mk ((by rw [hg];exact(below_size au3):w.heap.size≤gb109));have n3_:=Aside0.mk ((by rw [hg];exact(below_size au3):w.heap.size≤gb109));clear HB;have HB:=n0_;have BK109:=n1_;have GW109:=n2_;have GE109:=n3_;clear n0_ n1_ n2_ n3_;clear hb hbox hg))
 (try simp only [Act.put,List.setIfInBounds_toArray,List.set_cons_zero,List.set_cons_succ])
 go_cut [7] (fun v7 wc=>∃(kq:Nat) (x7_3:Bool),v7=.bool x7_3∧Aside0 (jsontext_wrong.j0 kq a1 x7_3 a0_0 a0_1 a0_2 a0_3 a0_4=some r)∧Aside0 (kq≤k)∧Aside0 (wc.heap[gb109]?=some (.cells #[.int .i64 a0_0,.int .i64 a0_1,.int .i64 a0_2,.string a0_3,.string a0_4] 24 (0,0)))∧Aside0 (Below w.heap.size w wc))
 case first =>
  have H:=HC4.out
  clear HC4
  by_cases c6:a0_0<1
  ·rw [if_pos c6] at H
   have c6b0:decide (a0_0<1)=true:=decide_eq_true c6
   clear c6
   (first|rw [c6b0]|(simp only [i64_w,i32_w];rw [c6b0])|skip)
   have H':=Aside0.mk H
   clear H
   have hcz7_0:w5.cell? ⟨gb109,0,none⟩=some (.int .i64 a0_0):=(blk_cell BK109.out 0).trans rfl
   have hcz7_1:w5.cell? ⟨gb109,1,none⟩=some (.int .i64 a0_1):=(blk_cell BK109.out 1).trans rfl
   have hcz7_2:w5.cell? ⟨gb109,2,none⟩=some (.int .i64 a0_2):=(blk_cell BK109.out 2).trans rfl
   have hcz7_3:w5.cell? ⟨gb109,3,none⟩=some (.string a0_3):=(blk_cell BK109.out 3).trans rfl
   have hcz7_4:w5.cell? ⟨gb109,4,none⟩=some (.string a0_4):=(blk_cell BK109.out 4).trans rfl
   go_wp2
   go_meet
   case rel=>exact ⟨_,(true),au4,au9,⟨au14⟩,⟨by(with_reducible repeat(first|refine blk_drewN ?_ _|refine blk_drew ?_|refine blk_alloc ?_ _));exact BK109.out⟩,⟨by repeat(first|(with_reducible first|exact HB.out|apply below_alloc|apply pw_below_drewN|apply below_drew1|refine below_set ?_ GE109.out)|exact HB.out)⟩⟩
  ·rw [if_neg c6] at H
   have c6b0:decide (a0_0<1)=false:=decide_eq_false c6
   clear c6
   (first|rw [c6b0]|(simp only [i64_w,i32_w];rw [c6b0])|skip)
   by_cases c8:a0_0 > 7
   ·rw [if_pos c8] at H
    have c8b0:decide (7<a0_0)=true:=decide_eq_true c8
    clear c8
    have H':=Aside0.mk H
    clear H
    have hcz9_0:w5.cell? ⟨gb109,0,none⟩=some (.int .i64 a0_0):=(blk_cell BK109.out 0).trans rfl
    have hcz9_1:w5.cell? ⟨gb109,1,none⟩=some (.int .i64 a0_1):=(blk_cell BK109.out 1).trans rfl
    have hcz9_2:w5.cell? ⟨gb109,2,none⟩=some (.int .i64 a0_2):=(blk_cell BK109.out 2).trans rfl
    have hcz9_3:w5.cell? ⟨gb109,3,none⟩=some (.string a0_3):=(blk_cell BK109.out 3).trans rfl
    have hcz9_4:w5.cell? ⟨gb109,4,none⟩=some (.string a0_4):=(blk_cell BK109.out 4).trans rfl
    go_wp2
    go_meet
    case rel=>exact ⟨_,(true),au4,au9,⟨au14⟩,⟨by(with_reducible repeat(first|refine blk_drewN ?_ _|refine blk_drew ?_|refine blk_alloc ?_ _));exact BK109.out⟩,⟨by repeat(first|(with_reducible first|exact HB.out|apply below_alloc|apply pw_below_drewN|apply below_drew1|refine below_set ?_ GE109.out)|exact HB.out)⟩⟩
   ·rw [if_neg c8] at H
    have c8b0:decide (7<a0_0)=false:=decide_eq_false c8
    clear c8
    by_cases c10:a0_1<1
    ·rw [if_pos c10] at H
     have c10b0:decide (a0_1<1)=true:=decide_eq_true c10
     clear c10
     have H':=Aside0.mk H
     clear H
     have hcz11_0:w5.cell? ⟨gb109,0,none⟩=some (.int .i64 a0_0):=(blk_cell BK109.out 0).trans rfl
     have hcz11_1:w5.cell? ⟨gb109,1,none⟩=some (.int .i64 a0_1):=(blk_cell BK109.out 1).trans rfl
     have hcz11_2:w5.cell? ⟨gb109,2,none⟩=some (.int .i64 a0_2):=(blk_cell BK109.out 2).trans rfl
     have hcz11_3:w5.cell? ⟨gb109,3,none⟩=some (.string a0_3):=(blk_cell BK109.out 3).trans rfl
     have hcz11_4:w5.cell? ⟨gb109,4,none⟩=some (.string a0_4):=(blk_cell BK109.out 4).trans rfl
     go_wp2
     go_meet
     case rel=>exact ⟨_,(true),au4,au9,⟨au14⟩,⟨by(with_reducible repeat(first|refine blk_drewN ?_ _|refine blk_drew ?_|refine blk_alloc ?_ _));exact BK109.out⟩,⟨by repeat(first|(with_reducible first|exact HB.out|apply below_alloc|apply pw_below_drewN|apply below_drew1|refine below_set ?_ GE109.out)|exact HB.out)⟩⟩
    ·rw [if_neg c10] at H
     have c10b0:decide (a0_1<1)=false:=decide_eq_false c10
     clear c10
     by_cases c12:a0_2<0
     ·rw [if_pos c12] at H
      have c12b0:decide (a0_2<0)=true:=decide_eq_true c12
      clear c12
      have H':=Aside0.mk H
      clear H
      have hcz13_0:w5.cell? ⟨gb109,0,none⟩=some (.int .i64 a0_0):=(blk_cell BK109.out 0).trans rfl
      have hcz13_1:w5.cell? ⟨gb109,1,none⟩=some (.int .i64 a0_1):=(blk_cell BK109.out 1).trans rfl
      have hcz13_2:w5.cell? ⟨gb109,2,none⟩=some (.int .i64 a0_2):=(blk_cell BK109.out 2).trans rfl
      have hcz13_3:w5.cell? ⟨gb109,3,none⟩=some (.string a0_3):=(blk_cell BK109.out 3).trans rfl
      have hcz13_4:w5.cell? ⟨gb109,4,none⟩=some (.string a0_4):=(blk_cell BK109.out 4).trans rfl
      go_wp2
      go_meet
      case rel=>exact ⟨_,(true),au4,au9,⟨au14⟩,⟨by(with_reducible repeat(first|refine blk_drewN ?_ _|refine blk_drew ?_|refine blk_alloc ?_ _));exact BK109.out⟩,⟨by repeat(first|(with_reducible first|exact HB.out|apply below_alloc|apply pw_below_drewN|apply below_drew1|refine below_set ?_ GE109.out)|exact HB.out)⟩⟩
     ·rw [if_neg c12] at H
      have c12b0:decide (a0_2<0)=false:=decide_eq_false c12
      clear c12
      have H':=Aside0.mk H
      clear H
      have hcz14_0:w5.cell? ⟨gb109,0,none⟩=some (.int .i64 a0_0):=(blk_cell BK109.out 0).trans rfl
      have hcz14_1:w5.cell? ⟨gb109,1,none⟩=some (.int .i64 a0_1):=(blk_cell BK109.out 1).trans rfl
      have hcz14_2:w5.cell? ⟨gb109,2,none⟩=some (.int .i64 a0_2):=(blk_cell BK109.out 2).trans rfl
      have hcz14_3:w5.cell? ⟨gb109,3,none⟩=some (.string a0_3):=(blk_cell BK109.out 3).trans rfl
      have hcz14_4:w5.cell? ⟨gb109,4,none⟩=some (.string a0_4):=(blk_cell BK109.out 4).trans rfl
      go_wp2
      go_meet
      case rel=>exact ⟨_,(decide (a2≥32)),au4,au9,⟨au14⟩,⟨by(with_reducible repeat(first|refine blk_drewN ?_ _|refine blk_drew ?_|refine blk_alloc ?_ _));exact BK109.out⟩,⟨by repeat(first|(with_reducible first|exact HB.out|apply below_alloc|apply pw_below_drewN|apply below_drew1|refine below_set ?_ GE109.out)|exact HB.out)⟩⟩
 case rest =>
  clear HC4
  obtain ⟨kq,x7_3,rfl,HA,HJ3,BK109,HB⟩:=hcut
  cases kq with
  | zero=>exact absurd HA.out (by simp [jsontext_wrong.j0])
  | succ kj3 =>
   have H:=HA.out
   clear HA
   simp only [jsontext_wrong.j0] at H
   by_cases c15:x7_3=true
   ·subst c15
    replace H:(some true)=some r:=by rw [if_pos rfl] at H;exact H
    obtain rfl:=Option.some.inj H
    go_wp2
    go_ret
    exact ⟨au35,by repeat(first|(with_reducible first|exact HB.out|apply below_alloc|apply pw_below_drewN|apply below_drew1|refine below_set ?_ GE109.out)|exact HB.out)⟩
   ·replace c15:=Bool.eq_false_iff.mpr c15
    subst c15
    replace H:(if a0_2 > 0 then(jsontext_wrong.j1 kj3 a1 (decide (a0_0<6)) a0_0 a0_1 a0_2 a0_3 a0_4) else(jsontext_wrong.j1 kj3 a1 false a0_0 a0_1 a0_2 a0_3 a0_4))=some r:=by rw [if_neg (show ¬ (false=true) by decide)] at H;exact H
    have HC16:=Aside0.mk H
    clear H
    go_upto_region 3 with(fail)
    go_cut [30] (fun v30 wc=>∃(kq:Nat) (x30_15:Bool),v30=.bool x30_15∧Aside0 (jsontext_wrong.j1 kq a1 x30_15 a0_0 a0_1 a0_2 a0_3 a0_4=some r)∧Aside0 (kq≤kj3)∧Aside0 (wc.heap[gb109]?=some (.cells #[.int .i64 a0_0,.int .i64 a0_1,.int .i64 a0_2,.string a0_3,.string a0_4] 24 (0,0)))∧Aside0 (Below w.heap.size w wc))
    case first =>
     have H:=HC16.out
     clear HC16
     by_cases c17:a0_2 > 0
     ·rw [if_pos c17] at H
      have c17b0:decide (0<a0_2)=true:=decide_eq_true c17
      clear c17
      (first|rw [c17b0]|(simp only [i64_w,i32_w];rw [c17b0])|skip)
      have H':=Aside0.mk H
      clear H
      have hcz18_0:wc.cell? ⟨gb109,0,none⟩=some (.int .i64 a0_0):=(blk_cell BK109.out 0).trans rfl
      have hcz18_1:wc.cell? ⟨gb109,1,none⟩=some (.int .i64 a0_1):=(blk_cell BK109.out 1).trans rfl
      have hcz18_2:wc.cell? ⟨gb109,2,none⟩=some (.int .i64 a0_2):=(blk_cell BK109.out 2).trans rfl
      have hcz18_3:wc.cell? ⟨gb109,3,none⟩=some (.string a0_3):=(blk_cell BK109.out 3).trans rfl
      have hcz18_4:wc.cell? ⟨gb109,4,none⟩=some (.string a0_4):=(blk_cell BK109.out 4).trans rfl
      go_wp2
      go_meet
      case rel=>exact ⟨_,(decide (a0_0<6)),au4,au9,⟨au40⟩,⟨by(with_reducible repeat(first|refine blk_drewN ?_ _|refine blk_drew ?_|refine blk_alloc ?_ _));exact BK109.out⟩,⟨by repeat(first|(with_reducible first|exact HB.out|apply below_alloc|apply pw_below_drewN|apply below_drew1|refine below_set ?_ GE109.out)|exact HB.out)⟩⟩
     ·rw [if_neg c17] at H
      have c17b0:decide (0<a0_2)=false:=decide_eq_false c17
      clear c17
      (first|rw [c17b0]|(simp only [i64_w,i32_w];rw [c17b0])|skip)
      have H':=Aside0.mk H
      clear H
      have hcz19_0:wc.cell? ⟨gb109,0,none⟩=some (.int .i64 a0_0):=(blk_cell BK109.out 0).trans rfl
      have hcz19_1:wc.cell? ⟨gb109,1,none⟩=some (.int .i64 a0_1):=(blk_cell BK109.out 1).trans rfl
      have hcz19_2:wc.cell? ⟨gb109,2,none⟩=some (.int .i64 a0_2):=(blk_cell BK109.out 2).trans rfl
      have hcz19_3:wc.cell? ⟨gb109,3,none⟩=some (.string a0_3):=(blk_cell BK109.out 3).trans rfl
      have hcz19_4:wc.cell? ⟨gb109,4,none⟩=some (.string a0_4):=(blk_cell BK109.out 4).trans rfl
      go_wp2
      go_meet
      case rel=>exact ⟨_,(false),au4,au9,⟨au40⟩,⟨by(with_reducible repeat(first|refine blk_drewN ?_ _|refine blk_drew ?_|refine blk_alloc ?_ _));exact BK109.out⟩,⟨by repeat(first|(with_reducible first|exact HB.out|apply below_alloc|apply pw_below_drewN|apply below_drew1|refine below_set ?_ GE109.out)|exact HB.out)⟩⟩
    case rest =>
     clear HC16
     obtain ⟨kq,x30_15,rfl,HA,HJ15,BK109,HB⟩:=hcut
     cases kq with
     | zero=>exact absurd HA.out (by simp [jsontext_wrong.j1])
     | succ kj15 =>
      have H:=HA.out
      clear HA
      simp only [jsontext_wrong.j1] at H
      have HC20:=Aside0.mk H
      clear H
      go_upto_if 30 with(fail)
      go_cut [30] (fun v30 wc=>∃(kq:Nat) (x30_19:Bool),v30=.bool x30_19∧Aside0 (jsontext_wrong.j2 kq x30_19 a0_0 a0_1 a0_2 a0_3 a0_4=some r)∧Aside0 (kq≤kj15)∧Aside0 (wc.heap[gb109]?=some (.cells #[.int .i64 a0_0,.int .i64 a0_1,.int .i64 a0_2,.string a0_3,.string a0_4] 24 (0,0)))∧Aside0 (Below w.heap.size w wc))
      case first =>
       have H:=HC20.out
       clear HC20
       by_cases c21:x30_15=true
       ·subst c21
        replace H:(jsontext_wrong.j2 kj15 true a0_0 a0_1 a0_2 a0_3 a0_4)=some r:=by rw [if_pos rfl] at H;exact H
        have H':=Aside0.mk H
        clear H
        go_wp2
        go_meet
        case rel=>exact ⟨_,(true),au4,au9,⟨au51⟩,⟨by(with_reducible repeat(first|refine blk_drewN ?_ _|refine blk_drew ?_|refine blk_alloc ?_ _));exact BK109.out⟩,⟨by repeat(first|(with_reducible first|exact HB.out|apply below_alloc|apply pw_below_drewN|apply below_drew1|refine below_set ?_ GE109.out)|exact HB.out)⟩⟩
       ·replace c21:=Bool.eq_false_iff.mpr c21
        subst c21
        replace H:(if a0_3.toList=([]:List UInt8) then((utf8_ValidString.f a0_3).bind fun t110=>(jsontext_wrong.j2 kj15 (!t110) a0_0 a0_1 a0_2 a0_3 a0_4)) else(if a1=true then((utf8_ValidString.f a0_3).bind fun t111=>(jsontext_wrong.j2 kj15 (!t111) a0_0 a0_1 a0_2 a0_3 a0_4)) else(jsontext_wrong.j2 kj15 (!a1) a0_0 a0_1 a0_2 a0_3 a0_4)))=some r:=by rw [if_neg (show ¬ (false=true) by decide)] at H;exact H
        by_cases c22:a0_3.toList=([]:List UInt8)
        ·rw [if_pos c22] at H
         have c22b0:(a0_3.toList==([]:List UInt8))=true:=beq_iff_eq.mpr c22
         have c22b1:(a0_3.toList != ([]:List UInt8))=false:=bne_eq_false_iff_eq.mpr c22
         clear c22
         (first|rw [c22b0]|(simp only [i64_w,i32_w];rw [c22b0])|skip)
         replace H:=Option.bind_eq_some_iff.mp H
         obtain ⟨t110,A230,H⟩:=H
         replace H:(jsontext_wrong.j2 kj15 (!t110) a0_0 a0_1 a0_2 a0_3 a0_4)=some r:=H
         have A23:=Aside0.mk A230
         clear A230
         have H':=Aside0.mk H
         clear H
         have hcz24_0:wc.cell? ⟨gb109,0,none⟩=some (.int .i64 a0_0):=(blk_cell BK109.out 0).trans rfl
         have hcz24_1:wc.cell? ⟨gb109,1,none⟩=some (.int .i64 a0_1):=(blk_cell BK109.out 1).trans rfl
         have hcz24_2:wc.cell? ⟨gb109,2,none⟩=some (.int .i64 a0_2):=(blk_cell BK109.out 2).trans rfl
         have hcz24_3:wc.cell? ⟨gb109,3,none⟩=some (.string a0_3):=(blk_cell BK109.out 3).trans rfl
         have hcz24_4:wc.cell? ⟨gb109,4,none⟩=some (.string a0_4):=(blk_cell BK109.out 4).trans rfl
         go_wp2_with (first|((with_reducible refine gate_callee (f:=29) rfl ?_);refine goesL_ (some 48) rfl rfl Tryd.func29 au2 rfl #[.string a0_3] rfl au10 ?_;(with_reducible refine(utf8_ValidString.calls a0_3 t110 _ ?side1 A23.out).mono ?_);(case side1=>first|exact HGU8.out|exact GlobU8.below HGU8.out (by repeat(first|(with_reducible first|exact HB.out|apply below_alloc|apply pw_below_drewN|apply below_drew1|refine below_set ?_ GE109.out)|exact HB.out))|exact GlobU8.drawn HGU8.out au8);rintro e w25 ⟨rfl,hb⟩;refine ⟨_,rfl,?_⟩;have n0_:=Aside0.mk (blk_below (g:=gb109) (o:=.cells #[.int .i64 a0_0,.int .i64 a0_1,.int .i64 a0_2,.string a0_3,.string a0_4] 24 (0,0)) (by(with_reducible repeat(first|refine blk_drewN ?_ _|refine blk_drew ?_|refine blk_alloc ?_ _));exact BK109.out) hb);have n1_:=Aside0.mk (below_step (by repeat(first|(with_reducible first|exact HB.out|apply below_alloc|apply pw_below_drewN|apply below_drew1|refine below_set ?_ GE109.out)|exact HB.out)) hb);clear BK109;clear HB;have BK109:=n0_;have HB:=n1_;clear n0_ n1_;(try clear hb);(try clear hb2);(try clear hk);(try clear hi)))
         go_meet
         case rel=>exact ⟨_,(!t110),au4,au9,⟨au51⟩,⟨by(with_reducible repeat(first|refine blk_drewN ?_ _|refine blk_drew ?_|refine blk_alloc ?_ _));exact BK109.out⟩,⟨by repeat(first|(with_reducible first|exact HB.out|apply below_alloc|apply pw_below_drewN|apply below_drew1|refine below_set ?_ GE109.out)|exact HB.out)⟩⟩
        ·rw [if_neg c22] at H
         have c22b0:(a0_3.toList==([]:List UInt8))=false:=beq_eq_false_iff_ne.mpr c22
         have c22b1:(a0_3.toList != ([]:List UInt8))=true:=bne_iff_ne.mpr c22
         (first|rw [c22b0]|(simp only [i64_w,i32_w];rw [c22b0])|skip)
         by_cases c26:a1=true
         ·subst c26
          replace H:((utf8_ValidString.f a0_3).bind fun t111=>(jsontext_wrong.j2 kj15 (!t111) a0_0 a0_1 a0_2 a0_3 a0_4))=some r:=by rw [if_pos rfl] at H;exact H
          replace H:=Option.bind_eq_some_iff.mp H
          obtain ⟨t111,A270,H⟩:=H
          replace H:(jsontext_wrong.j2 kj15 (!t111) a0_0 a0_1 a0_2 a0_3 a0_4)=some r:=H
          have A27:=Aside0.mk A270
          clear A270
          have H':=Aside0.mk H
          clear H
          have hcz28_0:wc.cell? ⟨gb109,0,none⟩=some (.int .i64 a0_0):=(blk_cell BK109.out 0).trans rfl
          have hcz28_1:wc.cell? ⟨gb109,1,none⟩=some (.int .i64 a0_1):=(blk_cell BK109.out 1).trans rfl
          have hcz28_2:wc.cell? ⟨gb109,2,none⟩=some (.int .i64 a0_2):=(blk_cell BK109.out 2).trans rfl
          have hcz28_3:wc.cell? ⟨gb109,3,none⟩=some (.string a0_3):=(blk_cell BK109.out 3).trans rfl
          have hcz28_4:wc.cell? ⟨gb109,4,none⟩=some (.string a0_4):=(blk_cell BK109.out 4).trans rfl
          go_wp2_with (first|((with_reducible refine gate_callee (f:=29) rfl ?_);refine goesL_ (some 48) rfl rfl Tryd.func29 au2 rfl #[.string a0_3] rfl au10 ?_;(with_reducible refine(utf8_ValidString.calls a0_3 t111 _ ?side1 A27.out).mono ?_);(case side1=>first|exact HGU8.out|exact GlobU8.below HGU8.out (by repeat(first|(with_reducible first|exact HB.out|apply below_alloc|apply pw_below_drewN|apply below_drew1|refine below_set ?_ GE109.out)|exact HB.out))|exact GlobU8.drawn HGU8.out au8);rintro e w29 ⟨rfl,hb⟩;refine ⟨_,rfl,?_⟩;have n0_:=Aside0.mk (blk_below (g:=gb109) (o:=.cells #[.int .i64 a0_0,.int .i64 a0_1,.int .i64 a0_2,.string a0_3,.string a0_4] 24 (0,0)) (by(with_reducible repeat(first|refine blk_drewN ?_ _|refine blk_drew ?_|refine blk_alloc ?_ _));exact BK109.out) hb);have n1_:=Aside0.mk (below_step (by repeat(first|(with_reducible first|exact HB.out|apply below_alloc|apply pw_below_drewN|apply below_drew1|refine below_set ?_ GE109.out)|exact HB.out)) hb);clear BK109;clear HB;have BK109:=n0_;have HB:=n1_;clear n0_ n1_;(try clear hb);(try clear hb2);(try clear hk);(try clear hi)))
          go_meet
          case rel=>exact ⟨_,(!t111),au4,au9,⟨au51⟩,⟨by(with_reducible repeat(first|refine blk_drewN ?_ _|refine blk_drew ?_|refine blk_alloc ?_ _));exact BK109.out⟩,⟨by repeat(first|(with_reducible first|exact HB.out|apply below_alloc|apply pw_below_drewN|apply below_drew1|refine below_set ?_ GE109.out)|exact HB.out)⟩⟩
         ·replace c26:=Bool.eq_false_iff.mpr c26
          subst c26
          replace H:(jsontext_wrong.j2 kj15 (!false) a0_0 a0_1 a0_2 a0_3 a0_4)=some r:=by rw [if_neg (show ¬ (false=true) by decide)] at H;exact H
          have H':=Aside0.mk H
          clear H
          have hcz30_0:wc.cell? ⟨gb109,0,none⟩=some (.int .i64 a0_0):=(blk_cell BK109.out 0).trans rfl
          have hcz30_1:wc.cell? ⟨gb109,1,none⟩=some (.int .i64 a0_1):=(blk_cell BK109.out 1).trans rfl
          have hcz30_2:wc.cell? ⟨gb109,2,none⟩=some (.int .i64 a0_2):=(blk_cell BK109.out 2).trans rfl
          have hcz30_3:wc.cell? ⟨gb109,3,none⟩=some (.string a0_3):=(blk_cell BK109.out 3).trans rfl
          have hcz30_4:wc.cell? ⟨gb109,4,none⟩=some (.string a0_4):=(blk_cell BK109.out 4).trans rfl
          go_wp2
          go_meet
          case rel=>exact ⟨_,(!false),au4,au9,⟨au51⟩,⟨by(with_reducible repeat(first|refine blk_drewN ?_ _|refine blk_drew ?_|refine blk_alloc ?_ _));exact BK109.out⟩,⟨by repeat(first|(with_reducible first|exact HB.out|apply below_alloc|apply pw_below_drewN|apply below_drew1|refine below_set ?_ GE109.out)|exact HB.out)⟩⟩
      case rest =>
       clear HC20
       obtain ⟨kq,x30_19,rfl,HA,HJ19,BK109,HB⟩:=hcut
       cases kq with
       | zero=>exact absurd HA.out (by simp [jsontext_wrong.j2])
       | succ kj19 =>
        have H:=HA.out
        clear HA
        simp only [jsontext_wrong.j2] at H
        by_cases c31:x30_19=true
        ·subst c31
         replace H:(some true)=some r:=by rw [if_pos rfl] at H;exact H
         obtain rfl:=Option.some.inj H
         go_wp2
         go_ret
         exact ⟨au35,by repeat(first|(with_reducible first|exact HB.out|apply below_alloc|apply pw_below_drewN|apply below_drew1|refine below_set ?_ GE109.out)|exact HB.out)⟩
        ·replace c31:=Bool.eq_false_iff.mpr c31
         subst c31
         replace H:(if a0_0=4 then(if(a0_4.size:Int) > 65536 then(some true) else((jsontext_number.f a0_4).bind fun t112=>(some (!t112)))) else(if a0_0=5 then((utf8_ValidString.f a0_4).bind fun t113=>(some (!t113))) else(some (a0_4.toList != ([]:List UInt8)))))=some r:=by rw [if_neg (show ¬ (false=true) by decide)] at H;exact H
         by_cases c32:a0_0=4
         ·rw [if_pos c32] at H
          have c32b0:(a0_0==4)=true:=beq_iff_eq.mpr c32
          have c32b1:(a0_0 != 4)=false:=bne_eq_false_iff_eq.mpr c32
          clear c32
          by_cases c33:(a0_4.size:Int) > 65536
          ·rw [if_pos c33] at H
           have c33b0:decide (65536<(a0_4.size:Int))=true:=decide_eq_true c33
           have c33b1:decide (65536<a0_4.size)=true:=decide_eq_true au0
           clear c33
           obtain rfl:=Option.some.inj H
           have hcz34_0:wc.cell? ⟨gb109,0,none⟩=some (.int .i64 a0_0):=(blk_cell BK109.out 0).trans rfl
           have hcz34_1:wc.cell? ⟨gb109,1,none⟩=some (.int .i64 a0_1):=(blk_cell BK109.out 1).trans rfl
           have hcz34_2:wc.cell? ⟨gb109,2,none⟩=some (.int .i64 a0_2):=(blk_cell BK109.out 2).trans rfl
           have hcz34_3:wc.cell? ⟨gb109,3,none⟩=some (.string a0_3):=(blk_cell BK109.out 3).trans rfl
           have hcz34_4:wc.cell? ⟨gb109,4,none⟩=some (.string a0_4):=(blk_cell BK109.out 4).trans rfl
           go_wp2
           go_ret
           exact ⟨au35,by repeat(first|(with_reducible first|exact HB.out|apply below_alloc|apply pw_below_drewN|apply below_drew1|refine below_set ?_ GE109.out)|exact HB.out)⟩
          ·rw [if_neg c33] at H
           have c33b0:decide (65536<(a0_4.size:Int))=false:=decide_eq_false c33
           have c33b1:decide (65536<a0_4.size)=false:=decide_eq_false au0
           clear c33
           replace H:=Option.bind_eq_some_iff.mp H
           obtain ⟨t112,A350,H⟩:=H
           replace H:(some (!t112))=some r:=H
           have A35:=Aside0.mk A350
           clear A350
           obtain rfl:=Option.some.inj H
           have hcz36_0:wc.cell? ⟨gb109,0,none⟩=some (.int .i64 a0_0):=(blk_cell BK109.out 0).trans rfl
           have hcz36_1:wc.cell? ⟨gb109,1,none⟩=some (.int .i64 a0_1):=(blk_cell BK109.out 1).trans rfl
           have hcz36_2:wc.cell? ⟨gb109,2,none⟩=some (.int .i64 a0_2):=(blk_cell BK109.out 2).trans rfl
           have hcz36_3:wc.cell? ⟨gb109,3,none⟩=some (.string a0_3):=(blk_cell BK109.out 3).trans rfl
           have hcz36_4:wc.cell? ⟨gb109,4,none⟩=some (.string a0_4):=(blk_cell BK109.out 4).trans rfl
           go_wp2_with (first|(go_at_call 58;(with_reducible refine(jsontext_number.calls a0_4 t112 _ ?side1 A35.out).mono ?_);(case side1=>first|exact HGU8.out|exact GlobU8.below HGU8.out (by repeat(first|(with_reducible first|exact HB.out|apply below_alloc|apply pw_below_drewN|apply below_drew1|refine below_set ?_ GE109.out)|exact HB.out))|exact GlobU8.drawn HGU8.out au8);rintro e w37 ⟨rfl,hb⟩;have n0_:=Aside0.mk (blk_below (g:=gb109) (o:=.cells #[.int .i64 a0_0,.int .i64 a0_1,.int .i64 a0_2,.string a0_3,.string a0_4] 24 (0,0)) (by(with_reducible repeat(first|refine blk_drewN ?_ _|refine blk_drew ?_|refine blk_alloc ?_ _));exact BK109.out) hb);have n1_:=Aside0.mk (below_step (by repeat(first|(with_reducible first|exact HB.out|apply below_alloc|apply pw_below_drewN|apply below_drew1|refine below_set ?_ GE109.out)|exact HB.out)) hb);clear BK109;clear HB;have BK109:=n0_;have HB:=n1_;clear n0_ n1_;(try clear hb);(try clear hb2);(try clear hk);(try clear hi)))
           go_ret
           exact ⟨au35,by repeat(first|(with_reducible first|exact HB.out|apply below_alloc|apply pw_below_drewN|apply below_drew1|refine below_set ?_ GE109.out)|exact HB.out)⟩
         ·rw [if_neg c32] at H
          have c32b0:(a0_0==4)=false:=beq_eq_false_iff_ne.mpr c32
          have c32b1:(a0_0 != 4)=true:=bne_iff_ne.mpr c32
          by_cases c38:a0_0=5
          ·rw [if_pos c38] at H
           have c38b0:(a0_0==5)=true:=beq_iff_eq.mpr c38
           have c38b1:(a0_0 != 5)=false:=bne_eq_false_iff_eq.mpr c38
           clear c38
           replace H:=Option.bind_eq_some_iff.mp H
           obtain ⟨t113,A390,H⟩:=H
           replace H:(some (!t113))=some r:=H
           have A39:=Aside0.mk A390
           clear A390
           obtain rfl:=Option.some.inj H
           have hcz40_0:wc.cell? ⟨gb109,0,none⟩=some (.int .i64 a0_0):=(blk_cell BK109.out 0).trans rfl
           have hcz40_1:wc.cell? ⟨gb109,1,none⟩=some (.int .i64 a0_1):=(blk_cell BK109.out 1).trans rfl
           have hcz40_2:wc.cell? ⟨gb109,2,none⟩=some (.int .i64 a0_2):=(blk_cell BK109.out 2).trans rfl
           have hcz40_3:wc.cell? ⟨gb109,3,none⟩=some (.string a0_3):=(blk_cell BK109.out 3).trans rfl
           have hcz40_4:wc.cell? ⟨gb109,4,none⟩=some (.string a0_4):=(blk_cell BK109.out 4).trans rfl
           go_wp2_with (first|((with_reducible refine gate_callee (f:=29) rfl ?_);refine goesL_ (some 70) rfl rfl Tryd.func29 au2 rfl #[.string a0_4] rfl au10 ?_;(with_reducible refine(utf8_ValidString.calls a0_4 t113 _ ?side1 A39.out).mono ?_);(case side1=>first|exact HGU8.out|exact GlobU8.below HGU8.out (by repeat(first|(with_reducible first|exact HB.out|apply below_alloc|apply pw_below_drewN|apply below_drew1|refine below_set ?_ GE109.out)|exact HB.out))|exact GlobU8.drawn HGU8.out au8);rintro e w41 ⟨rfl,hb⟩;refine ⟨_,rfl,?_⟩;have n0_:=Aside0.mk (blk_below (g:=gb109) (o:=.cells #[.int .i64 a0_0,.int .i64 a0_1,.int .i64 a0_2,.string a0_3,.string a0_4] 24 (0,0)) (by(with_reducible repeat(first|refine blk_drewN ?_ _|refine blk_drew ?_|refine blk_alloc ?_ _));exact BK109.out) hb);have n1_:=Aside0.mk (below_step (by repeat(first|(with_reducible first|exact HB.out|apply below_alloc|apply pw_below_drewN|apply below_drew1|refine below_set ?_ GE109.out)|exact HB.out)) hb);clear BK109;clear HB;have BK109:=n0_;have HB:=n1_;clear n0_ n1_;(try clear hb);(try clear hb2);(try clear hk);(try clear hi)))
           go_ret
           exact ⟨au35,by repeat(first|(with_reducible first|exact HB.out|apply below_alloc|apply pw_below_drewN|apply below_drew1|refine below_set ?_ GE109.out)|exact HB.out)⟩
          ·rw [if_neg c38] at H
           have c38b0:(a0_0==5)=false:=beq_eq_false_iff_ne.mpr c38
           have c38b1:(a0_0 != 5)=true:=bne_iff_ne.mpr c38
           obtain rfl:=Option.some.inj H
           have hcz42_0:wc.cell? ⟨gb109,0,none⟩=some (.int .i64 a0_0):=(blk_cell BK109.out 0).trans rfl
           have hcz42_1:wc.cell? ⟨gb109,1,none⟩=some (.int .i64 a0_1):=(blk_cell BK109.out 1).trans rfl
           have hcz42_2:wc.cell? ⟨gb109,2,none⟩=some (.int .i64 a0_2):=(blk_cell BK109.out 2).trans rfl
           have hcz42_3:wc.cell? ⟨gb109,3,none⟩=some (.string a0_3):=(blk_cell BK109.out 3).trans rfl
           have hcz42_4:wc.cell? ⟨gb109,4,none⟩=some (.string a0_4):=(blk_cell BK109.out 4).trans rfl
           go_wp2
           go_ret
           exact ⟨au35,by repeat(first|(with_reducible first|exact HB.out|apply below_alloc|apply pw_below_drewN|apply below_drew1|refine below_set ?_ GE109.out)|exact HB.out)⟩
mutual
def jsontext_check.j0:Nat→List (S24)→Int→Int→Bool→Int→Int→Int→ByteArray→ByteArray→Option (Bool)
 | 0,_,_,_,_,_,_,_,_,_=>none
 | k+1,x0,x1,x4,x28,x116000,x116001,x116002,x116003,x116004=>if x28=true then(some false) else(jsontext_check.l0 k x0 x1 x4 (wrap64 (x1+1)) x116002 0 x116000 x116001 x116002 x116003 x116004)
def jsontext_check.l0:Nat→List (S24)→Int→Int→Int→Int→Int→Int→Int→Int→ByteArray→ByteArray→Option (Bool)
 | 0,_,_,_,_,_,_,_,_,_,_,_=>none
 | k+1,x0,x1,x4,x12,x32,x33,x116000,x116001,x116002,x116003,x116004=>if x33<x32 then(if x12≥(wrap64 (x1+x116001)) then(some false) else((jsontext_check.f k x0 x12 (wrap64 (x1+x116001)) (x116000==7) (wrap64 (x4+1))).bind fun t117=>(if t117=true then(if 0≤x12 then(if x12<(x0.length:Int) then(jsontext_check.l0 k x0 x1 x4 (wrap64 (x12+((rd_T24 x0 x12).f1))) x32 (wrap64 (x33+1)) x116000 x116001 x116002 x116003 x116004) else(none)) else(none)) else(some false)))) else(some (x12==(wrap64 (x1+x116001))))
def jsontext_check.f:Nat→List (S24)→Int→Int→Bool→Int→Option (Bool)
 | 0,_,_,_,_,_=>none
 | k+1,l0,a1,a2,a3,a4=>if 0≤a1 then(if a1<(l0.length:Int) then((jsontext_wrong.f k ((rd_T24 l0 a1).f0) ((rd_T24 l0 a1).f1) ((rd_T24 l0 a1).f2) ((rd_T24 l0 a1).f3) ((rd_T24 l0 a1).f4) a3 a4).bind fun t116=>(if t116=true then(jsontext_check.j0 k l0 a1 a4 true ((rd_T24 l0 a1).f0) ((rd_T24 l0 a1).f1) ((rd_T24 l0 a1).f2) ((rd_T24 l0 a1).f3) ((rd_T24 l0 a1).f4)) else(jsontext_check.j0 k l0 a1 a4 (decide (((rd_T24 l0 a1).f1) > (wrap64 (a2 - a1)))) ((rd_T24 l0 a1).f0) ((rd_T24 l0 a1).f1) ((rd_T24 l0 a1).f2) ((rd_T24 l0 a1).f3) ((rd_T24 l0 a1).f4)))) else(none)) else(none)
end
set_option maxHeartbeats 8000000 in
set_option maxRecDepth 100000 in
theorem jsontext_check.calls (k:Nat):∀(A0:Option Addr) (c0:Nat) (l0:List (S24)) (a1:Int) (a2:Int) (a3:Bool) (a4:Int) (r:Bool) (w:World) (hGU8:GlobU8 w) (hr0:Kd.C k24 w A0 l0.length l0) (hc0:l0.length≤c0) (h:jsontext_check.f k l0 a1 a2 a3 a4=some r),
  Calls Tryd.prog 33 #[.slice A0 l0.length c0,.int .i64 a1,.int .i64 a2,.bool a3,.int .i64 a4] w fun e w'=>e=.returned (.bool r)∧Below w.heap.size w w':=by
 induction k using Nat.strongRecOn with
 | _ k ih =>
 intro A0 c0 l0 a1 a2 a3 a4 r w hGU8 hr0 hc0 h
 cases k with
 | zero=>exact absurd h (by simp [jsontext_check.f])
 | succ k =>
 simp only [jsontext_check.f] at h
 have hu24:=Tryd.underlying24
 have HGU8:=Aside0.mk hGU8
 clear hGU8
 have HR0:=Aside0.mk hr0
 have HC0:=Aside0.mk hc0
 clear hr0 hc0
 have HB:=Aside0.mk (Below.refl w.heap.size w)
 have H:(if 0≤a1 then(if a1<(l0.length:Int) then((jsontext_wrong.f k ((rd_T24 l0 a1).f0) ((rd_T24 l0 a1).f1) ((rd_T24 l0 a1).f2) ((rd_T24 l0 a1).f3) ((rd_T24 l0 a1).f4) a3 a4).bind fun t116=>(if t116=true then(jsontext_check.j0 k l0 a1 a4 true ((rd_T24 l0 a1).f0) ((rd_T24 l0 a1).f1) ((rd_T24 l0 a1).f2) ((rd_T24 l0 a1).f3) ((rd_T24 l0 a1).f4)) else(jsontext_check.j0 k l0 a1 a4 (decide (((rd_T24 l0 a1).f1) > (wrap64 (a2 - a1)))) ((rd_T24 l0 a1).f0) ((rd_T24 l0 a1).f1) ((rd_T24 l0 a1).f2) ((rd_T24 l0 a1).f3) ((rd_T24 l0 a1).f4)))) else(none)) else(none))=some r:=h
 clear h
 by_cases c6:0≤a1
 ·rw [if_pos c6] at H
  have c6b0:decide (0≤a1)=true:=decide_eq_true c6
  clear c6
  by_cases c7:a1<(l0.length:Int)
  ·rw [if_pos c7] at H
   have c7b0:decide (a1<(l0.length:Int))=true:=decide_eq_true c7
   clear c7
   have HC8:=Aside0.mk H
   clear H
   have p114:0≤(a1:Int):=of_decide_eq_true au7
   have q114:a1<(l0.length:Int):=of_decide_eq_true au7
   obtain ⟨ad114,e114,hx114_0,hx114_1,hx114_2,hx114_3,hx114_4⟩:=at_T24 HR0.out a1 p114 q114
   cases e114
   replace p114:=eq_true p114
   replace q114:=eq_true q114
   go_enter Tryd.func33,Tryd.ntmps33
   go_upto_region 2 with(first|((with_reducible refine gate_dst (N:=11) rfl ?_);refine box_event ?hg (N:=11) ?hd (cs:=#[.int .i64 0,.int .i64 0,.int .i64 0,.string (⟨#[]⟩:ByteArray),.string (⟨#[]⟩:ByteArray)]) (t:=24) ?hr ?_;(case hd=>rfl);(case hg=>rfl);(case hr=>first|(go_simp;done)|(go_simp;rfl));intro gb115 hg w9 hbox hb;have n0_:=Aside0.mk (below_step au3 hb);have n1_:=Aside0.mk (hbox);have n2_:=Aside0.mk ((by rw [hg];exact(below_size au3):w.heap.size≤gb115));have n3_:=Aside0.mk ((by rw [hg];exact(below_size au3):w.heap.size≤gb115));clear HB;have HB:=n0_;have BK115:=n1_;have GW115:=n2_;have GE115:=n3_;clear n0_ n1_ n2_ n3_;clear hb hbox hg;have hcz10_0:w9.cell? ⟨gb115,0,none⟩=some (.int .i64 0):=(blk_cell BK115.out 0).trans rfl;have hcz10_1:w9.cell? ⟨gb115,1,none⟩=some (.int .i64 0):=(blk_cell BK115.out 1).trans rfl;have hcz10_2:w9.cell? ⟨gb115,2,none⟩=some (.int .i64 0):=(blk_cell BK115.out 2).trans rfl;have hcz10_3:w9.cell? ⟨gb115,3,none⟩=some (.string (⟨#[]⟩:ByteArray)):=(blk_cell BK115.out 3).trans rfl;have hcz10_4:w9.cell? ⟨gb115,4,none⟩=some (.string (⟨#[]⟩:ByteArray)):=(blk_cell BK115.out 4).trans rfl;have hfz10_0:=blk_frozen BK115.out 0;have hfz10_1:=blk_frozen BK115.out 1;have hfz10_2:=blk_frozen BK115.out 2;have hfz10_3:=blk_frozen BK115.out 3;have hfz10_4:=blk_frozen BK115.out 4))
   (try simp only [Act.put,List.setIfInBounds_toArray,List.set_cons_zero,List.set_cons_succ])
   go_cut [28] (fun v28 wc=>∃(kq:Nat) (x28_7:Bool),v28=.bool x28_7∧Aside0 (jsontext_check.j0 kq l0 a1 a4 x28_7 ((rd_T24 l0 a1).f0) ((rd_T24 l0 a1).f1) ((rd_T24 l0 a1).f2) ((rd_T24 l0 a1).f3) ((rd_T24 l0 a1).f4)=some r)∧Aside0 (kq≤k)∧Aside0 (wc.heap[gb115]?=some (.cells #[.int .i64 ((rd_T24 l0 a1).f0),.int .i64 ((rd_T24 l0 a1).f1),.int .i64 ((rd_T24 l0 a1).f2),.string ((rd_T24 l0 a1).f3),.string ((rd_T24 l0 a1).f4)] 24 (0,0)))∧Aside0 (Below w.heap.size w wc))
   case first =>
    have H:=HC8.out
    clear HC8
    replace H:=Option.bind_eq_some_iff.mp H
    obtain ⟨t116,A110,H⟩:=H
    replace H:(if t116=true then(jsontext_check.j0 k l0 a1 a4 true ((rd_T24 l0 a1).f0) ((rd_T24 l0 a1).f1) ((rd_T24 l0 a1).f2) ((rd_T24 l0 a1).f3) ((rd_T24 l0 a1).f4)) else(jsontext_check.j0 k l0 a1 a4 (decide (((rd_T24 l0 a1).f1) > (wrap64 (a2 - a1)))) ((rd_T24 l0 a1).f0) ((rd_T24 l0 a1).f1) ((rd_T24 l0 a1).f2) ((rd_T24 l0 a1).f3) ((rd_T24 l0 a1).f4)))=some r:=H
    have A11:=Aside0.mk A110
    clear A110
    by_cases c12:t116=true
    ·subst c12
     replace H:(jsontext_check.j0 k l0 a1 a4 true ((rd_T24 l0 a1).f0) ((rd_T24 l0 a1).f1) ((rd_T24 l0 a1).f2) ((rd_T24 l0 a1).f3) ((rd_T24 l0 a1).f4))=some r:=by rw [if_pos rfl] at H;exact H
     have H':=Aside0.mk H
     clear H
     have hcz13_0:w9.cell? ⟨gb115,0,none⟩=some (.int .i64 0):=(blk_cell BK115.out 0).trans rfl
     have hcz13_1:w9.cell? ⟨gb115,1,none⟩=some (.int .i64 0):=(blk_cell BK115.out 1).trans rfl
     have hcz13_2:w9.cell? ⟨gb115,2,none⟩=some (.int .i64 0):=(blk_cell BK115.out 2).trans rfl
     have hcz13_3:w9.cell? ⟨gb115,3,none⟩=some (.string (⟨#[]⟩:ByteArray)):=(blk_cell BK115.out 3).trans rfl
     have hcz13_4:w9.cell? ⟨gb115,4,none⟩=some (.string (⟨#[]⟩:ByteArray)):=(blk_cell BK115.out 4).trans rfl
     go_wp2_with (first|((with_reducible refine gate_callee (f:=47) rfl ?_);refine goesL_ (some 20) rfl rfl Tryd.func47 au2 rfl #[.agg #[.int .i64 ((rd_T24 l0 a1).f0),.int .i64 ((rd_T24 l0 a1).f1),.int .i64 ((rd_T24 l0 a1).f2),.string ((rd_T24 l0 a1).f3),.string ((rd_T24 l0 a1).f4)],.bool a3,.int .i64 a4] rfl au10 ?_;(with_reducible refine(jsontext_wrong.calls k ((rd_T24 l0 a1).f0) ((rd_T24 l0 a1).f1) ((rd_T24 l0 a1).f2) ((rd_T24 l0 a1).f3) ((rd_T24 l0 a1).f4) a3 a4 true _ ?side1 A11.out).mono ?_);(case side1=>first|exact HGU8.out|exact GlobU8.below HGU8.out (by repeat(first|(with_reducible first|exact HB.out|apply below_alloc|apply pw_below_drewN|apply below_drew1|refine below_set ?_ GE115.out)|exact HB.out))|exact GlobU8.drawn HGU8.out au8);rintro e w14 ⟨rfl,hb⟩;refine ⟨_,rfl,?_⟩;have n0_:=Aside0.mk (blk_below (g:=gb115) (o:=.cells #[.int .i64 ((rd_T24 l0 a1).f0),.int .i64 ((rd_T24 l0 a1).f1),.int .i64 ((rd_T24 l0 a1).f2),.string ((rd_T24 l0 a1).f3),.string ((rd_T24 l0 a1).f4)] 24 (0,0)) (by(with_reducible repeat(first|refine blk_drewN ?_ _|refine blk_drew ?_|refine blk_alloc ?_ _));refine blk_put (cs:=#[.int .i64 ((rd_T24 l0 a1).f0),.int .i64 ((rd_T24 l0 a1).f1),.int .i64 ((rd_T24 l0 a1).f2),.string ((rd_T24 l0 a1).f3),.string (⟨#[]⟩:ByteArray)]) ?_ 4 _ rfl;(with_reducible repeat(first|refine blk_drewN ?_ _|refine blk_drew ?_|refine blk_alloc ?_ _));refine blk_put (cs:=#[.int .i64 ((rd_T24 l0 a1).f0),.int .i64 ((rd_T24 l0 a1).f1),.int .i64 ((rd_T24 l0 a1).f2),.string (⟨#[]⟩:ByteArray),.string (⟨#[]⟩:ByteArray)]) ?_ 3 _ rfl;(with_reducible repeat(first|refine blk_drewN ?_ _|refine blk_drew ?_|refine blk_alloc ?_ _));refine blk_put (cs:=#[.int .i64 ((rd_T24 l0 a1).f0),.int .i64 ((rd_T24 l0 a1).f1),.int .i64 0,.string (⟨#[]⟩:ByteArray),.string (⟨#[]⟩:ByteArray)]) ?_ 2 _ rfl;(with_reducible repeat(first|refine blk_drewN ?_ _|refine blk_drew ?_|refine blk_alloc ?_ _));refine blk_put (cs:=#[.int .i64 ((rd_T24 l0 a1).f0),.int .i64 0,.int .i64 0,.string (⟨#[]⟩:ByteArray),.string (⟨#[]⟩:ByteArray)]) ?_ 1 _ rfl;(with_reducible repeat(first|refine blk_drewN ?_ _|refine blk_drew ?_|refine blk_alloc ?_ _));refine blk_put (cs:=#[.int .i64 0,.int .i64 0,.int .i64 0,.string (⟨#[]⟩:ByteArray),.string (⟨#[]⟩:ByteArray)]) ?_ 0 _ rfl;(with_reducible repeat(first|refine blk_drewN ?_ _|refine blk_drew ?_|refine blk_alloc ?_ _));exact BK115.out) hb);have n1_:=Aside0.mk (below_step (by repeat(first|(with_reducible first|exact HB.out|apply below_alloc|apply pw_below_drewN|apply below_drew1|refine below_set ?_ GE115.out)|exact HB.out)) hb);clear BK115;clear HB;have BK115:=n0_;have HB:=n1_;clear n0_ n1_;(try clear hb);(try clear hb2);(try clear hk);(try clear hi)))
     go_meet
     case rel=>exact ⟨_,(true),au4,au9,⟨au14⟩,⟨by(with_reducible repeat(first|refine blk_drewN ?_ _|refine blk_drew ?_|refine blk_alloc ?_ _));exact BK115.out⟩,⟨by repeat(first|(with_reducible first|exact HB.out|apply below_alloc|apply pw_below_drewN|apply below_drew1|refine below_set ?_ GE115.out)|exact HB.out)⟩⟩
    ·replace c12:=Bool.eq_false_iff.mpr c12
     subst c12
     replace H:(jsontext_check.j0 k l0 a1 a4 (decide (((rd_T24 l0 a1).f1) > (wrap64 (a2 - a1)))) ((rd_T24 l0 a1).f0) ((rd_T24 l0 a1).f1) ((rd_T24 l0 a1).f2) ((rd_T24 l0 a1).f3) ((rd_T24 l0 a1).f4))=some r:=by rw [if_neg (show ¬ (false=true) by decide)] at H;exact H
     have H':=Aside0.mk H
     clear H
     have hcz15_0:w9.cell? ⟨gb115,0,none⟩=some (.int .i64 0):=(blk_cell BK115.out 0).trans rfl
     have hcz15_1:w9.cell? ⟨gb115,1,none⟩=some (.int .i64 0):=(blk_cell BK115.out 1).trans rfl
     have hcz15_2:w9.cell? ⟨gb115,2,none⟩=some (.int .i64 0):=(blk_cell BK115.out 2).trans rfl
     have hcz15_3:w9.cell? ⟨gb115,3,none⟩=some (.string (⟨#[]⟩:ByteArray)):=(blk_cell BK115.out 3).trans rfl
     have hcz15_4:w9.cell? ⟨gb115,4,none⟩=some (.string (⟨#[]⟩:ByteArray)):=(blk_cell BK115.out 4).trans rfl
     go_wp2_with (first|((with_reducible refine gate_callee (f:=47) rfl ?_);refine goesL_ (some 20) rfl rfl Tryd.func47 au2 rfl #[.agg #[.int .i64 ((rd_T24 l0 a1).f0),.int .i64 ((rd_T24 l0 a1).f1),.int .i64 ((rd_T24 l0 a1).f2),.string ((rd_T24 l0 a1).f3),.string ((rd_T24 l0 a1).f4)],.bool a3,.int .i64 a4] rfl au10 ?_;(with_reducible refine(jsontext_wrong.calls k ((rd_T24 l0 a1).f0) ((rd_T24 l0 a1).f1) ((rd_T24 l0 a1).f2) ((rd_T24 l0 a1).f3) ((rd_T24 l0 a1).f4) a3 a4 false _ ?side1 A11.out).mono ?_);(case side1=>first|exact HGU8.out|exact GlobU8.below HGU8.out (by repeat(first|(with_reducible first|exact HB.out|apply below_alloc|apply pw_below_drewN|apply below_drew1|refine below_set ?_ GE115.out)|exact HB.out))|exact GlobU8.drawn HGU8.out au8);rintro e w16 ⟨rfl,hb⟩;refine ⟨_,rfl,?_⟩;have n0_:=Aside0.mk (blk_below (g:=gb115) (o:=.cells #[.int .i64 ((rd_T24 l0 a1).f0),.int .i64 ((rd_T24 l0 a1).f1),.int .i64 ((rd_T24 l0 a1).f2),.string ((rd_T24 l0 a1).f3),.string ((rd_T24 l0 a1).f4)] 24 (0,0)) (by(with_reducible repeat(first|refine blk_drewN ?_ _|refine blk_drew ?_|refine blk_alloc ?_ _));refine blk_put (cs:=#[.int .i64 ((rd_T24 l0 a1).f0),.int .i64 ((rd_T24 l0 a1).f1),.int .i64 ((rd_T24 l0 a1).f2),.string ((rd_T24 l0 a1).f3),.string (⟨#[]⟩:ByteArray)]) ?_ 4 _ rfl;(with_reducible repeat(first|refine blk_drewN ?_ _|refine blk_drew ?_|refine blk_alloc ?_ _));refine blk_put (cs:=#[.int .i64 ((rd_T24 l0 a1).f0),.int .i64 ((rd_T24 l0 a1).f1),.int .i64 ((rd_T24 l0 a1).f2),.string (⟨#[]⟩:ByteArray),.string (⟨#[]⟩:ByteArray)]) ?_ 3 _ rfl;(with_reducible repeat(first|refine blk_drewN ?_ _|refine blk_drew ?_|refine blk_alloc ?_ _));refine blk_put (cs:=#[.int .i64 ((rd_T24 l0 a1).f0),.int .i64 ((rd_T24 l0 a1).f1),.int .i64 0,.string (⟨#[]⟩:ByteArray),.string (⟨#[]⟩:ByteArray)]) ?_ 2 _ rfl;(with_reducible repeat(first|refine blk_drewN ?_ _|refine blk_drew ?_|refine blk_alloc ?_ _));refine blk_put (cs:=#[.int .i64 ((rd_T24 l0 a1).f0),.int .i64 0,.int .i64 0,.string (⟨#[]⟩:ByteArray),.string (⟨#[]⟩:ByteArray)]) ?_ 1 _ rfl;(with_reducible repeat(first|refine blk_drewN ?_ _|refine blk_drew ?_|refine blk_alloc ?_ _));refine blk_put (cs:=#[.int .i64 0,.int .i64 0,.int .i64 0,.string (⟨#[]⟩:ByteArray),.string (⟨#[]⟩:ByteArray)]) ?_ 0 _ rfl;(with_reducible repeat(first|refine blk_drewN ?_ _|refine blk_drew ?_|refine blk_alloc ?_ _));exact BK115.out) hb);have n1_:=Aside0.mk (below_step (by repeat(first|(with_reducible first|exact HB.out|apply below_alloc|apply pw_below_drewN|apply below_drew1|refine below_set ?_ GE115.out)|exact HB.out)) hb);clear BK115;clear HB;have BK115:=n0_;have HB:=n1_;clear n0_ n1_;(try clear hb);(try clear hb2);(try clear hk);(try clear hi);have hcz17_0:w16.cell? ⟨gb115,0,none⟩=some (.int .i64 ((rd_T24 l0 a1).f0)):=(blk_cell BK115.out 0).trans rfl;have hcz17_1:w16.cell? ⟨gb115,1,none⟩=some (.int .i64 ((rd_T24 l0 a1).f1)):=(blk_cell BK115.out 1).trans rfl;have hcz17_2:w16.cell? ⟨gb115,2,none⟩=some (.int .i64 ((rd_T24 l0 a1).f2)):=(blk_cell BK115.out 2).trans rfl;have hcz17_3:w16.cell? ⟨gb115,3,none⟩=some (.string ((rd_T24 l0 a1).f3)):=(blk_cell BK115.out 3).trans rfl;have hcz17_4:w16.cell? ⟨gb115,4,none⟩=some (.string ((rd_T24 l0 a1).f4)):=(blk_cell BK115.out 4).trans rfl;have hfz17_0:=blk_frozen BK115.out 0;have hfz17_1:=blk_frozen BK115.out 1;have hfz17_2:=blk_frozen BK115.out 2;have hfz17_3:=blk_frozen BK115.out 3;have hfz17_4:=blk_frozen BK115.out 4))
     go_meet
     case rel=>exact ⟨_,(decide (((rd_T24 l0 a1).f1) > (wrap64 (a2 - a1)))),au4,au9,⟨au14⟩,⟨by(with_reducible repeat(first|refine blk_drewN ?_ _|refine blk_drew ?_|refine blk_alloc ?_ _));exact BK115.out⟩,⟨by repeat(first|(with_reducible first|exact HB.out|apply below_alloc|apply pw_below_drewN|apply below_drew1|refine below_set ?_ GE115.out)|exact HB.out)⟩⟩
   case rest =>
    clear HC8
    obtain ⟨kq,x28_7,rfl,HA,HJ7,BK115,HB⟩:=hcut
    cases kq with
    | zero=>exact absurd HA.out (by simp [jsontext_check.j0])
    | succ kj7 =>
     have H:=HA.out
     clear HA
     simp only [jsontext_check.j0] at H
     by_cases c18:x28_7=true
     ·subst c18
      replace H:(some false)=some r:=by rw [if_pos rfl] at H;exact H
      obtain rfl:=Option.some.inj H
      go_wp2
      go_ret
      exact ⟨au12,by repeat(first|(with_reducible first|exact HB.out|apply below_alloc|apply pw_below_drewN|apply below_drew1|refine below_set ?_ GE115.out)|exact HB.out)⟩
     ·replace c18:=Bool.eq_false_iff.mpr c18
      subst c18
      replace H:(jsontext_check.l0 kj7 l0 a1 a4 (wrap64 (a1+1)) ((rd_T24 l0 a1).f2) 0 ((rd_T24 l0 a1).f0) ((rd_T24 l0 a1).f1) ((rd_T24 l0 a1).f2) ((rd_T24 l0 a1).f3) ((rd_T24 l0 a1).f4))=some r:=by rw [if_neg (show ¬ (false=true) by decide)] at H;exact H
      have H':=Aside0.mk H
      clear H
      have hcz19_0:wc.cell? ⟨gb115,0,none⟩=some (.int .i64 ((rd_T24 l0 a1).f0)):=(blk_cell BK115.out 0).trans rfl
      have hcz19_1:wc.cell? ⟨gb115,1,none⟩=some (.int .i64 ((rd_T24 l0 a1).f1)):=(blk_cell BK115.out 1).trans rfl
      have hcz19_2:wc.cell? ⟨gb115,2,none⟩=some (.int .i64 ((rd_T24 l0 a1).f2)):=(blk_cell BK115.out 2).trans rfl
      have hcz19_3:wc.cell? ⟨gb115,3,none⟩=some (.string ((rd_T24 l0 a1).f3)):=(blk_cell BK115.out 3).trans rfl
      have hcz19_4:wc.cell? ⟨gb115,4,none⟩=some (.string ((rd_T24 l0 a1).f4)):=(blk_cell BK115.out 4).trans rfl
      go_wp2
      go_loopg [12,33] kj7 (fun kq v12 v33 w'=>∃(x12_2:Int) (x33_2:Int),v12=.int .i64 x12_2∧v33=.int .i64 x33_2∧Aside0 (jsontext_check.l0 kq l0 a1 a4 x12_2 ((rd_T24 l0 a1).f2) x33_2 ((rd_T24 l0 a1).f0) ((rd_T24 l0 a1).f1) ((rd_T24 l0 a1).f2) ((rd_T24 l0 a1).f3) ((rd_T24 l0 a1).f4)=some r)∧Aside0 (kq≤kj7)∧Aside0 (w'.heap[gb115]?=some (.cells #[.int .i64 ((rd_T24 l0 a1).f0),.int .i64 ((rd_T24 l0 a1).f1),.int .i64 ((rd_T24 l0 a1).f2),.string ((rd_T24 l0 a1).f3),.string ((rd_T24 l0 a1).f4)] 24 (0,0)))∧Aside0 (Below w.heap.size w w'))
      case atStart=>exact ⟨(wrap64 (a1+1)),(0),au4,au4,au9,⟨Nat.le_refl _⟩,⟨by(with_reducible repeat(first|refine blk_drewN ?_ _|refine blk_drew ?_|refine blk_alloc ?_ _));exact BK115.out⟩,⟨by repeat(first|(with_reducible first|exact HB.out|apply below_alloc|apply pw_below_drewN|apply below_drew1|refine below_set ?_ GE115.out)|exact HB.out)⟩⟩
      case round =>
       clear H'
       obtain ⟨x12_2,x33_2,rfl,rfl,HA,HK2,BK115,HB⟩:=hrel
       cases gk with
       | zero=>exact absurd HA.out (by simp [jsontext_check.l0])
       | succ k2 =>
        have H:=HA.out
        clear HA
        simp only [jsontext_check.l0] at H
        by_cases c20:x33_2<((rd_T24 l0 a1).f2)
        ·rw [if_pos c20] at H
         have c20b0:decide (x33_2<((rd_T24 l0 a1).f2))=true:=decide_eq_true c20
         clear c20
         by_cases c21:x12_2≥(wrap64 (a1+((rd_T24 l0 a1).f1)))
         ·rw [if_pos c21] at H
          have c21b0:decide ((wrap64 (a1+((rd_T24 l0 a1).f1)))≤x12_2)=true:=decide_eq_true c21
          clear c21
          obtain rfl:=Option.some.inj H
          have hcz22_0:wr.cell? ⟨gb115,0,none⟩=some (.int .i64 ((rd_T24 l0 a1).f0)):=(blk_cell BK115.out 0).trans rfl
          have hcz22_1:wr.cell? ⟨gb115,1,none⟩=some (.int .i64 ((rd_T24 l0 a1).f1)):=(blk_cell BK115.out 1).trans rfl
          have hcz22_2:wr.cell? ⟨gb115,2,none⟩=some (.int .i64 ((rd_T24 l0 a1).f2)):=(blk_cell BK115.out 2).trans rfl
          have hcz22_3:wr.cell? ⟨gb115,3,none⟩=some (.string ((rd_T24 l0 a1).f3)):=(blk_cell BK115.out 3).trans rfl
          have hcz22_4:wr.cell? ⟨gb115,4,none⟩=some (.string ((rd_T24 l0 a1).f4)):=(blk_cell BK115.out 4).trans rfl
          go_wp2
          go_ret
          exact ⟨au12,by repeat(first|(with_reducible first|exact HB.out|apply below_alloc|apply pw_below_drewN|apply below_drew1|refine below_set ?_ GE115.out)|exact HB.out)⟩
         ·rw [if_neg c21] at H
          have c21b0:decide ((wrap64 (a1+((rd_T24 l0 a1).f1)))≤x12_2)=false:=decide_eq_false c21
          clear c21
          replace H:=Option.bind_eq_some_iff.mp H
          obtain ⟨t117,A230,H⟩:=H
          replace H:(if t117=true then(if 0≤x12_2 then(if x12_2<(l0.length:Int) then(jsontext_check.l0 k2 l0 a1 a4 (wrap64 (x12_2+((rd_T24 l0 x12_2).f1))) ((rd_T24 l0 a1).f2) (wrap64 (x33_2+1)) ((rd_T24 l0 a1).f0) ((rd_T24 l0 a1).f1) ((rd_T24 l0 a1).f2) ((rd_T24 l0 a1).f3) ((rd_T24 l0 a1).f4)) else(none)) else(none)) else(some false))=some r:=H
          have A23:=Aside0.mk A230
          clear A230
          by_cases c24:t117=true
          ·subst c24
           replace H:(if 0≤x12_2 then(if x12_2<(l0.length:Int) then(jsontext_check.l0 k2 l0 a1 a4 (wrap64 (x12_2+((rd_T24 l0 x12_2).f1))) ((rd_T24 l0 a1).f2) (wrap64 (x33_2+1)) ((rd_T24 l0 a1).f0) ((rd_T24 l0 a1).f1) ((rd_T24 l0 a1).f2) ((rd_T24 l0 a1).f3) ((rd_T24 l0 a1).f4)) else(none)) else(none))=some r:=by rw [if_pos rfl] at H;exact H
           by_cases c25:0≤x12_2
           ·rw [if_pos c25] at H
            have c25b0:decide (0≤x12_2)=true:=decide_eq_true c25
            clear c25
            by_cases c26:x12_2<(l0.length:Int)
            ·rw [if_pos c26] at H
             have c26b0:decide (x12_2<(l0.length:Int))=true:=decide_eq_true c26
             clear c26
             have H':=Aside0.mk H
             clear H
             have hcz27_0:wr.cell? ⟨gb115,0,none⟩=some (.int .i64 ((rd_T24 l0 a1).f0)):=(blk_cell BK115.out 0).trans rfl
             have hcz27_1:wr.cell? ⟨gb115,1,none⟩=some (.int .i64 ((rd_T24 l0 a1).f1)):=(blk_cell BK115.out 1).trans rfl
             have hcz27_2:wr.cell? ⟨gb115,2,none⟩=some (.int .i64 ((rd_T24 l0 a1).f2)):=(blk_cell BK115.out 2).trans rfl
             have hcz27_3:wr.cell? ⟨gb115,3,none⟩=some (.string ((rd_T24 l0 a1).f3)):=(blk_cell BK115.out 3).trans rfl
             have hcz27_4:wr.cell? ⟨gb115,4,none⟩=some (.string ((rd_T24 l0 a1).f4)):=(blk_cell BK115.out 4).trans rfl
             go_wp2_with (first|(go_at_call 33;(with_reducible refine(ih k2 (by have:=HJ7.out;have:=HK2.out;omega) _ _ l0 x12_2 (wrap64 (a1+((rd_T24 l0 a1).f1))) (((rd_T24 l0 a1).f0)==7) (wrap64 (a4+1)) true _ ?side3 ?side1 ?side2 A23.out).mono ?_);(case side1=>repeat(first|exact(Kd.C_below HR0.out HB.out)|(with_reducible refine Kd.C_alloc ?_ _)|(with_reducible refine Kd.C_drewN ?_ _)|(with_reducible refine Kd.C_drew ?_)));(case side2=>exact HC0.out);(case side3=>first|exact HGU8.out|exact GlobU8.below HGU8.out (by repeat(first|(with_reducible first|exact HB.out|apply below_alloc|apply pw_below_drewN|apply below_drew1|refine below_set ?_ GE115.out)|exact HB.out))|exact GlobU8.drawn HGU8.out au8);rintro e w28 ⟨rfl,hb⟩;have n0_:=Aside0.mk (blk_below (g:=gb115) (o:=.cells #[.int .i64 ((rd_T24 l0 a1).f0),.int .i64 ((rd_T24 l0 a1).f1),.int .i64 ((rd_T24 l0 a1).f2),.string ((rd_T24 l0 a1).f3),.string ((rd_T24 l0 a1).f4)] 24 (0,0)) (by(with_reducible repeat(first|refine blk_drewN ?_ _|refine blk_drew ?_|refine blk_alloc ?_ _));exact BK115.out) hb);have n1_:=Aside0.mk (below_step (by repeat(first|(with_reducible first|exact HB.out|apply below_alloc|apply pw_below_drewN|apply below_drew1|refine below_set ?_ GE115.out)|exact HB.out)) hb);clear BK115;clear HB;have BK115:=n0_;have HB:=n1_;clear n0_ n1_;(try clear hb);(try clear hb2);(try clear hk);(try clear hi);have p118:0≤(x12_2:Int):=of_decide_eq_true au7;have q118:x12_2<(l0.length:Int):=of_decide_eq_true au7;obtain ⟨ad118,e118,hx118_0,hx118_1,hx118_2,hx118_3,hx118_4⟩:=at_T24 HR0.out x12_2 p118 q118;obtain rfl:ad114=ad118:=(by injection e118);replace hx118_0:=(HB.out.cell (World.block_lt_of_cell? w _ hx118_0)).trans hx118_0;replace hx118_1:=(HB.out.cell (World.block_lt_of_cell? w _ hx118_1)).trans hx118_1;replace hx118_2:=(HB.out.cell (World.block_lt_of_cell? w _ hx118_2)).trans hx118_2;replace hx118_3:=(HB.out.cell (World.block_lt_of_cell? w _ hx118_3)).trans hx118_3;replace hx118_4:=(HB.out.cell (World.block_lt_of_cell? w _ hx118_4)).trans hx118_4;replace p118:=eq_true p118;replace q118:=eq_true q118))
             go_roundg k2
             case measure=>have:=HJ7.out;have:=HK2.out;omega
             case rel=>exact ⟨(wrap64 (x12_2+((rd_T24 l0 x12_2).f1))),(wrap64 (x33_2+1)),au4,au4,au9,⟨by have:=HJ7.out;have:=HK2.out;omega⟩,⟨by(with_reducible repeat(first|refine blk_drewN ?_ _|refine blk_drew ?_|refine blk_alloc ?_ _));exact BK115.out⟩,⟨by repeat(first|(with_reducible first|exact HB.out|apply below_alloc|apply pw_below_drewN|apply below_drew1|refine below_set ?_ GE115.out)|exact HB.out)⟩⟩
            ·rw [if_neg c26] at H
             exact absurd H au5
           ·rw [if_neg c25] at H
            exact absurd H au5
          ·replace c24:=Bool.eq_false_iff.mpr c24
           subst c24
           replace H:(some false)=some r:=by rw [if_neg (show ¬ (false=true) by decide)] at H;exact H
           obtain rfl:=Option.some.inj H
           have hcz29_0:wr.cell? ⟨gb115,0,none⟩=some (.int .i64 ((rd_T24 l0 a1).f0)):=(blk_cell BK115.out 0).trans rfl
           have hcz29_1:wr.cell? ⟨gb115,1,none⟩=some (.int .i64 ((rd_T24 l0 a1).f1)):=(blk_cell BK115.out 1).trans rfl
           have hcz29_2:wr.cell? ⟨gb115,2,none⟩=some (.int .i64 ((rd_T24 l0 a1).f2)):=(blk_cell BK115.out 2).trans rfl
           have hcz29_3:wr.cell? ⟨gb115,3,none⟩=some (.string ((rd_T24 l0 a1).f3)):=(blk_cell BK115.out 3).trans rfl
           have hcz29_4:wr.cell? ⟨gb115,4,none⟩=some (.string ((rd_T24 l0 a1).f4)):=(blk_cell BK115.out 4).trans rfl
           go_wp2_with (first|(go_at_call 33;(with_reducible refine(ih k2 (by have:=HJ7.out;have:=HK2.out;omega) _ _ l0 x12_2 (wrap64 (a1+((rd_T24 l0 a1).f1))) (((rd_T24 l0 a1).f0)==7) (wrap64 (a4+1)) false _ ?side3 ?side1 ?side2 A23.out).mono ?_);(case side1=>repeat(first|exact(Kd.C_below HR0.out HB.out)|(with_reducible refine Kd.C_alloc ?_ _)|(with_reducible refine Kd.C_drewN ?_ _)|(with_reducible refine Kd.C_drew ?_)));(case side2=>exact HC0.out);(case side3=>first|exact HGU8.out|exact GlobU8.below HGU8.out (by repeat(first|(with_reducible first|exact HB.out|apply below_alloc|apply pw_below_drewN|apply below_drew1|refine below_set ?_ GE115.out)|exact HB.out))|exact GlobU8.drawn HGU8.out au8);rintro e w30 ⟨rfl,hb⟩;have n0_:=Aside0.mk (blk_below (g:=gb115) (o:=.cells #[.int .i64 ((rd_T24 l0 a1).f0),.int .i64 ((rd_T24 l0 a1).f1),.int .i64 ((rd_T24 l0 a1).f2),.string ((rd_T24 l0 a1).f3),.string ((rd_T24 l0 a1).f4)] 24 (0,0)) (by(with_reducible repeat(first|refine blk_drewN ?_ _|refine blk_drew ?_|refine blk_alloc ?_ _));exact BK115.out) hb);have n1_:=Aside0.mk (below_step (by repeat(first|(with_reducible first|exact HB.out|apply below_alloc|apply pw_below_drewN|apply below_drew1|refine below_set ?_ GE115.out)|exact HB.out)) hb);clear BK115;clear HB;have BK115:=n0_;have HB:=n1_;clear n0_ n1_;(try clear hb);(try clear hb2);(try clear hk);(try clear hi)))
           go_ret
           exact ⟨au12,by repeat(first|(with_reducible first|exact HB.out|apply below_alloc|apply pw_below_drewN|apply below_drew1|refine below_set ?_ GE115.out)|exact HB.out)⟩
        ·rw [if_neg c20] at H
         have c20b0:decide (x33_2<((rd_T24 l0 a1).f2))=false:=decide_eq_false c20
         clear c20
         obtain rfl:=Option.some.inj H
         have hcz31_0:wr.cell? ⟨gb115,0,none⟩=some (.int .i64 ((rd_T24 l0 a1).f0)):=(blk_cell BK115.out 0).trans rfl
         have hcz31_1:wr.cell? ⟨gb115,1,none⟩=some (.int .i64 ((rd_T24 l0 a1).f1)):=(blk_cell BK115.out 1).trans rfl
         have hcz31_2:wr.cell? ⟨gb115,2,none⟩=some (.int .i64 ((rd_T24 l0 a1).f2)):=(blk_cell BK115.out 2).trans rfl
         have hcz31_3:wr.cell? ⟨gb115,3,none⟩=some (.string ((rd_T24 l0 a1).f3)):=(blk_cell BK115.out 3).trans rfl
         have hcz31_4:wr.cell? ⟨gb115,4,none⟩=some (.string ((rd_T24 l0 a1).f4)):=(blk_cell BK115.out 4).trans rfl
         go_wp2
         go_ret
         exact ⟨au12,by repeat(first|(with_reducible first|exact HB.out|apply below_alloc|apply pw_below_drewN|apply below_drew1|refine below_set ?_ GE115.out)|exact HB.out)⟩
  ·rw [if_neg c7] at H
   exact absurd H au5
 ·rw [if_neg c6] at H
  exact absurd H au5
def jsontext_Check.f (k:Nat) (l0:List (S24)):Option (Int):=if(l0.length:Int)=0 then(some 2) else(if 0<(l0.length:Int) then(if((rd_T24 l0 0).f1)=(l0.length:Int) then((jsontext_check.f k l0 0 (l0.length:Int) false 0).bind fun t120=>(if t120=true then(some 0) else(some 2))) else(some 2)) else(none))
set_option maxHeartbeats 8000000 in
set_option maxRecDepth 100000 in
theorem jsontext_Check.calls (k:Nat) (A0:Option Addr) (c0:Nat) (l0:List (S24)) (r:Int) (w:World) (hGU8:GlobU8 w) (hr0:Kd.C k24 w A0 l0.length l0) (hc0:l0.length≤c0) (h:jsontext_Check.f k l0=some r) :
  Calls Tryd.prog 16 #[.slice A0 l0.length c0] w fun e w'=>e=.returned (.int .i64 r)∧Below w.heap.size w w':=by
 have HGU8:=Aside0.mk hGU8
 clear hGU8
 have HR0:=Aside0.mk hr0
 have HC0:=Aside0.mk hc0
 clear hr0 hc0
 have HB:=Aside0.mk (Below.refl w.heap.size w)
 have H:(if(l0.length:Int)=0 then(some 2) else(if 0<(l0.length:Int) then(if((rd_T24 l0 0).f1)=(l0.length:Int) then((jsontext_check.f k l0 0 (l0.length:Int) false 0).bind fun t120=>(if t120=true then(some 0) else(some 2))) else(some 2)) else(none)))=some r:=h
 clear h
 by_cases c2:(l0.length:Int)=0
 ·rw [if_pos c2] at H
  have c2b0:((l0.length:Int)==0)=true:=beq_iff_eq.mpr c2
  have c2b1:((l0.length:Int) != 0)=false:=bne_eq_false_iff_eq.mpr c2
  clear c2
  obtain rfl:=Option.some.inj H
  go_enter Tryd.func16,Tryd.ntmps16
  go_wp2
  go_ret
  exact ⟨au12,au3⟩
 ·rw [if_neg c2] at H
  have c2b0:((l0.length:Int)==0)=false:=beq_eq_false_iff_ne.mpr c2
  have c2b1:((l0.length:Int) != 0)=true:=bne_iff_ne.mpr c2
  have c2b2:¬ (l0=[]):=fun h_=>c2 (by rw [h_];rfl)
  by_cases c3:0<(l0.length:Int)
  ·rw [if_pos c3] at H
   have c3b0:decide (0<(l0.length:Int))=true:=decide_eq_true c3
   have c3b1:decide (0<l0.length)=true:=decide_eq_true au0
   clear c3
   by_cases c4:((rd_T24 l0 0).f1)=(l0.length:Int)
   ·rw [if_pos c4] at H
    have c4b0:(((rd_T24 l0 0).f1)==(l0.length:Int))=true:=beq_iff_eq.mpr c4
    have c4b1:(((rd_T24 l0 0).f1) != (l0.length:Int))=false:=bne_eq_false_iff_eq.mpr c4
    clear c4
    replace H:=Option.bind_eq_some_iff.mp H
    obtain ⟨t120,A50,H⟩:=H
    replace H:(if t120=true then(some 0) else(some 2))=some r:=H
    have A5:=Aside0.mk A50
    clear A50
    by_cases c6:t120=true
    ·subst c6
     replace H:(some 0)=some r:=by rw [if_pos rfl] at H;exact H
     obtain rfl:=Option.some.inj H
     have p119:0≤(0:Int):=au0
     have q119:0<(l0.length:Int):=of_decide_eq_true au7
     obtain ⟨ad119,e119,hx119_0,hx119_1,hx119_2,hx119_3,hx119_4⟩:=at_T24 HR0.out 0 p119 q119
     cases e119
     have qi119:(0<l0.length)=True:=eq_true au0
     (try rw [show((0:Int)).toNat=0 from rfl] at hx119_0)
     (try rw [show 0*5=0 from rfl] at hx119_0)
     (try rw [Addr.add_zero'] at hx119_0)
     (try rw [show((0:Int)).toNat=0 from rfl] at hx119_1)
     (try rw [show 0*5=0 from rfl] at hx119_1)
     (try rw [Addr.add_zero'] at hx119_1)
     (try rw [show((0:Int)).toNat=0 from rfl] at hx119_2)
     (try rw [show 0*5=0 from rfl] at hx119_2)
     (try rw [Addr.add_zero'] at hx119_2)
     (try rw [show((0:Int)).toNat=0 from rfl] at hx119_3)
     (try rw [show 0*5=0 from rfl] at hx119_3)
     (try rw [Addr.add_zero'] at hx119_3)
     (try rw [show((0:Int)).toNat=0 from rfl] at hx119_4)
     (try rw [show 0*5=0 from rfl] at hx119_4)
     (try rw [Addr.add_zero'] at hx119_4)
     replace p119:=eq_true p119
     replace q119:=eq_true q119
     go_enter Tryd.func16,Tryd.ntmps16
     go_wp2_with (first|(go_at_call 33;(with_reducible refine(jsontext_check.calls k _ _ l0 0 (l0.length:Int) false 0 true _ ?side3 ?side1 ?side2 A5.out).mono ?_);(case side1=>repeat(first|exact HR0.out|(with_reducible refine Kd.C_alloc ?_ _)|(with_reducible refine Kd.C_drewN ?_ _)|(with_reducible refine Kd.C_drew ?_)));(case side2=>exact HC0.out);(case side3=>first|exact HGU8.out|exact GlobU8.below HGU8.out au3|exact GlobU8.drawn HGU8.out au8);rintro e w7 ⟨rfl,hb⟩;have n0_:=Aside0.mk (below_step au3 hb);clear HB;have HB:=n0_;clear n0_;(try clear hb);(try clear hb2);(try clear hk);(try clear hi)))
     go_ret
     exact ⟨au12,au3⟩
    ·replace c6:=Bool.eq_false_iff.mpr c6
     subst c6
     replace H:(some 2)=some r:=by rw [if_neg (show ¬ (false=true) by decide)] at H;exact H
     obtain rfl:=Option.some.inj H
     have p119:0≤(0:Int):=au0
     have q119:0<(l0.length:Int):=of_decide_eq_true au7
     obtain ⟨ad119,e119,hx119_0,hx119_1,hx119_2,hx119_3,hx119_4⟩:=at_T24 HR0.out 0 p119 q119
     cases e119
     have qi119:(0<l0.length)=True:=eq_true au0
     (try rw [show((0:Int)).toNat=0 from rfl] at hx119_0)
     (try rw [show 0*5=0 from rfl] at hx119_0)
     (try rw [Addr.add_zero'] at hx119_0)
     (try rw [show((0:Int)).toNat=0 from rfl] at hx119_1)
     (try rw [show 0*5=0 from rfl] at hx119_1)
     (try rw [Addr.add_zero'] at hx119_1)
     (try rw [show((0:Int)).toNat=0 from rfl] at hx119_2)
     (try rw [show 0*5=0 from rfl] at hx119_2)
     (try rw [Addr.add_zero'] at hx119_2)
     (try rw [show((0:Int)).toNat=0 from rfl] at hx119_3)
     (try rw [show 0*5=0 from rfl] at hx119_3)
     (try rw [Addr.add_zero'] at hx119_3)
     (try rw [show((0:Int)).toNat=0 from rfl] at hx119_4)
     (try rw [show 0*5=0 from rfl] at hx119_4)
     (try rw [Addr.add_zero'] at hx119_4)
     replace p119:=eq_true p119
     replace q119:=eq_true q119
     go_enter Tryd.func16,Tryd.ntmps16
     go_wp2_with (first|(go_at_call 33;(with_reducible refine(jsontext_check.calls k _ _ l0 0 (l0.length:Int) false 0 false _ ?side3 ?side1 ?side2 A5.out).mono ?_);(case side1=>repeat(first|exact HR0.out|(with_reducible refine Kd.C_alloc ?_ _)|(with_reducible refine Kd.C_drewN ?_ _)|(with_reducible refine Kd.C_drew ?_)));(case side2=>exact HC0.out);(case side3=>first|exact HGU8.out|exact GlobU8.below HGU8.out au3|exact GlobU8.drawn HGU8.out au8);rintro e w8 ⟨rfl,hb⟩;have n0_:=Aside0.mk (below_step au3 hb);clear HB;have HB:=n0_;clear n0_;(try clear hb);(try clear hb2);(try clear hk);(try clear hi)))
     go_ret
     exact ⟨au12,au3⟩
   ·rw [if_neg c4] at H
    have c4b0:(((rd_T24 l0 0).f1)==(l0.length:Int))=false:=beq_eq_false_iff_ne.mpr c4
    have c4b1:(((rd_T24 l0 0).f1) != (l0.length:Int))=true:=bne_iff_ne.mpr c4
    obtain rfl:=Option.some.inj H
    have p119:0≤(0:Int):=au0
    have q119:0<(l0.length:Int):=of_decide_eq_true au7
    obtain ⟨ad119,e119,hx119_0,hx119_1,hx119_2,hx119_3,hx119_4⟩:=at_T24 HR0.out 0 p119 q119
    cases e119
    have qi119:(0<l0.length)=True:=eq_true au0
    (try rw [show((0:Int)).toNat=0 from rfl] at hx119_0)
    (try rw [show 0*5=0 from rfl] at hx119_0)
    (try rw [Addr.add_zero'] at hx119_0)
    (try rw [show((0:Int)).toNat=0 from rfl] at hx119_1)
    (try rw [show 0*5=0 from rfl] at hx119_1)
    (try rw [Addr.add_zero'] at hx119_1)
    (try rw [show((0:Int)).toNat=0 from rfl] at hx119_2)
    (try rw [show 0*5=0 from rfl] at hx119_2)
    (try rw [Addr.add_zero'] at hx119_2)
    (try rw [show((0:Int)).toNat=0 from rfl] at hx119_3)
    (try rw [show 0*5=0 from rfl] at hx119_3)
    (try rw [Addr.add_zero'] at hx119_3)
    (try rw [show((0:Int)).toNat=0 from rfl] at hx119_4)
    (try rw [show 0*5=0 from rfl] at hx119_4)
    (try rw [Addr.add_zero'] at hx119_4)
    replace p119:=eq_true p119
    replace q119:=eq_true q119
    go_enter Tryd.func16,Tryd.ntmps16
    go_wp2
    go_ret
    exact ⟨au12,au3⟩
  ·rw [if_neg c3] at H
   exact absurd H au5
def jsontext_made.l0:Nat→Int→List ByteArray→List (S24)→List (List (S24))→Int→Int→Option ((List (S24)))
 | 0,_,_,_,_,_,_=>none
 | k+1,x0,x1,x7,x16,x17,x18=>if x18<x17 then(if 0≤x18 then(if x18<(x16.length:Int) then((jsontext_Check.f k (rd_L3 x16 x18)).bind fun t300=>(if t300=0 then(if x7.length+(rd_L3 x16 x18).length<2513169434916 then((some (x7++(rd_L3 x16 x18):List (S24))).bind fun y301=>(if x0=7 then(if x18<(x1.length:Int) then((utf8_ValidString.f (rdOf ByteArray.empty x1 x18)).bind fun t305=>(if t305=true then(if 0≤(x7.length:Int) then(if(x7.length:Int)<(y301.length:Int) then(jsontext_made.l0 k x0 x1 (y301.set ((x7.length:Int):Int).toNat (⟨(rd_T24 y301 (x7.length:Int)).f0,(rd_T24 y301 (x7.length:Int)).f1,(rd_T24 y301 (x7.length:Int)).f2,rdOf ByteArray.empty x1 x18,(rd_T24 y301 (x7.length:Int)).f4⟩:S24)) x16 x17 (wrap64 (x18+1))) else(none)) else(none)) else(some ([]:List (S24))))) else(none)) else(jsontext_made.l0 k x0 x1 y301 x16 x17 (wrap64 (x18+1))))) else(none)) else(some ([]:List (S24))))) else(none)) else(none)) else(if 0<(x7.length:Int) then(some (x7.set (0:Int).toNat (⟨(rd_T24 x7 0).f0,(x7.length:Int),(rd_T24 x7 0).f2,(rd_T24 x7 0).f3,(rd_T24 x7 0).f4⟩:S24))) else(none))
def jsontext_made.f (k:Nat) (a0:Int) (l1:List ByteArray) (l2:List (List (S24))):Option ((List (S24))):=jsontext_made.l0 k a0 l1 (([(⟨a0,0,(l2.length:Int),(⟨#[]⟩:ByteArray),(⟨#[]⟩:ByteArray)⟩:S24)]:List (S24))) l2 (l2.length:Int) 0
set_option maxHeartbeats 8000000 in
set_option maxRecDepth 100000 in
theorem jsontext_made.calls (k:Nat) (a0:Int) (A1:Option Addr) (c1:Nat) (l1:List ByteArray) (A2:Option Addr) (c2:Nat) (l2:List (List (S24))) (r:List (S24)) (w:World) (hGU8:GlobU8 w) (hr1:Kd.C Kd.string w A1 l1.length l1) (hc1:l1.length≤c1) (hr2:Kd.C (Kd.slice 24 k24) w A2 l2.length l2) (hc2:l2.length≤c2) (h:jsontext_made.f k a0 l1 l2=some r) :
  Calls Tryd.prog 54 #[.int .i64 a0,.slice A1 l1.length c1,.slice A2 l2.length c2] w fun e w'=>∃ v0_:Value,e=.returned (v0_)∧Kd.R k24 24 w' w.heap.size (fun _=>True) v0_ r∧Below w.heap.size w w':=by
 have hu24:=Tryd.underlying24
 have HGU8:=Aside0.mk hGU8
 clear hGU8
 have HR1:=Aside0.mk hr1
 have HC1:=Aside0.mk hc1
 clear hr1 hc1
 have HR2:=Aside0.mk hr2
 have HC2:=Aside0.mk hc2
 clear hr2 hc2
 have HB:=Aside0.mk (Below.refl w.heap.size w)
 have H:(jsontext_made.l0 k a0 l1 (([(⟨a0,0,(l2.length:Int),(⟨#[]⟩:ByteArray),(⟨#[]⟩:ByteArray)⟩:S24)]:List (S24))) l2 (l2.length:Int) 0)=some r:=h
 clear h
 obtain ⟨y295,hy295⟩:∃ y_:List (S24),y_=(([(⟨a0,0,(l2.length:Int),(⟨#[]⟩:ByteArray),(⟨#[]⟩:ByteArray)⟩:S24)]:List (S24))):=⟨_,rfl⟩
 replace H:(jsontext_made.l0 k a0 l1 y295 l2 (l2.length:Int) 0)=some r:=by first|(rw [hy295];with_reducible exact H)|(have H2_:=(Option.bind_some _ _).symm.trans H;rw [hy295];with_reducible exact H2_)|(have H2_:=(Option.bind_some _ _).symm.trans H;with_reducible exact H2_)|with_reducible exact H|(rw [hy295];exact H)|exact H
 have Ny295:=Aside0.mk hy295
 clear hy295
 have H':=Aside0.mk H
 clear H
 go_enter Tryd.func54,Tryd.ntmps54
 go_wp2_with (first|((with_reducible refine gate_dst (N:=15) rfl ?_);refine Kd.R_lit k24 _ 24 ?hg (N:=15) ?hd (xs:=([(⟨a0,0,(l2.length:Int),(⟨#[]⟩:ByteArray),(⟨#[]⟩:ByteArray)⟩:S24)]:List (S24))) (inner:=[.int .i64 a0,.int .i64 0,.int .i64 (l2.length:Int),.string (⟨#[]⟩:ByteArray),.string (⟨#[]⟩:ByteArray)]) (ok:=fun _=>True) (okp:=fun _=>True) ?hr ?hp (fun _ hk=>hk) trivial (Below.refl _ _) (Nat.le_refl _) au5 ?_;(case hd=>rfl);(case hg=>rfl);(case hr=>first|(go_simp;done)|(go_simp;rfl));(case hp=>exact(Reps.c5 (show Kd.M k24 _ _ _ (⟨a0,0,(l2.length:Int),(⟨#[]⟩:ByteArray),(⟨#[]⟩:ByteArray)⟩:S24) [.int .i64 a0,.int .i64 0,.int .i64 (l2.length:Int),.string (⟨#[]⟩:ByteArray),.string (⟨#[]⟩:ByteArray)] from (k24_mkM _ _ _ (⟨a0,0,(l2.length:Int),(⟨#[]⟩:ByteArray),(⟨#[]⟩:ByteArray)⟩:S24) )) (Reps.none _ _)));intro v296 w4 ho5 hb hg_ hnew_;clear hg_ hnew_;(first|rw [← Ny295.out] at ho5|(simp only [Int.reduceToNat] at ho5;rw [← Ny295.out] at ho5));have n0_:=Aside0.mk (Kd.R_lower ho5 (below_size au3));have n1_:=Aside0.mk (below_step au3 hb);clear HB;have HO297:=n0_;have HB:=n1_;clear n0_ n1_;clear hb ho5))
 go_loopg [7,18] k (fun kq v7 v18 w'=>∃(x7_1:List (S24)) (x18_1:Int),v18=.int .i64 x18_1∧Aside0 (jsontext_made.l0 kq a0 l1 x7_1 l2 (l2.length:Int) x18_1=some r)∧Aside0 (kq≤k)∧Aside0 (Kd.R k24 24 w' w.heap.size (fun _=>True) v7 x7_1)∧Aside0 (Below w.heap.size w w'))
 case atStart=>exact ⟨(y295),(0),au4,au9,⟨Nat.le_refl _⟩,⟨by(with_reducible repeat(first|apply Kd.R_alloc|apply Kd.R_drewN|apply Kd.R_drew));exact HO297.out⟩,⟨au3⟩⟩
 case round =>
  clear H'
  obtain ⟨x7_1,x18_1,rfl,HA,HK1,HO_7,HB⟩:=hrel
  cases gk with
  | zero=>exact absurd HA.out (by simp [jsontext_made.l0])
  | succ k1 =>
   have H:=HA.out
   clear HA
   simp only [jsontext_made.l0] at H
   by_cases c6:x18_1<(l2.length:Int)
   ·rw [if_pos c6] at H
    have c6b0:decide (x18_1<(l2.length:Int))=true:=decide_eq_true c6
    clear c6
    by_cases c7:0≤x18_1
    ·rw [if_pos c7] at H
     have c7b0:decide (0≤x18_1)=true:=decide_eq_true c7
     clear c7
     by_cases c8:x18_1<(l2.length:Int)
     ·rw [if_pos c8] at H
      have c8b0:decide (x18_1<(l2.length:Int))=true:=decide_eq_true c8
      clear c8
      replace H:=Option.bind_eq_some_iff.mp H
      obtain ⟨t300,A90,H⟩:=H
      replace H:(if t300=0 then(if x7_1.length+(rd_L3 l2 x18_1).length<2513169434916 then((some (x7_1++(rd_L3 l2 x18_1):List (S24))).bind fun y301=>(if a0=7 then(if x18_1<(l1.length:Int) then((utf8_ValidString.f (rdOf ByteArray.empty l1 x18_1)).bind fun t305=>(if t305=true then(if 0≤(x7_1.length:Int) then(if(x7_1.length:Int)<(y301.length:Int) then(jsontext_made.l0 k1 a0 l1 (y301.set x7_1.length (⟨(rd_T24 y301 (x7_1.length:Int)).f0,(rd_T24 y301 (x7_1.length:Int)).f1,(rd_T24 y301 (x7_1.length:Int)).f2,rdOf ByteArray.empty l1 x18_1,(rd_T24 y301 (x7_1.length:Int)).f4⟩:S24)) l2 (l2.length:Int) (wrap64 (x18_1+1))) else(none)) else(none)) else(some ([]:List (S24))))) else(none)) else(jsontext_made.l0 k1 a0 l1 y301 l2 (l2.length:Int) (wrap64 (x18_1+1))))) else(none)) else(some ([]:List (S24))))=some r:=H
      have A9:=Aside0.mk A90
      clear A90
      by_cases c10:t300=0
      ·rw [if_pos c10] at H
       have c10b0:(t300==0)=true:=beq_iff_eq.mpr c10
       have c10b1:(t300 != 0)=false:=bne_eq_false_iff_eq.mpr c10
       clear c10
       by_cases c11:x7_1.length+(rd_L3 l2 x18_1).length<2513169434916
       ·rw [if_pos c11] at H
        have LMc11:=Aside0.mk c11
        clear c11
        obtain ⟨y301,hy301⟩:∃ y_:List (S24),y_=(x7_1++(rd_L3 l2 x18_1)):=⟨_,rfl⟩
        replace H:(if a0=7 then(if x18_1<(l1.length:Int) then((utf8_ValidString.f (rdOf ByteArray.empty l1 x18_1)).bind fun t305=>(if t305=true then(if 0≤(x7_1.length:Int) then(if(x7_1.length:Int)<(y301.length:Int) then(jsontext_made.l0 k1 a0 l1 (y301.set x7_1.length (⟨(rd_T24 y301 (x7_1.length:Int)).f0,(rd_T24 y301 (x7_1.length:Int)).f1,(rd_T24 y301 (x7_1.length:Int)).f2,rdOf ByteArray.empty l1 x18_1,(rd_T24 y301 (x7_1.length:Int)).f4⟩:S24)) l2 (l2.length:Int) (wrap64 (x18_1+1))) else(none)) else(none)) else(some ([]:List (S24))))) else(none)) else(jsontext_made.l0 k1 a0 l1 y301 l2 (l2.length:Int) (wrap64 (x18_1+1))))=some r:=by first|(rw [hy301];with_reducible exact H)|(have H2_:=(Option.bind_some _ _).symm.trans H;rw [hy301];with_reducible exact H2_)|(have H2_:=(Option.bind_some _ _).symm.trans H;with_reducible exact H2_)|with_reducible exact H|(rw [hy301];exact H)|exact H
        have Ny301:=Aside0.mk hy301
        clear hy301
        by_cases c12:a0=7
        ·rw [if_pos c12] at H
         have c12b0:(a0==7)=true:=beq_iff_eq.mpr c12
         have c12b1:(a0 != 7)=false:=bne_eq_false_iff_eq.mpr c12
         clear c12
         by_cases c13:x18_1<(l1.length:Int)
         ·rw [if_pos c13] at H
          have c13b0:decide (x18_1<(l1.length:Int))=true:=decide_eq_true c13
          clear c13
          replace H:=Option.bind_eq_some_iff.mp H
          obtain ⟨t305,A140,H⟩:=H
          replace H:(if t305=true then(if 0≤(x7_1.length:Int) then(if(x7_1.length:Int)<(y301.length:Int) then(jsontext_made.l0 k1 a0 l1 (y301.set x7_1.length (⟨(rd_T24 y301 (x7_1.length:Int)).f0,(rd_T24 y301 (x7_1.length:Int)).f1,(rd_T24 y301 (x7_1.length:Int)).f2,rdOf ByteArray.empty l1 x18_1,(rd_T24 y301 (x7_1.length:Int)).f4⟩:S24)) l2 (l2.length:Int) (wrap64 (x18_1+1))) else(none)) else(none)) else(some ([]:List (S24))))=some r:=H
          have A14:=Aside0.mk A140
          clear A140
          by_cases c15:t305=true
          ·subst c15
           replace H:(if 0≤(x7_1.length:Int) then(if(x7_1.length:Int)<(y301.length:Int) then(jsontext_made.l0 k1 a0 l1 (y301.set x7_1.length (⟨(rd_T24 y301 (x7_1.length:Int)).f0,(rd_T24 y301 (x7_1.length:Int)).f1,(rd_T24 y301 (x7_1.length:Int)).f2,rdOf ByteArray.empty l1 x18_1,(rd_T24 y301 (x7_1.length:Int)).f4⟩:S24)) l2 (l2.length:Int) (wrap64 (x18_1+1))) else(none)) else(none))=some r:=by rw [if_pos rfl] at H;exact H
           by_cases c16:0≤(x7_1.length:Int)
           ·rw [if_pos c16] at H
            have c16b0:decide (0≤(x7_1.length:Int))=true:=decide_eq_true c16
            have c16b1:decide (0≤x7_1.length)=true:=decide_eq_true au0
            clear c16
            by_cases c17:(x7_1.length:Int)<(y301.length:Int)
            ·rw [if_pos c17] at H
             have c17b0:decide ((x7_1.length:Int)<(y301.length:Int))=true:=decide_eq_true c17
             have c17b1:decide (x7_1.length<y301.length)=true:=decide_eq_true (Int.ofNat_lt.mp c17)
             clear c17
             obtain ⟨y307,hy307⟩:∃ y_:List (S24),y_=(y301.set x7_1.length (⟨(rd_T24 y301 (x7_1.length:Int)).f0,(rd_T24 y301 (x7_1.length:Int)).f1,(rd_T24 y301 (x7_1.length:Int)).f2,rdOf ByteArray.empty l1 x18_1,(rd_T24 y301 (x7_1.length:Int)).f4⟩:S24)):=⟨_,rfl⟩
             replace H:(jsontext_made.l0 k1 a0 l1 y307 l2 (l2.length:Int) (wrap64 (x18_1+1)))=some r:=by first|(rw [hy307];with_reducible exact H)|(have H2_:=(Option.bind_some _ _).symm.trans H;rw [hy307];with_reducible exact H2_)|(have H2_:=(Option.bind_some _ _).symm.trans H;with_reducible exact H2_)|with_reducible exact H|(rw [hy307];exact H)|exact H
             have Ny307:=Aside0.mk hy307
             clear hy307
             have H':=Aside0.mk H
             clear H
             have p299:0≤(x18_1:Int):=of_decide_eq_true au7
             have q299:x18_1<(l2.length:Int):=of_decide_eq_true au7
             obtain ⟨ad299,A299_0,c299_0,e299,hx299_0,hl299_0,hi299_0⟩:=at_L3 HR2.out x18_1 p299 q299
             cases e299
             replace hx299_0:=(HB.out.cell (World.block_lt_of_cell? w _ hx299_0)).trans hx299_0
             have HR299_0:=Aside0.mk hi299_0
             have HC299_0:=Aside0.mk hl299_0
             clear hi299_0 hl299_0
             replace p299:=eq_true p299
             replace q299:=eq_true q299
             go_wp2_with (first|((with_reducible refine gate_callee (f:=16) rfl ?_);refine goesL_ (some 24) rfl rfl Tryd.func16 au2 rfl #[.slice A299_0 (rd_L3 l2 x18_1).length c299_0] rfl au10 ?_;(with_reducible refine(jsontext_Check.calls k1 _ _ (rd_L3 l2 x18_1) t300 _ ?side3 ?side1 ?side2 A9.out).mono ?_);(case side1=>repeat(first|exact(Kd.C_below HR299_0.out HB.out)|(with_reducible refine Kd.C_alloc ?_ _)|(with_reducible refine Kd.C_drewN ?_ _)|(with_reducible refine Kd.C_drew ?_)));(case side2=>exact HC299_0.out);(case side3=>first|exact HGU8.out|exact GlobU8.below HGU8.out au3|exact GlobU8.drawn HGU8.out au8);rintro e w19 ⟨rfl,hb⟩;refine ⟨_,rfl,?_⟩;have n0_:=Aside0.mk (Kd.R_below au18 hb);have n1_:=Aside0.mk (below_step au3 hb);clear HO_7;clear HB;have HO_7:=n0_;have HB:=n1_;clear n0_ n1_;(try clear hb);(try clear hb2);(try clear hk);(try clear hi);obtain ⟨Ao20,co20,eo20⟩:=Kd.R_slice HO_7.out;subst eo20)|((with_reducible refine gate_builtin (b:=.append) (xs:=#[.tmp 28,.tmp 29]) rfl ?_);at_builtin;refine Kd.R_append_rows k24 (w0:=w) w.heap.size rfl (.tmp 28) (.tmp 29) 22 24 (.agg #[(.int .i64 0),(.int .i64 0),(.int .i64 0),(.string ⟨#[]⟩),(.string ⟨#[]⟩)]) 56 rfl Tryd.underlying22 info24 rfl au1 au0 (.slice Ao20 x7_1.length co20) x7_1 (rd_L3 l2 x18_1) _ _ _ (fun _=>True) (fun _=>False) rfl rfl ?aO ?aR (fun _ _ h=>h) (fun _ h=>h.elim) ?aF ?aB ?aS ?aL ?_;(case aR=>repeat(first|exact(Kd.C_below HR299_0.out HB.out)|(with_reducible refine Kd.C_alloc ?_ _)|(with_reducible refine Kd.C_drewN ?_ _)|(with_reducible refine Kd.C_drew ?_)));(case aB=>exact au3);(case aF=>exact(fun _ _=>trivial));(case aO=>exact au18);(case aS=>exact(below_size au3));(case aL=>have:=LMc11.out;omega);intro v302 w21 ho hb hg hat;rw [← Ny301.out] at ho;have n0_:=Aside0.mk (hb);have n1_:=Aside0.mk (ho);clear HB;clear HO_7;have HB:=n0_;have HO303:=n1_;clear n0_ n1_;clear ho hb hg hat;have p304:0≤(x18_1:Int):=of_decide_eq_true au7;have q304:x18_1<(l1.length:Int):=of_decide_eq_true au7;obtain ⟨ad304,e304,hx304_0⟩:=Kd.at_string HR1.out x18_1 p304 q304;cases e304;replace hx304_0:=(HB.out.cell (World.block_lt_of_cell? w _ hx304_0)).trans hx304_0;replace p304:=eq_true p304;replace q304:=eq_true q304)|((with_reducible refine gate_callee (f:=29) rfl ?_);refine goesL_ (some 37) rfl rfl Tryd.func29 au2 rfl #[.string (rdOf ByteArray.empty l1 x18_1)] rfl au10 ?_;(with_reducible refine(utf8_ValidString.calls (rdOf ByteArray.empty l1 x18_1) true _ ?side1 A14.out).mono ?_);(case side1=>first|exact HGU8.out|exact GlobU8.below HGU8.out au3|exact GlobU8.drawn HGU8.out au8);rintro e w22 ⟨rfl,hb⟩;refine ⟨_,rfl,?_⟩;have n0_:=Aside0.mk (Kd.R_below au41 hb);have n1_:=Aside0.mk (below_step au3 hb);clear HO303;clear HB;have HO303:=n0_;have HB:=n1_;clear n0_ n1_;(try clear hb);(try clear hb2);(try clear hk);(try clear hi);have p306:0≤(x18_1:Int):=of_decide_eq_true au7;have q306:x18_1<(l1.length:Int):=of_decide_eq_true au7;obtain ⟨ad306,e306,hx306_0⟩:=Kd.at_string HR1.out x18_1 p306 q306;obtain rfl:ad304=ad306:=(by injection e306);replace hx306_0:=(HB.out.cell (World.block_lt_of_cell? w _ hx306_0)).trans hx306_0;replace p306:=eq_true p306;replace q306:=eq_true q306;have p18:0≤((x7_1.length:Int):Int):=of_decide_eq_true au7;have q18:((x7_1.length:Int):Int)<((y301.length:Int):Int):=of_decide_eq_true au7;obtain ⟨go18,co18,eo18,gb18,gl18,cl18,HG18⟩:=Kd.R_form HO303.out au0;(first|cases eo18|(injection eo18 with ea_ en_ ec_;(first|subst ea_|(injection ea_ with ea_;subst ea_));subst ec_;clear en_));have GB18:=Aside0.mk gb18;have GG18:=Aside0.mk HG18;clear gb18 gl18 HG18;obtain ⟨ce18,hcl18,hM18,hcc18,hfr18⟩:=Kd.R_elem HO303.out z24 ((x7_1.length:Int):Int) p18 q18;obtain rfl:=k24_openM hM18;have hx18_0:w22.cell? ⟨go18,x7_1.length*5,none⟩=some (.int .i64 ((rd_T24 y301 (x7_1.length:Int)).f0)):=hcc18 0 _ rfl;have hx18_1:w22.cell? ⟨go18,x7_1.length*5+1,none⟩=some (.int .i64 ((rd_T24 y301 (x7_1.length:Int)).f1)):=hcc18 1 _ rfl;have hx18_2:w22.cell? ⟨go18,x7_1.length*5+2,none⟩=some (.int .i64 ((rd_T24 y301 (x7_1.length:Int)).f2)):=hcc18 2 _ rfl;have hx18_3:w22.cell? ⟨go18,x7_1.length*5+3,none⟩=some (.string ((rd_T24 y301 (x7_1.length:Int)).f3)):=hcc18 3 _ rfl;have hx18_4:w22.cell? ⟨go18,x7_1.length*5+4,none⟩=some (.string ((rd_T24 y301 (x7_1.length:Int)).f4)):=hcc18 4 _ rfl;have hf18_0:w22.frozen? ⟨go18,x7_1.length*5,none⟩=false:=hfr18 0;have hf18_1:w22.frozen? ⟨go18,x7_1.length*5+1,none⟩=false:=hfr18 1;have hf18_2:w22.frozen? ⟨go18,x7_1.length*5+2,none⟩=false:=hfr18 2;have hf18_3:w22.frozen? ⟨go18,x7_1.length*5+3,none⟩=false:=hfr18 3;have hf18_4:w22.frozen? ⟨go18,x7_1.length*5+4,none⟩=false:=hfr18 4;clear hcl18 hcc18 hfr18 hM18;replace p18:=eq_true p18;replace q18:=eq_true q18;have HX23:=Aside0.mk (show Kd.R k24 24 w22 w.heap.size (fun _=>True) (.slice (some ⟨go18,0,none⟩) y301.length co18) y301 from au41);obtain ⟨ce23,hcl23,hM23,hcc23,hfr23⟩:=Kd.R_elem HX23.out z24 ((x7_1.length:Int):Int) (of_decide_eq_true au7) (by have h_:((x7_1.length:Int):Int)<((y301.length:Int):Int):=of_decide_eq_true au7;first|exact h_|(have e_:=(Kd.R_reads' HO303.out).1;omega)|simpa using h_);obtain rfl:=k24_openM hM23;have HP23:=Kd.R_seg HX23.out ((x7_1.length:Int):Int) (of_decide_eq_true au7) (by have h_:((x7_1.length:Int):Int)<((y301.length:Int):Int):=of_decide_eq_true au7;first|exact h_|(have e_:=(Kd.R_reads' HO303.out).1;omega)|simpa using h_) (seg:=[.string (rdOf ByteArray.empty l1 x18_1)]) (j:=3) hcl23 hcc23 (show 4≤5 from by decide) (x':=(⟨(rd_T24 y301 (x7_1.length:Int)).f0,(rd_T24 y301 (x7_1.length:Int)).f1,(rd_T24 y301 (x7_1.length:Int)).f2,rdOf ByteArray.empty l1 x18_1,(rd_T24 y301 (x7_1.length:Int)).f4⟩:S24)) (k24_mkM _ _ _ (⟨(rd_T24 y301 (x7_1.length:Int)).f0,(rd_T24 y301 (x7_1.length:Int)).f1,(rd_T24 y301 (x7_1.length:Int)).f2,rdOf ByteArray.empty l1 x18_1,(rd_T24 y301 (x7_1.length:Int)).f4⟩:S24) ) (fun _ hk=>hk);have hx23_3:=hcc23 3 _ rfl;(try simp only [show(k24).sz=5 from rfl,Nat.mul_one,Nat.add_zero] at hx23_3);have hf23_3:=hfr23 3;(try simp only [show(k24).sz=5 from rfl,Nat.mul_one,Nat.add_zero] at hf23_3);clear hcl23 hcc23 hfr23 hM23)|((with_reducible refine gate_store (t:=9) (p:=46) rfl ?_);refine store_event (t:=9) (p:=46) (v:=?vo_w24) (w1:=(w22.setCell ⟨go18,x7_1.length*5+3,none⟩ (.string (rdOf ByteArray.empty l1 x18_1)))) ?hg ?ho ?hn ?hr ?_;(case ho=>rfl);(case hg=>rfl);(case hn=>rfl);(case hr=>first|(go_simp;done)|(go_simp;rfl));intro w24 hw;have hg:w22.grownBy w24 (some go18):=(by rw [hw];exact HP23.2);have hp_:Kd.R k24 24 w24 w.heap.size (fun _=>True) (.slice (some ⟨go18,0,none⟩) y301.length co18) y307:=(by rw [hw,Ny307.out];exact HP23.1);clear HP23;have n0_:=Aside0.mk (hp_);have n1_:=Aside0.mk ((by rw [hw];exact below_set (HB.out) GB18.out:Below w.heap.size w w24));clear HO303;clear HB;have HO303:=n0_;have HB:=n1_;clear n0_ n1_;clear hg hw hp_))
             go_roundg k1
             case measure=>have:=HK1.out;omega
             case rel=>exact ⟨(y307),(wrap64 (x18_1+1)),au4,au9,⟨by have:=HK1.out;omega⟩,⟨au41⟩,⟨au3⟩⟩
            ·rw [if_neg c17] at H
             exact absurd H au5
           ·rw [if_neg c16] at H
            exact absurd H au5
          ·replace c15:=Bool.eq_false_iff.mpr c15
           subst c15
           replace H:(some ([]:List (S24)))=some r:=by rw [if_neg (show ¬ (false=true) by decide)] at H;exact H
           obtain rfl:=Option.some.inj H
           have p299:0≤(x18_1:Int):=of_decide_eq_true au7
           have q299:x18_1<(l2.length:Int):=of_decide_eq_true au7
           obtain ⟨ad299,A299_0,c299_0,e299,hx299_0,hl299_0,hi299_0⟩:=at_L3 HR2.out x18_1 p299 q299
           cases e299
           replace hx299_0:=(HB.out.cell (World.block_lt_of_cell? w _ hx299_0)).trans hx299_0
           have HR299_0:=Aside0.mk hi299_0
           have HC299_0:=Aside0.mk hl299_0
           clear hi299_0 hl299_0
           replace p299:=eq_true p299
           replace q299:=eq_true q299
           go_wp2_with (first|((with_reducible refine gate_callee (f:=16) rfl ?_);refine goesL_ (some 24) rfl rfl Tryd.func16 au2 rfl #[.slice A299_0 (rd_L3 l2 x18_1).length c299_0] rfl au10 ?_;(with_reducible refine(jsontext_Check.calls k1 _ _ (rd_L3 l2 x18_1) t300 _ ?side3 ?side1 ?side2 A9.out).mono ?_);(case side1=>repeat(first|exact(Kd.C_below HR299_0.out HB.out)|(with_reducible refine Kd.C_alloc ?_ _)|(with_reducible refine Kd.C_drewN ?_ _)|(with_reducible refine Kd.C_drew ?_)));(case side2=>exact HC299_0.out);(case side3=>first|exact HGU8.out|exact GlobU8.below HGU8.out au3|exact GlobU8.drawn HGU8.out au8);rintro e w25 ⟨rfl,hb⟩;refine ⟨_,rfl,?_⟩;have n0_:=Aside0.mk (Kd.R_below au18 hb);have n1_:=Aside0.mk (below_step au3 hb);clear HO_7;clear HB;have HO_7:=n0_;have HB:=n1_;clear n0_ n1_;(try clear hb);(try clear hb2);(try clear hk);(try clear hi);obtain ⟨Ao26,co26,eo26⟩:=Kd.R_slice HO_7.out;subst eo26)|((with_reducible refine gate_builtin (b:=.append) (xs:=#[.tmp 28,.tmp 29]) rfl ?_);at_builtin;refine Kd.R_append_rows k24 (w0:=w) w.heap.size rfl (.tmp 28) (.tmp 29) 22 24 (.agg #[(.int .i64 0),(.int .i64 0),(.int .i64 0),(.string ⟨#[]⟩),(.string ⟨#[]⟩)]) 56 rfl Tryd.underlying22 info24 rfl au1 au0 (.slice Ao26 x7_1.length co26) x7_1 (rd_L3 l2 x18_1) _ _ _ (fun _=>True) (fun _=>False) rfl rfl ?aO ?aR (fun _ _ h=>h) (fun _ h=>h.elim) ?aF ?aB ?aS ?aL ?_;(case aR=>repeat(first|exact(Kd.C_below HR299_0.out HB.out)|(with_reducible refine Kd.C_alloc ?_ _)|(with_reducible refine Kd.C_drewN ?_ _)|(with_reducible refine Kd.C_drew ?_)));(case aB=>exact au3);(case aF=>exact(fun _ _=>trivial));(case aO=>exact au18);(case aS=>exact(below_size au3));(case aL=>have:=LMc11.out;omega);intro v302 w27 ho hb hg hat;rw [← Ny301.out] at ho;have n0_:=Aside0.mk (hb);have n1_:=Aside0.mk (ho);clear HB;clear HO_7;have HB:=n0_;have HO303:=n1_;clear n0_ n1_;clear ho hb hg hat;have p304:0≤(x18_1:Int):=of_decide_eq_true au7;have q304:x18_1<(l1.length:Int):=of_decide_eq_true au7;obtain ⟨ad304,e304,hx304_0⟩:=Kd.at_string HR1.out x18_1 p304 q304;cases e304;replace hx304_0:=(HB.out.cell (World.block_lt_of_cell? w _ hx304_0)).trans hx304_0;replace p304:=eq_true p304;replace q304:=eq_true q304)|((with_reducible refine gate_callee (f:=29) rfl ?_);refine goesL_ (some 37) rfl rfl Tryd.func29 au2 rfl #[.string (rdOf ByteArray.empty l1 x18_1)] rfl au10 ?_;(with_reducible refine(utf8_ValidString.calls (rdOf ByteArray.empty l1 x18_1) false _ ?side1 A14.out).mono ?_);(case side1=>first|exact HGU8.out|exact GlobU8.below HGU8.out au3|exact GlobU8.drawn HGU8.out au8);rintro e w28 ⟨rfl,hb⟩;refine ⟨_,rfl,?_⟩;have n0_:=Aside0.mk (Kd.R_below au41 hb);have n1_:=Aside0.mk (below_step au3 hb);clear HO303;clear HB;have HO303:=n0_;have HB:=n1_;clear n0_ n1_;(try clear hb);(try clear hb2);(try clear hk);(try clear hi)))
           go_ret
           exact ⟨_,au12,au20,au3⟩
         ·rw [if_neg c13] at H
          exact absurd H au5
        ·rw [if_neg c12] at H
         have c12b0:(a0==7)=false:=beq_eq_false_iff_ne.mpr c12
         have c12b1:(a0 != 7)=true:=bne_iff_ne.mpr c12
         have H':=Aside0.mk H
         clear H
         have p299:0≤(x18_1:Int):=of_decide_eq_true au7
         have q299:x18_1<(l2.length:Int):=of_decide_eq_true au7
         obtain ⟨ad299,A299_0,c299_0,e299,hx299_0,hl299_0,hi299_0⟩:=at_L3 HR2.out x18_1 p299 q299
         cases e299
         replace hx299_0:=(HB.out.cell (World.block_lt_of_cell? w _ hx299_0)).trans hx299_0
         have HR299_0:=Aside0.mk hi299_0
         have HC299_0:=Aside0.mk hl299_0
         clear hi299_0 hl299_0
         replace p299:=eq_true p299
         replace q299:=eq_true q299
         go_wp2_with (first|((with_reducible refine gate_callee (f:=16) rfl ?_);refine goesL_ (some 24) rfl rfl Tryd.func16 au2 rfl #[.slice A299_0 (rd_L3 l2 x18_1).length c299_0] rfl au10 ?_;(with_reducible refine(jsontext_Check.calls k1 _ _ (rd_L3 l2 x18_1) t300 _ ?side3 ?side1 ?side2 A9.out).mono ?_);(case side1=>repeat(first|exact(Kd.C_below HR299_0.out HB.out)|(with_reducible refine Kd.C_alloc ?_ _)|(with_reducible refine Kd.C_drewN ?_ _)|(with_reducible refine Kd.C_drew ?_)));(case side2=>exact HC299_0.out);(case side3=>first|exact HGU8.out|exact GlobU8.below HGU8.out au3|exact GlobU8.drawn HGU8.out au8);rintro e w29 ⟨rfl,hb⟩;refine ⟨_,rfl,?_⟩;have n0_:=Aside0.mk (Kd.R_below au18 hb);have n1_:=Aside0.mk (below_step au3 hb);clear HO_7;clear HB;have HO_7:=n0_;have HB:=n1_;clear n0_ n1_;(try clear hb);(try clear hb2);(try clear hk);(try clear hi);obtain ⟨Ao30,co30,eo30⟩:=Kd.R_slice HO_7.out;subst eo30)|((with_reducible refine gate_builtin (b:=.append) (xs:=#[.tmp 28,.tmp 29]) rfl ?_);at_builtin;refine Kd.R_append_rows k24 (w0:=w) w.heap.size rfl (.tmp 28) (.tmp 29) 22 24 (.agg #[(.int .i64 0),(.int .i64 0),(.int .i64 0),(.string ⟨#[]⟩),(.string ⟨#[]⟩)]) 56 rfl Tryd.underlying22 info24 rfl au1 au0 (.slice Ao30 x7_1.length co30) x7_1 (rd_L3 l2 x18_1) _ _ _ (fun _=>True) (fun _=>False) rfl rfl ?aO ?aR (fun _ _ h=>h) (fun _ h=>h.elim) ?aF ?aB ?aS ?aL ?_;(case aR=>repeat(first|exact(Kd.C_below HR299_0.out HB.out)|(with_reducible refine Kd.C_alloc ?_ _)|(with_reducible refine Kd.C_drewN ?_ _)|(with_reducible refine Kd.C_drew ?_)));(case aB=>exact au3);(case aF=>exact(fun _ _=>trivial));(case aO=>exact au18);(case aS=>exact(below_size au3));(case aL=>have:=LMc11.out;omega);intro v302 w31 ho hb hg hat;rw [← Ny301.out] at ho;have n0_:=Aside0.mk (hb);have n1_:=Aside0.mk (ho);clear HB;clear HO_7;have HB:=n0_;have HO303:=n1_;clear n0_ n1_;clear ho hb hg hat))
         go_roundg k1
         case measure=>have:=HK1.out;omega
         case rel=>exact ⟨(y301),(wrap64 (x18_1+1)),au4,au9,⟨by have:=HK1.out;omega⟩,⟨au41⟩,⟨au3⟩⟩
       ·rw [if_neg c11] at H
        exact absurd H au5
      ·rw [if_neg c10] at H
       have c10b0:(t300==0)=false:=beq_eq_false_iff_ne.mpr c10
       have c10b1:(t300 != 0)=true:=bne_iff_ne.mpr c10
       obtain rfl:=Option.some.inj H
       have p299:0≤(x18_1:Int):=of_decide_eq_true au7
       have q299:x18_1<(l2.length:Int):=of_decide_eq_true au7
       obtain ⟨ad299,A299_0,c299_0,e299,hx299_0,hl299_0,hi299_0⟩:=at_L3 HR2.out x18_1 p299 q299
       cases e299
       replace hx299_0:=(HB.out.cell (World.block_lt_of_cell? w _ hx299_0)).trans hx299_0
       have HR299_0:=Aside0.mk hi299_0
       have HC299_0:=Aside0.mk hl299_0
       clear hi299_0 hl299_0
       replace p299:=eq_true p299
       replace q299:=eq_true q299
       go_wp2_with (first|((with_reducible refine gate_callee (f:=16) rfl ?_);refine goesL_ (some 24) rfl rfl Tryd.func16 au2 rfl #[.slice A299_0 (rd_L3 l2 x18_1).length c299_0] rfl au10 ?_;(with_reducible refine(jsontext_Check.calls k1 _ _ (rd_L3 l2 x18_1) t300 _ ?side3 ?side1 ?side2 A9.out).mono ?_);(case side1=>repeat(first|exact(Kd.C_below HR299_0.out HB.out)|(with_reducible refine Kd.C_alloc ?_ _)|(with_reducible refine Kd.C_drewN ?_ _)|(with_reducible refine Kd.C_drew ?_)));(case side2=>exact HC299_0.out);(case side3=>first|exact HGU8.out|exact GlobU8.below HGU8.out au3|exact GlobU8.drawn HGU8.out au8);rintro e w32 ⟨rfl,hb⟩;refine ⟨_,rfl,?_⟩;have n0_:=Aside0.mk (Kd.R_below au18 hb);have n1_:=Aside0.mk (below_step au3 hb);clear HO_7;clear HB;have HO_7:=n0_;have HB:=n1_;clear n0_ n1_;(try clear hb);(try clear hb2);(try clear hk);(try clear hi)))
       go_ret
       exact ⟨_,au12,au20,au3⟩
     ·rw [if_neg c8] at H
      exact absurd H au5
    ·rw [if_neg c7] at H
     exact absurd H au5
   ·rw [if_neg c6] at H
    have c6b0:decide (x18_1<(l2.length:Int))=false:=decide_eq_false c6
    clear c6
    by_cases c33:0<(x7_1.length:Int)
    ·rw [if_pos c33] at H
     have c33b0:decide (0<(x7_1.length:Int))=true:=decide_eq_true c33
     have c33b1:decide (0<x7_1.length)=true:=decide_eq_true au0
     clear c33
     obtain ⟨y298,hy298⟩:∃ y_:List (S24),y_=(x7_1.set (0:Int).toNat (⟨(rd_T24 x7_1 0).f0,(x7_1.length:Int),(rd_T24 x7_1 0).f2,(rd_T24 x7_1 0).f3,(rd_T24 x7_1 0).f4⟩:S24)):=⟨_,rfl⟩
     replace H:(some y298)=some r:=by first|(rw [hy298];with_reducible exact H)|(have H2_:=(Option.bind_some _ _).symm.trans H;rw [hy298];with_reducible exact H2_)|(have H2_:=(Option.bind_some _ _).symm.trans H;with_reducible exact H2_)|with_reducible exact H|(rw [hy298];exact H)|exact H
     have Ny298:=Aside0.mk hy298
     clear hy298
     obtain rfl:=Option.some.inj H
     obtain ⟨Ao35,co35,eo35⟩:=Kd.R_slice HO_7.out
     subst eo35
     have p34:0≤(0:Int):=au0
     have q34:(0:Int)<((x7_1.length:Int):Int):=of_decide_eq_true au7
     have qi34:(0<x7_1.length)=True:=eq_true au0
     obtain ⟨go34,co34,eo34,gb34,gl34,cl34,HG34⟩:=Kd.R_form HO_7.out au0
     (first|cases eo34|(injection eo34 with ea_ en_ ec_;(first|subst ea_|(injection ea_ with ea_;subst ea_));subst ec_;clear en_))
     have GB34:=Aside0.mk gb34
     have GG34:=Aside0.mk HG34
     clear gb34 gl34 HG34
     obtain ⟨ce34,hcl34,hM34,hcc34,hfr34⟩:=Kd.R_elem HO_7.out z24 (0:Int) p34 q34
     obtain rfl:=k24_openM hM34
     have hx34_0:wr.cell? ⟨go34,(0:Int).toNat*5,none⟩=some (.int .i64 ((rd_T24 x7_1 0).f0)):=hcc34 0 _ rfl
     have hx34_1:wr.cell? ⟨go34,(0:Int).toNat*5+1,none⟩=some (.int .i64 ((rd_T24 x7_1 0).f1)):=hcc34 1 _ rfl
     have hx34_2:wr.cell? ⟨go34,(0:Int).toNat*5+2,none⟩=some (.int .i64 ((rd_T24 x7_1 0).f2)):=hcc34 2 _ rfl
     have hx34_3:wr.cell? ⟨go34,(0:Int).toNat*5+3,none⟩=some (.string ((rd_T24 x7_1 0).f3)):=hcc34 3 _ rfl
     have hx34_4:wr.cell? ⟨go34,(0:Int).toNat*5+4,none⟩=some (.string ((rd_T24 x7_1 0).f4)):=hcc34 4 _ rfl
     have hf34_0:wr.frozen? ⟨go34,(0:Int).toNat*5,none⟩=false:=hfr34 0
     have hf34_1:wr.frozen? ⟨go34,(0:Int).toNat*5+1,none⟩=false:=hfr34 1
     have hf34_2:wr.frozen? ⟨go34,(0:Int).toNat*5+2,none⟩=false:=hfr34 2
     have hf34_3:wr.frozen? ⟨go34,(0:Int).toNat*5+3,none⟩=false:=hfr34 3
     have hf34_4:wr.frozen? ⟨go34,(0:Int).toNat*5+4,none⟩=false:=hfr34 4
     clear hcl34 hcc34 hfr34 hM34
     (try rw [show((0:Int)).toNat=0 from rfl] at hx34_0)
     (try simp only [Nat.reduceMul,Nat.zero_mul,Nat.zero_add,Nat.reduceAdd] at hx34_0)
     (try rw [show((0:Int)).toNat=0 from rfl] at hf34_0)
     (try simp only [Nat.reduceMul,Nat.zero_mul,Nat.zero_add,Nat.reduceAdd] at hf34_0)
     (try rw [show((0:Int)).toNat=0 from rfl] at hx34_1)
     (try simp only [Nat.reduceMul,Nat.zero_mul,Nat.zero_add,Nat.reduceAdd] at hx34_1)
     (try rw [show((0:Int)).toNat=0 from rfl] at hf34_1)
     (try simp only [Nat.reduceMul,Nat.zero_mul,Nat.zero_add,Nat.reduceAdd] at hf34_1)
     (try rw [show((0:Int)).toNat=0 from rfl] at hx34_2)
     (try simp only [Nat.reduceMul,Nat.zero_mul,Nat.zero_add,Nat.reduceAdd] at hx34_2)
     (try rw [show((0:Int)).toNat=0 from rfl] at hf34_2)
     (try simp only [Nat.reduceMul,Nat.zero_mul,Nat.zero_add,Nat.reduceAdd] at hf34_2)
     (try rw [show((0:Int)).toNat=0 from rfl] at hx34_3)
     (try simp only [Nat.reduceMul,Nat.zero_mul,Nat.zero_add,Nat.reduceAdd] at hx34_3)
     (try rw [show((0:Int)).toNat=0 from rfl] at hf34_3)
     (try simp only [Nat.reduceMul,Nat.zero_mul,Nat.zero_add,Nat.reduceAdd] at hf34_3)
     (try rw [show((0:Int)).toNat=0 from rfl] at hx34_4)
     (try simp only [Nat.reduceMul,Nat.zero_mul,Nat.zero_add,Nat.reduceAdd] at hx34_4)
     (try rw [show((0:Int)).toNat=0 from rfl] at hf34_4)
     (try simp only [Nat.reduceMul,Nat.zero_mul,Nat.zero_add,Nat.reduceAdd] at hf34_4)
     replace p34:=eq_true p34
     replace q34:=eq_true q34
     have HX36:=Aside0.mk (show Kd.R k24 24 wr w.heap.size (fun _=>True) (.slice (some ⟨go34,0,none⟩) x7_1.length co35) x7_1 from au18)
     obtain ⟨ce36,hcl36,hM36,hcc36,hfr36⟩:=Kd.R_elem HX36.out z24 (0:Int) au0 (by have h_:(0:Int)<((x7_1.length:Int):Int):=of_decide_eq_true au7;first|exact h_|(have e_:=(Kd.R_reads' HO_7.out).1;omega)|simpa using h_)
     obtain rfl:=k24_openM hM36
     have HP36:=Kd.R_seg HX36.out (0:Int) au0 (by have h_:(0:Int)<((x7_1.length:Int):Int):=of_decide_eq_true au7;first|exact h_|(have e_:=(Kd.R_reads' HO_7.out).1;omega)|simpa using h_) (seg:=[.int .i64 (x7_1.length:Int)]) (j:=1) hcl36 hcc36 (show 2≤5 from by decide) (x':=(⟨(rd_T24 x7_1 0).f0,(x7_1.length:Int),(rd_T24 x7_1 0).f2,(rd_T24 x7_1 0).f3,(rd_T24 x7_1 0).f4⟩:S24)) (k24_mkM _ _ _ (⟨(rd_T24 x7_1 0).f0,(x7_1.length:Int),(rd_T24 x7_1 0).f2,(rd_T24 x7_1 0).f3,(rd_T24 x7_1 0).f4⟩:S24) ) (fun _ hk=>hk)
     have hx36_1:=hcc36 1 _ rfl
     (try simp only [show(k24).sz=5 from rfl,Nat.mul_one,Nat.add_zero] at hx36_1)
     (try rw [show((0:Int)).toNat=0 from rfl] at hx36_1)
     (try simp only [Nat.reduceMul,Nat.zero_mul,Nat.zero_add,Nat.reduceAdd] at hx36_1)
     have hf36_1:=hfr36 1
     (try simp only [show(k24).sz=5 from rfl,Nat.mul_one,Nat.add_zero] at hf36_1)
     (try rw [show((0:Int)).toNat=0 from rfl] at hf36_1)
     (try simp only [Nat.reduceMul,Nat.zero_mul,Nat.zero_add,Nat.reduceAdd] at hf36_1)
     clear hcl36 hcc36 hfr36 hM36
     go_wp2_with (first|((with_reducible refine gate_store (t:=3) (p:=52) rfl ?_);refine store_event (t:=3) (p:=52) (v:=?vo_w37) (w1:=(wr.setCell ⟨go34,1,none⟩ (.int .i64 (x7_1.length:Int)))) ?hg ?ho ?hn ?hr ?_;(case ho=>rfl);(case hg=>rfl);(case hn=>rfl);(case hr=>first|(go_simp;done)|(go_simp;rfl));intro w37 hw;have hg:wr.grownBy w37 (some go34):=(by rw [hw];exact HP36.2);have hp_:Kd.R k24 24 w37 w.heap.size (fun _=>True) (.slice (some ⟨go34,0,none⟩) x7_1.length co35) y298:=(by rw [hw,Ny298.out];exact HP36.1);clear HP36;have n0_:=Aside0.mk (hp_);have n1_:=Aside0.mk ((by rw [hw];exact below_set (HB.out) GB34.out:Below w.heap.size w w37));clear HO_7;clear HB;have HO_7:=n0_;have HB:=n1_;clear n0_ n1_;clear hg hw hp_))
     go_ret
     exact ⟨_,au12,au18,au3⟩
    ·rw [if_neg c33] at H
     exact absurd H au5
def jsontext_Object.f (k:Nat) (l0:List ByteArray) (l1:List (List (S24))):Option ((List (S24))):=if(l0.length:Int)=(l1.length:Int) then((jsontext_made.f k 7 l0 l1).bind fun t308=>(some t308)) else(some ([]:List (S24)))
set_option maxHeartbeats 8000000 in
set_option maxRecDepth 100000 in
theorem jsontext_Object.calls (k:Nat) (A0:Option Addr) (c0:Nat) (l0:List ByteArray) (A1:Option Addr) (c1:Nat) (l1:List (List (S24))) (r:List (S24)) (w:World) (hGU8:GlobU8 w) (hr0:Kd.C Kd.string w A0 l0.length l0) (hc0:l0.length≤c0) (hr1:Kd.C (Kd.slice 24 k24) w A1 l1.length l1) (hc1:l1.length≤c1) (h:jsontext_Object.f k l0 l1=some r) :
  Calls Tryd.prog 40 #[.slice A0 l0.length c0,.slice A1 l1.length c1] w fun e w'=>∃ v0_:Value,e=.returned (v0_)∧Kd.R k24 24 w' w.heap.size (fun _=>True) v0_ r∧Below w.heap.size w w':=by
 have HGU8:=Aside0.mk hGU8
 clear hGU8
 have HR0:=Aside0.mk hr0
 have HC0:=Aside0.mk hc0
 clear hr0 hc0
 have HR1:=Aside0.mk hr1
 have HC1:=Aside0.mk hc1
 clear hr1 hc1
 have HB:=Aside0.mk (Below.refl w.heap.size w)
 have H:(if(l0.length:Int)=(l1.length:Int) then((jsontext_made.f k 7 l0 l1).bind fun t308=>(some t308)) else(some ([]:List (S24))))=some r:=h
 clear h
 by_cases c3:(l0.length:Int)=(l1.length:Int)
 ·rw [if_pos c3] at H
  have c3b0:((l0.length:Int)==(l1.length:Int))=true:=beq_iff_eq.mpr c3
  have c3b1:((l0.length:Int) != (l1.length:Int))=false:=bne_eq_false_iff_eq.mpr c3
  have c3b2:(l0.length==l1.length)=true:=by first|simpa using c3|(simp at c3 ⊢;omega)
  clear c3
  replace H:=Option.bind_eq_some_iff.mp H
  obtain ⟨t308,A40,H⟩:=H
  replace H:(some t308)=some r:=H
  have A4:=Aside0.mk A40
  clear A40
  obtain rfl:=Option.some.inj H
  go_enter Tryd.func40,Tryd.ntmps40
  go_wp2_with (first|((with_reducible refine gate_callee (f:=54) rfl ?_);refine goesL_ (some 12) rfl rfl Tryd.func54 au2 rfl #[.int .i64 7,.slice A0 l0.length c0,.slice A1 l1.length c1] rfl au10 ?_;(with_reducible refine(jsontext_made.calls k 7 _ _ l0 _ _ l1 t308 _ ?side5 ?side1 ?side2 ?side3 ?side4 A4.out).mono ?_);(case side1=>repeat(first|exact HR0.out|(with_reducible refine Kd.C_alloc ?_ _)|(with_reducible refine Kd.C_drewN ?_ _)|(with_reducible refine Kd.C_drew ?_)));(case side2=>exact HC0.out);(case side3=>repeat(first|exact HR1.out|(with_reducible refine Kd.C_alloc ?_ _)|(with_reducible refine Kd.C_drewN ?_ _)|(with_reducible refine Kd.C_drew ?_)));(case side4=>exact HC1.out);(case side5=>first|exact HGU8.out|exact GlobU8.below HGU8.out au3|exact GlobU8.drawn HGU8.out au8);rintro e w5 ⟨v309,rfl,ho0,hb⟩;refine ⟨_,rfl,?_⟩;have n0_:=Aside0.mk (Kd.R_lower ho0 (below_size au3));have n1_:=Aside0.mk (below_step au3 hb);clear HB;have HO310:=n0_;have HB:=n1_;clear n0_ n1_;(try clear hb);(try clear hb2);(try clear hk);(try clear hi);(try clear ho0)))
  go_ret
  exact ⟨_,au12,by(with_reducible repeat(first|apply Kd.R_alloc|apply Kd.R_drewN|apply Kd.R_drew));exact HO310.out,au3⟩
 ·rw [if_neg c3] at H
  have c3b0:((l0.length:Int)==(l1.length:Int))=false:=beq_eq_false_iff_ne.mpr c3
  have c3b1:((l0.length:Int) != (l1.length:Int))=true:=bne_iff_ne.mpr c3
  have c3b2:(l0.length==l1.length)=false:=by first|simpa using c3|(simp at c3 ⊢;omega)
  obtain rfl:=Option.some.inj H
  go_enter Tryd.func40,Tryd.ntmps40
  go_wp2
  go_ret
  exact ⟨_,au12,au20,au3⟩
mutual
def racewayref25_Sign.j0:Nat→ByteArray→Int→Int→Int→Int→Int→Bool→Option (Int)
 | 0,_,_,_,_,_,_,_=>none
 | k+1,x0,x1,x5,x6,x7,x8,x22=>if x22=true then(racewayref25_Sign.j2 k x0 x1 2 (wrap64 (x5 - 192)) 128) else(if x5≥224 then(racewayref25_Sign.j1 k x0 x1 x5 x6 x7 x8 (decide (x5≤239))) else(racewayref25_Sign.j1 k x0 x1 x5 x6 x7 x8 false))
def racewayref25_Sign.j2:Nat→ByteArray→Int→Int→Int→Int→Option (Int)
 | 0,_,_,_,_,_=>none
 | k+1,x0,x1,x6,x7,x8=>if x6=0 then(racewayref25_Sign.j3 k x0 x1 x6 x7 x8 true) else(racewayref25_Sign.j3 k x0 x1 x6 x7 x8 (decide ((wrap64 (x1+x6)) > (x0.size:Int))))
def racewayref25_Sign.j3:Nat→ByteArray→Int→Int→Int→Int→Bool→Option (Int)
 | 0,_,_,_,_,_,_=>none
 | k+1,x0,x1,x6,x7,x8,x50=>if x50=true then(some 0) else(racewayref25_Sign.l0 k x0 x1 x6 x7 x8 1)
def racewayref25_Sign.l0:Nat→ByteArray→Int→Int→Int→Int→Int→Option (Int)
 | 0,_,_,_,_,_,_=>none
 | k+1,x0,x1,x6,x7,x8,x9=>if x9<x6 then(if 0≤(wrap64 (x1+x9)) then(if(wrap64 (x1+x9))<(x0.size:Int) then(if(wrap64 (bt x0 (wrap64 (x1+x9))))<128 then(some 0) else(if(wrap64 (bt x0 (wrap64 (x1+x9)))) > 191 then(some 0) else(racewayref25_Sign.l0 k x0 x1 x6 (wrap64 ((wrap64 ((wrap64 (64*x7))+(wrap64 (bt x0 (wrap64 (x1+x9)))))) - 128)) x8 (wrap64 (x9+1))))) else(none)) else(none)) else(if x7<x8 then(some 0) else(if x7 > 1114111 then(some 0) else(if x7≥55296 then(if x7≤57343 then(some 0) else(some x6)) else(some x6))))
def racewayref25_Sign.j1:Nat→ByteArray→Int→Int→Int→Int→Int→Bool→Option (Int)
 | 0,_,_,_,_,_,_,_=>none
 | k+1,x0,x1,x5,x6,x7,x8,x30=>if x30=true then(racewayref25_Sign.j2 k x0 x1 3 (wrap64 (x5 - 224)) 2048) else(if x5≥240 then(if x5≤244 then(racewayref25_Sign.j2 k x0 x1 4 (wrap64 (x5 - 240)) 65536) else(racewayref25_Sign.j2 k x0 x1 x6 x7 x8)) else(racewayref25_Sign.j2 k x0 x1 x6 x7 x8))
end
def racewayref25_Sign.f (k:Nat) (a0:ByteArray) (a1:Int):Option (Int):=if 0≤a1 then(if a1<(a0.size:Int) then(if(wrap64 (bt a0 a1))<128 then(some 1) else(if(wrap64 (bt a0 a1))≥194 then(racewayref25_Sign.j0 k a0 a1 (wrap64 (bt a0 a1)) 0 0 0 (decide ((wrap64 (bt a0 a1))≤223))) else(racewayref25_Sign.j0 k a0 a1 (wrap64 (bt a0 a1)) 0 0 0 false))) else(none)) else(none)
set_option maxHeartbeats 8000000 in
set_option maxRecDepth 100000 in
theorem racewayref25_Sign.calls (k:Nat) (a0:ByteArray) (a1:Int) (r:Int) (w:World) (h:racewayref25_Sign.f k a0 a1=some r) :
  Calls Tryd.prog 46 #[.string a0,.int .i64 a1] w fun e w'=>e=.returned (.int .i64 r)∧Drawn0 w w':=by
 have H:(if 0≤a1 then(if a1<(a0.size:Int) then(if(wrap64 (bt a0 a1))<128 then(some 1) else(if(wrap64 (bt a0 a1))≥194 then(racewayref25_Sign.j0 k a0 a1 (wrap64 (bt a0 a1)) 0 0 0 (decide ((wrap64 (bt a0 a1))≤223))) else(racewayref25_Sign.j0 k a0 a1 (wrap64 (bt a0 a1)) 0 0 0 false))) else(none)) else(none))=some r:=h
 clear h
 by_cases c3:0≤a1
 ·rw [if_pos c3] at H
  have c3b0:decide (0≤a1)=true:=decide_eq_true c3
  clear c3
  by_cases c4:a1<(a0.size:Int)
  ·rw [if_pos c4] at H
   have c4b0:decide (a1<(a0.size:Int))=true:=decide_eq_true c4
   clear c4
   by_cases c6:(wrap64 (bt a0 a1))<128
   ·rw [if_pos c6] at H
    have c6b0:decide ((wrap64 (bt a0 a1))<128)=true:=decide_eq_true c6
    clear c6
    obtain rfl:=Option.some.inj H
    have p5:0≤(a1:Int):=of_decide_eq_true au7
    have q5:a1<(a0.size:Int):=of_decide_eq_true au7
    have hx5:=bt_at a0 a1
    replace p5:=eq_true p5
    replace q5:=eq_true q5
    go_enter Tryd.func46,Tryd.ntmps46
    go_wp2
    go_ret
    exact ⟨au4,au8⟩
   ·rw [if_neg c6] at H
    have c6b0:decide ((wrap64 (bt a0 a1))<128)=false:=decide_eq_false c6
    clear c6
    have HC7:=Aside0.mk H
    clear H
    have p5:0≤(a1:Int):=of_decide_eq_true au7
    have q5:a1<(a0.size:Int):=of_decide_eq_true au7
    have hx5:=bt_at a0 a1
    replace p5:=eq_true p5
    replace q5:=eq_true q5
    go_enter Tryd.func46,Tryd.ntmps46
    go_upto_region 7 with(fail)
    go_cut [22] (fun v22 wc=>∃(kq:Nat) (x22_6:Bool),v22=.bool x22_6∧Aside0 (racewayref25_Sign.j0 kq a0 a1 (wrap64 (bt a0 a1)) 0 0 0 x22_6=some r)∧Aside0 (kq≤k)∧Drawn0 w wc)
    case first =>
     have H:=HC7.out
     clear HC7
     by_cases c8:(wrap64 (bt a0 a1))≥194
     ·rw [if_pos c8] at H
      have c8b0:decide (194≤(wrap64 (bt a0 a1)))=true:=decide_eq_true c8
      clear c8
      (first|rw [c8b0]|(simp only [i64_w,i32_w];rw [c8b0])|skip)
      have H':=Aside0.mk H
      clear H
      go_wp2
      go_meet
      case rel=>exact ⟨_,(decide ((wrap64 (bt a0 a1))≤223)),au4,au9,⟨au14⟩,au8⟩
     ·rw [if_neg c8] at H
      have c8b0:decide (194≤(wrap64 (bt a0 a1)))=false:=decide_eq_false c8
      clear c8
      (first|rw [c8b0]|(simp only [i64_w,i32_w];rw [c8b0])|skip)
      have H':=Aside0.mk H
      clear H
      go_wp2
      go_meet
      case rel=>exact ⟨_,(false),au4,au9,⟨au14⟩,au8⟩
    case rest =>
     clear HC7
     obtain ⟨kq,x22_6,rfl,HA,HJ6,⟨mc6,rfl⟩⟩:=hcut
     cases kq with
     | zero=>exact absurd HA.out (by simp [racewayref25_Sign.j0])
     | succ kj6 =>
      have H:=HA.out
      clear HA
      simp only [racewayref25_Sign.j0] at H
      have HC9:=Aside0.mk H
      clear H
      go_upto_if 22 with(fail)
      go_cut [6,7,8] (fun v6 v7 v8 wc=>∃(kq:Nat) (x6_8:Int) (x7_8:Int) (x8_8:Int),v6=.int .i64 x6_8∧v7=.int .i64 x7_8∧v8=.int .i64 x8_8∧Aside0 (racewayref25_Sign.j2 kq a0 a1 x6_8 x7_8 x8_8=some r)∧Aside0 (kq≤kj6)∧Drawn0 w wc)
      case first =>
       have H:=HC9.out
       clear HC9
       by_cases c10:x22_6=true
       ·subst c10
        replace H:(racewayref25_Sign.j2 kj6 a0 a1 2 (wrap64 ((wrap64 (bt a0 a1)) - 192)) 128)=some r:=by rw [if_pos rfl] at H;exact H
        have H':=Aside0.mk H
        clear H
        go_wp2
        go_meet
        case rel=>exact ⟨_,(2),(wrap64 ((wrap64 (bt a0 a1)) - 192)),(128),au4,au4,au4,au9,⟨au64⟩,au8⟩
       ·replace c10:=Bool.eq_false_iff.mpr c10
        subst c10
        replace H:(if(wrap64 (bt a0 a1))≥224 then(racewayref25_Sign.j1 kj6 a0 a1 (wrap64 (bt a0 a1)) 0 0 0 (decide ((wrap64 (bt a0 a1))≤239))) else(racewayref25_Sign.j1 kj6 a0 a1 (wrap64 (bt a0 a1)) 0 0 0 false))=some r:=by rw [if_neg (show ¬ (false=true) by decide)] at H;exact H
        have HC11:=Aside0.mk H
        clear H
        go_upto_region 11 with(fail)
        go_cut [30] (fun v30 wc=>∃(kq:Nat) (x30_10:Bool),v30=.bool x30_10∧Aside0 (racewayref25_Sign.j1 kq a0 a1 (wrap64 (bt a0 a1)) 0 0 0 x30_10=some r)∧Aside0 (kq≤kj6)∧Drawn0 w wc)
        case first =>
         have H:=HC11.out
         clear HC11
         by_cases c12:(wrap64 (bt a0 a1))≥224
         ·rw [if_pos c12] at H
          have c12b0:decide (224≤(wrap64 (bt a0 a1)))=true:=decide_eq_true c12
          clear c12
          (first|rw [c12b0]|(simp only [i64_w,i32_w];rw [c12b0])|skip)
          have H':=Aside0.mk H
          clear H
          go_wp2
          go_meet
          case rel=>exact ⟨_,(decide ((wrap64 (bt a0 a1))≤239)),au4,au9,⟨au64⟩,au8⟩
         ·rw [if_neg c12] at H
          have c12b0:decide (224≤(wrap64 (bt a0 a1)))=false:=decide_eq_false c12
          clear c12
          (first|rw [c12b0]|(simp only [i64_w,i32_w];rw [c12b0])|skip)
          have H':=Aside0.mk H
          clear H
          go_wp2
          go_meet
          case rel=>exact ⟨_,(false),au4,au9,⟨au64⟩,au8⟩
        case rest =>
         clear HC11
         obtain ⟨kq,x30_10,rfl,HA,HJ10,⟨mc10,rfl⟩⟩:=hcut
         cases kq with
         | zero=>exact absurd HA.out (by simp [racewayref25_Sign.j1])
         | succ kj10 =>
          have H:=HA.out
          clear HA
          simp only [racewayref25_Sign.j1] at H
          by_cases c13:x30_10=true
          ·subst c13
           replace H:(racewayref25_Sign.j2 kj10 a0 a1 3 (wrap64 ((wrap64 (bt a0 a1)) - 224)) 2048)=some r:=by rw [if_pos rfl] at H;exact H
           have H':=Aside0.mk H
           clear H
           go_wp2
           go_meet
           case rel=>exact ⟨_,(3),(wrap64 ((wrap64 (bt a0 a1)) - 224)),(2048),au4,au4,au4,au9,⟨au52⟩,au8⟩
          ·replace c13:=Bool.eq_false_iff.mpr c13
           subst c13
           replace H:(if(wrap64 (bt a0 a1))≥240 then(if(wrap64 (bt a0 a1))≤244 then(racewayref25_Sign.j2 kj10 a0 a1 4 (wrap64 ((wrap64 (bt a0 a1)) - 240)) 65536) else(racewayref25_Sign.j2 kj10 a0 a1 0 0 0)) else(racewayref25_Sign.j2 kj10 a0 a1 0 0 0))=some r:=by rw [if_neg (show ¬ (false=true) by decide)] at H;exact H
           by_cases c14:(wrap64 (bt a0 a1))≥240
           ·rw [if_pos c14] at H
            have c14b0:decide (240≤(wrap64 (bt a0 a1)))=true:=decide_eq_true c14
            clear c14
            by_cases c15:(wrap64 (bt a0 a1))≤244
            ·rw [if_pos c15] at H
             have c15b0:decide ((wrap64 (bt a0 a1))≤244)=true:=decide_eq_true c15
             clear c15
             have H':=Aside0.mk H
             clear H
             go_wp2
             go_meet
             case rel=>exact ⟨_,(4),(wrap64 ((wrap64 (bt a0 a1)) - 240)),(65536),au4,au4,au4,au9,⟨au52⟩,au8⟩
            ·rw [if_neg c15] at H
             have c15b0:decide ((wrap64 (bt a0 a1))≤244)=false:=decide_eq_false c15
             clear c15
             have H':=Aside0.mk H
             clear H
             go_wp2
             go_meet
             case rel=>exact ⟨_,(0),(0),(0),au4,au4,au4,au9,⟨au52⟩,au8⟩
           ·rw [if_neg c14] at H
            have c14b0:decide (240≤(wrap64 (bt a0 a1)))=false:=decide_eq_false c14
            clear c14
            have H':=Aside0.mk H
            clear H
            go_wp2
            go_meet
            case rel=>exact ⟨_,(0),(0),(0),au4,au4,au4,au9,⟨au52⟩,au8⟩
      case rest =>
       clear HC9
       obtain ⟨kq,x6_8,x7_8,x8_8,rfl,rfl,rfl,HA,HJ8,⟨mc8,rfl⟩⟩:=hcut
       cases kq with
       | zero=>exact absurd HA.out (by simp [racewayref25_Sign.j2])
       | succ kj8 =>
        have H:=HA.out
        clear HA
        simp only [racewayref25_Sign.j2] at H
        have HC16:=Aside0.mk H
        clear H
        go_upto_region 19 with(fail)
        go_cut [50] (fun v50 wc=>∃(kq:Nat) (x50_15:Bool),v50=.bool x50_15∧Aside0 (racewayref25_Sign.j3 kq a0 a1 x6_8 x7_8 x8_8 x50_15=some r)∧Aside0 (kq≤kj8)∧Drawn0 w wc)
        case first =>
         have H:=HC16.out
         clear HC16
         by_cases c17:x6_8=0
         ·rw [if_pos c17] at H
          have c17b0:(x6_8==0)=true:=beq_iff_eq.mpr c17
          have c17b1:(x6_8 != 0)=false:=bne_eq_false_iff_eq.mpr c17
          clear c17
          (first|rw [c17b0]|(simp only [i64_w,i32_w];rw [c17b0])|skip)
          have H':=Aside0.mk H
          clear H
          go_wp2
          go_meet
          case rel=>exact ⟨_,(true),au4,au9,⟨by have:=HJ6.out;have:=HJ8.out;first|omega|exact Nat.le_refl _⟩,au8⟩
         ·rw [if_neg c17] at H
          have c17b0:(x6_8==0)=false:=beq_eq_false_iff_ne.mpr c17
          have c17b1:(x6_8 != 0)=true:=bne_iff_ne.mpr c17
          (first|rw [c17b0]|(simp only [i64_w,i32_w];rw [c17b0])|skip)
          have H':=Aside0.mk H
          clear H
          go_wp2
          go_meet
          case rel=>exact ⟨_,(decide ((wrap64 (a1+x6_8)) > (a0.size:Int))),au4,au9,⟨by have:=HJ6.out;have:=HJ8.out;first|omega|exact Nat.le_refl _⟩,au8⟩
        case rest =>
         clear HC16
         obtain ⟨kq,x50_15,rfl,HA,HJ15,⟨mc15,rfl⟩⟩:=hcut
         cases kq with
         | zero=>exact absurd HA.out (by simp [racewayref25_Sign.j3])
         | succ kj15 =>
          have H:=HA.out
          clear HA
          simp only [racewayref25_Sign.j3] at H
          by_cases c18:x50_15=true
          ·subst c18
           replace H:(some 0)=some r:=by rw [if_pos rfl] at H;exact H
           obtain rfl:=Option.some.inj H
           go_wp2
           go_ret
           exact ⟨au4,au8⟩
          ·replace c18:=Bool.eq_false_iff.mpr c18
           subst c18
           replace H:(racewayref25_Sign.l0 kj15 a0 a1 x6_8 x7_8 x8_8 1)=some r:=by rw [if_neg (show ¬ (false=true) by decide)] at H;exact H
           have H':=Aside0.mk H
           clear H
           go_wp2
           go_loopg [7,9] kj15 (fun kq v7 v9 w'=>∃(x7_4:Int) (x9_4:Int),v7=.int .i64 x7_4∧v9=.int .i64 x9_4∧Aside0 (racewayref25_Sign.l0 kq a0 a1 x6_8 x7_4 x8_8 x9_4=some r)∧Aside0 (kq≤kj15)∧Drawn0 w w')
           case atStart=>exact ⟨(x7_8),(1),au4,au4,au9,⟨Nat.le_refl _⟩,au8⟩
           case round =>
            clear H'
            obtain ⟨x7_4,x9_4,rfl,rfl,HA,HK4,⟨m4,rfl⟩⟩:=hrel
            cases gk with
            | zero=>exact absurd HA.out (by simp [racewayref25_Sign.l0])
            | succ k4 =>
             have H:=HA.out
             clear HA
             simp only [racewayref25_Sign.l0] at H
             by_cases c19:x9_4<x6_8
             ·rw [if_pos c19] at H
              have c19b0:decide (x9_4<x6_8)=true:=decide_eq_true c19
              clear c19
              obtain ⟨ji20,hji20⟩:∃ j_:Int,(wrap64 (a1+x9_4))=j_:=⟨_,rfl⟩
              replace H:(if 0≤(ji20) then(if(ji20)<(a0.size:Int) then(if(wrap64 (bt a0 (ji20)))<128 then(some 0) else(if(wrap64 (bt a0 (ji20))) > 191 then(some 0) else(racewayref25_Sign.l0 k4 a0 a1 x6_8 (wrap64 ((wrap64 ((wrap64 (64*x7_4))+(wrap64 (bt a0 (ji20))))) - 128)) x8_8 (wrap64 (x9_4+1))))) else(none)) else(none))=some r:=by first|(rw [hji20] at H;exact H)|(simp only [hji20] at H ⊢;exact H)
              have hji20w:(IntKind.i64.wrap (a1+x9_4))=ji20:=(i64_w _).trans hji20
              by_cases c21:0≤(ji20)
              ·rw [if_pos c21] at H
               have c21b0:decide (0≤(ji20))=true:=decide_eq_true c21
               clear c21
               by_cases c22:(ji20)<(a0.size:Int)
               ·rw [if_pos c22] at H
                have c22b0:decide ((ji20)<(a0.size:Int))=true:=decide_eq_true c22
                clear c22
                by_cases c24:(wrap64 (bt a0 (ji20)))<128
                ·rw [if_pos c24] at H
                 have c24b0:decide ((wrap64 (bt a0 (ji20)))<128)=true:=decide_eq_true c24
                 clear c24
                 obtain rfl:=Option.some.inj H
                 have p23:0≤((ji20):Int):=of_decide_eq_true au7
                 have q23:(ji20)<(a0.size:Int):=of_decide_eq_true au7
                 have hx23:=bt_at a0 (ji20)
                 replace p23:=eq_true p23
                 replace q23:=eq_true q23
                 go_wp2
                 go_ret
                 exact ⟨au65,au8⟩
                ·rw [if_neg c24] at H
                 have c24b0:decide ((wrap64 (bt a0 (ji20)))<128)=false:=decide_eq_false c24
                 clear c24
                 by_cases c25:(wrap64 (bt a0 (ji20))) > 191
                 ·rw [if_pos c25] at H
                  have c25b0:decide (191<(wrap64 (bt a0 (ji20))))=true:=decide_eq_true c25
                  clear c25
                  obtain rfl:=Option.some.inj H
                  have p23:0≤((ji20):Int):=of_decide_eq_true au7
                  have q23:(ji20)<(a0.size:Int):=of_decide_eq_true au7
                  have hx23:=bt_at a0 (ji20)
                  replace p23:=eq_true p23
                  replace q23:=eq_true q23
                  go_wp2
                  go_ret
                  exact ⟨au65,au8⟩
                 ·rw [if_neg c25] at H
                  have c25b0:decide (191<(wrap64 (bt a0 (ji20))))=false:=decide_eq_false c25
                  clear c25
                  have H':=Aside0.mk H
                  clear H
                  have p23:0≤((ji20):Int):=of_decide_eq_true au7
                  have q23:(ji20)<(a0.size:Int):=of_decide_eq_true au7
                  have hx23:=bt_at a0 (ji20)
                  replace p23:=eq_true p23
                  replace q23:=eq_true q23
                  go_wp2
                  go_roundg k4
                  case measure=>have:=HJ6.out;have:=HJ8.out;have:=HJ15.out;have:=HK4.out;omega
                  case rel=>exact ⟨(wrap64 ((wrap64 ((wrap64 (64*x7_4))+(wrap64 (bt a0 (ji20))))) - 128)),(wrap64 (x9_4+1)),au65,au4,au9,⟨by have:=HJ6.out;have:=HJ8.out;have:=HJ15.out;have:=HK4.out;omega⟩,au8⟩
               ·rw [if_neg c22] at H
                exact absurd H au5
              ·rw [if_neg c21] at H
               exact absurd H au5
             ·rw [if_neg c19] at H
              have c19b0:decide (x9_4<x6_8)=false:=decide_eq_false c19
              clear c19
              by_cases c26:x7_4<x8_8
              ·rw [if_pos c26] at H
               have c26b0:decide (x7_4<x8_8)=true:=decide_eq_true c26
               clear c26
               obtain rfl:=Option.some.inj H
               go_wp2
               go_ret
               exact ⟨au4,au8⟩
              ·rw [if_neg c26] at H
               have c26b0:decide (x7_4<x8_8)=false:=decide_eq_false c26
               clear c26
               by_cases c27:x7_4 > 1114111
               ·rw [if_pos c27] at H
                have c27b0:decide (1114111<x7_4)=true:=decide_eq_true c27
                clear c27
                obtain rfl:=Option.some.inj H
                go_wp2
                go_ret
                exact ⟨au4,au8⟩
               ·rw [if_neg c27] at H
                have c27b0:decide (1114111<x7_4)=false:=decide_eq_false c27
                clear c27
                by_cases c28:x7_4≥55296
                ·rw [if_pos c28] at H
                 have c28b0:decide (55296≤x7_4)=true:=decide_eq_true c28
                 clear c28
                 by_cases c29:x7_4≤57343
                 ·rw [if_pos c29] at H
                  have c29b0:decide (x7_4≤57343)=true:=decide_eq_true c29
                  clear c29
                  obtain rfl:=Option.some.inj H
                  go_wp2
                  go_ret
                  exact ⟨au4,au8⟩
                 ·rw [if_neg c29] at H
                  have c29b0:decide (x7_4≤57343)=false:=decide_eq_false c29
                  clear c29
                  obtain rfl:=Option.some.inj H
                  go_wp2
                  go_ret
                  exact ⟨au4,au8⟩
                ·rw [if_neg c28] at H
                 have c28b0:decide (55296≤x7_4)=false:=decide_eq_false c28
                 clear c28
                 obtain rfl:=Option.some.inj H
                 go_wp2
                 go_ret
                 exact ⟨au4,au8⟩
  ·rw [if_neg c4] at H
   exact absurd H au5
 ·rw [if_neg c3] at H
  exact absurd H au5
def racewayref25_Valid.l0:Nat→ByteArray→Int→Option (Bool)
 | 0,_,_=>none
 | k+1,x0,x3=>if x3<(x0.size:Int) then((racewayref25_Sign.f k x0 x3).bind fun t123=>(if t123=0 then(some false) else(racewayref25_Valid.l0 k x0 (wrap64 (x3+t123))))) else(some true)
def racewayref25_Valid.f (k:Nat) (a0:ByteArray):Option (Bool):=racewayref25_Valid.l0 k a0 0
set_option maxHeartbeats 8000000 in
set_option maxRecDepth 100000 in
theorem racewayref25_Valid.calls (k:Nat) (a0:ByteArray) (r:Bool) (w:World) (h:racewayref25_Valid.f k a0=some r) :
  Calls Tryd.prog 31 #[.string a0] w fun e w'=>e=.returned (.bool r)∧Drawn0 w w':=by
 have H:(racewayref25_Valid.l0 k a0 0)=some r:=h
 clear h
 have H':=Aside0.mk H
 clear H
 go_enter Tryd.func31,Tryd.ntmps31
 go_wp2
 go_loopg [3] k (fun kq v3 w'=>∃(x3_1:Int),v3=.int .i64 x3_1∧Aside0 (racewayref25_Valid.l0 kq a0 x3_1=some r)∧Aside0 (kq≤k)∧Drawn0 w w')
 case atStart=>exact ⟨(0),au4,au9,⟨Nat.le_refl _⟩,au8⟩
 case round =>
  clear H'
  obtain ⟨x3_1,rfl,HA,HK1,⟨m1,rfl⟩⟩:=hrel
  cases gk with
  | zero=>exact absurd HA.out (by simp [racewayref25_Valid.l0])
  | succ k1 =>
   have H:=HA.out
   clear HA
   simp only [racewayref25_Valid.l0] at H
   by_cases c2:x3_1<(a0.size:Int)
   ·rw [if_pos c2] at H
    have c2b0:decide (x3_1<(a0.size:Int))=true:=decide_eq_true c2
    clear c2
    replace H:=Option.bind_eq_some_iff.mp H
    obtain ⟨t123,A30,H⟩:=H
    replace H:(if t123=0 then(some false) else(racewayref25_Valid.l0 k1 a0 (wrap64 (x3_1+t123))))=some r:=H
    have A3:=Aside0.mk A30
    clear A30
    by_cases c4:t123=0
    ·rw [if_pos c4] at H
     have c4b0:(t123==0)=true:=beq_iff_eq.mpr c4
     have c4b1:(t123 != 0)=false:=bne_eq_false_iff_eq.mpr c4
     clear c4
     obtain rfl:=Option.some.inj H
     go_wp2_with (first|((with_reducible refine gate_callee (f:=46) rfl ?_);refine goesL_ (some 11) rfl rfl Tryd.func46 au2 rfl #[.string a0,.int .i64 x3_1] rfl au10 ?_;(with_reducible refine(racewayref25_Sign.calls k1 a0 x3_1 t123 _ A3.out).mono ?_);rintro e w' ⟨rfl,⟨nd,rfl⟩⟩;refine ⟨_,rfl,?_⟩))
     go_ret
     exact ⟨au4,au8⟩
    ·rw [if_neg c4] at H
     have c4b0:(t123==0)=false:=beq_eq_false_iff_ne.mpr c4
     have c4b1:(t123 != 0)=true:=bne_iff_ne.mpr c4
     have H':=Aside0.mk H
     clear H
     go_wp2_with (first|((with_reducible refine gate_callee (f:=46) rfl ?_);refine goesL_ (some 11) rfl rfl Tryd.func46 au2 rfl #[.string a0,.int .i64 x3_1] rfl au10 ?_;(with_reducible refine(racewayref25_Sign.calls k1 a0 x3_1 t123 _ A3.out).mono ?_);rintro e w' ⟨rfl,⟨nd,rfl⟩⟩;refine ⟨_,rfl,?_⟩))
     go_roundg k1
     case measure=>have:=HK1.out;omega
     case rel=>exact ⟨(wrap64 (x3_1+t123)),au4,au9,⟨by have:=HK1.out;omega⟩,au8⟩
   ·rw [if_neg c2] at H
    have c2b0:decide (x3_1<(a0.size:Int))=false:=decide_eq_false c2
    clear c2
    obtain rfl:=Option.some.inj H
    go_wp2
    go_ret
    exact ⟨au4,au8⟩
def racewayref25_is.f (a0:ByteArray) (a1:Int) (a2:Int):Option (Bool):=if a1<(a0.size:Int) then(if 0≤a1 then(some ((bt a0 a1)==a2)) else(none)) else(some false)
set_option maxHeartbeats 8000000 in
set_option maxRecDepth 100000 in
theorem racewayref25_is.calls (a0:ByteArray) (a1:Int) (a2:Int) (r:Bool) (w:World) (h:racewayref25_is.f a0 a1 a2=some r) :
  Calls Tryd.prog 60 #[.string a0,.int .i64 a1,.int .u8 a2] w fun e w'=>e=.returned (.bool r)∧Drawn0 w w':=by
 have H:(if a1<(a0.size:Int) then(if 0≤a1 then(some ((bt a0 a1)==a2)) else(none)) else(some false))=some r:=h
 clear h
 by_cases c4:a1<(a0.size:Int)
 ·rw [if_pos c4] at H
  have c4b0:decide (a1<(a0.size:Int))=true:=decide_eq_true c4
  clear c4
  by_cases c5:0≤a1
  ·rw [if_pos c5] at H
   have c5b0:decide (0≤a1)=true:=decide_eq_true c5
   clear c5
   obtain rfl:=Option.some.inj H
   have p6:0≤(a1:Int):=of_decide_eq_true au7
   have q6:a1<(a0.size:Int):=of_decide_eq_true au7
   have hx6:=bt_at a0 a1
   replace p6:=eq_true p6
   replace q6:=eq_true q6
   go_enter Tryd.func60,Tryd.ntmps60
   go_wp2
   go_ret
   exact ⟨au4,au8⟩
  ·rw [if_neg c5] at H
   exact absurd H au5
 ·rw [if_neg c4] at H
  have c4b0:decide (a1<(a0.size:Int))=false:=decide_eq_false c4
  clear c4
  obtain rfl:=Option.some.inj H
  go_enter Tryd.func60,Tryd.ntmps60
  go_wp2
  go_ret
  exact ⟨au4,au8⟩
def racewayref25_digit.f (a0:ByteArray) (a1:Int):Option (Bool):=if a1<(a0.size:Int) then(if 0≤a1 then(if(bt a0 a1)≥48 then(some (decide ((bt a0 a1)≤57))) else(some false)) else(none)) else(some false)
set_option maxHeartbeats 8000000 in
set_option maxRecDepth 100000 in
theorem racewayref25_digit.calls (a0:ByteArray) (a1:Int) (r:Bool) (w:World) (h:racewayref25_digit.f a0 a1=some r) :
  Calls Tryd.prog 61 #[.string a0,.int .i64 a1] w fun e w'=>e=.returned (.bool r)∧Drawn0 w w':=by
 have H:(if a1<(a0.size:Int) then(if 0≤a1 then(if(bt a0 a1)≥48 then(some (decide ((bt a0 a1)≤57))) else(some false)) else(none)) else(some false))=some r:=h
 clear h
 by_cases c3:a1<(a0.size:Int)
 ·rw [if_pos c3] at H
  have c3b0:decide (a1<(a0.size:Int))=true:=decide_eq_true c3
  clear c3
  by_cases c4:0≤a1
  ·rw [if_pos c4] at H
   have c4b0:decide (0≤a1)=true:=decide_eq_true c4
   clear c4
   by_cases c6:(bt a0 a1)≥48
   ·rw [if_pos c6] at H
    have c6b0:decide (48≤(bt a0 a1))=true:=decide_eq_true c6
    clear c6
    obtain rfl:=Option.some.inj H
    have p5:0≤(a1:Int):=of_decide_eq_true au7
    have q5:a1<(a0.size:Int):=of_decide_eq_true au7
    have hx5:=bt_at a0 a1
    replace p5:=eq_true p5
    replace q5:=eq_true q5
    have p7:0≤(a1:Int):=of_decide_eq_true au7
    have q7:a1<(a0.size:Int):=of_decide_eq_true au7
    have hx7:=bt_at a0 a1
    replace p7:=eq_true p7
    replace q7:=eq_true q7
    go_enter Tryd.func61,Tryd.ntmps61
    go_wp2
    go_ret
    exact ⟨au4,au8⟩
   ·rw [if_neg c6] at H
    have c6b0:decide (48≤(bt a0 a1))=false:=decide_eq_false c6
    clear c6
    obtain rfl:=Option.some.inj H
    have p5:0≤(a1:Int):=of_decide_eq_true au7
    have q5:a1<(a0.size:Int):=of_decide_eq_true au7
    have hx5:=bt_at a0 a1
    replace p5:=eq_true p5
    replace q5:=eq_true q5
    go_enter Tryd.func61,Tryd.ntmps61
    go_wp2
    go_ret
    exact ⟨au4,au8⟩
  ·rw [if_neg c4] at H
   exact absurd H au5
 ·rw [if_neg c3] at H
  have c3b0:decide (a1<(a0.size:Int))=false:=decide_eq_false c3
  clear c3
  obtain rfl:=Option.some.inj H
  go_enter Tryd.func61,Tryd.ntmps61
  go_wp2
  go_ret
  exact ⟨au4,au8⟩
def racewayref25_fail.f (a0:Int):Option (Int × Int × (List (S24)) × ByteArray):=some (a0,5,([]:List (S24)),(⟨#[]⟩:ByteArray))
set_option maxHeartbeats 8000000 in
set_option maxRecDepth 100000 in
theorem racewayref25_fail.calls (a0:Int) (r1:Int) (r2:Int) (r3:List (S24)) (r4:ByteArray) (w:World) (h:racewayref25_fail.f a0=some (r1,r2,r3,r4)) :
  Calls Tryd.prog 62 #[.int .i64 a0] w fun e w'=>∃ v2_:Value,e=.returned (.agg #[.int .i64 r1,.int .i64 r2,v2_,.string r4])∧Kd.R k24 24 w' w.heap.size (fun _=>True) v2_ r3∧Below w.heap.size w w':=by
 have hu92:=Tryd.underlying92
 have HB:=Aside0.mk (Below.refl w.heap.size w)
 have H:(some (a0,5,([]:List (S24)),(⟨#[]⟩:ByteArray)))=some (r1,r2,r3,r4):=h
 clear h
 simp only [Option.some.injEq,Prod.mk.injEq] at H
 obtain ⟨rfl,rfl,rfl,rfl⟩:=H
 go_enter Tryd.func62,Tryd.ntmps62
 go_wp2_with (first|((with_reducible refine gate_dst (N:=2) rfl ?_);refine box_event ?hg (N:=2) ?hd (cs:=#[.int .i64 0,.int .i64 0,.slice none 0 0,.string (⟨#[]⟩:ByteArray)]) (t:=92) ?hr ?_;(case hd=>rfl);(case hg=>rfl);(case hr=>first|(go_simp;done)|(go_simp;rfl));intro gb124 hg w2 hbox hb;have n0_:=Aside0.mk (below_step au3 hb);have n1_:=Aside0.mk (hbox);have n2_:=Aside0.mk ((by rw [hg];exact(below_size au3):w.heap.size≤gb124));have n3_:=Aside0.mk ((by rw [hg];exact(below_size au3):w.heap.size≤gb124));clear HB;have HB:=n0_;have BK124:=n1_;have GW124:=n2_;have GE124:=n3_;clear n0_ n1_ n2_ n3_;clear hb hbox hg;have hcz3_0:w2.cell? ⟨gb124,0,none⟩=some (.int .i64 0):=(blk_cell BK124.out 0).trans rfl;have hcz3_1:w2.cell? ⟨gb124,1,none⟩=some (.int .i64 0):=(blk_cell BK124.out 1).trans rfl;have hcz3_2:w2.cell? ⟨gb124,2,none⟩=some (.slice none 0 0):=(blk_cell BK124.out 2).trans rfl;have hcz3_3:w2.cell? ⟨gb124,3,none⟩=some (.string (⟨#[]⟩:ByteArray)):=(blk_cell BK124.out 3).trans rfl;have hfz3_0:=blk_frozen BK124.out 0;have hfz3_1:=blk_frozen BK124.out 1;have hfz3_2:=blk_frozen BK124.out 2;have hfz3_3:=blk_frozen BK124.out 3))
 refine bodyPost_ret (results_cell_row rfl _ _ gb124 92 #[.int .i64 a0,.int .i64 5,.slice none 0 0,.string (⟨#[]⟩:ByteArray)] (0,0) _ rfl (by(with_reducible repeat(first|refine blk_drewN ?_ _|refine blk_drew ?_|refine blk_alloc ?_ _));refine blk_put (cs:=#[.int .i64 a0,.int .i64 5,.slice none 0 0,.string (⟨#[]⟩:ByteArray)]) ?_ 3 _ rfl;(with_reducible repeat(first|refine blk_drewN ?_ _|refine blk_drew ?_|refine blk_alloc ?_ _));refine blk_put (cs:=#[.int .i64 a0,.int .i64 5,.slice none 0 0,.string (⟨#[]⟩:ByteArray)]) ?_ 2 _ rfl;(with_reducible repeat(first|refine blk_drewN ?_ _|refine blk_drew ?_|refine blk_alloc ?_ _));refine blk_put (cs:=#[.int .i64 a0,.int .i64 0,.slice none 0 0,.string (⟨#[]⟩:ByteArray)]) ?_ 1 _ rfl;(with_reducible repeat(first|refine blk_drewN ?_ _|refine blk_drew ?_|refine blk_alloc ?_ _));refine blk_put (cs:=#[.int .i64 0,.int .i64 0,.slice none 0 0,.string (⟨#[]⟩:ByteArray)]) ?_ 0 _ rfl;(with_reducible repeat(first|refine blk_drewN ?_ _|refine blk_drew ?_|refine blk_alloc ?_ _));exact BK124.out) Tryd.underlying92 rfl au2) rfl ?_
 exact ⟨_,au12,au20,by repeat(first|(with_reducible first|exact HB.out|apply below_alloc|apply pw_below_drewN|apply below_drew1|refine below_set ?_ GE124.out)|exact HB.out)⟩
mutual
def racewayref25_number.j0:Nat→ByteArray→Int→Int→Option (Int × Int × (List (S24)) × ByteArray)
 | 0,_,_,_=>none
 | k+1,x0,x1,x5=>(racewayref25_digit.f x0 x1).bind fun t127=>(if t127=true then(if 0≤x1 then(if x1<(x0.size:Int) then(if(bt x0 x1)=48 then(racewayref25_number.j2 k x0 (wrap64 (x1+1)) x5) else(racewayref25_number.l0 k x0 x1 x5)) else(none)) else(none)) else((racewayref25_fail.f x1).bind fun bt128=>(some (bt128.1,bt128.2.1,bt128.2.2.1,bt128.2.2.2))))
def racewayref25_number.j2:Nat→ByteArray→Int→Int→Option (Int × Int × (List (S24)) × ByteArray)
 | 0,_,_,_=>none
 | k+1,x0,x1,x5=>(racewayref25_is.f x0 x1 46).bind fun t135=>(if t135=true then((racewayref25_digit.f x0 (wrap64 (x1+1))).bind fun t136=>(if t136=true then(racewayref25_number.l1 k x0 (wrap64 (x1+1)) x5) else((racewayref25_fail.f (wrap64 (x1+1))).bind fun bt137=>(some (bt137.1,bt137.2.1,bt137.2.2.1,bt137.2.2.2))))) else(racewayref25_number.j4 k x0 x1 x5))
def racewayref25_number.j4:Nat→ByteArray→Int→Int→Option (Int × Int × (List (S24)) × ByteArray)
 | 0,_,_,_=>none
 | k+1,x0,x1,x5=>(racewayref25_is.f x0 x1 101).bind fun t144=>(if t144=true then(racewayref25_number.j5 k x0 x1 x5 true) else((racewayref25_is.f x0 x1 69).bind fun t145=>(racewayref25_number.j5 k x0 x1 x5 t145)))
def racewayref25_number.j5:Nat→ByteArray→Int→Int→Bool→Option (Int × Int × (List (S24)) × ByteArray)
 | 0,_,_,_,_=>none
 | k+1,x0,x1,x5,x52=>if x52=true then((racewayref25_is.f x0 (wrap64 (x1+1)) 43).bind fun t146=>(if t146=true then(racewayref25_number.j6 k x0 (wrap64 (x1+1)) x5 true) else((racewayref25_is.f x0 (wrap64 (x1+1)) 45).bind fun t147=>(racewayref25_number.j6 k x0 (wrap64 (x1+1)) x5 t147)))) else(if 0≤x5 then(if x5≤x1 then(if x1≤(x0.size:Int) then(some (x1,0,([]:List (S24)),x0.extract (x5:Int).toNat (x1:Int).toNat)) else(none)) else(none)) else(none))
def racewayref25_number.j6:Nat→ByteArray→Int→Int→Bool→Option (Int × Int × (List (S24)) × ByteArray)
 | 0,_,_,_,_=>none
 | k+1,x0,x1,x5,x62=>if x62=true then(racewayref25_number.j7 k x0 (wrap64 (x1+1)) x5) else(racewayref25_number.j7 k x0 x1 x5)
def racewayref25_number.j7:Nat→ByteArray→Int→Int→Option (Int × Int × (List (S24)) × ByteArray)
 | 0,_,_,_=>none
 | k+1,x0,x1,x5=>(racewayref25_digit.f x0 x1).bind fun t148=>(if t148=true then(racewayref25_number.l2 k x0 x1 x5) else((racewayref25_fail.f x1).bind fun bt149=>(some (bt149.1,bt149.2.1,bt149.2.2.1,bt149.2.2.2))))
def racewayref25_number.l2:Nat→ByteArray→Int→Int→Option (Int × Int × (List (S24)) × ByteArray)
 | 0,_,_,_=>none
 | k+1,x0,x1,x5=>(racewayref25_digit.f x0 x1).bind fun t155=>(if t155=true then(racewayref25_number.l2 k x0 (wrap64 (x1+1)) x5) else(if 0≤x5 then(if x5≤x1 then(if x1≤(x0.size:Int) then(some (x1,0,([]:List (S24)),x0.extract (x5:Int).toNat (x1:Int).toNat)) else(none)) else(none)) else(none)))
def racewayref25_number.l1:Nat→ByteArray→Int→Int→Option (Int × Int × (List (S24)) × ByteArray)
 | 0,_,_,_=>none
 | k+1,x0,x1,x5=>(racewayref25_digit.f x0 x1).bind fun t143=>(if t143=true then(racewayref25_number.l1 k x0 (wrap64 (x1+1)) x5) else(racewayref25_number.j4 k x0 x1 x5))
def racewayref25_number.l0:Nat→ByteArray→Int→Int→Option (Int × Int × (List (S24)) × ByteArray)
 | 0,_,_,_=>none
 | k+1,x0,x1,x5=>(racewayref25_digit.f x0 x1).bind fun t134=>(if t134=true then(racewayref25_number.l0 k x0 (wrap64 (x1+1)) x5) else(racewayref25_number.j2 k x0 x1 x5))
end
def racewayref25_number.f (k:Nat) (a0:ByteArray) (a1:Int):Option (Int × Int × (List (S24)) × ByteArray):=(racewayref25_is.f a0 a1 45).bind fun t126=>(if t126=true then(racewayref25_number.j0 k a0 (wrap64 (a1+1)) a1) else(racewayref25_number.j0 k a0 a1 a1))
set_option maxHeartbeats 8000000 in
set_option maxRecDepth 100000 in
theorem racewayref25_number.calls (k:Nat) (a0:ByteArray) (a1:Int) (r1:Int) (r2:Int) (r3:List (S24)) (r4:ByteArray) (w:World) (h:racewayref25_number.f k a0 a1=some (r1,r2,r3,r4)) :
  Calls Tryd.prog 51 #[.string a0,.int .i64 a1] w fun e w'=>∃ v2_:Value,e=.returned (.agg #[.int .i64 r1,.int .i64 r2,v2_,.string r4])∧Kd.R k24 24 w' w.heap.size (fun _=>True) v2_ r3∧Below w.heap.size w w':=by
 have hu92:=Tryd.underlying92
 have HB:=Aside0.mk (Below.refl w.heap.size w)
 have H:((racewayref25_is.f a0 a1 45).bind fun t126=>(if t126=true then(racewayref25_number.j0 k a0 (wrap64 (a1+1)) a1) else(racewayref25_number.j0 k a0 a1 a1)))=some (r1,r2,r3,r4):=h
 clear h
 replace H:=Option.bind_eq_some_iff.mp H
 obtain ⟨t126,A30,H⟩:=H
 replace H:(if t126=true then(racewayref25_number.j0 k a0 (wrap64 (a1+1)) a1) else(racewayref25_number.j0 k a0 a1 a1))=some (r1,r2,r3,r4):=H
 have A3:=Aside0.mk A30
 clear A30
 have HC4:=Aside0.mk H
 clear H
 go_enter Tryd.func51,Tryd.ntmps51
 go_upto_if 9 with(first|((with_reducible refine gate_dst (N:=4) rfl ?_);refine box_event ?hg (N:=4) ?hd (cs:=#[.int .i64 0,.int .i64 0,.slice none 0 0,.string (⟨#[]⟩:ByteArray)]) (t:=92) ?hr ?_;(case hd=>rfl);(case hg=>rfl);(case hr=>first|(go_simp;done)|(go_simp;rfl));intro gb125 hg w5 hbox hb;have n0_:=Aside0.mk (below_step au3 hb);have n1_:=Aside0.mk (hbox);have n2_:=Aside0.mk ((by rw [hg];exact(below_size au3):w.heap.size≤gb125));have n3_:=Aside0.mk ((by rw [hg];exact(below_size au3):w.heap.size≤gb125));clear HB;have HB:=n0_;have BK125:=n1_;have GW125:=n2_;have GE125:=n3_;clear n0_ n1_ n2_ n3_;clear hb hbox hg)|((with_reducible refine gate_callee (f:=60) rfl ?_);refine goesL_ (some 9) rfl rfl Tryd.func60 au2 rfl #[.string a0,.int .i64 a1,.int .u8 45] rfl au10 ?_;(with_reducible refine(racewayref25_is.calls a0 a1 45 t126 _ A3.out).mono ?_);rintro e w' ⟨rfl,⟨nd,rfl⟩⟩;refine ⟨_,rfl,?_⟩))
 (try simp only [Act.put,List.setIfInBounds_toArray,List.set_cons_zero,List.set_cons_succ])
 go_cut [1] (fun v1 wc=>∃(kq:Nat) (x1_3:Int),v1=.int .i64 x1_3∧Aside0 (racewayref25_number.j0 kq a0 x1_3 a1=some (r1,r2,r3,r4))∧Aside0 (kq≤k)∧Aside0 (wc.heap[gb125]?=some (.cells #[.int .i64 0,.int .i64 0,(.slice none 0 0),.string (⟨#[]⟩:ByteArray)] 92 (0,0)))∧Aside0 (Below w.heap.size w wc))
 case first =>
  have H:=HC4.out
  clear HC4
  by_cases c6:t126=true
  ·subst c6
   replace H:(racewayref25_number.j0 k a0 (wrap64 (a1+1)) a1)=some (r1,r2,r3,r4):=by rw [if_pos rfl] at H;exact H
   have H':=Aside0.mk H
   clear H
   go_wp2
   go_meet
   case rel=>exact ⟨_,(wrap64 (a1+1)),au4,au9,⟨au14⟩,⟨by(with_reducible repeat(first|refine blk_drewN ?_ _|refine blk_drew ?_|refine blk_alloc ?_ _));exact BK125.out⟩,⟨by repeat(first|(with_reducible first|exact HB.out|apply below_alloc|apply pw_below_drewN|apply below_drew1|refine below_set ?_ GE125.out)|exact HB.out)⟩⟩
  ·replace c6:=Bool.eq_false_iff.mpr c6
   subst c6
   replace H:(racewayref25_number.j0 k a0 a1 a1)=some (r1,r2,r3,r4):=by rw [if_neg (show ¬ (false=true) by decide)] at H;exact H
   have H':=Aside0.mk H
   clear H
   go_wp2
   go_meet
   case rel=>exact ⟨_,(a1),au4,au9,⟨au14⟩,⟨by(with_reducible repeat(first|refine blk_drewN ?_ _|refine blk_drew ?_|refine blk_alloc ?_ _));exact BK125.out⟩,⟨by repeat(first|(with_reducible first|exact HB.out|apply below_alloc|apply pw_below_drewN|apply below_drew1|refine below_set ?_ GE125.out)|exact HB.out)⟩⟩
 case rest =>
  clear HC4
  obtain ⟨kq,x1_3,rfl,HA,HJ3,BK125,HB⟩:=hcut
  cases kq with
  | zero=>exact absurd HA.out (by simp [racewayref25_number.j0])
  | succ kj3 =>
   have H:=HA.out
   clear HA
   simp only [racewayref25_number.j0] at H
   replace H:=Option.bind_eq_some_iff.mp H
   obtain ⟨t127,A70,H⟩:=H
   replace H:(if t127=true then(if 0≤x1_3 then(if x1_3<(a0.size:Int) then(if(bt a0 x1_3)=48 then(racewayref25_number.j2 kj3 a0 (wrap64 (x1_3+1)) a1) else(racewayref25_number.l0 kj3 a0 x1_3 a1)) else(none)) else(none)) else((racewayref25_fail.f x1_3).bind fun bt128=>(some (bt128.1,bt128.2.1,bt128.2.2.1,bt128.2.2.2))))=some (r1,r2,r3,r4):=H
   have A7:=Aside0.mk A70
   clear A70
   by_cases c8:t127=true
   ·subst c8
    replace H:(if 0≤x1_3 then(if x1_3<(a0.size:Int) then(if(bt a0 x1_3)=48 then(racewayref25_number.j2 kj3 a0 (wrap64 (x1_3+1)) a1) else(racewayref25_number.l0 kj3 a0 x1_3 a1)) else(none)) else(none))=some (r1,r2,r3,r4):=by rw [if_pos rfl] at H;exact H
    by_cases c9:0≤x1_3
    ·rw [if_pos c9] at H
     have c9b0:decide (0≤x1_3)=true:=decide_eq_true c9
     clear c9
     by_cases c10:x1_3<(a0.size:Int)
     ·rw [if_pos c10] at H
      have c10b0:decide (x1_3<(a0.size:Int))=true:=decide_eq_true c10
      clear c10
      have HC12:=Aside0.mk H
      clear H
      go_upto_if 21 with(first|((with_reducible refine gate_callee (f:=61) rfl ?_);refine goesL_ (some 14) rfl rfl Tryd.func61 au2 rfl #[.string a0,.int .i64 x1_3] rfl au10 ?_;(with_reducible refine(racewayref25_digit.calls a0 x1_3 true _ A7.out).mono ?_);rintro e w' ⟨rfl,⟨nd,rfl⟩⟩;refine ⟨_,rfl,?_⟩;have p11:0≤(x1_3:Int):=of_decide_eq_true au7;have q11:x1_3<(a0.size:Int):=of_decide_eq_true au7;have hx11:=bt_at a0 x1_3;replace p11:=eq_true p11;replace q11:=eq_true q11))
      (try simp only [Act.put,List.setIfInBounds_toArray,List.set_cons_zero,List.set_cons_succ])
      go_cut [1] (fun v1 wc=>∃(kq:Nat) (x1_11:Int),v1=.int .i64 x1_11∧Aside0 (racewayref25_number.j2 kq a0 x1_11 a1=some (r1,r2,r3,r4))∧Aside0 (kq≤kj3)∧Aside0 (wc.heap[gb125]?=some (.cells #[.int .i64 0,.int .i64 0,(.slice none 0 0),.string (⟨#[]⟩:ByteArray)] 92 (0,0)))∧Aside0 (Below w.heap.size w wc))
      case first =>
       have H:=HC12.out
       clear HC12
       by_cases c13:(bt a0 x1_3)=48
       ·rw [if_pos c13] at H
        have c13b0:((bt a0 x1_3)==48)=true:=beq_iff_eq.mpr c13
        have c13b1:((bt a0 x1_3) != 48)=false:=bne_eq_false_iff_eq.mpr c13
        clear c13
        (first|rw [c13b0]|(simp only [i64_w,i32_w];rw [c13b0])|skip)
        have H':=Aside0.mk H
        clear H
        go_wp2
        go_meet
        case rel=>exact ⟨_,(wrap64 (x1_3+1)),au4,au9,⟨au40⟩,⟨by(with_reducible repeat(first|refine blk_drewN ?_ _|refine blk_drew ?_|refine blk_alloc ?_ _));exact BK125.out⟩,⟨by repeat(first|(with_reducible first|exact HB.out|apply below_alloc|apply pw_below_drewN|apply below_drew1|refine below_set ?_ GE125.out)|exact HB.out)⟩⟩
       ·rw [if_neg c13] at H
        have c13b0:((bt a0 x1_3)==48)=false:=beq_eq_false_iff_ne.mpr c13
        have c13b1:((bt a0 x1_3) != 48)=true:=bne_iff_ne.mpr c13
        (first|rw [c13b0]|(simp only [i64_w,i32_w];rw [c13b0])|skip)
        have H':=Aside0.mk H
        clear H
        go_wp2
        go_loopg [1] kj3 (fun kq v1 w'=>∃(x1_2:Int),v1=.int .i64 x1_2∧Aside0 (racewayref25_number.l0 kq a0 x1_2 a1=some (r1,r2,r3,r4))∧Aside0 (kq≤kj3)∧Aside0 (w'.heap[gb125]?=some (.cells #[.int .i64 0,.int .i64 0,(.slice none 0 0),.string (⟨#[]⟩:ByteArray)] 92 (0,0)))∧Aside0 (Below w.heap.size w w'))
        case atStart=>exact ⟨(x1_3),au4,au9,⟨Nat.le_refl _⟩,⟨by(with_reducible repeat(first|refine blk_drewN ?_ _|refine blk_drew ?_|refine blk_alloc ?_ _));exact BK125.out⟩,⟨by repeat(first|(with_reducible first|exact HB.out|apply below_alloc|apply pw_below_drewN|apply below_drew1|refine below_set ?_ GE125.out)|exact HB.out)⟩⟩
        case round =>
         clear H'
         obtain ⟨x1_2,rfl,HA,HK2,BK125,HB⟩:=hrel
         cases gk with
         | zero=>exact absurd HA.out (by simp [racewayref25_number.l0])
         | succ k2 =>
          have H:=HA.out
          clear HA
          simp only [racewayref25_number.l0] at H
          replace H:=Option.bind_eq_some_iff.mp H
          obtain ⟨t134,A140,H⟩:=H
          replace H:(if t134=true then(racewayref25_number.l0 k2 a0 (wrap64 (x1_2+1)) a1) else(racewayref25_number.j2 k2 a0 x1_2 a1))=some (r1,r2,r3,r4):=H
          have A14:=Aside0.mk A140
          clear A140
          by_cases c15:t134=true
          ·subst c15
           replace H:(racewayref25_number.l0 k2 a0 (wrap64 (x1_2+1)) a1)=some (r1,r2,r3,r4):=by rw [if_pos rfl] at H;exact H
           have H':=Aside0.mk H
           clear H
           go_wp2_with (first|((with_reducible refine gate_callee (f:=61) rfl ?_);refine goesL_ (some 26) rfl rfl Tryd.func61 au2 rfl #[.string a0,.int .i64 x1_2] rfl au10 ?_;(with_reducible refine(racewayref25_digit.calls a0 x1_2 true _ A14.out).mono ?_);rintro e w' ⟨rfl,⟨nd,rfl⟩⟩;refine ⟨_,rfl,?_⟩))
           go_roundg k2
           case measure=>have:=HJ3.out;have:=HK2.out;omega
           case rel=>exact ⟨(wrap64 (x1_2+1)),au4,au9,⟨by have:=HJ3.out;have:=HK2.out;omega⟩,⟨by(with_reducible repeat(first|refine blk_drewN ?_ _|refine blk_drew ?_|refine blk_alloc ?_ _));exact BK125.out⟩,⟨by repeat(first|(with_reducible first|exact HB.out|apply below_alloc|apply pw_below_drewN|apply below_drew1|refine below_set ?_ GE125.out)|exact HB.out)⟩⟩
          ·replace c15:=Bool.eq_false_iff.mpr c15
           subst c15
           replace H:(racewayref25_number.j2 k2 a0 x1_2 a1)=some (r1,r2,r3,r4):=by rw [if_neg (show ¬ (false=true) by decide)] at H;exact H
           have H':=Aside0.mk H
           clear H
           go_wp2_with (first|((with_reducible refine gate_callee (f:=61) rfl ?_);refine goesL_ (some 26) rfl rfl Tryd.func61 au2 rfl #[.string a0,.int .i64 x1_2] rfl au10 ?_;(with_reducible refine(racewayref25_digit.calls a0 x1_2 false _ A14.out).mono ?_);rintro e w' ⟨rfl,⟨nd,rfl⟩⟩;refine ⟨_,rfl,?_⟩))
           go_meet
           case rel=>exact ⟨_,(x1_2),au4,au9,⟨au53⟩,⟨by(with_reducible repeat(first|refine blk_drewN ?_ _|refine blk_drew ?_|refine blk_alloc ?_ _));exact BK125.out⟩,⟨by repeat(first|(with_reducible first|exact HB.out|apply below_alloc|apply pw_below_drewN|apply below_drew1|refine below_set ?_ GE125.out)|exact HB.out)⟩⟩
      case rest =>
       clear HC12
       obtain ⟨kq,x1_11,rfl,HA,HJ11,BK125,HB⟩:=hcut
       cases kq with
       | zero=>exact absurd HA.out (by simp [racewayref25_number.j2])
       | succ kj11 =>
        have H:=HA.out
        clear HA
        simp only [racewayref25_number.j2] at H
        replace H:=Option.bind_eq_some_iff.mp H
        obtain ⟨t135,A160,H⟩:=H
        replace H:(if t135=true then((racewayref25_digit.f a0 (wrap64 (x1_11+1))).bind fun t136=>(if t136=true then(racewayref25_number.l1 kj11 a0 (wrap64 (x1_11+1)) a1) else((racewayref25_fail.f (wrap64 (x1_11+1))).bind fun bt137=>(some (bt137.1,bt137.2.1,bt137.2.2.1,bt137.2.2.2))))) else(racewayref25_number.j4 kj11 a0 x1_11 a1))=some (r1,r2,r3,r4):=H
        have A16:=Aside0.mk A160
        clear A160
        have HC17:=Aside0.mk H
        clear H
        go_upto_if 31 with(first|((with_reducible refine gate_callee (f:=60) rfl ?_);refine goesL_ (some 31) rfl rfl Tryd.func60 au2 rfl #[.string a0,.int .i64 x1_11,.int .u8 46] rfl au10 ?_;(with_reducible refine(racewayref25_is.calls a0 x1_11 46 t135 _ A16.out).mono ?_);rintro e w' ⟨rfl,⟨nd,rfl⟩⟩;refine ⟨_,rfl,?_⟩))
        (try simp only [Act.put,List.setIfInBounds_toArray,List.set_cons_zero,List.set_cons_succ])
        go_cut [1] (fun v1 wc=>∃(kq:Nat) (x1_16:Int) (x126000_16:Int) (x126001_16:Int) (x126003_16:ByteArray),v1=.int .i64 x1_16∧Aside0 (racewayref25_number.j4 kq a0 x1_16 a1=some (r1,r2,r3,r4))∧Aside0 (kq≤kj11)∧Aside0 (wc.heap[gb125]?=some (.cells #[.int .i64 x126000_16,.int .i64 x126001_16,(.slice none 0 0),.string x126003_16] 92 (0,0)))∧Aside0 (Below w.heap.size w wc))
        case first =>
         have H:=HC17.out
         clear HC17
         by_cases c18:t135=true
         ·subst c18
          replace H:((racewayref25_digit.f a0 (wrap64 (x1_11+1))).bind fun t136=>(if t136=true then(racewayref25_number.l1 kj11 a0 (wrap64 (x1_11+1)) a1) else((racewayref25_fail.f (wrap64 (x1_11+1))).bind fun bt137=>(some (bt137.1,bt137.2.1,bt137.2.2.1,bt137.2.2.2)))))=some (r1,r2,r3,r4):=by rw [if_pos rfl] at H;exact H
          replace H:=Option.bind_eq_some_iff.mp H
          obtain ⟨t136,A190,H⟩:=H
          replace H:(if t136=true then(racewayref25_number.l1 kj11 a0 (wrap64 (x1_11+1)) a1) else((racewayref25_fail.f (wrap64 (x1_11+1))).bind fun bt137=>(some (bt137.1,bt137.2.1,bt137.2.2.1,bt137.2.2.2))))=some (r1,r2,r3,r4):=H
          have A19:=Aside0.mk A190
          clear A190
          by_cases c20:t136=true
          ·subst c20
           replace H:(racewayref25_number.l1 kj11 a0 (wrap64 (x1_11+1)) a1)=some (r1,r2,r3,r4):=by rw [if_pos rfl] at H;exact H
           have H':=Aside0.mk H
           clear H
           go_wp2_with (first|((with_reducible refine gate_callee (f:=61) rfl ?_);refine goesL_ (some 36) rfl rfl Tryd.func61 au2 rfl #[.string a0,.int .i64 (wrap64 (x1_11+1))] rfl au10 ?_;(with_reducible refine(racewayref25_digit.calls a0 (wrap64 (x1_11+1)) true _ A19.out).mono ?_);rintro e w' ⟨rfl,⟨nd,rfl⟩⟩;refine ⟨_,rfl,?_⟩))
           go_loopg [1] kj11 (fun kq v1 w'=>∃(x1_3:Int),v1=.int .i64 x1_3∧Aside0 (racewayref25_number.l1 kq a0 x1_3 a1=some (r1,r2,r3,r4))∧Aside0 (kq≤kj11)∧Aside0 (w'.heap[gb125]?=some (.cells #[.int .i64 0,.int .i64 0,(.slice none 0 0),.string (⟨#[]⟩:ByteArray)] 92 (0,0)))∧Aside0 (Below w.heap.size w w'))
           case atStart=>exact ⟨(wrap64 (x1_11+1)),au4,au9,⟨Nat.le_refl _⟩,⟨by(with_reducible repeat(first|refine blk_drewN ?_ _|refine blk_drew ?_|refine blk_alloc ?_ _));exact BK125.out⟩,⟨by repeat(first|(with_reducible first|exact HB.out|apply below_alloc|apply pw_below_drewN|apply below_drew1|refine below_set ?_ GE125.out)|exact HB.out)⟩⟩
           case round =>
            clear H'
            obtain ⟨x1_3,rfl,HA,HK3,BK125,HB⟩:=hrel
            cases gk with
            | zero=>exact absurd HA.out (by simp [racewayref25_number.l1])
            | succ k3 =>
             have H:=HA.out
             clear HA
             simp only [racewayref25_number.l1] at H
             replace H:=Option.bind_eq_some_iff.mp H
             obtain ⟨t143,A210,H⟩:=H
             replace H:(if t143=true then(racewayref25_number.l1 k3 a0 (wrap64 (x1_3+1)) a1) else(racewayref25_number.j4 k3 a0 x1_3 a1))=some (r1,r2,r3,r4):=H
             have A21:=Aside0.mk A210
             clear A210
             by_cases c22:t143=true
             ·subst c22
              replace H:(racewayref25_number.l1 k3 a0 (wrap64 (x1_3+1)) a1)=some (r1,r2,r3,r4):=by rw [if_pos rfl] at H;exact H
              have H':=Aside0.mk H
              clear H
              go_wp2_with (first|((with_reducible refine gate_callee (f:=61) rfl ?_);refine goesL_ (some 42) rfl rfl Tryd.func61 au2 rfl #[.string a0,.int .i64 x1_3] rfl au10 ?_;(with_reducible refine(racewayref25_digit.calls a0 x1_3 true _ A21.out).mono ?_);rintro e w' ⟨rfl,⟨nd,rfl⟩⟩;refine ⟨_,rfl,?_⟩))
              go_roundg k3
              case measure=>have:=HJ3.out;have:=HJ11.out;have:=HK3.out;omega
              case rel=>exact ⟨(wrap64 (x1_3+1)),au4,au9,⟨by have:=HJ3.out;have:=HJ11.out;have:=HK3.out;omega⟩,⟨by(with_reducible repeat(first|refine blk_drewN ?_ _|refine blk_drew ?_|refine blk_alloc ?_ _));exact BK125.out⟩,⟨by repeat(first|(with_reducible first|exact HB.out|apply below_alloc|apply pw_below_drewN|apply below_drew1|refine below_set ?_ GE125.out)|exact HB.out)⟩⟩
             ·replace c22:=Bool.eq_false_iff.mpr c22
              subst c22
              replace H:(racewayref25_number.j4 k3 a0 x1_3 a1)=some (r1,r2,r3,r4):=by rw [if_neg (show ¬ (false=true) by decide)] at H;exact H
              have H':=Aside0.mk H
              clear H
              go_wp2_with (first|((with_reducible refine gate_callee (f:=61) rfl ?_);refine goesL_ (some 42) rfl rfl Tryd.func61 au2 rfl #[.string a0,.int .i64 x1_3] rfl au10 ?_;(with_reducible refine(racewayref25_digit.calls a0 x1_3 false _ A21.out).mono ?_);rintro e w' ⟨rfl,⟨nd,rfl⟩⟩;refine ⟨_,rfl,?_⟩))
              go_meet
              case rel=>exact ⟨_,(x1_3),(0),(0),((⟨#[]⟩:ByteArray)),au4,au9,⟨by have:=HJ3.out;have:=HJ11.out;have:=HK3.out;first|omega|exact Nat.le_refl _⟩,⟨by(with_reducible repeat(first|refine blk_drewN ?_ _|refine blk_drew ?_|refine blk_alloc ?_ _));exact BK125.out⟩,⟨by repeat(first|(with_reducible first|exact HB.out|apply below_alloc|apply pw_below_drewN|apply below_drew1|refine below_set ?_ GE125.out)|exact HB.out)⟩⟩
          ·replace c20:=Bool.eq_false_iff.mpr c20
           subst c20
           replace H:((racewayref25_fail.f (wrap64 (x1_11+1))).bind fun bt137=>(some (bt137.1,bt137.2.1,bt137.2.2.1,bt137.2.2.2)))=some (r1,r2,r3,r4):=by rw [if_neg (show ¬ (false=true) by decide)] at H;exact H
           replace H:=Option.bind_eq_some_iff.mp H
           obtain ⟨⟨t137,t138,t139,t142⟩,A230,H⟩:=H
           replace H:(some (t137,t138,t139,t142))=some (r1,r2,r3,r4):=H
           have A23:=Aside0.mk A230
           clear A230
           simp only [Option.some.injEq,Prod.mk.injEq] at H
           obtain ⟨rfl,rfl,rfl,rfl⟩:=H
           go_wp2_with (first|((with_reducible refine gate_callee (f:=61) rfl ?_);refine goesL_ (some 36) rfl rfl Tryd.func61 au2 rfl #[.string a0,.int .i64 (wrap64 (x1_11+1))] rfl au10 ?_;(with_reducible refine(racewayref25_digit.calls a0 (wrap64 (x1_11+1)) false _ A19.out).mono ?_);rintro e w' ⟨rfl,⟨nd,rfl⟩⟩;refine ⟨_,rfl,?_⟩;(try(rw [drewN_self wc];generalize hq_:World.drewN wc _=wc;have n0_:Aside0 (wc.heap[gb125]?=some (.cells #[.int .i64 0,.int .i64 0,.slice none 0 0,.string (⟨#[]⟩:ByteArray)] 92 (0,0))):=⟨by rw [← hq_];exact(by(with_reducible repeat(first|refine blk_drewN ?_ _|refine blk_drew ?_|refine blk_alloc ?_ _));exact BK125.out)⟩;have n1_:Aside0 (Below w.heap.size w wc):=⟨by rw [← hq_];exact(by repeat(first|(with_reducible first|exact HB.out|apply below_alloc|apply pw_below_drewN|apply below_drew1|refine below_set ?_ GE125.out)|exact HB.out))⟩;clear BK125 HB hq_;have BK125:=n0_;have HB:=n1_;clear n0_ n1_)))|((with_reducible refine gate_callee (f:=62) rfl ?_);refine goesL_ (some 39) rfl rfl Tryd.func62 au2 rfl #[.int .i64 (wrap64 (x1_11+1))] rfl au10 ?_;(with_reducible refine(racewayref25_fail.calls (wrap64 (x1_11+1)) t137 t138 t139 t142 _ A23.out).mono ?_);rintro e w24 ⟨v140,rfl,ho0,hb⟩;refine ⟨_,rfl,?_⟩;have n0_:=Aside0.mk (Kd.R_lower ho0 (below_size (by repeat(first|(with_reducible first|exact HB.out|apply below_alloc|apply pw_below_drewN|apply below_drew1|refine below_set ?_ GE125.out)|exact HB.out))));have n1_:=Aside0.mk (blk_below (g:=gb125) (o:=.cells #[.int .i64 0,.int .i64 0,.slice none 0 0,.string (⟨#[]⟩:ByteArray)] 92 (0,0)) (by(with_reducible repeat(first|refine blk_drewN ?_ _|refine blk_drew ?_|refine blk_alloc ?_ _));exact BK125.out) hb);have n2_:=Aside0.mk (below_step (by repeat(first|(with_reducible first|exact HB.out|apply below_alloc|apply pw_below_drewN|apply below_drew1|refine below_set ?_ GE125.out)|exact HB.out)) hb);clear BK125;clear HB;have HO141:=n0_;have BK125:=n1_;have HB:=n2_;clear n0_ n1_ n2_;(try clear hb);(try clear hb2);(try clear hk);(try clear hi);(try clear ho0);have hcz25_0:w24.cell? ⟨gb125,0,none⟩=some (.int .i64 0):=(blk_cell BK125.out 0).trans rfl;have hcz25_1:w24.cell? ⟨gb125,1,none⟩=some (.int .i64 0):=(blk_cell BK125.out 1).trans rfl;have hcz25_2:w24.cell? ⟨gb125,2,none⟩=some (.slice none 0 0):=(blk_cell BK125.out 2).trans rfl;have hcz25_3:w24.cell? ⟨gb125,3,none⟩=some (.string (⟨#[]⟩:ByteArray)):=(blk_cell BK125.out 3).trans rfl;have hfz25_0:=blk_frozen BK125.out 0;have hfz25_1:=blk_frozen BK125.out 1;have hfz25_2:=blk_frozen BK125.out 2;have hfz25_3:=blk_frozen BK125.out 3;obtain ⟨Ao26,co26,eo26⟩:=Kd.R_slice HO141.out;subst eo26))
           refine bodyPost_ret (results_cell_row rfl _ _ gb125 92 #[.int .i64 t137,.int .i64 t138,.slice Ao26 t139.length co26,.string t142] (0,0) _ rfl (by(with_reducible repeat(first|refine blk_drewN ?_ _|refine blk_drew ?_|refine blk_alloc ?_ _));refine blk_put (cs:=#[.int .i64 t137,.int .i64 t138,.slice Ao26 t139.length co26,.string (⟨#[]⟩:ByteArray)]) ?_ 3 _ rfl;(with_reducible repeat(first|refine blk_drewN ?_ _|refine blk_drew ?_|refine blk_alloc ?_ _));refine blk_put (cs:=#[.int .i64 t137,.int .i64 t138,.slice none 0 0,.string (⟨#[]⟩:ByteArray)]) ?_ 2 _ rfl;(with_reducible repeat(first|refine blk_drewN ?_ _|refine blk_drew ?_|refine blk_alloc ?_ _));refine blk_put (cs:=#[.int .i64 t137,.int .i64 0,.slice none 0 0,.string (⟨#[]⟩:ByteArray)]) ?_ 1 _ rfl;(with_reducible repeat(first|refine blk_drewN ?_ _|refine blk_drew ?_|refine blk_alloc ?_ _));refine blk_put (cs:=#[.int .i64 0,.int .i64 0,.slice none 0 0,.string (⟨#[]⟩:ByteArray)]) ?_ 0 _ rfl;(with_reducible repeat(first|refine blk_drewN ?_ _|refine blk_drew ?_|refine blk_alloc ?_ _));exact BK125.out) Tryd.underlying92 rfl au2) rfl ?_
           exact ⟨_,au12,by(with_reducible repeat(first|apply Kd.R_alloc|apply Kd.R_drewN|apply Kd.R_drew));exact Kd.R_mono (Kd.R_far (p:=⟨gb125,3,none⟩) (Kd.R_far (p:=⟨gb125,2,none⟩) (Kd.R_far (p:=⟨gb125,1,none⟩) (Kd.R_far (p:=⟨gb125,0,none⟩) (Kd.R_types HO141.out BK125.out au1) (fun _ hk=>hk.2) (.int .i64 t137)) (fun _ hk=>hk.2) (.int .i64 t138)) (fun _ hk=>hk.2) (.slice Ao26 t139.length co26)) (fun _ hk=>hk.2) (.string t142)) (fun _ hk=>trivial),by repeat(first|(with_reducible first|exact HB.out|apply below_alloc|apply pw_below_drewN|apply below_drew1|refine below_set ?_ GE125.out)|exact HB.out)⟩
         ·replace c18:=Bool.eq_false_iff.mpr c18
          subst c18
          replace H:(racewayref25_number.j4 kj11 a0 x1_11 a1)=some (r1,r2,r3,r4):=by rw [if_neg (show ¬ (false=true) by decide)] at H;exact H
          have H':=Aside0.mk H
          clear H
          go_wp2
          go_meet
          case rel=>exact ⟨_,(x1_11),(0),(0),((⟨#[]⟩:ByteArray)),au4,au9,⟨by have:=HJ3.out;have:=HJ11.out;first|omega|exact Nat.le_refl _⟩,⟨by(with_reducible repeat(first|refine blk_drewN ?_ _|refine blk_drew ?_|refine blk_alloc ?_ _));exact BK125.out⟩,⟨by repeat(first|(with_reducible first|exact HB.out|apply below_alloc|apply pw_below_drewN|apply below_drew1|refine below_set ?_ GE125.out)|exact HB.out)⟩⟩
        case rest =>
         clear HC17
         obtain ⟨kq,x1_16,x126000_16,x126001_16,x126003_16,rfl,HA,HJ16,BK125,HB⟩:=hcut
         cases kq with
         | zero=>exact absurd HA.out (by simp [racewayref25_number.j4])
         | succ kj16 =>
          have H:=HA.out
          clear HA
          simp only [racewayref25_number.j4] at H
          have HC27:=Aside0.mk H
          clear H
          go_upto_region 16 with(fail)
          go_cut [52] (fun v52 wc=>∃(kq:Nat) (x52_26:Bool),v52=.bool x52_26∧Aside0 (racewayref25_number.j5 kq a0 x1_16 a1 x52_26=some (r1,r2,r3,r4))∧Aside0 (kq≤kj16)∧Aside0 (wc.heap[gb125]?=some (.cells #[.int .i64 x126000_16,.int .i64 x126001_16,(.slice none 0 0),.string x126003_16] 92 (0,0)))∧Aside0 (Below w.heap.size w wc))
          case first =>
           have H:=HC27.out
           clear HC27
           replace H:=Option.bind_eq_some_iff.mp H
           obtain ⟨t144,A280,H⟩:=H
           replace H:(if t144=true then(racewayref25_number.j5 kj16 a0 x1_16 a1 true) else((racewayref25_is.f a0 x1_16 69).bind fun t145=>(racewayref25_number.j5 kj16 a0 x1_16 a1 t145)))=some (r1,r2,r3,r4):=H
           have A28:=Aside0.mk A280
           clear A280
           by_cases c29:t144=true
           ·subst c29
            replace H:(racewayref25_number.j5 kj16 a0 x1_16 a1 true)=some (r1,r2,r3,r4):=by rw [if_pos rfl] at H;exact H
            have H':=Aside0.mk H
            clear H
            go_wp2_with (first|((with_reducible refine gate_callee (f:=60) rfl ?_);refine goesL_ (some 47) rfl rfl Tryd.func60 au2 rfl #[.string a0,.int .i64 x1_16,.int .u8 101] rfl au10 ?_;(with_reducible refine(racewayref25_is.calls a0 x1_16 101 true _ A28.out).mono ?_);rintro e w' ⟨rfl,⟨nd,rfl⟩⟩;refine ⟨_,rfl,?_⟩))
            go_meet
            case rel=>exact ⟨_,(true),au4,au9,⟨by have:=HJ3.out;have:=HJ11.out;have:=HJ16.out;first|omega|exact Nat.le_refl _⟩,⟨by(with_reducible repeat(first|refine blk_drewN ?_ _|refine blk_drew ?_|refine blk_alloc ?_ _));exact BK125.out⟩,⟨by repeat(first|(with_reducible first|exact HB.out|apply below_alloc|apply pw_below_drewN|apply below_drew1|refine below_set ?_ GE125.out)|exact HB.out)⟩⟩
           ·replace c29:=Bool.eq_false_iff.mpr c29
            subst c29
            replace H:((racewayref25_is.f a0 x1_16 69).bind fun t145=>(racewayref25_number.j5 kj16 a0 x1_16 a1 t145))=some (r1,r2,r3,r4):=by rw [if_neg (show ¬ (false=true) by decide)] at H;exact H
            replace H:=Option.bind_eq_some_iff.mp H
            obtain ⟨t145,A300,H⟩:=H
            replace H:(racewayref25_number.j5 kj16 a0 x1_16 a1 t145)=some (r1,r2,r3,r4):=H
            have A30:=Aside0.mk A300
            clear A300
            have H':=Aside0.mk H
            clear H
            go_wp2_with (first|((with_reducible refine gate_callee (f:=60) rfl ?_);refine goesL_ (some 47) rfl rfl Tryd.func60 au2 rfl #[.string a0,.int .i64 x1_16,.int .u8 101] rfl au10 ?_;(with_reducible refine(racewayref25_is.calls a0 x1_16 101 false _ A28.out).mono ?_);rintro e w' ⟨rfl,⟨nd,rfl⟩⟩;refine ⟨_,rfl,?_⟩)|(go_at_call 60;(with_reducible refine(racewayref25_is.calls a0 x1_16 69 t145 _ A30.out).mono ?_);rintro e w' ⟨rfl,⟨nd,rfl⟩⟩))
            go_meet
            case rel=>exact ⟨_,(t145),au4,au9,⟨by have:=HJ3.out;have:=HJ11.out;have:=HJ16.out;first|omega|exact Nat.le_refl _⟩,⟨by(with_reducible repeat(first|refine blk_drewN ?_ _|refine blk_drew ?_|refine blk_alloc ?_ _));exact BK125.out⟩,⟨by repeat(first|(with_reducible first|exact HB.out|apply below_alloc|apply pw_below_drewN|apply below_drew1|refine below_set ?_ GE125.out)|exact HB.out)⟩⟩
          case rest =>
           clear HC27
           obtain ⟨kq,x52_26,rfl,HA,HJ26,BK125,HB⟩:=hcut
           cases kq with
           | zero=>exact absurd HA.out (by simp [racewayref25_number.j5])
           | succ kj26 =>
            have H:=HA.out
            clear HA
            simp only [racewayref25_number.j5] at H
            by_cases c31:x52_26=true
            ·subst c31
             replace H:((racewayref25_is.f a0 (wrap64 (x1_16+1)) 43).bind fun t146=>(if t146=true then(racewayref25_number.j6 kj26 a0 (wrap64 (x1_16+1)) a1 true) else((racewayref25_is.f a0 (wrap64 (x1_16+1)) 45).bind fun t147=>(racewayref25_number.j6 kj26 a0 (wrap64 (x1_16+1)) a1 t147))))=some (r1,r2,r3,r4):=by rw [if_pos rfl] at H;exact H
             have HC32:=Aside0.mk H
             clear H
             go_upto_region 18 with(fail)
             go_cut [62] (fun v62 wc=>∃(kq:Nat) (x62_31:Bool),v62=.bool x62_31∧Aside0 (racewayref25_number.j6 kq a0 (wrap64 (x1_16+1)) a1 x62_31=some (r1,r2,r3,r4))∧Aside0 (kq≤kj26)∧Aside0 (wc.heap[gb125]?=some (.cells #[.int .i64 x126000_16,.int .i64 x126001_16,(.slice none 0 0),.string x126003_16] 92 (0,0)))∧Aside0 (Below w.heap.size w wc))
             case first =>
              have H:=HC32.out
              clear HC32
              replace H:=Option.bind_eq_some_iff.mp H
              obtain ⟨t146,A330,H⟩:=H
              replace H:(if t146=true then(racewayref25_number.j6 kj26 a0 (wrap64 (x1_16+1)) a1 true) else((racewayref25_is.f a0 (wrap64 (x1_16+1)) 45).bind fun t147=>(racewayref25_number.j6 kj26 a0 (wrap64 (x1_16+1)) a1 t147)))=some (r1,r2,r3,r4):=H
              have A33:=Aside0.mk A330
              clear A330
              by_cases c34:t146=true
              ·subst c34
               replace H:(racewayref25_number.j6 kj26 a0 (wrap64 (x1_16+1)) a1 true)=some (r1,r2,r3,r4):=by rw [if_pos rfl] at H;exact H
               have H':=Aside0.mk H
               clear H
               go_wp2_with (first|((with_reducible refine gate_callee (f:=60) rfl ?_);refine goesL_ (some 57) rfl rfl Tryd.func60 au2 rfl #[.string a0,.int .i64 (wrap64 (x1_16+1)),.int .u8 43] rfl au10 ?_;(with_reducible refine(racewayref25_is.calls a0 (wrap64 (x1_16+1)) 43 true _ A33.out).mono ?_);rintro e w' ⟨rfl,⟨nd,rfl⟩⟩;refine ⟨_,rfl,?_⟩))
               go_meet
               case rel=>exact ⟨_,(true),au4,au9,⟨by have:=HJ3.out;have:=HJ11.out;have:=HJ16.out;have:=HJ26.out;first|omega|exact Nat.le_refl _⟩,⟨by(with_reducible repeat(first|refine blk_drewN ?_ _|refine blk_drew ?_|refine blk_alloc ?_ _));exact BK125.out⟩,⟨by repeat(first|(with_reducible first|exact HB.out|apply below_alloc|apply pw_below_drewN|apply below_drew1|refine below_set ?_ GE125.out)|exact HB.out)⟩⟩
              ·replace c34:=Bool.eq_false_iff.mpr c34
               subst c34
               replace H:((racewayref25_is.f a0 (wrap64 (x1_16+1)) 45).bind fun t147=>(racewayref25_number.j6 kj26 a0 (wrap64 (x1_16+1)) a1 t147))=some (r1,r2,r3,r4):=by rw [if_neg (show ¬ (false=true) by decide)] at H;exact H
               replace H:=Option.bind_eq_some_iff.mp H
               obtain ⟨t147,A350,H⟩:=H
               replace H:(racewayref25_number.j6 kj26 a0 (wrap64 (x1_16+1)) a1 t147)=some (r1,r2,r3,r4):=H
               have A35:=Aside0.mk A350
               clear A350
               have H':=Aside0.mk H
               clear H
               go_wp2_with (first|((with_reducible refine gate_callee (f:=60) rfl ?_);refine goesL_ (some 57) rfl rfl Tryd.func60 au2 rfl #[.string a0,.int .i64 (wrap64 (x1_16+1)),.int .u8 43] rfl au10 ?_;(with_reducible refine(racewayref25_is.calls a0 (wrap64 (x1_16+1)) 43 false _ A33.out).mono ?_);rintro e w' ⟨rfl,⟨nd,rfl⟩⟩;refine ⟨_,rfl,?_⟩)|(go_at_call 60;(with_reducible refine(racewayref25_is.calls a0 (wrap64 (x1_16+1)) 45 t147 _ A35.out).mono ?_);rintro e w' ⟨rfl,⟨nd,rfl⟩⟩))
               go_meet
               case rel=>exact ⟨_,(t147),au4,au9,⟨by have:=HJ3.out;have:=HJ11.out;have:=HJ16.out;have:=HJ26.out;first|omega|exact Nat.le_refl _⟩,⟨by(with_reducible repeat(first|refine blk_drewN ?_ _|refine blk_drew ?_|refine blk_alloc ?_ _));exact BK125.out⟩,⟨by repeat(first|(with_reducible first|exact HB.out|apply below_alloc|apply pw_below_drewN|apply below_drew1|refine below_set ?_ GE125.out)|exact HB.out)⟩⟩
             case rest =>
              clear HC32
              obtain ⟨kq,x62_31,rfl,HA,HJ31,BK125,HB⟩:=hcut
              cases kq with
              | zero=>exact absurd HA.out (by simp [racewayref25_number.j6])
              | succ kj31 =>
               have H:=HA.out
               clear HA
               simp only [racewayref25_number.j6] at H
               have HC36:=Aside0.mk H
               clear H
               go_upto_if 62 with(fail)
               go_cut [1] (fun v1 wc=>∃(kq:Nat) (x1_35:Int),v1=.int .i64 x1_35∧Aside0 (racewayref25_number.j7 kq a0 x1_35 a1=some (r1,r2,r3,r4))∧Aside0 (kq≤kj31)∧Aside0 (wc.heap[gb125]?=some (.cells #[.int .i64 x126000_16,.int .i64 x126001_16,(.slice none 0 0),.string x126003_16] 92 (0,0)))∧Aside0 (Below w.heap.size w wc))
               case first =>
                have H:=HC36.out
                clear HC36
                by_cases c37:x62_31=true
                ·subst c37
                 replace H:(racewayref25_number.j7 kj31 a0 (wrap64 ((wrap64 (x1_16+1))+1)) a1)=some (r1,r2,r3,r4):=by rw [if_pos rfl] at H;exact H
                 have H':=Aside0.mk H
                 clear H
                 go_wp2
                 go_meet
                 case rel=>exact ⟨_,(wrap64 ((wrap64 (x1_16+1))+1)),au4,au9,⟨by have:=HJ3.out;have:=HJ11.out;have:=HJ16.out;have:=HJ26.out;have:=HJ31.out;first|omega|exact Nat.le_refl _⟩,⟨by(with_reducible repeat(first|refine blk_drewN ?_ _|refine blk_drew ?_|refine blk_alloc ?_ _));exact BK125.out⟩,⟨by repeat(first|(with_reducible first|exact HB.out|apply below_alloc|apply pw_below_drewN|apply below_drew1|refine below_set ?_ GE125.out)|exact HB.out)⟩⟩
                ·replace c37:=Bool.eq_false_iff.mpr c37
                 subst c37
                 replace H:(racewayref25_number.j7 kj31 a0 (wrap64 (x1_16+1)) a1)=some (r1,r2,r3,r4):=by rw [if_neg (show ¬ (false=true) by decide)] at H;exact H
                 have H':=Aside0.mk H
                 clear H
                 go_wp2
                 go_meet
                 case rel=>exact ⟨_,((wrap64 (x1_16+1))),au4,au9,⟨by have:=HJ3.out;have:=HJ11.out;have:=HJ16.out;have:=HJ26.out;have:=HJ31.out;first|omega|exact Nat.le_refl _⟩,⟨by(with_reducible repeat(first|refine blk_drewN ?_ _|refine blk_drew ?_|refine blk_alloc ?_ _));exact BK125.out⟩,⟨by repeat(first|(with_reducible first|exact HB.out|apply below_alloc|apply pw_below_drewN|apply below_drew1|refine below_set ?_ GE125.out)|exact HB.out)⟩⟩
               case rest =>
                clear HC36
                obtain ⟨kq,x1_35,rfl,HA,HJ35,BK125,HB⟩:=hcut
                cases kq with
                | zero=>exact absurd HA.out (by simp [racewayref25_number.j7])
                | succ kj35 =>
                 have H:=HA.out
                 clear HA
                 simp only [racewayref25_number.j7] at H
                 replace H:=Option.bind_eq_some_iff.mp H
                 obtain ⟨t148,A380,H⟩:=H
                 replace H:(if t148=true then(racewayref25_number.l2 kj35 a0 x1_35 a1) else((racewayref25_fail.f x1_35).bind fun bt149=>(some (bt149.1,bt149.2.1,bt149.2.2.1,bt149.2.2.2))))=some (r1,r2,r3,r4):=H
                 have A38:=Aside0.mk A380
                 clear A380
                 by_cases c39:t148=true
                 ·subst c39
                  replace H:(racewayref25_number.l2 kj35 a0 x1_35 a1)=some (r1,r2,r3,r4):=by rw [if_pos rfl] at H;exact H
                  have H':=Aside0.mk H
                  clear H
                  go_wp2_with (first|((with_reducible refine gate_callee (f:=61) rfl ?_);refine goesL_ (some 67) rfl rfl Tryd.func61 au2 rfl #[.string a0,.int .i64 x1_35] rfl au10 ?_;(with_reducible refine(racewayref25_digit.calls a0 x1_35 true _ A38.out).mono ?_);rintro e w' ⟨rfl,⟨nd,rfl⟩⟩;refine ⟨_,rfl,?_⟩))
                  go_loopg [1] kj35 (fun kq v1 w'=>∃(x1_7:Int),v1=.int .i64 x1_7∧Aside0 (racewayref25_number.l2 kq a0 x1_7 a1=some (r1,r2,r3,r4))∧Aside0 (kq≤kj35)∧Aside0 (w'.heap[gb125]?=some (.cells #[.int .i64 x126000_16,.int .i64 x126001_16,(.slice none 0 0),.string x126003_16] 92 (0,0)))∧Aside0 (Below w.heap.size w w'))
                  case atStart=>exact ⟨(x1_35),au4,au9,⟨Nat.le_refl _⟩,⟨by(with_reducible repeat(first|refine blk_drewN ?_ _|refine blk_drew ?_|refine blk_alloc ?_ _));exact BK125.out⟩,⟨by repeat(first|(with_reducible first|exact HB.out|apply below_alloc|apply pw_below_drewN|apply below_drew1|refine below_set ?_ GE125.out)|exact HB.out)⟩⟩
                  case round =>
                   clear H'
                   obtain ⟨x1_7,rfl,HA,HK7,BK125,HB⟩:=hrel
                   cases gk with
                   | zero=>exact absurd HA.out (by simp [racewayref25_number.l2])
                   | succ k7 =>
                    have H:=HA.out
                    clear HA
                    simp only [racewayref25_number.l2] at H
                    replace H:=Option.bind_eq_some_iff.mp H
                    obtain ⟨t155,A400,H⟩:=H
                    replace H:(if t155=true then(racewayref25_number.l2 k7 a0 (wrap64 (x1_7+1)) a1) else(if 0≤a1 then(if a1≤x1_7 then(if x1_7≤(a0.size:Int) then(some (x1_7,0,([]:List (S24)),a0.extract (a1:Int).toNat (x1_7:Int).toNat)) else(none)) else(none)) else(none)))=some (r1,r2,r3,r4):=H
                    have A40:=Aside0.mk A400
                    clear A400
                    by_cases c41:t155=true
                    ·subst c41
                     replace H:(racewayref25_number.l2 k7 a0 (wrap64 (x1_7+1)) a1)=some (r1,r2,r3,r4):=by rw [if_pos rfl] at H;exact H
                     have H':=Aside0.mk H
                     clear H
                     go_wp2_with (first|((with_reducible refine gate_callee (f:=61) rfl ?_);refine goesL_ (some 73) rfl rfl Tryd.func61 au2 rfl #[.string a0,.int .i64 x1_7] rfl au10 ?_;(with_reducible refine(racewayref25_digit.calls a0 x1_7 true _ A40.out).mono ?_);rintro e w' ⟨rfl,⟨nd,rfl⟩⟩;refine ⟨_,rfl,?_⟩))
                     go_roundg k7
                     case measure=>have:=HJ3.out;have:=HJ11.out;have:=HJ16.out;have:=HJ26.out;have:=HJ31.out;have:=HJ35.out;have:=HK7.out;omega
                     case rel=>exact ⟨(wrap64 (x1_7+1)),au4,au9,⟨by have:=HJ3.out;have:=HJ11.out;have:=HJ16.out;have:=HJ26.out;have:=HJ31.out;have:=HJ35.out;have:=HK7.out;omega⟩,⟨by(with_reducible repeat(first|refine blk_drewN ?_ _|refine blk_drew ?_|refine blk_alloc ?_ _));exact BK125.out⟩,⟨by repeat(first|(with_reducible first|exact HB.out|apply below_alloc|apply pw_below_drewN|apply below_drew1|refine below_set ?_ GE125.out)|exact HB.out)⟩⟩
                    ·replace c41:=Bool.eq_false_iff.mpr c41
                     subst c41
                     replace H:(if 0≤a1 then(if a1≤x1_7 then(if x1_7≤(a0.size:Int) then(some (x1_7,0,([]:List (S24)),a0.extract (a1:Int).toNat (x1_7:Int).toNat)) else(none)) else(none)) else(none))=some (r1,r2,r3,r4):=by rw [if_neg (show ¬ (false=true) by decide)] at H;exact H
                     by_cases c42:0≤a1
                     ·rw [if_pos c42] at H
                      have c42b0:=eq_true c42
                      have c42b1:decide (0≤a1)=true:=decide_eq_true c42
                      clear c42
                      by_cases c43:a1≤x1_7
                      ·rw [if_pos c43] at H
                       have c43b0:=eq_true c43
                       have c43b1:decide (a1≤x1_7)=true:=decide_eq_true c43
                       clear c43
                       by_cases c44:x1_7≤(a0.size:Int)
                       ·rw [if_pos c44] at H
                        have c44b0:=eq_true c44
                        have c44b1:decide (x1_7≤(a0.size:Int))=true:=decide_eq_true c44
                        clear c44
                        simp only [Option.some.injEq,Prod.mk.injEq] at H
                        obtain ⟨rfl,rfl,rfl,rfl⟩:=H
                        go_wp2_with (first|((with_reducible refine gate_callee (f:=61) rfl ?_);refine goesL_ (some 73) rfl rfl Tryd.func61 au2 rfl #[.string a0,.int .i64 x1_7] rfl au10 ?_;(with_reducible refine(racewayref25_digit.calls a0 x1_7 false _ A40.out).mono ?_);rintro e w' ⟨rfl,⟨nd,rfl⟩⟩;refine ⟨_,rfl,?_⟩;(try(rw [drewN_self wr];generalize hq_:World.drewN wr _=wr;have n0_:Aside0 (wr.heap[gb125]?=some (.cells #[.int .i64 x126000_16,.int .i64 x126001_16,.slice none 0 0,.string x126003_16] 92 (0,0))):=⟨by rw [← hq_];exact(by(with_reducible repeat(first|refine blk_drewN ?_ _|refine blk_drew ?_|refine blk_alloc ?_ _));exact BK125.out)⟩;have n1_:Aside0 (Below w.heap.size w wr):=⟨by rw [← hq_];exact(by repeat(first|(with_reducible first|exact HB.out|apply below_alloc|apply pw_below_drewN|apply below_drew1|refine below_set ?_ GE125.out)|exact HB.out))⟩;clear BK125 HB hq_;have BK125:=n0_;have HB:=n1_;clear n0_ n1_));have hcz45_0:wr.cell? ⟨gb125,0,none⟩=some (.int .i64 x126000_16):=(blk_cell BK125.out 0).trans rfl;have hcz45_1:wr.cell? ⟨gb125,1,none⟩=some (.int .i64 x126001_16):=(blk_cell BK125.out 1).trans rfl;have hcz45_2:wr.cell? ⟨gb125,2,none⟩=some (.slice none 0 0):=(blk_cell BK125.out 2).trans rfl;have hcz45_3:wr.cell? ⟨gb125,3,none⟩=some (.string x126003_16):=(blk_cell BK125.out 3).trans rfl;have hfz45_0:=blk_frozen BK125.out 0;have hfz45_1:=blk_frozen BK125.out 1;have hfz45_2:=blk_frozen BK125.out 2;have hfz45_3:=blk_frozen BK125.out 3))
                        refine bodyPost_ret (results_cell_row rfl _ _ gb125 92 #[.int .i64 x1_7,.int .i64 0,.slice none 0 0,.string (a0.extract (a1:Int).toNat (x1_7:Int).toNat)] (0,0) _ rfl (by(with_reducible repeat(first|refine blk_drewN ?_ _|refine blk_drew ?_|refine blk_alloc ?_ _));refine blk_put (cs:=#[.int .i64 x1_7,.int .i64 0,.slice none 0 0,.string x126003_16]) ?_ 3 _ rfl;(with_reducible repeat(first|refine blk_drewN ?_ _|refine blk_drew ?_|refine blk_alloc ?_ _));refine blk_put (cs:=#[.int .i64 x1_7,.int .i64 0,.slice none 0 0,.string x126003_16]) ?_ 2 _ rfl;(with_reducible repeat(first|refine blk_drewN ?_ _|refine blk_drew ?_|refine blk_alloc ?_ _));refine blk_put (cs:=#[.int .i64 x1_7,.int .i64 x126001_16,.slice none 0 0,.string x126003_16]) ?_ 1 _ rfl;(with_reducible repeat(first|refine blk_drewN ?_ _|refine blk_drew ?_|refine blk_alloc ?_ _));refine blk_put (cs:=#[.int .i64 x126000_16,.int .i64 x126001_16,.slice none 0 0,.string x126003_16]) ?_ 0 _ rfl;(with_reducible repeat(first|refine blk_drewN ?_ _|refine blk_drew ?_|refine blk_alloc ?_ _));exact BK125.out) Tryd.underlying92 rfl au2) rfl ?_
                        exact ⟨_,au12,au20,by repeat(first|(with_reducible first|exact HB.out|apply below_alloc|apply pw_below_drewN|apply below_drew1|refine below_set ?_ GE125.out)|exact HB.out)⟩
                       ·rw [if_neg c44] at H
                        exact absurd H au5
                      ·rw [if_neg c43] at H
                       exact absurd H au5
                     ·rw [if_neg c42] at H
                      exact absurd H au5
                 ·replace c39:=Bool.eq_false_iff.mpr c39
                  subst c39
                  replace H:((racewayref25_fail.f x1_35).bind fun bt149=>(some (bt149.1,bt149.2.1,bt149.2.2.1,bt149.2.2.2)))=some (r1,r2,r3,r4):=by rw [if_neg (show ¬ (false=true) by decide)] at H;exact H
                  replace H:=Option.bind_eq_some_iff.mp H
                  obtain ⟨⟨t149,t150,t151,t154⟩,A460,H⟩:=H
                  replace H:(some (t149,t150,t151,t154))=some (r1,r2,r3,r4):=H
                  have A46:=Aside0.mk A460
                  clear A460
                  simp only [Option.some.injEq,Prod.mk.injEq] at H
                  obtain ⟨rfl,rfl,rfl,rfl⟩:=H
                  go_wp2_with (first|((with_reducible refine gate_callee (f:=61) rfl ?_);refine goesL_ (some 67) rfl rfl Tryd.func61 au2 rfl #[.string a0,.int .i64 x1_35] rfl au10 ?_;(with_reducible refine(racewayref25_digit.calls a0 x1_35 false _ A38.out).mono ?_);rintro e w' ⟨rfl,⟨nd,rfl⟩⟩;refine ⟨_,rfl,?_⟩;(try(rw [drewN_self wc];generalize hq_:World.drewN wc _=wc;have n0_:Aside0 (wc.heap[gb125]?=some (.cells #[.int .i64 x126000_16,.int .i64 x126001_16,.slice none 0 0,.string x126003_16] 92 (0,0))):=⟨by rw [← hq_];exact(by(with_reducible repeat(first|refine blk_drewN ?_ _|refine blk_drew ?_|refine blk_alloc ?_ _));exact BK125.out)⟩;have n1_:Aside0 (Below w.heap.size w wc):=⟨by rw [← hq_];exact(by repeat(first|(with_reducible first|exact HB.out|apply below_alloc|apply pw_below_drewN|apply below_drew1|refine below_set ?_ GE125.out)|exact HB.out))⟩;clear BK125 HB hq_;have BK125:=n0_;have HB:=n1_;clear n0_ n1_)))|((with_reducible refine gate_callee (f:=62) rfl ?_);refine goesL_ (some 70) rfl rfl Tryd.func62 au2 rfl #[.int .i64 x1_35] rfl au10 ?_;(with_reducible refine(racewayref25_fail.calls x1_35 t149 t150 t151 t154 _ A46.out).mono ?_);rintro e w47 ⟨v152,rfl,ho0,hb⟩;refine ⟨_,rfl,?_⟩;have n0_:=Aside0.mk (Kd.R_lower ho0 (below_size (by repeat(first|(with_reducible first|exact HB.out|apply below_alloc|apply pw_below_drewN|apply below_drew1|refine below_set ?_ GE125.out)|exact HB.out))));have n1_:=Aside0.mk (blk_below (g:=gb125) (o:=.cells #[.int .i64 x126000_16,.int .i64 x126001_16,.slice none 0 0,.string x126003_16] 92 (0,0)) (by(with_reducible repeat(first|refine blk_drewN ?_ _|refine blk_drew ?_|refine blk_alloc ?_ _));exact BK125.out) hb);have n2_:=Aside0.mk (below_step (by repeat(first|(with_reducible first|exact HB.out|apply below_alloc|apply pw_below_drewN|apply below_drew1|refine below_set ?_ GE125.out)|exact HB.out)) hb);clear BK125;clear HB;have HO153:=n0_;have BK125:=n1_;have HB:=n2_;clear n0_ n1_ n2_;(try clear hb);(try clear hb2);(try clear hk);(try clear hi);(try clear ho0);have hcz48_0:w47.cell? ⟨gb125,0,none⟩=some (.int .i64 x126000_16):=(blk_cell BK125.out 0).trans rfl;have hcz48_1:w47.cell? ⟨gb125,1,none⟩=some (.int .i64 x126001_16):=(blk_cell BK125.out 1).trans rfl;have hcz48_2:w47.cell? ⟨gb125,2,none⟩=some (.slice none 0 0):=(blk_cell BK125.out 2).trans rfl;have hcz48_3:w47.cell? ⟨gb125,3,none⟩=some (.string x126003_16):=(blk_cell BK125.out 3).trans rfl;have hfz48_0:=blk_frozen BK125.out 0;have hfz48_1:=blk_frozen BK125.out 1;have hfz48_2:=blk_frozen BK125.out 2;have hfz48_3:=blk_frozen BK125.out 3;obtain ⟨Ao49,co49,eo49⟩:=Kd.R_slice HO153.out;subst eo49))
                  refine bodyPost_ret (results_cell_row rfl _ _ gb125 92 #[.int .i64 t149,.int .i64 t150,.slice Ao49 t151.length co49,.string t154] (0,0) _ rfl (by(with_reducible repeat(first|refine blk_drewN ?_ _|refine blk_drew ?_|refine blk_alloc ?_ _));refine blk_put (cs:=#[.int .i64 t149,.int .i64 t150,.slice Ao49 t151.length co49,.string x126003_16]) ?_ 3 _ rfl;(with_reducible repeat(first|refine blk_drewN ?_ _|refine blk_drew ?_|refine blk_alloc ?_ _));refine blk_put (cs:=#[.int .i64 t149,.int .i64 t150,.slice none 0 0,.string x126003_16]) ?_ 2 _ rfl;(with_reducible repeat(first|refine blk_drewN ?_ _|refine blk_drew ?_|refine blk_alloc ?_ _));refine blk_put (cs:=#[.int .i64 t149,.int .i64 x126001_16,.slice none 0 0,.string x126003_16]) ?_ 1 _ rfl;(with_reducible repeat(first|refine blk_drewN ?_ _|refine blk_drew ?_|refine blk_alloc ?_ _));refine blk_put (cs:=#[.int .i64 x126000_16,.int .i64 x126001_16,.slice none 0 0,.string x126003_16]) ?_ 0 _ rfl;(with_reducible repeat(first|refine blk_drewN ?_ _|refine blk_drew ?_|refine blk_alloc ?_ _));exact BK125.out) Tryd.underlying92 rfl au2) rfl ?_
                  exact ⟨_,au12,by(with_reducible repeat(first|apply Kd.R_alloc|apply Kd.R_drewN|apply Kd.R_drew));exact Kd.R_mono (Kd.R_far (p:=⟨gb125,3,none⟩) (Kd.R_far (p:=⟨gb125,2,none⟩) (Kd.R_far (p:=⟨gb125,1,none⟩) (Kd.R_far (p:=⟨gb125,0,none⟩) (Kd.R_types HO153.out BK125.out au1) (fun _ hk=>hk.2) (.int .i64 t149)) (fun _ hk=>hk.2) (.int .i64 t150)) (fun _ hk=>hk.2) (.slice Ao49 t151.length co49)) (fun _ hk=>hk.2) (.string t154)) (fun _ hk=>trivial),by repeat(first|(with_reducible first|exact HB.out|apply below_alloc|apply pw_below_drewN|apply below_drew1|refine below_set ?_ GE125.out)|exact HB.out)⟩
            ·replace c31:=Bool.eq_false_iff.mpr c31
             subst c31
             replace H:(if 0≤a1 then(if a1≤x1_16 then(if x1_16≤(a0.size:Int) then(some (x1_16,0,([]:List (S24)),a0.extract (a1:Int).toNat (x1_16:Int).toNat)) else(none)) else(none)) else(none))=some (r1,r2,r3,r4):=by rw [if_neg (show ¬ (false=true) by decide)] at H;exact H
             by_cases c50:0≤a1
             ·rw [if_pos c50] at H
              have c50b0:=eq_true c50
              have c50b1:decide (0≤a1)=true:=decide_eq_true c50
              clear c50
              by_cases c51:a1≤x1_16
              ·rw [if_pos c51] at H
               have c51b0:=eq_true c51
               have c51b1:decide (a1≤x1_16)=true:=decide_eq_true c51
               clear c51
               by_cases c52:x1_16≤(a0.size:Int)
               ·rw [if_pos c52] at H
                have c52b0:=eq_true c52
                have c52b1:decide (x1_16≤(a0.size:Int))=true:=decide_eq_true c52
                clear c52
                simp only [Option.some.injEq,Prod.mk.injEq] at H
                obtain ⟨rfl,rfl,rfl,rfl⟩:=H
                have hcz53_0:wc.cell? ⟨gb125,0,none⟩=some (.int .i64 x126000_16):=(blk_cell BK125.out 0).trans rfl
                have hcz53_1:wc.cell? ⟨gb125,1,none⟩=some (.int .i64 x126001_16):=(blk_cell BK125.out 1).trans rfl
                have hcz53_2:wc.cell? ⟨gb125,2,none⟩=some (.slice none 0 0):=(blk_cell BK125.out 2).trans rfl
                have hcz53_3:wc.cell? ⟨gb125,3,none⟩=some (.string x126003_16):=(blk_cell BK125.out 3).trans rfl
                have hfz53_0:=blk_frozen BK125.out 0
                have hfz53_1:=blk_frozen BK125.out 1
                have hfz53_2:=blk_frozen BK125.out 2
                have hfz53_3:=blk_frozen BK125.out 3
                go_wp2
                refine bodyPost_ret (results_cell_row rfl _ _ gb125 92 #[.int .i64 x1_16,.int .i64 0,.slice none 0 0,.string (a0.extract (a1:Int).toNat (x1_16:Int).toNat)] (0,0) _ rfl (by(with_reducible repeat(first|refine blk_drewN ?_ _|refine blk_drew ?_|refine blk_alloc ?_ _));refine blk_put (cs:=#[.int .i64 x1_16,.int .i64 0,.slice none 0 0,.string x126003_16]) ?_ 3 _ rfl;(with_reducible repeat(first|refine blk_drewN ?_ _|refine blk_drew ?_|refine blk_alloc ?_ _));refine blk_put (cs:=#[.int .i64 x1_16,.int .i64 0,.slice none 0 0,.string x126003_16]) ?_ 2 _ rfl;(with_reducible repeat(first|refine blk_drewN ?_ _|refine blk_drew ?_|refine blk_alloc ?_ _));refine blk_put (cs:=#[.int .i64 x1_16,.int .i64 x126001_16,.slice none 0 0,.string x126003_16]) ?_ 1 _ rfl;(with_reducible repeat(first|refine blk_drewN ?_ _|refine blk_drew ?_|refine blk_alloc ?_ _));refine blk_put (cs:=#[.int .i64 x126000_16,.int .i64 x126001_16,.slice none 0 0,.string x126003_16]) ?_ 0 _ rfl;(with_reducible repeat(first|refine blk_drewN ?_ _|refine blk_drew ?_|refine blk_alloc ?_ _));exact BK125.out) Tryd.underlying92 rfl au2) rfl ?_
                exact ⟨_,au12,au20,by repeat(first|(with_reducible first|exact HB.out|apply below_alloc|apply pw_below_drewN|apply below_drew1|refine below_set ?_ GE125.out)|exact HB.out)⟩
               ·rw [if_neg c52] at H
                exact absurd H au5
              ·rw [if_neg c51] at H
               exact absurd H au5
             ·rw [if_neg c50] at H
              exact absurd H au5
     ·rw [if_neg c10] at H
      exact absurd H au5
    ·rw [if_neg c9] at H
     exact absurd H au5
   ·replace c8:=Bool.eq_false_iff.mpr c8
    subst c8
    replace H:((racewayref25_fail.f x1_3).bind fun bt128=>(some (bt128.1,bt128.2.1,bt128.2.2.1,bt128.2.2.2)))=some (r1,r2,r3,r4):=by rw [if_neg (show ¬ (false=true) by decide)] at H;exact H
    replace H:=Option.bind_eq_some_iff.mp H
    obtain ⟨⟨t128,t129,t130,t133⟩,A540,H⟩:=H
    replace H:(some (t128,t129,t130,t133))=some (r1,r2,r3,r4):=H
    have A54:=Aside0.mk A540
    clear A540
    simp only [Option.some.injEq,Prod.mk.injEq] at H
    obtain ⟨rfl,rfl,rfl,rfl⟩:=H
    go_wp2_with (first|((with_reducible refine gate_callee (f:=61) rfl ?_);refine goesL_ (some 14) rfl rfl Tryd.func61 au2 rfl #[.string a0,.int .i64 x1_3] rfl au10 ?_;(with_reducible refine(racewayref25_digit.calls a0 x1_3 false _ A7.out).mono ?_);rintro e w' ⟨rfl,⟨nd,rfl⟩⟩;refine ⟨_,rfl,?_⟩;(try(rw [drewN_self wc];generalize hq_:World.drewN wc _=wc;have n0_:Aside0 (wc.heap[gb125]?=some (.cells #[.int .i64 0,.int .i64 0,.slice none 0 0,.string (⟨#[]⟩:ByteArray)] 92 (0,0))):=⟨by rw [← hq_];exact(by(with_reducible repeat(first|refine blk_drewN ?_ _|refine blk_drew ?_|refine blk_alloc ?_ _));exact BK125.out)⟩;have n1_:Aside0 (Below w.heap.size w wc):=⟨by rw [← hq_];exact(by repeat(first|(with_reducible first|exact HB.out|apply below_alloc|apply pw_below_drewN|apply below_drew1|refine below_set ?_ GE125.out)|exact HB.out))⟩;clear BK125 HB hq_;have BK125:=n0_;have HB:=n1_;clear n0_ n1_)))|((with_reducible refine gate_callee (f:=62) rfl ?_);refine goesL_ (some 17) rfl rfl Tryd.func62 au2 rfl #[.int .i64 x1_3] rfl au10 ?_;(with_reducible refine(racewayref25_fail.calls x1_3 t128 t129 t130 t133 _ A54.out).mono ?_);rintro e w55 ⟨v131,rfl,ho0,hb⟩;refine ⟨_,rfl,?_⟩;have n0_:=Aside0.mk (Kd.R_lower ho0 (below_size (by repeat(first|(with_reducible first|exact HB.out|apply below_alloc|apply pw_below_drewN|apply below_drew1|refine below_set ?_ GE125.out)|exact HB.out))));have n1_:=Aside0.mk (blk_below (g:=gb125) (o:=.cells #[.int .i64 0,.int .i64 0,.slice none 0 0,.string (⟨#[]⟩:ByteArray)] 92 (0,0)) (by(with_reducible repeat(first|refine blk_drewN ?_ _|refine blk_drew ?_|refine blk_alloc ?_ _));exact BK125.out) hb);have n2_:=Aside0.mk (below_step (by repeat(first|(with_reducible first|exact HB.out|apply below_alloc|apply pw_below_drewN|apply below_drew1|refine below_set ?_ GE125.out)|exact HB.out)) hb);clear BK125;clear HB;have HO132:=n0_;have BK125:=n1_;have HB:=n2_;clear n0_ n1_ n2_;(try clear hb);(try clear hb2);(try clear hk);(try clear hi);(try clear ho0);have hcz56_0:w55.cell? ⟨gb125,0,none⟩=some (.int .i64 0):=(blk_cell BK125.out 0).trans rfl;have hcz56_1:w55.cell? ⟨gb125,1,none⟩=some (.int .i64 0):=(blk_cell BK125.out 1).trans rfl;have hcz56_2:w55.cell? ⟨gb125,2,none⟩=some (.slice none 0 0):=(blk_cell BK125.out 2).trans rfl;have hcz56_3:w55.cell? ⟨gb125,3,none⟩=some (.string (⟨#[]⟩:ByteArray)):=(blk_cell BK125.out 3).trans rfl;have hfz56_0:=blk_frozen BK125.out 0;have hfz56_1:=blk_frozen BK125.out 1;have hfz56_2:=blk_frozen BK125.out 2;have hfz56_3:=blk_frozen BK125.out 3;obtain ⟨Ao57,co57,eo57⟩:=Kd.R_slice HO132.out;subst eo57))
    refine bodyPost_ret (results_cell_row rfl _ _ gb125 92 #[.int .i64 t128,.int .i64 t129,.slice Ao57 t130.length co57,.string t133] (0,0) _ rfl (by(with_reducible repeat(first|refine blk_drewN ?_ _|refine blk_drew ?_|refine blk_alloc ?_ _));refine blk_put (cs:=#[.int .i64 t128,.int .i64 t129,.slice Ao57 t130.length co57,.string (⟨#[]⟩:ByteArray)]) ?_ 3 _ rfl;(with_reducible repeat(first|refine blk_drewN ?_ _|refine blk_drew ?_|refine blk_alloc ?_ _));refine blk_put (cs:=#[.int .i64 t128,.int .i64 t129,.slice none 0 0,.string (⟨#[]⟩:ByteArray)]) ?_ 2 _ rfl;(with_reducible repeat(first|refine blk_drewN ?_ _|refine blk_drew ?_|refine blk_alloc ?_ _));refine blk_put (cs:=#[.int .i64 t128,.int .i64 0,.slice none 0 0,.string (⟨#[]⟩:ByteArray)]) ?_ 1 _ rfl;(with_reducible repeat(first|refine blk_drewN ?_ _|refine blk_drew ?_|refine blk_alloc ?_ _));refine blk_put (cs:=#[.int .i64 0,.int .i64 0,.slice none 0 0,.string (⟨#[]⟩:ByteArray)]) ?_ 0 _ rfl;(with_reducible repeat(first|refine blk_drewN ?_ _|refine blk_drew ?_|refine blk_alloc ?_ _));exact BK125.out) Tryd.underlying92 rfl au2) rfl ?_
    exact ⟨_,au12,by(with_reducible repeat(first|apply Kd.R_alloc|apply Kd.R_drewN|apply Kd.R_drew));exact Kd.R_mono (Kd.R_far (p:=⟨gb125,3,none⟩) (Kd.R_far (p:=⟨gb125,2,none⟩) (Kd.R_far (p:=⟨gb125,1,none⟩) (Kd.R_far (p:=⟨gb125,0,none⟩) (Kd.R_types HO132.out BK125.out au1) (fun _ hk=>hk.2) (.int .i64 t128)) (fun _ hk=>hk.2) (.int .i64 t129)) (fun _ hk=>hk.2) (.slice Ao57 t130.length co57)) (fun _ hk=>hk.2) (.string t133)) (fun _ hk=>trivial),by repeat(first|(with_reducible first|exact HB.out|apply below_alloc|apply pw_below_drewN|apply below_drew1|refine below_set ?_ GE125.out)|exact HB.out)⟩
end Go.Proofs.YtjehflambbjoaaaDoor.X
