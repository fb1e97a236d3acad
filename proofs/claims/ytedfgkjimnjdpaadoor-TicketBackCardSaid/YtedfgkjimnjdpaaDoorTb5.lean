/-
  What the claim's law rests on, part 5 of 6: printed walks, externals, plain lemmas; conditions: none of its own.
-/
import Derived.Test.YtedfgkjimnjdpaaDoorTb4
namespace Go.Proofs.YtedfgkjimnjdpaaDoor.X
open Go.RowKit Go.Proofs.YtedfgkjimnjdpaaDoorW.PrintWords Go.Proofs.YtedfgkjimnjdpaaDoorW.PrintLast Go.Proofs.YtedfgkjimnjdpaaDoorW.PrintMore
attribute [local go_sem] max2_int min2_int max_two min_two max_three min_three max_four min_four
set_option linter.unusedVariables false
set_option linter.unusedSimpArgs false
attribute [local go_sem high] eqA39
def racewaylaw27_TicketBack.j0 : Nat → Int → Int → ByteArray → Bool → Int → ByteArray → Int → Int → Option (Bool)
 | 0,_,_,_,_,_,_,_,_ => none
 | k + 1,x1,x2,x7,x48,x205000,x205001,x205002,x205003 => if x48 = true then (some false) else (if (x7.size : Int) = 0 then (none) else (if 0 ≤ (Int.tmod (wrap64 ((Int.tmod x1 (x7.size : Int)) + (x7.size : Int))) (x7.size : Int)) then (if (Int.tmod (wrap64 ((Int.tmod x1 (x7.size : Int)) + (x7.size : Int))) (x7.size : Int)) ≤ (x7.size : Int) then ((some (([x2] : List Int) : List Int)).bind fun y218 => (if (x7.extract 0 ((Int.tmod (wrap64 ((Int.tmod x1 (x7.size : Int)) + (x7.size : Int))) (x7.size : Int)) : Int).toNat).size + (strOfNums y218).size ≤ 9223372036854775807 then (if 0 ≤ (wrap64 ((Int.tmod (wrap64 ((Int.tmod x1 (x7.size : Int)) + (x7.size : Int))) (x7.size : Int)) + 1)) then (if (wrap64 ((Int.tmod (wrap64 ((Int.tmod x1 (x7.size : Int)) + (x7.size : Int))) (x7.size : Int)) + 1)) ≤ (x7.size : Int) then (if (x7.extract 0 ((Int.tmod (wrap64 ((Int.tmod x1 (x7.size : Int)) + (x7.size : Int))) (x7.size : Int)) : Int).toNat).size + (strOfNums y218).size + (x7.extract ((wrap64 ((Int.tmod (wrap64 ((Int.tmod x1 (x7.size : Int)) + (x7.size : Int))) (x7.size : Int)) + 1)) : Int).toNat x7.size).size ≤ 9223372036854775807 then ((ticket_Open.f (((x7.extract 0 ((Int.tmod (wrap64 ((Int.tmod x1 (x7.size : Int)) + (x7.size : Int))) (x7.size : Int)) : Int).toNat) ++ (strOfNums y218)) ++ (x7.extract ((wrap64 ((Int.tmod (wrap64 ((Int.tmod x1 (x7.size : Int)) + (x7.size : Int))) (x7.size : Int)) + 1)) : Int).toNat x7.size))).bind fun bt221 => ((ticket_Open.f (x7.extract 0 ((Int.tmod (wrap64 ((Int.tmod x1 (x7.size : Int)) + (x7.size : Int))) (x7.size : Int)) : Int).toNat)).bind fun bt227 => (if x7.size + 4 ≤ 9223372036854775807 then ((ticket_Open.f (x7 ++ (⟨#[65,65,65,65]⟩ : ByteArray))).bind fun bt233 => (if (Int.tmod (wrap64 ((Int.tmod x1 (x7.size : Int)) + (x7.size : Int))) (x7.size : Int)) < (x7.size : Int) then (if x2 = (bt x7 (Int.tmod (wrap64 ((Int.tmod x1 (x7.size : Int)) + (x7.size : Int))) (x7.size : Int))) then (if bt227.2.2.2.2 = 12 then (if bt233.2.2.2.2 = 12 then (if (bt227.1 == 0 && (bt227.2.1.toList == ([] : List UInt8) && (bt227.2.2.1 == 0 && (bt227.2.2.2.1 == 0)))) = true then (if (bt233.1 == 0 && (bt233.2.1.toList == ([] : List UInt8) && (bt233.2.2.1 == 0 && (bt233.2.2.2.1 == 0)))) = true then ((racewaylaw27_works.f k).bind fun t239 => (some t239)) else (some false)) else (some false)) else (some false)) else (some false)) else (if bt221.2.2.2.2 = 0 then (if (bt221.1 == x205000 && (bt221.2.1.toList == x205001.toList && (bt221.2.2.1 == x205002 && (bt221.2.2.2.1 == x205003)))) = true then (some false) else (if bt227.2.2.2.2 = 12 then (if bt233.2.2.2.2 = 12 then (if (bt227.1 == 0 && (bt227.2.1.toList == ([] : List UInt8) && (bt227.2.2.1 == 0 && (bt227.2.2.2.1 == 0)))) = true then (if (bt233.1 == 0 && (bt233.2.1.toList == ([] : List UInt8) && (bt233.2.2.1 == 0 && (bt233.2.2.2.1 == 0)))) = true then ((racewaylaw27_works.f k).bind fun t240 => (some t240)) else (some false)) else (some false)) else (some false)) else (some false))) else (if bt227.2.2.2.2 = 12 then (if bt233.2.2.2.2 = 12 then (if (bt227.1 == 0 && (bt227.2.1.toList == ([] : List UInt8) && (bt227.2.2.1 == 0 && (bt227.2.2.2.1 == 0)))) = true then (if (bt233.1 == 0 && (bt233.2.1.toList == ([] : List UInt8) && (bt233.2.2.1 == 0 && (bt233.2.2.2.1 == 0)))) = true then ((racewaylaw27_works.f k).bind fun t241 => (some t241)) else (some false)) else (some false)) else (some false)) else (some false)))) else (none))) else (none)))) else (none)) else (none)) else (none)) else (none))) else (none)) else (none)))
def racewaylaw27_TicketBack.f (k : Nat) (a0_0 : Int) (a0_1 : ByteArray) (a0_2 : Int) (a0_3 : Int) (a1 : Int) (a2 : Int) : Option (Bool):=(racewaylaw27_few.f a0_0 a0_1 a0_2 a0_3).bind fun bt205 => ((ticket_Handle.f k bt205.1 bt205.2.1 bt205.2.2.1 bt205.2.2.2).bind fun bt209 => (if bt209.2 = 0 then ((ticket_Open.f bt209.1).bind fun bt212 => (if (!(bt212.1 == bt205.1) || (!(bt212.2.1.toList == bt205.2.1.toList) || (!(bt212.2.2.1 == bt205.2.2.1) || (!(bt212.2.2.2.1 == bt205.2.2.2))))) = true then (racewaylaw27_TicketBack.j0 k a1 a2 bt209.1 true bt205.1 bt205.2.1 bt205.2.2.1 bt205.2.2.2) else (if bt212.2.2.2.2 = 0 then (racewaylaw27_TicketBack.j0 k a1 a2 bt209.1 ((bt209.1.size : Int) == 0) bt205.1 bt205.2.1 bt205.2.2.1 bt205.2.2.2) else (racewaylaw27_TicketBack.j0 k a1 a2 bt209.1 true bt205.1 bt205.2.1 bt205.2.2.1 bt205.2.2.2)))) else (if bt209.1.toList = ([] : List UInt8) then ((racewaylaw27_works.f k).bind fun t211 => (some t211)) else (some false))))
def racewaylaw27_TicketBack.T9 : Bool × List (List Nat × List Nat):=(true,[([],[]),([],[]),([0,1],[0,1]),([],[]),([3],[3]),([4],[4]),([2,5],[2,5]),([],[]),([],[]),([8],[8]),([7,9],[7,9]),([6,10],[6,10]),([11],[11]),([12],[12]),([13],[13]),([13],[13]),([],[]),([16,14,12,0,1,2,3,4,5,6,7,8,9,10,11,12,13,14,16],[14,16]),([15,17,0,1,2,3,4,5,6,7,8,9,10,11,12,13,14,15,16,17],[15])])
def racewaylaw27_TicketBack.B9 : List Nat:=[0,0,3,0,8,24,63,0,0,256,896,2047,4095,8191,16383,16383,0,98303,262143]
theorem racewaylaw27_TicketBack.tab9 : rtab .any (opsOf Tryd.f7 9) = racewaylaw27_TicketBack.T9:=by kernel_rfl
theorem racewaylaw27_TicketBack.bits9 : waitsOk racewaylaw27_TicketBack.T9.2 racewaylaw27_TicketBack.B9 = true:=by kernel_rfl
set_option maxHeartbeats 40000000 in
set_option maxRecDepth 100000 in
theorem racewaylaw27_TicketBack.calls (k : Nat) (a0_0 : Int) (a0_1 : ByteArray) (a0_2 : Int) (a0_3 : Int) (a1 : Int) (a2 : Int) (r : Bool) (hr : r = true) (w : World) (hGCr : GlobCr w) (h : racewaylaw27_TicketBack.f k a0_0 a0_1 a0_2 a0_3 a1 a2 = some r) :
  Calls Tryd.prog 7 #[.agg #[.int .i64 a0_0,.string a0_1,.int .i64 a0_2,.int .i64 a0_3],.int .i64 a1,.int .u8 a2] w fun e w' => e = .returned (.bool r) ∧ Below w.heap.size w w':=by
 have hu39:=Tryd.underlying39
 have HGCr:=Aside0.mk hGCr
 clear hGCr
 have HRT:=Aside0.mk hr
 clear hr
 have HB:=Aside0.mk (Below.refl w.heap.size w)
 have H : ((racewaylaw27_few.f a0_0 a0_1 a0_2 a0_3).bind fun bt205 => ((ticket_Handle.f k bt205.1 bt205.2.1 bt205.2.2.1 bt205.2.2.2).bind fun bt209 => (if bt209.2 = 0 then ((ticket_Open.f bt209.1).bind fun bt212 => (if (!(bt212.1 == bt205.1) || (!(bt212.2.1.toList == bt205.2.1.toList) || (!(bt212.2.2.1 == bt205.2.2.1) || (!(bt212.2.2.2.1 == bt205.2.2.2))))) = true then (racewaylaw27_TicketBack.j0 k a1 a2 bt209.1 true bt205.1 bt205.2.1 bt205.2.2.1 bt205.2.2.2) else (if bt212.2.2.2.2 = 0 then (racewaylaw27_TicketBack.j0 k a1 a2 bt209.1 ((bt209.1.size : Int) == 0) bt205.1 bt205.2.1 bt205.2.2.1 bt205.2.2.2) else (racewaylaw27_TicketBack.j0 k a1 a2 bt209.1 true bt205.1 bt205.2.1 bt205.2.2.1 bt205.2.2.2)))) else (if bt209.1.toList = ([] : List UInt8) then ((racewaylaw27_works.f k).bind fun t211 => (some t211)) else (some false))))) = some r:=h
 clear h
 replace H:=Option.bind_eq_some_iff.mp H
 obtain ⟨⟨t205,t206,t207,t208⟩,A40,H⟩:=H
 replace H : ((ticket_Handle.f k t205 t206 t207 t208).bind fun bt209 => (if bt209.2 = 0 then ((ticket_Open.f bt209.1).bind fun bt212 => (if (!(bt212.1 == t205) || (!(bt212.2.1.toList == t206.toList) || (!(bt212.2.2.1 == t207) || (!(bt212.2.2.2.1 == t208))))) = true then (racewaylaw27_TicketBack.j0 k a1 a2 bt209.1 true t205 t206 t207 t208) else (if bt212.2.2.2.2 = 0 then (racewaylaw27_TicketBack.j0 k a1 a2 bt209.1 ((bt209.1.size : Int) == 0) t205 t206 t207 t208) else (racewaylaw27_TicketBack.j0 k a1 a2 bt209.1 true t205 t206 t207 t208)))) else (if bt209.1.toList = ([] : List UInt8) then ((racewaylaw27_works.f k).bind fun t211 => (some t211)) else (some false)))) = some r:=H
 have A4:=Aside0.mk A40
 clear A40
 replace H:=Option.bind_eq_some_iff.mp H
 obtain ⟨⟨t209,t210⟩,A50,H⟩:=H
 replace H : (if t210 = 0 then ((ticket_Open.f t209).bind fun bt212 => (if (!(bt212.1 == t205) || (!(bt212.2.1.toList == t206.toList) || (!(bt212.2.2.1 == t207) || (!(bt212.2.2.2.1 == t208))))) = true then (racewaylaw27_TicketBack.j0 k a1 a2 t209 true t205 t206 t207 t208) else (if bt212.2.2.2.2 = 0 then (racewaylaw27_TicketBack.j0 k a1 a2 t209 ((t209.size : Int) == 0) t205 t206 t207 t208) else (racewaylaw27_TicketBack.j0 k a1 a2 t209 true t205 t206 t207 t208)))) else (if t209.toList = ([] : List UInt8) then ((racewaylaw27_works.f k).bind fun t211 => (some t211)) else (some false))) = some r:=H
 have A5:=Aside0.mk A50
 clear A50
 by_cases c6 : t210 = 0
 ·rw [if_pos c6] at H
  have c6b0 : (t210 == 0) = true:=beq_iff_eq.mpr c6
  have c6b1 : (t210 != 0) = false:=bne_eq_false_iff_eq.mpr c6
  clear c6
  replace H:=Option.bind_eq_some_iff.mp H
  obtain ⟨⟨t212,t213,t214,t215,t216⟩,A70,H⟩:=H
  replace H : (if (!(t212 == t205) || (!(t213.toList == t206.toList) || (!(t214 == t207) || (!(t215 == t208))))) = true then (racewaylaw27_TicketBack.j0 k a1 a2 t209 true t205 t206 t207 t208) else (if t216 = 0 then (racewaylaw27_TicketBack.j0 k a1 a2 t209 ((t209.size : Int) == 0) t205 t206 t207 t208) else (racewaylaw27_TicketBack.j0 k a1 a2 t209 true t205 t206 t207 t208))) = some r:=H
  have A7:=Aside0.mk A70
  clear A70
  have HC8:=Aside0.mk H
  clear H
  go_enter Tryd.func7,Tryd.ntmps7
  go_upto_region 6 with (first|((with_reducible refine gate_dst (N:=3) rfl ?_);(try (refine gate_guard (by rfl) ?_;dsimp only));refine box_event ?hg (N:=3) ?hd (cs:=#[.int .i64 a0_0,.string a0_1,.int .i64 a0_2,.int .i64 a0_3]) (t:=39) ?hr ?_;(case hd => rfl);(case hg => rfl);(case hr => first|(go_simp;done)|(go_simp;rfl));intro gb204 hg w9 hbox hb;have n0_:=Aside0.mk (below_step (by repeat (first|(with_reducible first|exact HB.out|apply below_alloc|apply pw_below_drewN|apply below_drew1)|exact HB.out)) hb);have n1_:=Aside0.mk (hbox);have n2_:=Aside0.mk ((by rw [hg];exact (below_size (by repeat (first|(with_reducible first|exact HB.out|apply below_alloc|apply pw_below_drewN|apply below_drew1)|exact HB.out))) : w.heap.size ≤ gb204));have n3_:=Aside0.mk ((by rw [hg];exact (below_size (by repeat (first|(with_reducible first|exact HB.out|apply below_alloc|apply pw_below_drewN|apply below_drew1)|exact HB.out))) : w.heap.size ≤ gb204));clear HB;have HB:=n0_;have BK204:=n1_;have GW204:=n2_;have GE204:=n3_;clear n0_ n1_ n2_ n3_;clear hb hbox hg;have hcz10_0 : w9.cell? ⟨gb204,0,none⟩ = some (.int .i64 a0_0):=(blk_cell BK204.out 0).trans rfl;have hcz10_1 : w9.cell? ⟨gb204,1,none⟩ = some (.string a0_1):=(blk_cell BK204.out 1).trans rfl;have hcz10_2 : w9.cell? ⟨gb204,2,none⟩ = some (.int .i64 a0_2):=(blk_cell BK204.out 2).trans rfl;have hcz10_3 : w9.cell? ⟨gb204,3,none⟩ = some (.int .i64 a0_3):=(blk_cell BK204.out 3).trans rfl;have hfz10_0:=blk_frozen BK204.out 0;have hfz10_1:=blk_frozen BK204.out 1;have hfz10_2:=blk_frozen BK204.out 2;have hfz10_3:=blk_frozen BK204.out 3)|((with_reducible refine gate_callee (f:=19) rfl ?_);refine goesL_ (some 19) rfl rfl Tryd.func19 (by kernel_rfl) rfl #[.agg #[.int .i64 a0_0,.string a0_1,.int .i64 a0_2,.int .i64 a0_3]] rfl (by (try simp only [List.map_toArray,List.map_cons,List.map_nil]);first|done|rfl|(simp only [List.length_drop,List.length_take];rfl)) ?_;(with_reducible refine (racewaylaw27_few.calls a0_0 a0_1 a0_2 a0_3 t205 t206 t207 t208 _ A4.out).mono ?_);rintro e w11 ⟨rfl,hb⟩;refine ⟨_,rfl,?_⟩;have n0_:=Aside0.mk (blk_below (g:=gb204) (o:=.cells #[.int .i64 a0_0,.string a0_1,.int .i64 a0_2,.int .i64 a0_3] 39 (0,0)) (by (with_reducible repeat (first|refine blk_drewN ?_ _|refine blk_drew ?_|refine blk_alloc ?_ _));exact BK204.out) hb);have n1_:=Aside0.mk (below_step (by repeat (first|(with_reducible first|exact HB.out|apply below_alloc|apply pw_below_drewN|apply below_drew1|refine below_set ?_ GE204.out)|exact HB.out)) hb);clear BK204;clear HB;have BK204:=n0_;have HB:=n1_;clear n0_ n1_;(try clear hb);(try clear hb2);(try clear hk);(try clear hi);have hcz12_0 : w11.cell? ⟨gb204,0,none⟩ = some (.int .i64 a0_0):=(blk_cell BK204.out 0).trans rfl;have hcz12_1 : w11.cell? ⟨gb204,1,none⟩ = some (.string a0_1):=(blk_cell BK204.out 1).trans rfl;have hcz12_2 : w11.cell? ⟨gb204,2,none⟩ = some (.int .i64 a0_2):=(blk_cell BK204.out 2).trans rfl;have hcz12_3 : w11.cell? ⟨gb204,3,none⟩ = some (.int .i64 a0_3):=(blk_cell BK204.out 3).trans rfl;have hfz12_0:=blk_frozen BK204.out 0;have hfz12_1:=blk_frozen BK204.out 1;have hfz12_2:=blk_frozen BK204.out 2;have hfz12_3:=blk_frozen BK204.out 3)|((with_reducible refine gate_callee (f:=20) rfl ?_);refine goesL_ (some 22) rfl rfl Tryd.func20 (by kernel_rfl) rfl #[.agg #[.int .i64 t205,.string t206,.int .i64 t207,.int .i64 t208]] rfl (by (try simp only [List.map_toArray,List.map_cons,List.map_nil]);first|done|rfl|(simp only [List.length_drop,List.length_take];rfl)) ?_;(with_reducible refine (ticket_Handle.calls k t205 t206 t207 t208 t209 t210 _ ?side1 A5.out).mono ?_);(case side1 => first|exact HGCr.out|exact GlobCr.below HGCr.out (by repeat (first|(with_reducible first|exact HB.out|apply below_alloc|apply pw_below_drewN|apply below_drew1|refine below_set ?_ GE204.out)|exact HB.out))|exact GlobCr.drawn HGCr.out (by repeat (first|exact Drawn0.refl _|apply Drawn0.step)));rintro e w13 ⟨rfl,hb⟩;refine ⟨_,rfl,?_⟩;have n0_:=Aside0.mk (blk_below (g:=gb204) (o:=.cells #[.int .i64 t205,.string t206,.int .i64 t207,.int .i64 t208] 39 (0,0)) (by (with_reducible repeat (first|refine blk_drewN ?_ _|refine blk_drew ?_|refine blk_alloc ?_ _));refine blk_put (cs:=#[.int .i64 t205,.string t206,.int .i64 t207,.int .i64 a0_3]) ?_ 3 _ rfl;(with_reducible repeat (first|refine blk_drewN ?_ _|refine blk_drew ?_|refine blk_alloc ?_ _));refine blk_put (cs:=#[.int .i64 t205,.string t206,.int .i64 a0_2,.int .i64 a0_3]) ?_ 2 _ rfl;(with_reducible repeat (first|refine blk_drewN ?_ _|refine blk_drew ?_|refine blk_alloc ?_ _));refine blk_put (cs:=#[.int .i64 t205,.string a0_1,.int .i64 a0_2,.int .i64 a0_3]) ?_ 1 _ rfl;(with_reducible repeat (first|refine blk_drewN ?_ _|refine blk_drew ?_|refine blk_alloc ?_ _));refine blk_put (cs:=#[.int .i64 a0_0,.string a0_1,.int .i64 a0_2,.int .i64 a0_3]) ?_ 0 _ rfl;(with_reducible repeat (first|refine blk_drewN ?_ _|refine blk_drew ?_|refine blk_alloc ?_ _));exact BK204.out) hb);have n1_:=Aside0.mk (below_step (by repeat (first|(with_reducible first|exact HB.out|apply below_alloc|apply pw_below_drewN|apply below_drew1|refine below_set ?_ GE204.out)|exact HB.out)) hb);clear BK204;clear HB;have BK204:=n0_;have HB:=n1_;clear n0_ n1_;(try clear hb);(try clear hb2);(try clear hk);(try clear hi))|((with_reducible refine gate_callee (f:=22) rfl ?_);refine goesL_ (some 34) rfl rfl Tryd.func22 (by kernel_rfl) rfl #[.string t209] rfl (by (try simp only [List.map_toArray,List.map_cons,List.map_nil]);first|done|rfl|(simp only [List.length_drop,List.length_take];rfl)) ?_;(with_reducible refine (ticket_Open.calls t209 t212 t213 t214 t215 t216 _ ?side1 A7.out).mono ?_);(case side1 => first|exact HGCr.out|exact GlobCr.below HGCr.out (by repeat (first|(with_reducible first|exact HB.out|apply below_alloc|apply pw_below_drewN|apply below_drew1|refine below_set ?_ GE204.out)|exact HB.out))|exact GlobCr.drawn HGCr.out (by repeat (first|exact Drawn0.refl _|apply Drawn0.step)));rintro e w14 ⟨rfl,hb⟩;refine ⟨_,rfl,?_⟩;have n0_:=Aside0.mk (blk_below (g:=gb204) (o:=.cells #[.int .i64 t205,.string t206,.int .i64 t207,.int .i64 t208] 39 (0,0)) (by (with_reducible repeat (first|refine blk_drewN ?_ _|refine blk_drew ?_|refine blk_alloc ?_ _));exact BK204.out) hb);have n1_:=Aside0.mk (below_step (by repeat (first|(with_reducible first|exact HB.out|apply below_alloc|apply pw_below_drewN|apply below_drew1|refine below_set ?_ GE204.out)|exact HB.out)) hb);clear BK204;clear HB;have BK204:=n0_;have HB:=n1_;clear n0_ n1_;(try clear hb);(try clear hb2);(try clear hk);(try clear hi))|((with_reducible refine gate_dst (N:=9) rfl ?_);(try (refine gate_guard (by rfl) ?_;dsimp only));refine box_event ?hg (N:=9) ?hd (cs:=#[.int .i64 0,.string (⟨#[]⟩ : ByteArray),.int .i64 0,.int .i64 0]) (t:=39) ?hr ?_;(case hd => rfl);(case hg => rfl);(case hr => first|(go_simp;done)|(go_simp;rfl));intro gb217 hg w15 hbox hb;have n0_:=Aside0.mk (blk_below (g:=gb204) (o:=.cells #[.int .i64 t205,.string t206,.int .i64 t207,.int .i64 t208] 39 (0,0)) (by (with_reducible repeat (first|refine blk_drewN ?_ _|refine blk_drew ?_|refine blk_alloc ?_ _));exact BK204.out) hb);have n1_:=Aside0.mk (below_step (by repeat (first|(with_reducible first|exact HB.out|apply below_alloc|apply pw_below_drewN|apply below_drew1|refine below_set ?_ GE204.out)|exact HB.out)) hb);have n2_:=Aside0.mk (hbox);have n3_:=Aside0.mk ((by rw [hg];exact (below_size (by repeat (first|(with_reducible first|exact HB.out|apply below_alloc|apply pw_below_drewN|apply below_drew1|refine below_set ?_ GE204.out)|exact HB.out))) : w.heap.size ≤ gb217));have n4_:=Aside0.mk ((by rw [hg];exact (below_size (by repeat (first|(with_reducible first|exact HB.out|apply below_alloc|apply pw_below_drewN|apply below_drew1|refine below_set ?_ GE204.out)|exact HB.out))) : w.heap.size ≤ gb217));have n5_:=Aside0.mk ((by rw [hg];exact Nat.ne_of_lt (blk_lt (g:=gb204) (o:=.cells #[.int .i64 t205,.string t206,.int .i64 t207,.int .i64 t208] 39 (0,0)) (by (with_reducible repeat (first|refine blk_drewN ?_ _|refine blk_drew ?_|refine blk_alloc ?_ _));exact BK204.out)) : gb204 ≠ gb217));have n6_:=Aside0.mk ((by rw [hg];exact Nat.ne_of_gt (blk_lt (g:=gb204) (o:=.cells #[.int .i64 t205,.string t206,.int .i64 t207,.int .i64 t208] 39 (0,0)) (by (with_reducible repeat (first|refine blk_drewN ?_ _|refine blk_drew ?_|refine blk_alloc ?_ _));exact BK204.out)) : gb217 ≠ gb204));clear BK204;clear HB;have BK204:=n0_;have HB:=n1_;have BK217:=n2_;have GW217:=n3_;have GE217:=n4_;have NB204_217:=n5_;have NB217_204:=n6_;clear n0_ n1_ n2_ n3_ n4_ n5_ n6_;clear hb hbox hg;have hnb16:=NB217_204.out;have hnc16:=NB204_217.out;have hcz17_0 : w15.cell? ⟨gb217,0,none⟩ = some (.int .i64 0):=(blk_cell BK217.out 0).trans rfl;have hcz17_1 : w15.cell? ⟨gb217,1,none⟩ = some (.string (⟨#[]⟩ : ByteArray)):=(blk_cell BK217.out 1).trans rfl;have hcz17_2 : w15.cell? ⟨gb217,2,none⟩ = some (.int .i64 0):=(blk_cell BK217.out 2).trans rfl;have hcz17_3 : w15.cell? ⟨gb217,3,none⟩ = some (.int .i64 0):=(blk_cell BK217.out 3).trans rfl;have hfz17_0:=blk_frozen BK217.out 0;have hfz17_1:=blk_frozen BK217.out 1;have hfz17_2:=blk_frozen BK217.out 2;have hfz17_3:=blk_frozen BK217.out 3))
  (try simp only [Act.put,List.setIfInBounds_toArray,List.set_cons_zero,List.set_cons_succ])
  go_cut [48] (fun v48 wc => ∃ (kq : Nat) (x48_7 : Bool),v48 = .bool x48_7 ∧ Aside0 (racewaylaw27_TicketBack.j0 kq a1 a2 t209 x48_7 t205 t206 t207 t208 = some r) ∧ Aside0 (kq ≤ k) ∧ Aside0 (wc.heap[gb204]? = some (.cells #[.int .i64 t205,.string t206,.int .i64 t207,.int .i64 t208] 39 (0,0))) ∧ Aside0 (wc.heap[gb217]? = some (.cells #[.int .i64 t212,.string t213,.int .i64 t214,.int .i64 t215] 39 (0,0))) ∧ Aside0 (Below w.heap.size w wc))
  case first =>
   have H:=HC8.out
   clear HC8
   by_cases c18 : (!(t212 == t205) || (!(t213.toList == t206.toList) || (!(t214 == t207) || (!(t215 == t208))))) = true
   ·rw [if_pos c18] at H
    have c18b0 : (!(t212 == t205) || (!(t213.toList == t206.toList) || (!(t214 == t207) || (!(t215 == t208))))) = true:=c18
    clear c18
    (first|rw [c18b0]|(simp only [i64_w,i32_w];rw [c18b0])|skip)
    have H':=Aside0.mk H
    clear H
    have hnb19:=NB217_204.out
    have hnc19:=NB204_217.out
    have hcz20_0 : w15.cell? ⟨gb217,0,none⟩ = some (.int .i64 0):=(blk_cell BK217.out 0).trans rfl
    have hcz20_1 : w15.cell? ⟨gb217,1,none⟩ = some (.string (⟨#[]⟩ : ByteArray)):=(blk_cell BK217.out 1).trans rfl
    have hcz20_2 : w15.cell? ⟨gb217,2,none⟩ = some (.int .i64 0):=(blk_cell BK217.out 2).trans rfl
    have hcz20_3 : w15.cell? ⟨gb217,3,none⟩ = some (.int .i64 0):=(blk_cell BK217.out 3).trans rfl
    have hfz20_0:=blk_frozen BK217.out 0
    have hfz20_1:=blk_frozen BK217.out 1
    have hfz20_2:=blk_frozen BK217.out 2
    have hfz20_3:=blk_frozen BK217.out 3
    have hcz21_0 : w15.cell? ⟨gb204,0,none⟩ = some (.int .i64 t205):=(blk_cell BK204.out 0).trans rfl
    have hcz21_1 : w15.cell? ⟨gb204,1,none⟩ = some (.string t206):=(blk_cell BK204.out 1).trans rfl
    have hcz21_2 : w15.cell? ⟨gb204,2,none⟩ = some (.int .i64 t207):=(blk_cell BK204.out 2).trans rfl
    have hcz21_3 : w15.cell? ⟨gb204,3,none⟩ = some (.int .i64 t208):=(blk_cell BK204.out 3).trans rfl
    have hfz21_0:=blk_frozen BK204.out 0
    have hfz21_1:=blk_frozen BK204.out 1
    have hfz21_2:=blk_frozen BK204.out 2
    have hfz21_3:=blk_frozen BK204.out 3
    go_wp2
    go_meet
    case rel => exact ⟨_,(true),(by first|rfl|(simp;done)|(simp;decide +kernel)|(simp [*];done)),(by first|exact H'|(subst_vars;exact H')),⟨by first|omega|exact Nat.le_refl _⟩,⟨by (with_reducible repeat (first|refine blk_drewN ?_ _|refine blk_drew ?_|refine blk_alloc ?_ _));refine blk_far ?_ NB204_217.out _;(with_reducible repeat (first|refine blk_drewN ?_ _|refine blk_drew ?_|refine blk_alloc ?_ _));refine blk_far ?_ NB204_217.out _;(with_reducible repeat (first|refine blk_drewN ?_ _|refine blk_drew ?_|refine blk_alloc ?_ _));refine blk_far ?_ NB204_217.out _;(with_reducible repeat (first|refine blk_drewN ?_ _|refine blk_drew ?_|refine blk_alloc ?_ _));refine blk_far ?_ NB204_217.out _;(with_reducible repeat (first|refine blk_drewN ?_ _|refine blk_drew ?_|refine blk_alloc ?_ _));exact BK204.out⟩,⟨by (with_reducible repeat (first|refine blk_drewN ?_ _|refine blk_drew ?_|refine blk_alloc ?_ _));refine blk_put (cs:=#[.int .i64 t212,.string t213,.int .i64 t214,.int .i64 0]) ?_ 3 _ rfl;(with_reducible repeat (first|refine blk_drewN ?_ _|refine blk_drew ?_|refine blk_alloc ?_ _));refine blk_put (cs:=#[.int .i64 t212,.string t213,.int .i64 0,.int .i64 0]) ?_ 2 _ rfl;(with_reducible repeat (first|refine blk_drewN ?_ _|refine blk_drew ?_|refine blk_alloc ?_ _));refine blk_put (cs:=#[.int .i64 t212,.string (⟨#[]⟩ : ByteArray),.int .i64 0,.int .i64 0]) ?_ 1 _ rfl;(with_reducible repeat (first|refine blk_drewN ?_ _|refine blk_drew ?_|refine blk_alloc ?_ _));refine blk_put (cs:=#[.int .i64 0,.string (⟨#[]⟩ : ByteArray),.int .i64 0,.int .i64 0]) ?_ 0 _ rfl;(with_reducible repeat (first|refine blk_drewN ?_ _|refine blk_drew ?_|refine blk_alloc ?_ _));exact BK217.out⟩,⟨by repeat (first|(with_reducible first|exact HB.out|apply below_alloc|apply pw_below_drewN|apply below_drew1|refine below_set ?_ GE204.out|refine below_set ?_ GE217.out)|exact HB.out)⟩⟩
   ·rw [if_neg c18] at H
    have c18b0 : (!(t212 == t205) || (!(t213.toList == t206.toList) || (!(t214 == t207) || (!(t215 == t208))))) = false:=by simpa using c18
    clear c18
    (first|rw [c18b0]|(simp only [i64_w,i32_w];rw [c18b0])|skip)
    by_cases c22 : t216 = 0
    ·rw [if_pos c22] at H
     have c22b0 : (t216 == 0) = true:=beq_iff_eq.mpr c22
     have c22b1 : (t216 != 0) = false:=bne_eq_false_iff_eq.mpr c22
     clear c22
     have H':=Aside0.mk H
     clear H
     have hnb23:=NB217_204.out
     have hnc23:=NB204_217.out
     have hcz24_0 : w15.cell? ⟨gb217,0,none⟩ = some (.int .i64 0):=(blk_cell BK217.out 0).trans rfl
     have hcz24_1 : w15.cell? ⟨gb217,1,none⟩ = some (.string (⟨#[]⟩ : ByteArray)):=(blk_cell BK217.out 1).trans rfl
     have hcz24_2 : w15.cell? ⟨gb217,2,none⟩ = some (.int .i64 0):=(blk_cell BK217.out 2).trans rfl
     have hcz24_3 : w15.cell? ⟨gb217,3,none⟩ = some (.int .i64 0):=(blk_cell BK217.out 3).trans rfl
     have hfz24_0:=blk_frozen BK217.out 0
     have hfz24_1:=blk_frozen BK217.out 1
     have hfz24_2:=blk_frozen BK217.out 2
     have hfz24_3:=blk_frozen BK217.out 3
     have hcz25_0 : w15.cell? ⟨gb204,0,none⟩ = some (.int .i64 t205):=(blk_cell BK204.out 0).trans rfl
     have hcz25_1 : w15.cell? ⟨gb204,1,none⟩ = some (.string t206):=(blk_cell BK204.out 1).trans rfl
     have hcz25_2 : w15.cell? ⟨gb204,2,none⟩ = some (.int .i64 t207):=(blk_cell BK204.out 2).trans rfl
     have hcz25_3 : w15.cell? ⟨gb204,3,none⟩ = some (.int .i64 t208):=(blk_cell BK204.out 3).trans rfl
     have hfz25_0:=blk_frozen BK204.out 0
     have hfz25_1:=blk_frozen BK204.out 1
     have hfz25_2:=blk_frozen BK204.out 2
     have hfz25_3:=blk_frozen BK204.out 3
     go_wp2
     go_meet
     case rel => exact ⟨_,(((t209.size : Int) == 0)),(by first|rfl|(simp;done)|(simp;decide +kernel)|(simp [*];done)),(by first|exact H'|(subst_vars;exact H')),⟨by first|omega|exact Nat.le_refl _⟩,⟨by (with_reducible repeat (first|refine blk_drewN ?_ _|refine blk_drew ?_|refine blk_alloc ?_ _));refine blk_far ?_ NB204_217.out _;(with_reducible repeat (first|refine blk_drewN ?_ _|refine blk_drew ?_|refine blk_alloc ?_ _));refine blk_far ?_ NB204_217.out _;(with_reducible repeat (first|refine blk_drewN ?_ _|refine blk_drew ?_|refine blk_alloc ?_ _));refine blk_far ?_ NB204_217.out _;(with_reducible repeat (first|refine blk_drewN ?_ _|refine blk_drew ?_|refine blk_alloc ?_ _));refine blk_far ?_ NB204_217.out _;(with_reducible repeat (first|refine blk_drewN ?_ _|refine blk_drew ?_|refine blk_alloc ?_ _));exact BK204.out⟩,⟨by (with_reducible repeat (first|refine blk_drewN ?_ _|refine blk_drew ?_|refine blk_alloc ?_ _));refine blk_put (cs:=#[.int .i64 t212,.string t213,.int .i64 t214,.int .i64 0]) ?_ 3 _ rfl;(with_reducible repeat (first|refine blk_drewN ?_ _|refine blk_drew ?_|refine blk_alloc ?_ _));refine blk_put (cs:=#[.int .i64 t212,.string t213,.int .i64 0,.int .i64 0]) ?_ 2 _ rfl;(with_reducible repeat (first|refine blk_drewN ?_ _|refine blk_drew ?_|refine blk_alloc ?_ _));refine blk_put (cs:=#[.int .i64 t212,.string (⟨#[]⟩ : ByteArray),.int .i64 0,.int .i64 0]) ?_ 1 _ rfl;(with_reducible repeat (first|refine blk_drewN ?_ _|refine blk_drew ?_|refine blk_alloc ?_ _));refine blk_put (cs:=#[.int .i64 0,.string (⟨#[]⟩ : ByteArray),.int .i64 0,.int .i64 0]) ?_ 0 _ rfl;(with_reducible repeat (first|refine blk_drewN ?_ _|refine blk_drew ?_|refine blk_alloc ?_ _));exact BK217.out⟩,⟨by repeat (first|(with_reducible first|exact HB.out|apply below_alloc|apply pw_below_drewN|apply below_drew1|refine below_set ?_ GE204.out|refine below_set ?_ GE217.out)|exact HB.out)⟩⟩
    ·rw [if_neg c22] at H
     have c22b0 : (t216 == 0) = false:=beq_eq_false_iff_ne.mpr c22
     have c22b1 : (t216 != 0) = true:=bne_iff_ne.mpr c22
     have H':=Aside0.mk H
     clear H
     have hnb26:=NB217_204.out
     have hnc26:=NB204_217.out
     have hcz27_0 : w15.cell? ⟨gb217,0,none⟩ = some (.int .i64 0):=(blk_cell BK217.out 0).trans rfl
     have hcz27_1 : w15.cell? ⟨gb217,1,none⟩ = some (.string (⟨#[]⟩ : ByteArray)):=(blk_cell BK217.out 1).trans rfl
     have hcz27_2 : w15.cell? ⟨gb217,2,none⟩ = some (.int .i64 0):=(blk_cell BK217.out 2).trans rfl
     have hcz27_3 : w15.cell? ⟨gb217,3,none⟩ = some (.int .i64 0):=(blk_cell BK217.out 3).trans rfl
     have hfz27_0:=blk_frozen BK217.out 0
     have hfz27_1:=blk_frozen BK217.out 1
     have hfz27_2:=blk_frozen BK217.out 2
     have hfz27_3:=blk_frozen BK217.out 3
     have hcz28_0 : w15.cell? ⟨gb204,0,none⟩ = some (.int .i64 t205):=(blk_cell BK204.out 0).trans rfl
     have hcz28_1 : w15.cell? ⟨gb204,1,none⟩ = some (.string t206):=(blk_cell BK204.out 1).trans rfl
     have hcz28_2 : w15.cell? ⟨gb204,2,none⟩ = some (.int .i64 t207):=(blk_cell BK204.out 2).trans rfl
     have hcz28_3 : w15.cell? ⟨gb204,3,none⟩ = some (.int .i64 t208):=(blk_cell BK204.out 3).trans rfl
     have hfz28_0:=blk_frozen BK204.out 0
     have hfz28_1:=blk_frozen BK204.out 1
     have hfz28_2:=blk_frozen BK204.out 2
     have hfz28_3:=blk_frozen BK204.out 3
     go_wp2
     go_meet
     case rel => exact ⟨_,(true),(by first|rfl|(simp;done)|(simp;decide +kernel)|(simp [*];done)),(by first|exact H'|(subst_vars;exact H')),⟨by first|omega|exact Nat.le_refl _⟩,⟨by (with_reducible repeat (first|refine blk_drewN ?_ _|refine blk_drew ?_|refine blk_alloc ?_ _));refine blk_far ?_ NB204_217.out _;(with_reducible repeat (first|refine blk_drewN ?_ _|refine blk_drew ?_|refine blk_alloc ?_ _));refine blk_far ?_ NB204_217.out _;(with_reducible repeat (first|refine blk_drewN ?_ _|refine blk_drew ?_|refine blk_alloc ?_ _));refine blk_far ?_ NB204_217.out _;(with_reducible repeat (first|refine blk_drewN ?_ _|refine blk_drew ?_|refine blk_alloc ?_ _));refine blk_far ?_ NB204_217.out _;(with_reducible repeat (first|refine blk_drewN ?_ _|refine blk_drew ?_|refine blk_alloc ?_ _));exact BK204.out⟩,⟨by (with_reducible repeat (first|refine blk_drewN ?_ _|refine blk_drew ?_|refine blk_alloc ?_ _));refine blk_put (cs:=#[.int .i64 t212,.string t213,.int .i64 t214,.int .i64 0]) ?_ 3 _ rfl;(with_reducible repeat (first|refine blk_drewN ?_ _|refine blk_drew ?_|refine blk_alloc ?_ _));refine blk_put (cs:=#[.int .i64 t212,.string t213,.int .i64 0,.int .i64 0]) ?_ 2 _ rfl;(with_reducible repeat (first|refine blk_drewN ?_ _|refine blk_drew ?_|refine blk_alloc ?_ _));refine blk_put (cs:=#[.int .i64 t212,.string (⟨#[]⟩ : ByteArray),.int .i64 0,.int .i64 0]) ?_ 1 _ rfl;(with_reducible repeat (first|refine blk_drewN ?_ _|refine blk_drew ?_|refine blk_alloc ?_ _));refine blk_put (cs:=#[.int .i64 0,.string (⟨#[]⟩ : ByteArray),.int .i64 0,.int .i64 0]) ?_ 0 _ rfl;(with_reducible repeat (first|refine blk_drewN ?_ _|refine blk_drew ?_|refine blk_alloc ?_ _));exact BK217.out⟩,⟨by repeat (first|(with_reducible first|exact HB.out|apply below_alloc|apply pw_below_drewN|apply below_drew1|refine below_set ?_ GE204.out|refine below_set ?_ GE217.out)|exact HB.out)⟩⟩
  case rest =>
   clear HC8
   try clear c1
   try clear c2
   try clear p2
   try clear c6
   try clear c6b0
   try clear c6b1
   try clear c7
   try clear c16
   try clear c18
   try clear c18b0
   try clear c19
   try clear c20
   try clear c22
   try clear c22b0
   try clear c22b1
   try clear c23
   try clear c26
   try clear hcz10_0
   try clear hcz10_1
   try clear hcz10_2
   try clear hcz10_3
   try clear hcz12_0
   try clear hcz12_1
   try clear hcz12_2
   try clear hcz12_3
   try clear hcz17_0
   try clear hcz17_1
   try clear hcz17_2
   try clear hcz17_3
   try clear hcz20_0
   try clear hcz20_1
   try clear hcz20_2
   try clear hcz20_3
   try clear hcz21_0
   try clear hcz21_1
   try clear hcz21_2
   try clear hcz21_3
   try clear hcz24_0
   try clear hcz24_1
   try clear hcz24_2
   try clear hcz24_3
   try clear hcz25_0
   try clear hcz25_1
   try clear hcz25_2
   try clear hcz25_3
   try clear hcz27_0
   try clear hcz27_1
   try clear hcz27_2
   try clear hcz27_3
   try clear hcz28_0
   try clear hcz28_1
   try clear hcz28_2
   try clear hcz28_3
   try clear hfz10_0
   try clear hfz10_1
   try clear hfz10_2
   try clear hfz10_3
   try clear hfz12_0
   try clear hfz12_1
   try clear hfz12_2
   try clear hfz12_3
   try clear hfz17_0
   try clear hfz17_1
   try clear hfz17_2
   try clear hfz17_3
   try clear hfz20_0
   try clear hfz20_1
   try clear hfz20_2
   try clear hfz20_3
   try clear hfz21_0
   try clear hfz21_1
   try clear hfz21_2
   try clear hfz21_3
   try clear hfz24_0
   try clear hfz24_1
   try clear hfz24_2
   try clear hfz24_3
   try clear hfz25_0
   try clear hfz25_1
   try clear hfz25_2
   try clear hfz25_3
   try clear hfz27_0
   try clear hfz27_1
   try clear hfz27_2
   try clear hfz27_3
   try clear hfz28_0
   try clear hfz28_1
   try clear hfz28_2
   try clear hfz28_3
   obtain ⟨kq,x48_7,rfl,HA,HJ7,BK204,BK217,HB⟩:=hcut
   cases kq with
   | zero => exact absurd HA.out (by simp [racewaylaw27_TicketBack.j0])
   | succ kj7 =>
    have H:=HA.out
    clear HA
    simp only [racewaylaw27_TicketBack.j0] at H
    by_cases c29 : x48_7 = true
    ·subst c29
     have H1 : (some false) = some r:=by rw [if_pos rfl] at H;exact H
     clear H
     have H:=H1
     clear H1
     exact absurd ((Option.some.inj H).trans HRT.out) (by decide)
    ·replace c29:=Bool.eq_false_iff.mpr c29
     subst c29
     have H1 : (if (t209.size : Int) = 0 then (none) else (if 0 ≤ (Int.tmod (wrap64 ((Int.tmod a1 (t209.size : Int)) + (t209.size : Int))) (t209.size : Int)) then (if (Int.tmod (wrap64 ((Int.tmod a1 (t209.size : Int)) + (t209.size : Int))) (t209.size : Int)) ≤ (t209.size : Int) then ((some (([a2] : List Int) : List Int)).bind fun y218 => (if (t209.extract 0 ((Int.tmod (wrap64 ((Int.tmod a1 (t209.size : Int)) + (t209.size : Int))) (t209.size : Int)) : Int).toNat).size + (strOfNums y218).size ≤ 9223372036854775807 then (if 0 ≤ (wrap64 ((Int.tmod (wrap64 ((Int.tmod a1 (t209.size : Int)) + (t209.size : Int))) (t209.size : Int)) + 1)) then (if (wrap64 ((Int.tmod (wrap64 ((Int.tmod a1 (t209.size : Int)) + (t209.size : Int))) (t209.size : Int)) + 1)) ≤ (t209.size : Int) then (if (t209.extract 0 ((Int.tmod (wrap64 ((Int.tmod a1 (t209.size : Int)) + (t209.size : Int))) (t209.size : Int)) : Int).toNat).size + (strOfNums y218).size + (t209.extract ((wrap64 ((Int.tmod (wrap64 ((Int.tmod a1 (t209.size : Int)) + (t209.size : Int))) (t209.size : Int)) + 1)) : Int).toNat t209.size).size ≤ 9223372036854775807 then ((ticket_Open.f (((t209.extract 0 ((Int.tmod (wrap64 ((Int.tmod a1 (t209.size : Int)) + (t209.size : Int))) (t209.size : Int)) : Int).toNat) ++ (strOfNums y218)) ++ (t209.extract ((wrap64 ((Int.tmod (wrap64 ((Int.tmod a1 (t209.size : Int)) + (t209.size : Int))) (t209.size : Int)) + 1)) : Int).toNat t209.size))).bind fun bt221 => ((ticket_Open.f (t209.extract 0 ((Int.tmod (wrap64 ((Int.tmod a1 (t209.size : Int)) + (t209.size : Int))) (t209.size : Int)) : Int).toNat)).bind fun bt227 => (if t209.size + 4 ≤ 9223372036854775807 then ((ticket_Open.f (t209 ++ (⟨#[65,65,65,65]⟩ : ByteArray))).bind fun bt233 => (if (Int.tmod (wrap64 ((Int.tmod a1 (t209.size : Int)) + (t209.size : Int))) (t209.size : Int)) < (t209.size : Int) then (if a2 = (bt t209 (Int.tmod (wrap64 ((Int.tmod a1 (t209.size : Int)) + (t209.size : Int))) (t209.size : Int))) then (if bt227.2.2.2.2 = 12 then (if bt233.2.2.2.2 = 12 then (if (bt227.1 == 0 && (bt227.2.1.toList == ([] : List UInt8) && (bt227.2.2.1 == 0 && (bt227.2.2.2.1 == 0)))) = true then (if (bt233.1 == 0 && (bt233.2.1.toList == ([] : List UInt8) && (bt233.2.2.1 == 0 && (bt233.2.2.2.1 == 0)))) = true then ((racewaylaw27_works.f kj7).bind fun t239 => (some t239)) else (some false)) else (some false)) else (some false)) else (some false)) else (if bt221.2.2.2.2 = 0 then (if (bt221.1 == t205 && (bt221.2.1.toList == t206.toList && (bt221.2.2.1 == t207 && (bt221.2.2.2.1 == t208)))) = true then (some false) else (if bt227.2.2.2.2 = 12 then (if bt233.2.2.2.2 = 12 then (if (bt227.1 == 0 && (bt227.2.1.toList == ([] : List UInt8) && (bt227.2.2.1 == 0 && (bt227.2.2.2.1 == 0)))) = true then (if (bt233.1 == 0 && (bt233.2.1.toList == ([] : List UInt8) && (bt233.2.2.1 == 0 && (bt233.2.2.2.1 == 0)))) = true then ((racewaylaw27_works.f kj7).bind fun t240 => (some t240)) else (some false)) else (some false)) else (some false)) else (some false))) else (if bt227.2.2.2.2 = 12 then (if bt233.2.2.2.2 = 12 then (if (bt227.1 == 0 && (bt227.2.1.toList == ([] : List UInt8) && (bt227.2.2.1 == 0 && (bt227.2.2.2.1 == 0)))) = true then (if (bt233.1 == 0 && (bt233.2.1.toList == ([] : List UInt8) && (bt233.2.2.1 == 0 && (bt233.2.2.2.1 == 0)))) = true then ((racewaylaw27_works.f kj7).bind fun t241 => (some t241)) else (some false)) else (some false)) else (some false)) else (some false)))) else (none))) else (none)))) else (none)) else (none)) else (none)) else (none))) else (none)) else (none))) = some r:=by rw [if_neg (show ¬ (false = true) by decide)] at H;exact H
     clear H
     have H:=H1
     clear H1
     by_cases c30 : (t209.size : Int) = 0
     ·rw [if_pos c30] at H
      exact absurd H (by simp)
     ·rw [if_neg c30] at H
      have c30b0 : ((t209.size : Int) == 0) = false:=beq_eq_false_iff_ne.mpr c30
      have c30b1 : ((t209.size : Int) != 0) = true:=bne_iff_ne.mpr c30
      obtain ⟨ji31,hji31⟩ : ∃ j_ : Int,(Int.tmod (wrap64 ((Int.tmod a1 (t209.size : Int)) + (t209.size : Int))) (t209.size : Int)) = j_:=⟨_,rfl⟩
      replace H : (if 0 ≤ (ji31) then (if (ji31) ≤ (t209.size : Int) then ((some (([a2] : List Int) : List Int)).bind fun y218 => (if (t209.extract 0 ((ji31) : Int).toNat).size + (strOfNums y218).size ≤ 9223372036854775807 then (if 0 ≤ (wrap64 ((ji31) + 1)) then (if (wrap64 ((ji31) + 1)) ≤ (t209.size : Int) then (if (t209.extract 0 ((ji31) : Int).toNat).size + (strOfNums y218).size + (t209.extract ((wrap64 ((ji31) + 1)) : Int).toNat t209.size).size ≤ 9223372036854775807 then ((ticket_Open.f (((t209.extract 0 ((ji31) : Int).toNat) ++ (strOfNums y218)) ++ (t209.extract ((wrap64 ((ji31) + 1)) : Int).toNat t209.size))).bind fun bt221 => ((ticket_Open.f (t209.extract 0 ((ji31) : Int).toNat)).bind fun bt227 => (if t209.size + 4 ≤ 9223372036854775807 then ((ticket_Open.f (t209 ++ (⟨#[65,65,65,65]⟩ : ByteArray))).bind fun bt233 => (if (ji31) < (t209.size : Int) then (if a2 = (bt t209 (ji31)) then (if bt227.2.2.2.2 = 12 then (if bt233.2.2.2.2 = 12 then (if (bt227.1 == 0 && (bt227.2.1.toList == ([] : List UInt8) && (bt227.2.2.1 == 0 && (bt227.2.2.2.1 == 0)))) = true then (if (bt233.1 == 0 && (bt233.2.1.toList == ([] : List UInt8) && (bt233.2.2.1 == 0 && (bt233.2.2.2.1 == 0)))) = true then ((racewaylaw27_works.f kj7).bind fun t239 => (some t239)) else (some false)) else (some false)) else (some false)) else (some false)) else (if bt221.2.2.2.2 = 0 then (if (bt221.1 == t205 && (bt221.2.1.toList == t206.toList && (bt221.2.2.1 == t207 && (bt221.2.2.2.1 == t208)))) = true then (some false) else (if bt227.2.2.2.2 = 12 then (if bt233.2.2.2.2 = 12 then (if (bt227.1 == 0 && (bt227.2.1.toList == ([] : List UInt8) && (bt227.2.2.1 == 0 && (bt227.2.2.2.1 == 0)))) = true then (if (bt233.1 == 0 && (bt233.2.1.toList == ([] : List UInt8) && (bt233.2.2.1 == 0 && (bt233.2.2.2.1 == 0)))) = true then ((racewaylaw27_works.f kj7).bind fun t240 => (some t240)) else (some false)) else (some false)) else (some false)) else (some false))) else (if bt227.2.2.2.2 = 12 then (if bt233.2.2.2.2 = 12 then (if (bt227.1 == 0 && (bt227.2.1.toList == ([] : List UInt8) && (bt227.2.2.1 == 0 && (bt227.2.2.2.1 == 0)))) = true then (if (bt233.1 == 0 && (bt233.2.1.toList == ([] : List UInt8) && (bt233.2.2.1 == 0 && (bt233.2.2.2.1 == 0)))) = true then ((racewaylaw27_works.f kj7).bind fun t241 => (some t241)) else (some false)) else (some false)) else (some false)) else (some false)))) else (none))) else (none)))) else (none)) else (none)) else (none)) else (none))) else (none)) else (none)) = some r:=by first|(rw [hji31] at H;exact H)|(simp only [hji31] at H ⊢;exact H)
      by_cases c32 : 0 ≤ (ji31)
      ·rw [if_pos c32] at H
       have c32b0:=eq_true c32
       have c32b1 : decide (0 ≤ (ji31)) = true:=decide_eq_true c32
       clear c32
       by_cases c33 : (ji31) ≤ (t209.size : Int)
       ·rw [if_pos c33] at H
        have c33b0:=eq_true c33
        have c33b1 : decide ((ji31) ≤ (t209.size : Int)) = true:=decide_eq_true c33
        clear c33
        obtain ⟨y218,hy218⟩ : ∃ y_ : List Int,y_ = (([a2] : List Int)):=⟨_,rfl⟩
        replace H : (if (t209.extract 0 ((ji31) : Int).toNat).size + (strOfNums y218).size ≤ 9223372036854775807 then (if 0 ≤ (wrap64 ((ji31) + 1)) then (if (wrap64 ((ji31) + 1)) ≤ (t209.size : Int) then (if (t209.extract 0 ((ji31) : Int).toNat).size + (strOfNums y218).size + (t209.extract ((wrap64 ((ji31) + 1)) : Int).toNat t209.size).size ≤ 9223372036854775807 then ((ticket_Open.f (((t209.extract 0 ((ji31) : Int).toNat) ++ (strOfNums y218)) ++ (t209.extract ((wrap64 ((ji31) + 1)) : Int).toNat t209.size))).bind fun bt221 => ((ticket_Open.f (t209.extract 0 ((ji31) : Int).toNat)).bind fun bt227 => (if t209.size + 4 ≤ 9223372036854775807 then ((ticket_Open.f (t209 ++ (⟨#[65,65,65,65]⟩ : ByteArray))).bind fun bt233 => (if (ji31) < (t209.size : Int) then (if a2 = (bt t209 (ji31)) then (if bt227.2.2.2.2 = 12 then (if bt233.2.2.2.2 = 12 then (if (bt227.1 == 0 && (bt227.2.1.toList == ([] : List UInt8) && (bt227.2.2.1 == 0 && (bt227.2.2.2.1 == 0)))) = true then (if (bt233.1 == 0 && (bt233.2.1.toList == ([] : List UInt8) && (bt233.2.2.1 == 0 && (bt233.2.2.2.1 == 0)))) = true then ((racewaylaw27_works.f kj7).bind fun t239 => (some t239)) else (some false)) else (some false)) else (some false)) else (some false)) else (if bt221.2.2.2.2 = 0 then (if (bt221.1 == t205 && (bt221.2.1.toList == t206.toList && (bt221.2.2.1 == t207 && (bt221.2.2.2.1 == t208)))) = true then (some false) else (if bt227.2.2.2.2 = 12 then (if bt233.2.2.2.2 = 12 then (if (bt227.1 == 0 && (bt227.2.1.toList == ([] : List UInt8) && (bt227.2.2.1 == 0 && (bt227.2.2.2.1 == 0)))) = true then (if (bt233.1 == 0 && (bt233.2.1.toList == ([] : List UInt8) && (bt233.2.2.1 == 0 && (bt233.2.2.2.1 == 0)))) = true then ((racewaylaw27_works.f kj7).bind fun t240 => (some t240)) else (some false)) else (some false)) else (some false)) else (some false))) else (if bt227.2.2.2.2 = 12 then (if bt233.2.2.2.2 = 12 then (if (bt227.1 == 0 && (bt227.2.1.toList == ([] : List UInt8) && (bt227.2.2.1 == 0 && (bt227.2.2.2.1 == 0)))) = true then (if (bt233.1 == 0 && (bt233.2.1.toList == ([] : List UInt8) && (bt233.2.2.1 == 0 && (bt233.2.2.2.1 == 0)))) = true then ((racewaylaw27_works.f kj7).bind fun t241 => (some t241)) else (some false)) else (some false)) else (some false)) else (some false)))) else (none))) else (none)))) else (none)) else (none)) else (none)) else (none)) = some r:=by first|(rw [hy218];with_reducible exact H)|(have H2_:=(Option.bind_some _ _).symm.trans H;rw [hy218];with_reducible exact H2_)|(have H2_:=(Option.bind_some _ _).symm.trans H;with_reducible exact H2_)|with_reducible exact H|(rw [hy218];exact H)|exact H
        have Ny218:=Aside0.mk hy218
        clear hy218
        by_cases c34 : (t209.extract 0 ((ji31) : Int).toNat).size + (strOfNums y218).size ≤ 9223372036854775807
        ·rw [if_pos c34] at H
         have c34b0:=eq_true c34
         have c34b1 : decide ((t209.extract 0 ((ji31) : Int).toNat).size + (strOfNums y218).size ≤ 9223372036854775807) = true:=decide_eq_true c34
         try have c34b2 : (9223372036854775807 < (t209.extract 0 ((ji31) : Int).toNat).size + (strOfNums y218).size) = False:=eq_false (Nat.not_lt.2 c34)
         have g34_ : (9223372036854775807 < ji31.toNat + (strOfNums y218).size) = False:=eq_false (by have h_:=c34;have b_:=of_decide_eq_true c33b1;simp only [ByteArray.size_extract] at h_;omega)
         obtain ⟨ji35,hji35⟩ : ∃ j_ : Int,(wrap64 ((ji31) + 1)) = j_:=⟨_,rfl⟩
         replace H : (if 0 ≤ (ji35) then (if (ji35) ≤ (t209.size : Int) then (if (t209.extract 0 ((ji31) : Int).toNat).size + (strOfNums y218).size + (t209.extract ((ji35) : Int).toNat t209.size).size ≤ 9223372036854775807 then ((ticket_Open.f (((t209.extract 0 ((ji31) : Int).toNat) ++ (strOfNums y218)) ++ (t209.extract ((ji35) : Int).toNat t209.size))).bind fun bt221 => ((ticket_Open.f (t209.extract 0 ((ji31) : Int).toNat)).bind fun bt227 => (if t209.size + 4 ≤ 9223372036854775807 then ((ticket_Open.f (t209 ++ (⟨#[65,65,65,65]⟩ : ByteArray))).bind fun bt233 => (if (ji31) < (t209.size : Int) then (if a2 = (bt t209 (ji31)) then (if bt227.2.2.2.2 = 12 then (if bt233.2.2.2.2 = 12 then (if (bt227.1 == 0 && (bt227.2.1.toList == ([] : List UInt8) && (bt227.2.2.1 == 0 && (bt227.2.2.2.1 == 0)))) = true then (if (bt233.1 == 0 && (bt233.2.1.toList == ([] : List UInt8) && (bt233.2.2.1 == 0 && (bt233.2.2.2.1 == 0)))) = true then ((racewaylaw27_works.f kj7).bind fun t239 => (some t239)) else (some false)) else (some false)) else (some false)) else (some false)) else (if bt221.2.2.2.2 = 0 then (if (bt221.1 == t205 && (bt221.2.1.toList == t206.toList && (bt221.2.2.1 == t207 && (bt221.2.2.2.1 == t208)))) = true then (some false) else (if bt227.2.2.2.2 = 12 then (if bt233.2.2.2.2 = 12 then (if (bt227.1 == 0 && (bt227.2.1.toList == ([] : List UInt8) && (bt227.2.2.1 == 0 && (bt227.2.2.2.1 == 0)))) = true then (if (bt233.1 == 0 && (bt233.2.1.toList == ([] : List UInt8) && (bt233.2.2.1 == 0 && (bt233.2.2.2.1 == 0)))) = true then ((racewaylaw27_works.f kj7).bind fun t240 => (some t240)) else (some false)) else (some false)) else (some false)) else (some false))) else (if bt227.2.2.2.2 = 12 then (if bt233.2.2.2.2 = 12 then (if (bt227.1 == 0 && (bt227.2.1.toList == ([] : List UInt8) && (bt227.2.2.1 == 0 && (bt227.2.2.2.1 == 0)))) = true then (if (bt233.1 == 0 && (bt233.2.1.toList == ([] : List UInt8) && (bt233.2.2.1 == 0 && (bt233.2.2.2.1 == 0)))) = true then ((racewaylaw27_works.f kj7).bind fun t241 => (some t241)) else (some false)) else (some false)) else (some false)) else (some false)))) else (none))) else (none)))) else (none)) else (none)) else (none)) = some r:=by first|(rw [hji35] at H;exact H)|(simp only [hji35] at H ⊢;exact H)
         have hji35w : (IntKind.i64.wrap ((ji31) + 1)) = ji35:=(i64_w _).trans hji35
         by_cases c36 : 0 ≤ (ji35)
         ·rw [if_pos c36] at H
          have c36b0:=eq_true c36
          have c36b1 : decide (0 ≤ (ji35)) = true:=decide_eq_true c36
          clear c36
          by_cases c37 : (ji35) ≤ (t209.size : Int)
          ·rw [if_pos c37] at H
           have c37b0:=eq_true c37
           have c37b1 : decide ((ji35) ≤ (t209.size : Int)) = true:=decide_eq_true c37
           clear c37
           by_cases c38 : (t209.extract 0 ((ji31) : Int).toNat).size + (strOfNums y218).size + (t209.extract ((ji35) : Int).toNat t209.size).size ≤ 9223372036854775807
           ·rw [if_pos c38] at H
            have c38b0:=eq_true c38
            have c38b1 : decide ((t209.extract 0 ((ji31) : Int).toNat).size + (strOfNums y218).size + (t209.extract ((ji35) : Int).toNat t209.size).size ≤ 9223372036854775807) = true:=decide_eq_true c38
            try have c38b2 : (9223372036854775807 < (t209.extract 0 ((ji31) : Int).toNat).size + (strOfNums y218).size + (t209.extract ((ji35) : Int).toNat t209.size).size) = False:=eq_false (Nat.not_lt.2 c38)
            have g38_ : (9223372036854775807 < ji31.toNat + (strOfNums y218).size + (t209.size - ji35.toNat)) = False:=eq_false (by have h_:=c38;have b_:=of_decide_eq_true c33b1;simp only [ByteArray.size_extract] at h_;omega)
            replace H:=Option.bind_eq_some_iff.mp H
            obtain ⟨⟨t221,t222,t223,t224,t225⟩,A390,H⟩:=H
            replace H : ((ticket_Open.f (t209.extract 0 ((ji31) : Int).toNat)).bind fun bt227 => (if t209.size + 4 ≤ 9223372036854775807 then ((ticket_Open.f (t209 ++ (⟨#[65,65,65,65]⟩ : ByteArray))).bind fun bt233 => (if (ji31) < (t209.size : Int) then (if a2 = (bt t209 (ji31)) then (if bt227.2.2.2.2 = 12 then (if bt233.2.2.2.2 = 12 then (if (bt227.1 == 0 && (bt227.2.1.toList == ([] : List UInt8) && (bt227.2.2.1 == 0 && (bt227.2.2.2.1 == 0)))) = true then (if (bt233.1 == 0 && (bt233.2.1.toList == ([] : List UInt8) && (bt233.2.2.1 == 0 && (bt233.2.2.2.1 == 0)))) = true then ((racewaylaw27_works.f kj7).bind fun t239 => (some t239)) else (some false)) else (some false)) else (some false)) else (some false)) else (if t225 = 0 then (if (t221 == t205 && (t222.toList == t206.toList && (t223 == t207 && (t224 == t208)))) = true then (some false) else (if bt227.2.2.2.2 = 12 then (if bt233.2.2.2.2 = 12 then (if (bt227.1 == 0 && (bt227.2.1.toList == ([] : List UInt8) && (bt227.2.2.1 == 0 && (bt227.2.2.2.1 == 0)))) = true then (if (bt233.1 == 0 && (bt233.2.1.toList == ([] : List UInt8) && (bt233.2.2.1 == 0 && (bt233.2.2.2.1 == 0)))) = true then ((racewaylaw27_works.f kj7).bind fun t240 => (some t240)) else (some false)) else (some false)) else (some false)) else (some false))) else (if bt227.2.2.2.2 = 12 then (if bt233.2.2.2.2 = 12 then (if (bt227.1 == 0 && (bt227.2.1.toList == ([] : List UInt8) && (bt227.2.2.1 == 0 && (bt227.2.2.2.1 == 0)))) = true then (if (bt233.1 == 0 && (bt233.2.1.toList == ([] : List UInt8) && (bt233.2.2.1 == 0 && (bt233.2.2.2.1 == 0)))) = true then ((racewaylaw27_works.f kj7).bind fun t241 => (some t241)) else (some false)) else (some false)) else (some false)) else (some false)))) else (none))) else (none))) = some r:=H
            have A39:=Aside0.mk A390
            clear A390
            have c40b0:=eq_true (of_decide_eq_true (by first|(with_reducible assumption)|assumption) : 0 ≤ (ji31))
            have c41b0:=eq_true (of_decide_eq_true (by first|(with_reducible assumption)|assumption) : (ji31) ≤ (t209.size : Int))
            replace H:=Option.bind_eq_some_iff.mp H
            obtain ⟨⟨t227,t228,t229,t230,t231⟩,A420,H⟩:=H
            replace H : (if t209.size + 4 ≤ 9223372036854775807 then ((ticket_Open.f (t209 ++ (⟨#[65,65,65,65]⟩ : ByteArray))).bind fun bt233 => (if (ji31) < (t209.size : Int) then (if a2 = (bt t209 (ji31)) then (if t231 = 12 then (if bt233.2.2.2.2 = 12 then (if (t227 == 0 && (t228.toList == ([] : List UInt8) && (t229 == 0 && (t230 == 0)))) = true then (if (bt233.1 == 0 && (bt233.2.1.toList == ([] : List UInt8) && (bt233.2.2.1 == 0 && (bt233.2.2.2.1 == 0)))) = true then ((racewaylaw27_works.f kj7).bind fun t239 => (some t239)) else (some false)) else (some false)) else (some false)) else (some false)) else (if t225 = 0 then (if (t221 == t205 && (t222.toList == t206.toList && (t223 == t207 && (t224 == t208)))) = true then (some false) else (if t231 = 12 then (if bt233.2.2.2.2 = 12 then (if (t227 == 0 && (t228.toList == ([] : List UInt8) && (t229 == 0 && (t230 == 0)))) = true then (if (bt233.1 == 0 && (bt233.2.1.toList == ([] : List UInt8) && (bt233.2.2.1 == 0 && (bt233.2.2.2.1 == 0)))) = true then ((racewaylaw27_works.f kj7).bind fun t240 => (some t240)) else (some false)) else (some false)) else (some false)) else (some false))) else (if t231 = 12 then (if bt233.2.2.2.2 = 12 then (if (t227 == 0 && (t228.toList == ([] : List UInt8) && (t229 == 0 && (t230 == 0)))) = true then (if (bt233.1 == 0 && (bt233.2.1.toList == ([] : List UInt8) && (bt233.2.2.1 == 0 && (bt233.2.2.2.1 == 0)))) = true then ((racewaylaw27_works.f kj7).bind fun t241 => (some t241)) else (some false)) else (some false)) else (some false)) else (some false)))) else (none))) else (none)) = some r:=H
            have A42:=Aside0.mk A420
            clear A420
            by_cases c43 : t209.size + 4 ≤ 9223372036854775807
            ·rw [if_pos c43] at H
             have c43b0:=eq_true c43
             have c43b1 : decide (t209.size + 4 ≤ 9223372036854775807) = true:=decide_eq_true c43
             try have c43b2 : (9223372036854775807 < t209.size + 4) = False:=eq_false (Nat.not_lt.2 c43)
             replace H:=Option.bind_eq_some_iff.mp H
             obtain ⟨⟨t233,t234,t235,t236,t237⟩,A440,H⟩:=H
             replace H : (if (ji31) < (t209.size : Int) then (if a2 = (bt t209 (ji31)) then (if t231 = 12 then (if t237 = 12 then (if (t227 == 0 && (t228.toList == ([] : List UInt8) && (t229 == 0 && (t230 == 0)))) = true then (if (t233 == 0 && (t234.toList == ([] : List UInt8) && (t235 == 0 && (t236 == 0)))) = true then ((racewaylaw27_works.f kj7).bind fun t239 => (some t239)) else (some false)) else (some false)) else (some false)) else (some false)) else (if t225 = 0 then (if (t221 == t205 && (t222.toList == t206.toList && (t223 == t207 && (t224 == t208)))) = true then (some false) else (if t231 = 12 then (if t237 = 12 then (if (t227 == 0 && (t228.toList == ([] : List UInt8) && (t229 == 0 && (t230 == 0)))) = true then (if (t233 == 0 && (t234.toList == ([] : List UInt8) && (t235 == 0 && (t236 == 0)))) = true then ((racewaylaw27_works.f kj7).bind fun t240 => (some t240)) else (some false)) else (some false)) else (some false)) else (some false))) else (if t231 = 12 then (if t237 = 12 then (if (t227 == 0 && (t228.toList == ([] : List UInt8) && (t229 == 0 && (t230 == 0)))) = true then (if (t233 == 0 && (t234.toList == ([] : List UInt8) && (t235 == 0 && (t236 == 0)))) = true then ((racewaylaw27_works.f kj7).bind fun t241 => (some t241)) else (some false)) else (some false)) else (some false)) else (some false)))) else (none)) = some r:=H
             have A44:=Aside0.mk A440
             clear A440
             by_cases c45 : (ji31) < (t209.size : Int)
             ·rw [if_pos c45] at H
              have c45b0 : decide ((ji31) < (t209.size : Int)) = true:=decide_eq_true c45
              clear c45
              have HA9:=Aside0.mk H
              clear H
              try go_wp2
              have n0_:=Aside0.mk (blk_drew BK204.out)
              have n1_:=Aside0.mk (blk_drew BK217.out)
              have n2_:=Aside0.mk (below_drew1 HB.out)
              clear BK204
              clear BK217
              clear HB
              have BK204:=n0_
              have BK217:=n1_
              have HB:=n2_
              clear n0_ n1_ n2_
              refine start_ (n:=19) (S:=fun w' => True) (ds:=[]) #[false,false,false,false,false,false,false,false,false,false,false,false,false,false,false,false,false,false,false] (by kernel_rfl) rfl rfl trivial (fun hHeld => ?_);refine with_tabW racewaylaw27_TicketBack.tab9 racewaylaw27_TicketBack.bits9 (fun HT_ HW_ => ?_)
              generalize wc.drew = w53 at BK204 BK217 HB hHeld ⊢
              refine pure_ (i:=0) (N:=some 60) (v:=?_) (a':=?_) #[true,false,false,false,false,false,false,false,false,false,false,false,false,false,false,false,false,false,false] rfl rfl (any_of HT_.out (by kernel_rfl)) (fun _ _ _ h => h) (Or.inl ⟨by rfl,?_⟩) ?_ ?_
              rotate_left
              ·intro w'
               go_simp
               with_reducible rfl
              rotate_left
              ·simp only [Act.put,List.setIfInBounds_toArray,List.set_cons_zero,List.set_cons_succ,i64_w,i32_w]
               rfl
              refine pure_ (i:=1) (N:=some 61) (v:=?_) (a':=?_) #[true,true,false,false,false,false,false,false,false,false,false,false,false,false,false,false,false,false,false] rfl rfl (any_of HT_.out (by kernel_rfl)) (fun _ _ _ h => h) (Or.inl ⟨by rfl,?_⟩) ?_ ?_
              rotate_left
              ·intro w'
               go_simp
               with_reducible rfl
              rotate_left
              ·simp only [Act.put,List.setIfInBounds_toArray,List.set_cons_zero,List.set_cons_succ,i64_w,i32_w]
               rfl
              refine pure_ (i:=2) (N:=some 62) (v:=?_) (a':=?_) #[true,true,true,false,false,false,false,false,false,false,false,false,false,false,false,false,false,false,false] rfl rfl (any_of HT_.out (by kernel_rfl)) (fun _ _ _ h => h) (Or.inl ⟨by rfl,?_⟩) ?_ ?_
              rotate_left
              ·intro w'
               go_simp
               with_reducible rfl
              rotate_left
              ·simp only [Act.put,List.setIfInBounds_toArray,List.set_cons_zero,List.set_cons_succ,i64_w,i32_w]
               rfl
              refine pure_ (i:=3) (N:=some 63) (v:=?_) (a':=?_) #[true,true,true,true,false,false,false,false,false,false,false,false,false,false,false,false,false,false,false] rfl rfl (any_of HT_.out (by kernel_rfl)) (fun _ _ _ h => h) (Or.inl ⟨by rfl,?_⟩) ?_ ?_
              rotate_left
              ·intro w'
               go_simp
               with_reducible rfl
              rotate_left
              ·simp only [Act.put,List.setIfInBounds_toArray,List.set_cons_zero,List.set_cons_succ,i64_w,i32_w]
               rfl
              refine pure_ (i:=7) (N:=some 67) (v:=?_) (a':=?_) #[true,true,true,true,false,false,false,true,false,false,false,false,false,false,false,false,false,false,false] rfl rfl (any_of HT_.out (by kernel_rfl)) (fun _ _ _ h => h) (Or.inl ⟨by rfl,?_⟩) ?_ ?_
              rotate_left
              ·intro w'
               go_simp
               with_reducible rfl
              rotate_left
              ·simp only [Act.put,List.setIfInBounds_toArray,List.set_cons_zero,List.set_cons_succ,i64_w,i32_w]
               rfl
              refine pure_ (i:=8) (N:=some 68) (v:=?_) (a':=?_) #[true,true,true,true,false,false,false,true,true,false,false,false,false,false,false,false,false,false,false] rfl rfl (any_of HT_.out (by kernel_rfl)) (fun _ _ _ h => h) (Or.inl ⟨by rfl,?_⟩) ?_ ?_
              rotate_left
              ·intro w'
               go_simp
               with_reducible rfl
              rotate_left
              ·simp only [Act.put,List.setIfInBounds_toArray,List.set_cons_zero,List.set_cons_succ,i64_w,i32_w]
               rfl
              refine pure_ (i:=9) (N:=some 69) (v:=?_) (a':=?_) #[true,true,true,true,false,false,false,true,true,true,false,false,false,false,false,false,false,false,false] rfl rfl (any_of HT_.out (by kernel_rfl)) (fun _ _ _ h => h) (Or.inl ⟨by rfl,?_⟩) ?_ ?_
              rotate_left
              ·intro w'
               go_simp
               with_reducible rfl
              rotate_left
              ·simp only [Act.put,List.setIfInBounds_toArray,List.set_cons_zero,List.set_cons_succ,i64_w,i32_w]
               rfl
              refine pure_ (i:=10) (N:=some 70) (v:=?_) (a':=?_) #[true,true,true,true,false,false,false,true,true,true,true,false,false,false,false,false,false,false,false] rfl rfl (any_of HT_.out (by kernel_rfl)) (fun _ _ _ h => h) (Or.inl ⟨by rfl,?_⟩) ?_ ?_
              rotate_left
              ·intro w'
               go_simp
               with_reducible rfl
              rotate_left
              ·simp only [Act.put,List.setIfInBounds_toArray,List.set_cons_zero,List.set_cons_succ,i64_w,i32_w]
               rfl
              refine join_ (σ:=Value × Nat) 2 #[true,true,true,true,true,true,true,true,true,true,true,true,true,true,true,true,true,false,false] (fun s_ => [(64,s_.1),(65,.string (strOfNums y218)),(72,.tuple #[.agg #[.int .i64 t221,.string t222,.int .i64 t223,.int .i64 t224],.int .i64 t225]),(12,.pointer (some ⟨s_.2,0,none⟩)),(66,.string ((t209.extract 0 ((ji31) : Int).toNat) ++ (strOfNums y218))),(71,.string (((t209.extract 0 ((ji31) : Int).toNat) ++ (strOfNums y218)) ++ (t209.extract ((ji35) : Int).toNat t209.size))),(59,.tuple #[.agg #[.int .i64 t221,.string t222,.int .i64 t223,.int .i64 t224],.int .i64 t225]),(73,.agg #[.int .i64 t221,.string t222,.int .i64 t223,.int .i64 t224]),(74,.int .i64 t225)]) (fun s_ w' => (Kd.R (Kd.int .u8) 5 w' w.heap.size (fun _ => True) s_.1 y218) ∧ (w'.heap[gb204]? = some (.cells #[.int .i64 t205,.string t206,.int .i64 t207,.int .i64 t208] 39 (0,0))) ∧ (w'.heap[gb217]? = some (.cells #[.int .i64 t212,.string t213,.int .i64 t214,.int .i64 t215] 39 (0,0))) ∧ (w'.heap[s_.2]? = some (.cells #[.int .i64 0,.string (⟨#[]⟩ : ByteArray),.int .i64 0,.int .i64 0] 39 (0,0))) ∧ (w.heap.size ≤ s_.2) ∧ (w.heap.size ≤ s_.2) ∧ (gb204 ≠ s_.2) ∧ (s_.2 ≠ gb204) ∧ (gb217 ≠ s_.2) ∧ (s_.2 ≠ gb217) ∧ (Below w.heap.size w w')) ?_ ?_
              rotate_left
              ·intro hCont
               refine two_ (i:=4) (j:=16) (Ni:=some 64) (Nj:=some 12) #[true,true,true,true,true,false,false,true,true,true,true,false,false,false,false,false,false,false,false] #[true,true,true,true,false,false,false,true,true,true,true,false,false,false,false,false,true,false,false] rfl rfl rfl rfl (two_of HT_.out (by kernel_rfl)) (by decide) (by decide) (fun K hK => ?_) (fun K hK => ?_)
               ·skip
                refine Kd.R_lit_step (Kd.int .u8) _ 5 ?hg (N:=64) ?hd (xs:=([a2] : List Int)) (inner:=[.int .u8 a2]) (ok:=fun _ => True) (okp:=fun _ => True) ?hr ?hp (fun _ hk => hk) trivial (Below.refl _ _) (Nat.le_refl _) (by simp) ?_;(case hd => rfl);(case hg => rfl);(case hr => first|(go_simp;done)|(go_simp;rfl));(case hp => exact (Reps.one (show Kd.M (Kd.int .u8) _ _ _ a2 [.int .u8 a2] from rfl) (Reps.none _ _)))
                intro v219 w54 ho55 hb hg_ hnew_
                clear hg_ hnew_
                (first|rw [← Ny218.out] at ho55|(simp only [Int.reduceToNat] at ho55;rw [← Ny218.out] at ho55))
                have n0_:=Aside0.mk (Kd.R_lower ho55 (below_size (by repeat (first|(with_reducible first|exact HB.out|apply below_alloc|apply pw_below_drewN|apply below_drew1|refine below_set ?_ GE204.out|refine below_set ?_ GE217.out)|exact HB.out))))
                have n1_:=Aside0.mk (blk_below (g:=gb204) (o:=.cells #[.int .i64 t205,.string t206,.int .i64 t207,.int .i64 t208] 39 (0,0)) (by (with_reducible repeat (first|refine blk_drewN ?_ _|refine blk_drew ?_|refine blk_alloc ?_ _));exact BK204.out) hb)
                have n2_:=Aside0.mk (blk_below (g:=gb217) (o:=.cells #[.int .i64 t212,.string t213,.int .i64 t214,.int .i64 t215] 39 (0,0)) (by (with_reducible repeat (first|refine blk_drewN ?_ _|refine blk_drew ?_|refine blk_alloc ?_ _));exact BK217.out) hb)
                have n3_:=Aside0.mk (below_step (by repeat (first|(with_reducible first|exact HB.out|apply below_alloc|apply pw_below_drewN|apply below_drew1|refine below_set ?_ GE204.out|refine below_set ?_ GE217.out)|exact HB.out)) hb)
                clear BK204
                clear BK217
                clear HB
                have HO220:=n0_
                have BK204:=n1_
                have BK217:=n2_
                have HB:=n3_
                clear n0_ n1_ n2_ n3_
                clear hb ho55
                refine hK.out _ _ trivial (fun hHeld => ?_)
                clear hK K
                refine norm_ (a':=?_) ?_ ?_
                rotate_left
                ·show Act.put _ (some 64) _ = _
                 simp only [Act.put,List.setIfInBounds_toArray,List.set_cons_zero,List.set_cons_succ,i64_w,i32_w]
                 rfl
                refine two_ (i:=5) (j:=16) (Ni:=some 65) (Nj:=some 12) #[true,true,true,true,true,true,false,true,true,true,true,false,false,false,false,false,false,false,false] #[true,true,true,true,true,false,false,true,true,true,true,false,false,false,false,false,true,false,false] rfl rfl rfl rfl (two_of HT_.out (by kernel_rfl)) (by decide) (by decide) (fun K hK => ?_) (fun K hK => ?_)
                ·skip
                 have hcv56:=own_string (P:=Tryd.prog) Tryd.underlying49 Tryd.underlying5 Tryd.underlying9 (Kd.own_of_R HO220.out)
                 refine value_ (w1:=?_) (v:=?_) (by rfl) rfl ?_ ?_
                 rotate_left 2
                 ·go_simp
                  constructor
                  ·rfl
                  ·rfl
                 clear hcv56
                 refine hK.out _ _ trivial (fun hHeld => ?_)
                 clear hK K
                 refine norm_ (a':=?_) ?_ ?_
                 rotate_left
                 ·show Act.put _ (some 65) _ = _
                  simp only [Act.put,List.setIfInBounds_toArray,List.set_cons_zero,List.set_cons_succ,i64_w,i32_w]
                  rfl
                 refine pure_ (i:=6) (N:=some 66) (v:=?_) (a':=?_) #[true,true,true,true,true,true,true,true,true,true,true,false,false,false,false,false,false,false,false] rfl rfl (any_of HT_.out (by kernel_rfl)) (fun _ _ _ h => h) (Or.inl ⟨by rfl,?_⟩) ?_ ?_
                 rotate_left
                 ·intro w'
                  go_simp
                  with_reducible rfl
                 rotate_left
                 ·simp only [Act.put,List.setIfInBounds_toArray,List.set_cons_zero,List.set_cons_succ,i64_w,i32_w]
                  rfl
                 refine pure_ (i:=11) (N:=some 71) (v:=?_) (a':=?_) #[true,true,true,true,true,true,true,true,true,true,true,true,false,false,false,false,false,false,false] rfl rfl (any_of HT_.out (by kernel_rfl)) (fun _ _ _ h => h) (Or.inl ⟨by rfl,?_⟩) ?_ ?_
                 rotate_left
                 ·intro w'
                  go_simp
                  with_reducible rfl
                 rotate_left
                 ·simp only [Act.put,List.setIfInBounds_toArray,List.set_cons_zero,List.set_cons_succ,i64_w,i32_w]
                  rfl
                 refine two_ (i:=12) (j:=16) (Ni:=some 72) (Nj:=some 12) #[true,true,true,true,true,true,true,true,true,true,true,true,true,false,false,false,false,false,false] #[true,true,true,true,true,true,true,true,true,true,true,true,false,false,false,false,true,false,false] rfl rfl rfl rfl (two_of HT_.out (by kernel_rfl)) (by decide) (by decide) (fun K hK => ?_) (fun K hK => ?_)
                 ·skip
                  refine goes_ Tryd.func22 (by kernel_rfl) rfl #[.string (((t209.extract 0 ((ji31) : Int).toNat) ++ (strOfNums y218)) ++ (t209.extract ((ji35) : Int).toNat t209.size))] (by rfl) rfl rfl (by (try simp only [List.map_toArray,List.map_cons,List.map_nil]);first|done|(simp only [hji31,hji35];rfl)|rfl|(simp only [List.length_drop,List.length_take];rfl)) ?_
                  with_reducible refine (ticket_Open.calls (((t209.extract 0 ((ji31) : Int).toNat) ++ (strOfNums y218)) ++ (t209.extract ((ji35) : Int).toNat t209.size)) t221 t222 t223 t224 t225 _ ?side1 A39.out).mono ?_
                  (case side1 => first|exact HGCr.out|exact GlobCr.below HGCr.out (by repeat (first|(with_reducible first|exact HB.out|apply below_alloc|apply pw_below_drewN|apply below_drew1|refine below_set ?_ GE204.out|refine below_set ?_ GE217.out)|exact HB.out))|exact GlobCr.drawn HGCr.out (by repeat (first|exact Drawn0.refl _|apply Drawn0.step)))
                  rintro e w57 ⟨rfl,hb⟩
                  refine ⟨_,rfl,?_⟩
                  have n0_:=Aside0.mk (Kd.R_below (by (with_reducible repeat (first|apply Kd.R_alloc|apply Kd.R_drewN|apply Kd.R_drew));exact HO220.out) hb)
                  have n1_:=Aside0.mk (blk_below (g:=gb204) (o:=.cells #[.int .i64 t205,.string t206,.int .i64 t207,.int .i64 t208] 39 (0,0)) (by (with_reducible repeat (first|refine blk_drewN ?_ _|refine blk_drew ?_|refine blk_alloc ?_ _));exact BK204.out) hb)
                  have n2_:=Aside0.mk (blk_below (g:=gb217) (o:=.cells #[.int .i64 t212,.string t213,.int .i64 t214,.int .i64 t215] 39 (0,0)) (by (with_reducible repeat (first|refine blk_drewN ?_ _|refine blk_drew ?_|refine blk_alloc ?_ _));exact BK217.out) hb)
                  have n3_:=Aside0.mk (below_step (by repeat (first|(with_reducible first|exact HB.out|apply below_alloc|apply pw_below_drewN|apply below_drew1|refine below_set ?_ GE204.out|refine below_set ?_ GE217.out)|exact HB.out)) hb)
                  clear HO220
                  clear BK204
                  clear BK217
                  clear HB
                  have HO220:=n0_
                  have BK204:=n1_
                  have BK217:=n2_
                  have HB:=n3_
                  clear n0_ n1_ n2_ n3_
                  (try clear hb)
                  (try clear hb2)
                  (try clear hk)
                  (try clear hi)
                  refine hK.out _ _ trivial (fun hHeld => ?_)
                  clear hK K
                  refine norm_ (a':=?_) ?_ ?_
                  rotate_left
                  ·show Act.put _ (some 72) _ = _
                   simp only [Act.put,List.setIfInBounds_toArray,List.set_cons_zero,List.set_cons_succ,i64_w,i32_w]
                   rfl
                  refine pure_ (i:=13) (N:=some 59) (v:=?_) (a':=?_) #[true,true,true,true,true,true,true,true,true,true,true,true,true,true,false,false,false,false,false] rfl rfl (any_of HT_.out (by kernel_rfl)) (fun _ _ _ h => h) (Or.inl ⟨by rfl,?_⟩) ?_ ?_
                  rotate_left
                  ·intro w'
                   go_simp
                   with_reducible rfl
                  rotate_left
                  ·simp only [Act.put,List.setIfInBounds_toArray,List.set_cons_zero,List.set_cons_succ,i64_w,i32_w]
                   rfl
                  refine pure_ (i:=14) (N:=some 73) (v:=?_) (a':=?_) #[true,true,true,true,true,true,true,true,true,true,true,true,true,true,true,false,false,false,false] rfl rfl (any_of HT_.out (by kernel_rfl)) (fun _ _ _ h => h) (Or.inl ⟨by rfl,?_⟩) ?_ ?_
                  rotate_left
                  ·intro w'
                   go_simp
                   with_reducible rfl
                  rotate_left
                  ·simp only [Act.put,List.setIfInBounds_toArray,List.set_cons_zero,List.set_cons_succ,i64_w,i32_w]
                   rfl
                  refine pure_ (i:=15) (N:=some 74) (v:=?_) (a':=?_) #[true,true,true,true,true,true,true,true,true,true,true,true,true,true,true,true,false,false,false] rfl rfl (any_of HT_.out (by kernel_rfl)) (fun _ _ _ h => h) (Or.inl ⟨by rfl,?_⟩) ?_ ?_
                  rotate_left
                  ·intro w'
                   go_simp
                   with_reducible rfl
                  rotate_left
                  ·simp only [Act.put,List.setIfInBounds_toArray,List.set_cons_zero,List.set_cons_succ,i64_w,i32_w]
                   rfl
                  refine one_ (i:=16) (N:=some 12) #[true,true,true,true,true,true,true,true,true,true,true,true,true,true,true,true,true,false,false] rfl rfl (one_of HT_.out (by kernel_rfl)) (by decide) (fun K hK => ?_)
                  refine box_step ?hg (N:=12) ?hd (cs:=#[.int .i64 0,.string (⟨#[]⟩ : ByteArray),.int .i64 0,.int .i64 0]) (t:=39) ?hr ?_;(case hd => rfl);(case hg => rfl);(case hr => first|(go_simp;done)|(go_simp;rfl))
                  intro gb226 hg w58 hbox hb
                  have n0_:=Aside0.mk (Kd.R_below (by (with_reducible repeat (first|apply Kd.R_alloc|apply Kd.R_drewN|apply Kd.R_drew));exact HO220.out) hb)
                  have n1_:=Aside0.mk (blk_below (g:=gb204) (o:=.cells #[.int .i64 t205,.string t206,.int .i64 t207,.int .i64 t208] 39 (0,0)) (by (with_reducible repeat (first|refine blk_drewN ?_ _|refine blk_drew ?_|refine blk_alloc ?_ _));exact BK204.out) hb)
                  have n2_:=Aside0.mk (blk_below (g:=gb217) (o:=.cells #[.int .i64 t212,.string t213,.int .i64 t214,.int .i64 t215] 39 (0,0)) (by (with_reducible repeat (first|refine blk_drewN ?_ _|refine blk_drew ?_|refine blk_alloc ?_ _));exact BK217.out) hb)
                  have n3_:=Aside0.mk (below_step (by repeat (first|(with_reducible first|exact HB.out|apply below_alloc|apply pw_below_drewN|apply below_drew1|refine below_set ?_ GE204.out|refine below_set ?_ GE217.out)|exact HB.out)) hb)
                  have n4_:=Aside0.mk (hbox)
                  have n5_:=Aside0.mk ((by rw [hg];exact (below_size (by repeat (first|(with_reducible first|exact HB.out|apply below_alloc|apply pw_below_drewN|apply below_drew1|refine below_set ?_ GE204.out|refine below_set ?_ GE217.out)|exact HB.out))) : w.heap.size ≤ gb226))
                  have n6_:=Aside0.mk ((by rw [hg];exact (below_size (by repeat (first|(with_reducible first|exact HB.out|apply below_alloc|apply pw_below_drewN|apply below_drew1|refine below_set ?_ GE204.out|refine below_set ?_ GE217.out)|exact HB.out))) : w.heap.size ≤ gb226))
                  have n7_:=Aside0.mk ((by rw [hg];exact Nat.ne_of_lt (blk_lt (g:=gb204) (o:=.cells #[.int .i64 t205,.string t206,.int .i64 t207,.int .i64 t208] 39 (0,0)) (by (with_reducible repeat (first|refine blk_drewN ?_ _|refine blk_drew ?_|refine blk_alloc ?_ _));exact BK204.out)) : gb204 ≠ gb226))
                  have n8_:=Aside0.mk ((by rw [hg];exact Nat.ne_of_gt (blk_lt (g:=gb204) (o:=.cells #[.int .i64 t205,.string t206,.int .i64 t207,.int .i64 t208] 39 (0,0)) (by (with_reducible repeat (first|refine blk_drewN ?_ _|refine blk_drew ?_|refine blk_alloc ?_ _));exact BK204.out)) : gb226 ≠ gb204))
                  have n9_:=Aside0.mk ((by rw [hg];exact Nat.ne_of_lt (blk_lt (g:=gb217) (o:=.cells #[.int .i64 t212,.string t213,.int .i64 t214,.int .i64 t215] 39 (0,0)) (by (with_reducible repeat (first|refine blk_drewN ?_ _|refine blk_drew ?_|refine blk_alloc ?_ _));exact BK217.out)) : gb217 ≠ gb226))
                  have n10_:=Aside0.mk ((by rw [hg];exact Nat.ne_of_gt (blk_lt (g:=gb217) (o:=.cells #[.int .i64 t212,.string t213,.int .i64 t214,.int .i64 t215] 39 (0,0)) (by (with_reducible repeat (first|refine blk_drewN ?_ _|refine blk_drew ?_|refine blk_alloc ?_ _));exact BK217.out)) : gb226 ≠ gb217))
                  clear HO220
                  clear BK204
                  clear BK217
                  clear HB
                  have HO220:=n0_
                  have BK204:=n1_
                  have BK217:=n2_
                  have HB:=n3_
                  have BK226:=n4_
                  have GW226:=n5_
                  have GE226:=n6_
                  have NB204_226:=n7_
                  have NB226_204:=n8_
                  have NB217_226:=n9_
                  have NB226_217:=n10_
                  clear n0_ n1_ n2_ n3_ n4_ n5_ n6_ n7_ n8_ n9_ n10_
                  clear hb hbox hg
                  refine hK.out _ _ trivial (fun hHeld => ?_)
                  clear hK K
                  refine norm_ (a':=?_) ?_ ?_
                  rotate_left
                  ·show Act.put _ (some 12) _ = _
                   simp only [Act.put,List.setIfInBounds_toArray,List.set_cons_zero,List.set_cons_succ,i64_w,i32_w]
                   rfl
                  exact norm_ (by simp only [putAll,Act.put,List.setIfInBounds_toArray,List.set_cons_zero,List.set_cons_succ]) (hCont (v219,gb226) _ ⟨(by (with_reducible repeat (first|apply Kd.R_alloc|apply Kd.R_drewN|apply Kd.R_drew));exact HO220.out),(by (with_reducible repeat (first|refine blk_drewN ?_ _|refine blk_drew ?_|refine blk_alloc ?_ _));exact BK204.out),(by (with_reducible repeat (first|refine blk_drewN ?_ _|refine blk_drew ?_|refine blk_alloc ?_ _));exact BK217.out),(by (with_reducible repeat (first|refine blk_drewN ?_ _|refine blk_drew ?_|refine blk_alloc ?_ _));exact BK226.out),GW226.out,GE226.out,NB204_226.out,NB226_204.out,NB217_226.out,NB226_217.out,(by repeat (first|(with_reducible first|exact HB.out|apply below_alloc|apply pw_below_drewN|apply below_drew1|refine below_set ?_ GE204.out|refine below_set ?_ GE217.out|refine below_set ?_ GE226.out)|exact HB.out))⟩)
                 ·skip
                  refine box_step ?hg (N:=12) ?hd (cs:=#[.int .i64 0,.string (⟨#[]⟩ : ByteArray),.int .i64 0,.int .i64 0]) (t:=39) ?hr ?_;(case hd => rfl);(case hg => rfl);(case hr => first|(go_simp;done)|(go_simp;rfl))
                  intro gb226 hg w57 hbox hb
                  have n0_:=Aside0.mk (Kd.R_below (by (with_reducible repeat (first|apply Kd.R_alloc|apply Kd.R_drewN|apply Kd.R_drew));exact HO220.out) hb)
                  have n1_:=Aside0.mk (blk_below (g:=gb204) (o:=.cells #[.int .i64 t205,.string t206,.int .i64 t207,.int .i64 t208] 39 (0,0)) (by (with_reducible repeat (first|refine blk_drewN ?_ _|refine blk_drew ?_|refine blk_alloc ?_ _));exact BK204.out) hb)
                  have n2_:=Aside0.mk (blk_below (g:=gb217) (o:=.cells #[.int .i64 t212,.string t213,.int .i64 t214,.int .i64 t215] 39 (0,0)) (by (with_reducible repeat (first|refine blk_drewN ?_ _|refine blk_drew ?_|refine blk_alloc ?_ _));exact BK217.out) hb)
                  have n3_:=Aside0.mk (below_step (by repeat (first|(with_reducible first|exact HB.out|apply below_alloc|apply pw_below_drewN|apply below_drew1|refine below_set ?_ GE204.out|refine below_set ?_ GE217.out)|exact HB.out)) hb)
                  have n4_:=Aside0.mk (hbox)
                  have n5_:=Aside0.mk ((by rw [hg];exact (below_size (by repeat (first|(with_reducible first|exact HB.out|apply below_alloc|apply pw_below_drewN|apply below_drew1|refine below_set ?_ GE204.out|refine below_set ?_ GE217.out)|exact HB.out))) : w.heap.size ≤ gb226))
                  have n6_:=Aside0.mk ((by rw [hg];exact (below_size (by repeat (first|(with_reducible first|exact HB.out|apply below_alloc|apply pw_below_drewN|apply below_drew1|refine below_set ?_ GE204.out|refine below_set ?_ GE217.out)|exact HB.out))) : w.heap.size ≤ gb226))
                  have n7_:=Aside0.mk ((by rw [hg];exact Nat.ne_of_lt (blk_lt (g:=gb204) (o:=.cells #[.int .i64 t205,.string t206,.int .i64 t207,.int .i64 t208] 39 (0,0)) (by (with_reducible repeat (first|refine blk_drewN ?_ _|refine blk_drew ?_|refine blk_alloc ?_ _));exact BK204.out)) : gb204 ≠ gb226))
                  have n8_:=Aside0.mk ((by rw [hg];exact Nat.ne_of_gt (blk_lt (g:=gb204) (o:=.cells #[.int .i64 t205,.string t206,.int .i64 t207,.int .i64 t208] 39 (0,0)) (by (with_reducible repeat (first|refine blk_drewN ?_ _|refine blk_drew ?_|refine blk_alloc ?_ _));exact BK204.out)) : gb226 ≠ gb204))
                  have n9_:=Aside0.mk ((by rw [hg];exact Nat.ne_of_lt (blk_lt (g:=gb217) (o:=.cells #[.int .i64 t212,.string t213,.int .i64 t214,.int .i64 t215] 39 (0,0)) (by (with_reducible repeat (first|refine blk_drewN ?_ _|refine blk_drew ?_|refine blk_alloc ?_ _));exact BK217.out)) : gb217 ≠ gb226))
                  have n10_:=Aside0.mk ((by rw [hg];exact Nat.ne_of_gt (blk_lt (g:=gb217) (o:=.cells #[.int .i64 t212,.string t213,.int .i64 t214,.int .i64 t215] 39 (0,0)) (by (with_reducible repeat (first|refine blk_drewN ?_ _|refine blk_drew ?_|refine blk_alloc ?_ _));exact BK217.out)) : gb226 ≠ gb217))
                  clear HO220
                  clear BK204
                  clear BK217
                  clear HB
                  have HO220:=n0_
                  have BK204:=n1_
                  have BK217:=n2_
                  have HB:=n3_
                  have BK226:=n4_
                  have GW226:=n5_
                  have GE226:=n6_
                  have NB204_226:=n7_
                  have NB226_204:=n8_
                  have NB217_226:=n9_
                  have NB226_217:=n10_
                  clear n0_ n1_ n2_ n3_ n4_ n5_ n6_ n7_ n8_ n9_ n10_
                  clear hb hbox hg
                  refine hK.out _ _ trivial (fun hHeld => ?_)
                  clear hK K
                  refine norm_ (a':=?_) ?_ ?_
                  rotate_left
                  ·show Act.put _ (some 12) _ = _
                   simp only [Act.put,List.setIfInBounds_toArray,List.set_cons_zero,List.set_cons_succ,i64_w,i32_w]
                   rfl
                  refine one_ (i:=12) (N:=some 72) #[true,true,true,true,true,true,true,true,true,true,true,true,true,false,false,false,true,false,false] rfl rfl (one_of HT_.out (by kernel_rfl)) (by decide) (fun K hK => ?_)
                  refine goes_ Tryd.func22 (by kernel_rfl) rfl #[.string (((t209.extract 0 ((ji31) : Int).toNat) ++ (strOfNums y218)) ++ (t209.extract ((ji35) : Int).toNat t209.size))] (by rfl) rfl rfl (by (try simp only [List.map_toArray,List.map_cons,List.map_nil]);first|done|(simp only [hji31,hji35];rfl)|rfl|(simp only [List.length_drop,List.length_take];rfl)) ?_
                  with_reducible refine (ticket_Open.calls (((t209.extract 0 ((ji31) : Int).toNat) ++ (strOfNums y218)) ++ (t209.extract ((ji35) : Int).toNat t209.size)) t221 t222 t223 t224 t225 _ ?side1 A39.out).mono ?_
                  (case side1 => first|exact HGCr.out|exact GlobCr.below HGCr.out (by repeat (first|(with_reducible first|exact HB.out|apply below_alloc|apply pw_below_drewN|apply below_drew1|refine below_set ?_ GE204.out|refine below_set ?_ GE217.out|refine below_set ?_ GE226.out)|exact HB.out))|exact GlobCr.drawn HGCr.out (by repeat (first|exact Drawn0.refl _|apply Drawn0.step)))
                  rintro e w58 ⟨rfl,hb⟩
                  refine ⟨_,rfl,?_⟩
                  have n0_:=Aside0.mk (Kd.R_below (by (with_reducible repeat (first|apply Kd.R_alloc|apply Kd.R_drewN|apply Kd.R_drew));exact HO220.out) hb)
                  have n1_:=Aside0.mk (blk_below (g:=gb204) (o:=.cells #[.int .i64 t205,.string t206,.int .i64 t207,.int .i64 t208] 39 (0,0)) (by (with_reducible repeat (first|refine blk_drewN ?_ _|refine blk_drew ?_|refine blk_alloc ?_ _));exact BK204.out) hb)
                  have n2_:=Aside0.mk (blk_below (g:=gb217) (o:=.cells #[.int .i64 t212,.string t213,.int .i64 t214,.int .i64 t215] 39 (0,0)) (by (with_reducible repeat (first|refine blk_drewN ?_ _|refine blk_drew ?_|refine blk_alloc ?_ _));exact BK217.out) hb)
                  have n3_:=Aside0.mk (blk_below (g:=gb226) (o:=.cells #[.int .i64 0,.string (⟨#[]⟩ : ByteArray),.int .i64 0,.int .i64 0] 39 (0,0)) (by (with_reducible repeat (first|refine blk_drewN ?_ _|refine blk_drew ?_|refine blk_alloc ?_ _));exact BK226.out) hb)
                  have n4_:=Aside0.mk (below_step (by repeat (first|(with_reducible first|exact HB.out|apply below_alloc|apply pw_below_drewN|apply below_drew1|refine below_set ?_ GE204.out|refine below_set ?_ GE217.out|refine below_set ?_ GE226.out)|exact HB.out)) hb)
                  clear HO220
                  clear BK204
                  clear BK217
                  clear BK226
                  clear HB
                  have HO220:=n0_
                  have BK204:=n1_
                  have BK217:=n2_
                  have BK226:=n3_
                  have HB:=n4_
                  clear n0_ n1_ n2_ n3_ n4_
                  (try clear hb)
                  (try clear hb2)
                  (try clear hk)
                  (try clear hi)
                  refine hK.out _ _ trivial (fun hHeld => ?_)
                  clear hK K
                  refine norm_ (a':=?_) ?_ ?_
                  rotate_left
                  ·show Act.put _ (some 72) _ = _
                   simp only [Act.put,List.setIfInBounds_toArray,List.set_cons_zero,List.set_cons_succ,i64_w,i32_w]
                   rfl
                  refine pure_ (i:=13) (N:=some 59) (v:=?_) (a':=?_) #[true,true,true,true,true,true,true,true,true,true,true,true,true,true,false,false,true,false,false] rfl rfl (any_of HT_.out (by kernel_rfl)) (fun _ _ _ h => h) (Or.inl ⟨by rfl,?_⟩) ?_ ?_
                  rotate_left
                  ·intro w'
                   go_simp
                   with_reducible rfl
                  rotate_left
                  ·simp only [Act.put,List.setIfInBounds_toArray,List.set_cons_zero,List.set_cons_succ,i64_w,i32_w]
                   rfl
                  refine pure_ (i:=14) (N:=some 73) (v:=?_) (a':=?_) #[true,true,true,true,true,true,true,true,true,true,true,true,true,true,true,false,true,false,false] rfl rfl (any_of HT_.out (by kernel_rfl)) (fun _ _ _ h => h) (Or.inl ⟨by rfl,?_⟩) ?_ ?_
                  rotate_left
                  ·intro w'
                   go_simp
                   with_reducible rfl
                  rotate_left
                  ·simp only [Act.put,List.setIfInBounds_toArray,List.set_cons_zero,List.set_cons_succ,i64_w,i32_w]
                   rfl
                  refine pure_ (i:=15) (N:=some 74) (v:=?_) (a':=?_) #[true,true,true,true,true,true,true,true,true,true,true,true,true,true,true,true,true,false,false] rfl rfl (any_of HT_.out (by kernel_rfl)) (fun _ _ _ h => h) (Or.inl ⟨by rfl,?_⟩) ?_ ?_
                  rotate_left
                  ·intro w'
                   go_simp
                   with_reducible rfl
                  rotate_left
                  ·simp only [Act.put,List.setIfInBounds_toArray,List.set_cons_zero,List.set_cons_succ,i64_w,i32_w]
                   rfl
                  exact norm_ (by simp only [putAll,Act.put,List.setIfInBounds_toArray,List.set_cons_zero,List.set_cons_succ]) (hCont (v219,gb226) _ ⟨(by (with_reducible repeat (first|apply Kd.R_alloc|apply Kd.R_drewN|apply Kd.R_drew));exact HO220.out),(by (with_reducible repeat (first|refine blk_drewN ?_ _|refine blk_drew ?_|refine blk_alloc ?_ _));exact BK204.out),(by (with_reducible repeat (first|refine blk_drewN ?_ _|refine blk_drew ?_|refine blk_alloc ?_ _));exact BK217.out),(by (with_reducible repeat (first|refine blk_drewN ?_ _|refine blk_drew ?_|refine blk_alloc ?_ _));exact BK226.out),GW226.out,GE226.out,NB204_226.out,NB226_204.out,NB217_226.out,NB226_217.out,(by repeat (first|(with_reducible first|exact HB.out|apply below_alloc|apply pw_below_drewN|apply below_drew1|refine below_set ?_ GE204.out|refine below_set ?_ GE217.out|refine below_set ?_ GE226.out)|exact HB.out))⟩)
                ·skip
                 refine box_step ?hg (N:=12) ?hd (cs:=#[.int .i64 0,.string (⟨#[]⟩ : ByteArray),.int .i64 0,.int .i64 0]) (t:=39) ?hr ?_;(case hd => rfl);(case hg => rfl);(case hr => first|(go_simp;done)|(go_simp;rfl))
                 intro gb226 hg w56 hbox hb
                 have n0_:=Aside0.mk (Kd.R_below (by (with_reducible repeat (first|apply Kd.R_alloc|apply Kd.R_drewN|apply Kd.R_drew));exact HO220.out) hb)
                 have n1_:=Aside0.mk (blk_below (g:=gb204) (o:=.cells #[.int .i64 t205,.string t206,.int .i64 t207,.int .i64 t208] 39 (0,0)) (by (with_reducible repeat (first|refine blk_drewN ?_ _|refine blk_drew ?_|refine blk_alloc ?_ _));exact BK204.out) hb)
                 have n2_:=Aside0.mk (blk_below (g:=gb217) (o:=.cells #[.int .i64 t212,.string t213,.int .i64 t214,.int .i64 t215] 39 (0,0)) (by (with_reducible repeat (first|refine blk_drewN ?_ _|refine blk_drew ?_|refine blk_alloc ?_ _));exact BK217.out) hb)
                 have n3_:=Aside0.mk (below_step (by repeat (first|(with_reducible first|exact HB.out|apply below_alloc|apply pw_below_drewN|apply below_drew1|refine below_set ?_ GE204.out|refine below_set ?_ GE217.out)|exact HB.out)) hb)
                 have n4_:=Aside0.mk (hbox)
                 have n5_:=Aside0.mk ((by rw [hg];exact (below_size (by repeat (first|(with_reducible first|exact HB.out|apply below_alloc|apply pw_below_drewN|apply below_drew1|refine below_set ?_ GE204.out|refine below_set ?_ GE217.out)|exact HB.out))) : w.heap.size ≤ gb226))
                 have n6_:=Aside0.mk ((by rw [hg];exact (below_size (by repeat (first|(with_reducible first|exact HB.out|apply below_alloc|apply pw_below_drewN|apply below_drew1|refine below_set ?_ GE204.out|refine below_set ?_ GE217.out)|exact HB.out))) : w.heap.size ≤ gb226))
                 have n7_:=Aside0.mk ((by rw [hg];exact Nat.ne_of_lt (blk_lt (g:=gb204) (o:=.cells #[.int .i64 t205,.string t206,.int .i64 t207,.int .i64 t208] 39 (0,0)) (by (with_reducible repeat (first|refine blk_drewN ?_ _|refine blk_drew ?_|refine blk_alloc ?_ _));exact BK204.out)) : gb204 ≠ gb226))
                 have n8_:=Aside0.mk ((by rw [hg];exact Nat.ne_of_gt (blk_lt (g:=gb204) (o:=.cells #[.int .i64 t205,.string t206,.int .i64 t207,.int .i64 t208] 39 (0,0)) (by (with_reducible repeat (first|refine blk_drewN ?_ _|refine blk_drew ?_|refine blk_alloc ?_ _));exact BK204.out)) : gb226 ≠ gb204))
                 have n9_:=Aside0.mk ((by rw [hg];exact Nat.ne_of_lt (blk_lt (g:=gb217) (o:=.cells #[.int .i64 t212,.string t213,.int .i64 t214,.int .i64 t215] 39 (0,0)) (by (with_reducible repeat (first|refine blk_drewN ?_ _|refine blk_drew ?_|refine blk_alloc ?_ _));exact BK217.out)) : gb217 ≠ gb226))
                 have n10_:=Aside0.mk ((by rw [hg];exact Nat.ne_of_gt (blk_lt (g:=gb217) (o:=.cells #[.int .i64 t212,.string t213,.int .i64 t214,.int .i64 t215] 39 (0,0)) (by (with_reducible repeat (first|refine blk_drewN ?_ _|refine blk_drew ?_|refine blk_alloc ?_ _));exact BK217.out)) : gb226 ≠ gb217))
                 clear HO220
                 clear BK204
                 clear BK217
                 clear HB
                 have HO220:=n0_
                 have BK204:=n1_
                 have BK217:=n2_
                 have HB:=n3_
                 have BK226:=n4_
                 have GW226:=n5_
                 have GE226:=n6_
                 have NB204_226:=n7_
                 have NB226_204:=n8_
                 have NB217_226:=n9_
                 have NB226_217:=n10_
                 clear n0_ n1_ n2_ n3_ n4_ n5_ n6_ n7_ n8_ n9_ n10_
                 clear hb hbox hg
                 refine hK.out _ _ trivial (fun hHeld => ?_)
                 clear hK K
                 refine norm_ (a':=?_) ?_ ?_
                 rotate_left
                 ·show Act.put _ (some 12) _ = _
                  simp only [Act.put,List.setIfInBounds_toArray,List.set_cons_zero,List.set_cons_succ,i64_w,i32_w]
                  rfl
                 refine one_ (i:=5) (N:=some 65) #[true,true,true,true,true,true,false,true,true,true,true,false,false,false,false,false,true,false,false] rfl rfl (one_of HT_.out (by kernel_rfl)) (by decide) (fun K hK => ?_)
                 have hcv57:=own_string (P:=Tryd.prog) Tryd.underlying49 Tryd.underlying5 Tryd.underlying9 (Kd.own_of_R HO220.out)
                 refine value_ (w1:=?_) (v:=?_) (by rfl) rfl ?_ ?_
                 rotate_left 2
                 ·go_simp
                  constructor
                  ·rfl
                  ·rfl
                 clear hcv57
                 refine hK.out _ _ trivial (fun hHeld => ?_)
                 clear hK K
                 refine norm_ (a':=?_) ?_ ?_
                 rotate_left
                 ·show Act.put _ (some 65) _ = _
                  simp only [Act.put,List.setIfInBounds_toArray,List.set_cons_zero,List.set_cons_succ,i64_w,i32_w]
                  rfl
                 refine pure_ (i:=6) (N:=some 66) (v:=?_) (a':=?_) #[true,true,true,true,true,true,true,true,true,true,true,false,false,false,false,false,true,false,false] rfl rfl (any_of HT_.out (by kernel_rfl)) (fun _ _ _ h => h) (Or.inl ⟨by rfl,?_⟩) ?_ ?_
                 rotate_left
                 ·intro w'
                  go_simp
                  with_reducible rfl
                 rotate_left
                 ·simp only [Act.put,List.setIfInBounds_toArray,List.set_cons_zero,List.set_cons_succ,i64_w,i32_w]
                  rfl
                 refine pure_ (i:=11) (N:=some 71) (v:=?_) (a':=?_) #[true,true,true,true,true,true,true,true,true,true,true,true,false,false,false,false,true,false,false] rfl rfl (any_of HT_.out (by kernel_rfl)) (fun _ _ _ h => h) (Or.inl ⟨by rfl,?_⟩) ?_ ?_
                 rotate_left
                 ·intro w'
                  go_simp
                  with_reducible rfl
                 rotate_left
                 ·simp only [Act.put,List.setIfInBounds_toArray,List.set_cons_zero,List.set_cons_succ,i64_w,i32_w]
                  rfl
                 refine one_ (i:=12) (N:=some 72) #[true,true,true,true,true,true,true,true,true,true,true,true,true,false,false,false,true,false,false] rfl rfl (one_of HT_.out (by kernel_rfl)) (by decide) (fun K hK => ?_)
                 refine goes_ Tryd.func22 (by kernel_rfl) rfl #[.string (((t209.extract 0 ((ji31) : Int).toNat) ++ (strOfNums y218)) ++ (t209.extract ((ji35) : Int).toNat t209.size))] (by rfl) rfl rfl (by (try simp only [List.map_toArray,List.map_cons,List.map_nil]);first|done|(simp only [hji31,hji35];rfl)|rfl|(simp only [List.length_drop,List.length_take];rfl)) ?_
                 with_reducible refine (ticket_Open.calls (((t209.extract 0 ((ji31) : Int).toNat) ++ (strOfNums y218)) ++ (t209.extract ((ji35) : Int).toNat t209.size)) t221 t222 t223 t224 t225 _ ?side1 A39.out).mono ?_
                 (case side1 => first|exact HGCr.out|exact GlobCr.below HGCr.out (by repeat (first|(with_reducible first|exact HB.out|apply below_alloc|apply pw_below_drewN|apply below_drew1|refine below_set ?_ GE204.out|refine below_set ?_ GE217.out|refine below_set ?_ GE226.out)|exact HB.out))|exact GlobCr.drawn HGCr.out (by repeat (first|exact Drawn0.refl _|apply Drawn0.step)))
                 rintro e w58 ⟨rfl,hb⟩
                 refine ⟨_,rfl,?_⟩
                 have n0_:=Aside0.mk (Kd.R_below (by (with_reducible repeat (first|apply Kd.R_alloc|apply Kd.R_drewN|apply Kd.R_drew));exact HO220.out) hb)
                 have n1_:=Aside0.mk (blk_below (g:=gb204) (o:=.cells #[.int .i64 t205,.string t206,.int .i64 t207,.int .i64 t208] 39 (0,0)) (by (with_reducible repeat (first|refine blk_drewN ?_ _|refine blk_drew ?_|refine blk_alloc ?_ _));exact BK204.out) hb)
                 have n2_:=Aside0.mk (blk_below (g:=gb217) (o:=.cells #[.int .i64 t212,.string t213,.int .i64 t214,.int .i64 t215] 39 (0,0)) (by (with_reducible repeat (first|refine blk_drewN ?_ _|refine blk_drew ?_|refine blk_alloc ?_ _));exact BK217.out) hb)
                 have n3_:=Aside0.mk (blk_below (g:=gb226) (o:=.cells #[.int .i64 0,.string (⟨#[]⟩ : ByteArray),.int .i64 0,.int .i64 0] 39 (0,0)) (by (with_reducible repeat (first|refine blk_drewN ?_ _|refine blk_drew ?_|refine blk_alloc ?_ _));exact BK226.out) hb)
                 have n4_:=Aside0.mk (below_step (by repeat (first|(with_reducible first|exact HB.out|apply below_alloc|apply pw_below_drewN|apply below_drew1|refine below_set ?_ GE204.out|refine below_set ?_ GE217.out|refine below_set ?_ GE226.out)|exact HB.out)) hb)
                 clear HO220
                 clear BK204
                 clear BK217
                 clear BK226
                 clear HB
                 have HO220:=n0_
                 have BK204:=n1_
                 have BK217:=n2_
                 have BK226:=n3_
                 have HB:=n4_
                 clear n0_ n1_ n2_ n3_ n4_
                 (try clear hb)
                 (try clear hb2)
                 (try clear hk)
                 (try clear hi)
                 refine hK.out _ _ trivial (fun hHeld => ?_)
                 clear hK K
                 refine norm_ (a':=?_) ?_ ?_
                 rotate_left
                 ·show Act.put _ (some 72) _ = _
                  simp only [Act.put,List.setIfInBounds_toArray,List.set_cons_zero,List.set_cons_succ,i64_w,i32_w]
                  rfl
                 refine pure_ (i:=13) (N:=some 59) (v:=?_) (a':=?_) #[true,true,true,true,true,true,true,true,true,true,true,true,true,true,false,false,true,false,false] rfl rfl (any_of HT_.out (by kernel_rfl)) (fun _ _ _ h => h) (Or.inl ⟨by rfl,?_⟩) ?_ ?_
                 rotate_left
                 ·intro w'
                  go_simp
                  with_reducible rfl
                 rotate_left
                 ·simp only [Act.put,List.setIfInBounds_toArray,List.set_cons_zero,List.set_cons_succ,i64_w,i32_w]
                  rfl
                 refine pure_ (i:=14) (N:=some 73) (v:=?_) (a':=?_) #[true,true,true,true,true,true,true,true,true,true,true,true,true,true,true,false,true,false,false] rfl rfl (any_of HT_.out (by kernel_rfl)) (fun _ _ _ h => h) (Or.inl ⟨by rfl,?_⟩) ?_ ?_
                 rotate_left
                 ·intro w'
                  go_simp
                  with_reducible rfl
                 rotate_left
                 ·simp only [Act.put,List.setIfInBounds_toArray,List.set_cons_zero,List.set_cons_succ,i64_w,i32_w]
                  rfl
                 refine pure_ (i:=15) (N:=some 74) (v:=?_) (a':=?_) #[true,true,true,true,true,true,true,true,true,true,true,true,true,true,true,true,true,false,false] rfl rfl (any_of HT_.out (by kernel_rfl)) (fun _ _ _ h => h) (Or.inl ⟨by rfl,?_⟩) ?_ ?_
                 rotate_left
                 ·intro w'
                  go_simp
                  with_reducible rfl
                 rotate_left
                 ·simp only [Act.put,List.setIfInBounds_toArray,List.set_cons_zero,List.set_cons_succ,i64_w,i32_w]
                  rfl
                 exact norm_ (by simp only [putAll,Act.put,List.setIfInBounds_toArray,List.set_cons_zero,List.set_cons_succ]) (hCont (v219,gb226) _ ⟨(by (with_reducible repeat (first|apply Kd.R_alloc|apply Kd.R_drewN|apply Kd.R_drew));exact HO220.out),(by (with_reducible repeat (first|refine blk_drewN ?_ _|refine blk_drew ?_|refine blk_alloc ?_ _));exact BK204.out),(by (with_reducible repeat (first|refine blk_drewN ?_ _|refine blk_drew ?_|refine blk_alloc ?_ _));exact BK217.out),(by (with_reducible repeat (first|refine blk_drewN ?_ _|refine blk_drew ?_|refine blk_alloc ?_ _));exact BK226.out),GW226.out,GE226.out,NB204_226.out,NB226_204.out,NB217_226.out,NB226_217.out,(by repeat (first|(with_reducible first|exact HB.out|apply below_alloc|apply pw_below_drewN|apply below_drew1|refine below_set ?_ GE204.out|refine below_set ?_ GE217.out|refine below_set ?_ GE226.out)|exact HB.out))⟩)
               ·skip
                refine box_step ?hg (N:=12) ?hd (cs:=#[.int .i64 0,.string (⟨#[]⟩ : ByteArray),.int .i64 0,.int .i64 0]) (t:=39) ?hr ?_;(case hd => rfl);(case hg => rfl);(case hr => first|(go_simp;done)|(go_simp;rfl))
                intro gb226 hg w54 hbox hb
                have n0_:=Aside0.mk (blk_below (g:=gb204) (o:=.cells #[.int .i64 t205,.string t206,.int .i64 t207,.int .i64 t208] 39 (0,0)) (by (with_reducible repeat (first|refine blk_drewN ?_ _|refine blk_drew ?_|refine blk_alloc ?_ _));exact BK204.out) hb)
                have n1_:=Aside0.mk (blk_below (g:=gb217) (o:=.cells #[.int .i64 t212,.string t213,.int .i64 t214,.int .i64 t215] 39 (0,0)) (by (with_reducible repeat (first|refine blk_drewN ?_ _|refine blk_drew ?_|refine blk_alloc ?_ _));exact BK217.out) hb)
                have n2_:=Aside0.mk (below_step (by repeat (first|(with_reducible first|exact HB.out|apply below_alloc|apply pw_below_drewN|apply below_drew1|refine below_set ?_ GE204.out|refine below_set ?_ GE217.out)|exact HB.out)) hb)
                have n3_:=Aside0.mk (hbox)
                have n4_:=Aside0.mk ((by rw [hg];exact (below_size (by repeat (first|(with_reducible first|exact HB.out|apply below_alloc|apply pw_below_drewN|apply below_drew1|refine below_set ?_ GE204.out|refine below_set ?_ GE217.out)|exact HB.out))) : w.heap.size ≤ gb226))
                have n5_:=Aside0.mk ((by rw [hg];exact (below_size (by repeat (first|(with_reducible first|exact HB.out|apply below_alloc|apply pw_below_drewN|apply below_drew1|refine below_set ?_ GE204.out|refine below_set ?_ GE217.out)|exact HB.out))) : w.heap.size ≤ gb226))
                have n6_:=Aside0.mk ((by rw [hg];exact Nat.ne_of_lt (blk_lt (g:=gb204) (o:=.cells #[.int .i64 t205,.string t206,.int .i64 t207,.int .i64 t208] 39 (0,0)) (by (with_reducible repeat (first|refine blk_drewN ?_ _|refine blk_drew ?_|refine blk_alloc ?_ _));exact BK204.out)) : gb204 ≠ gb226))
                have n7_:=Aside0.mk ((by rw [hg];exact Nat.ne_of_gt (blk_lt (g:=gb204) (o:=.cells #[.int .i64 t205,.string t206,.int .i64 t207,.int .i64 t208] 39 (0,0)) (by (with_reducible repeat (first|refine blk_drewN ?_ _|refine blk_drew ?_|refine blk_alloc ?_ _));exact BK204.out)) : gb226 ≠ gb204))
                have n8_:=Aside0.mk ((by rw [hg];exact Nat.ne_of_lt (blk_lt (g:=gb217) (o:=.cells #[.int .i64 t212,.string t213,.int .i64 t214,.int .i64 t215] 39 (0,0)) (by (with_reducible repeat (first|refine blk_drewN ?_ _|refine blk_drew ?_|refine blk_alloc ?_ _));exact BK217.out)) : gb217 ≠ gb226))
                have n9_:=Aside0.mk ((by rw [hg];exact Nat.ne_of_gt (blk_lt (g:=gb217) (o:=.cells #[.int .i64 t212,.string t213,.int .i64 t214,.int .i64 t215] 39 (0,0)) (by (with_reducible repeat (first|refine blk_drewN ?_ _|refine blk_drew ?_|refine blk_alloc ?_ _));exact BK217.out)) : gb226 ≠ gb217))
                clear BK204
                clear BK217
                clear HB
                have BK204:=n0_
                have BK217:=n1_
                have HB:=n2_
                have BK226:=n3_
                have GW226:=n4_
                have GE226:=n5_
                have NB204_226:=n6_
                have NB226_204:=n7_
                have NB217_226:=n8_
                have NB226_217:=n9_
                clear n0_ n1_ n2_ n3_ n4_ n5_ n6_ n7_ n8_ n9_
                clear hb hbox hg
                refine hK.out _ _ trivial (fun hHeld => ?_)
                clear hK K
                refine norm_ (a':=?_) ?_ ?_
                rotate_left
                ·show Act.put _ (some 12) _ = _
                 simp only [Act.put,List.setIfInBounds_toArray,List.set_cons_zero,List.set_cons_succ,i64_w,i32_w]
                 rfl
                refine one_ (i:=4) (N:=some 64) #[true,true,true,true,true,false,false,true,true,true,true,false,false,false,false,false,true,false,false] rfl rfl (one_of HT_.out (by kernel_rfl)) (by decide) (fun K hK => ?_)
                refine Kd.R_lit_step (Kd.int .u8) _ 5 ?hg (N:=64) ?hd (xs:=([a2] : List Int)) (inner:=[.int .u8 a2]) (ok:=fun _ => True) (okp:=fun _ => True) ?hr ?hp (fun _ hk => hk) trivial (Below.refl _ _) (Nat.le_refl _) (by simp) ?_;(case hd => rfl);(case hg => rfl);(case hr => first|(go_simp;done)|(go_simp;rfl));(case hp => exact (Reps.one (show Kd.M (Kd.int .u8) _ _ _ a2 [.int .u8 a2] from rfl) (Reps.none _ _)))
                intro v219 w55 ho56 hb hg_ hnew_
                clear hg_ hnew_
                (first|rw [← Ny218.out] at ho56|(simp only [Int.reduceToNat] at ho56;rw [← Ny218.out] at ho56))
                have n0_:=Aside0.mk (Kd.R_lower ho56 (below_size (by repeat (first|(with_reducible first|exact HB.out|apply below_alloc|apply pw_below_drewN|apply below_drew1|refine below_set ?_ GE204.out|refine below_set ?_ GE217.out|refine below_set ?_ GE226.out)|exact HB.out))))
                have n1_:=Aside0.mk (blk_below (g:=gb204) (o:=.cells #[.int .i64 t205,.string t206,.int .i64 t207,.int .i64 t208] 39 (0,0)) (by (with_reducible repeat (first|refine blk_drewN ?_ _|refine blk_drew ?_|refine blk_alloc ?_ _));exact BK204.out) hb)
                have n2_:=Aside0.mk (blk_below (g:=gb217) (o:=.cells #[.int .i64 t212,.string t213,.int .i64 t214,.int .i64 t215] 39 (0,0)) (by (with_reducible repeat (first|refine blk_drewN ?_ _|refine blk_drew ?_|refine blk_alloc ?_ _));exact BK217.out) hb)
                have n3_:=Aside0.mk (blk_below (g:=gb226) (o:=.cells #[.int .i64 0,.string (⟨#[]⟩ : ByteArray),.int .i64 0,.int .i64 0] 39 (0,0)) (by (with_reducible repeat (first|refine blk_drewN ?_ _|refine blk_drew ?_|refine blk_alloc ?_ _));exact BK226.out) hb)
                have n4_:=Aside0.mk (below_step (by repeat (first|(with_reducible first|exact HB.out|apply below_alloc|apply pw_below_drewN|apply below_drew1|refine below_set ?_ GE204.out|refine below_set ?_ GE217.out|refine below_set ?_ GE226.out)|exact HB.out)) hb)
                clear BK204
                clear BK217
                clear BK226
                clear HB
                have HO220:=n0_
                have BK204:=n1_
                have BK217:=n2_
                have BK226:=n3_
                have HB:=n4_
                clear n0_ n1_ n2_ n3_ n4_
                clear hb ho56
                refine hK.out _ _ trivial (fun hHeld => ?_)
                clear hK K
                refine norm_ (a':=?_) ?_ ?_
                rotate_left
                ·show Act.put _ (some 64) _ = _
                 simp only [Act.put,List.setIfInBounds_toArray,List.set_cons_zero,List.set_cons_succ,i64_w,i32_w]
                 rfl
                refine one_ (i:=5) (N:=some 65) #[true,true,true,true,true,true,false,true,true,true,true,false,false,false,false,false,true,false,false] rfl rfl (one_of HT_.out (by kernel_rfl)) (by decide) (fun K hK => ?_)
                have hcv57:=own_string (P:=Tryd.prog) Tryd.underlying49 Tryd.underlying5 Tryd.underlying9 (Kd.own_of_R HO220.out)
                refine value_ (w1:=?_) (v:=?_) (by rfl) rfl ?_ ?_
                rotate_left 2
                ·go_simp
                 constructor
                 ·rfl
                 ·rfl
                clear hcv57
                refine hK.out _ _ trivial (fun hHeld => ?_)
                clear hK K
                refine norm_ (a':=?_) ?_ ?_
                rotate_left
                ·show Act.put _ (some 65) _ = _
                 simp only [Act.put,List.setIfInBounds_toArray,List.set_cons_zero,List.set_cons_succ,i64_w,i32_w]
                 rfl
                refine pure_ (i:=6) (N:=some 66) (v:=?_) (a':=?_) #[true,true,true,true,true,true,true,true,true,true,true,false,false,false,false,false,true,false,false] rfl rfl (any_of HT_.out (by kernel_rfl)) (fun _ _ _ h => h) (Or.inl ⟨by rfl,?_⟩) ?_ ?_
                rotate_left
                ·intro w'
                 go_simp
                 with_reducible rfl
                rotate_left
                ·simp only [Act.put,List.setIfInBounds_toArray,List.set_cons_zero,List.set_cons_succ,i64_w,i32_w]
                 rfl
                refine pure_ (i:=11) (N:=some 71) (v:=?_) (a':=?_) #[true,true,true,true,true,true,true,true,true,true,true,true,false,false,false,false,true,false,false] rfl rfl (any_of HT_.out (by kernel_rfl)) (fun _ _ _ h => h) (Or.inl ⟨by rfl,?_⟩) ?_ ?_
                rotate_left
                ·intro w'
                 go_simp
                 with_reducible rfl
                rotate_left
                ·simp only [Act.put,List.setIfInBounds_toArray,List.set_cons_zero,List.set_cons_succ,i64_w,i32_w]
                 rfl
                refine one_ (i:=12) (N:=some 72) #[true,true,true,true,true,true,true,true,true,true,true,true,true,false,false,false,true,false,false] rfl rfl (one_of HT_.out (by kernel_rfl)) (by decide) (fun K hK => ?_)
                refine goes_ Tryd.func22 (by kernel_rfl) rfl #[.string (((t209.extract 0 ((ji31) : Int).toNat) ++ (strOfNums y218)) ++ (t209.extract ((ji35) : Int).toNat t209.size))] (by rfl) rfl rfl (by (try simp only [List.map_toArray,List.map_cons,List.map_nil]);first|done|(simp only [hji31,hji35];rfl)|rfl|(simp only [List.length_drop,List.length_take];rfl)) ?_
                with_reducible refine (ticket_Open.calls (((t209.extract 0 ((ji31) : Int).toNat) ++ (strOfNums y218)) ++ (t209.extract ((ji35) : Int).toNat t209.size)) t221 t222 t223 t224 t225 _ ?side1 A39.out).mono ?_
                (case side1 => first|exact HGCr.out|exact GlobCr.below HGCr.out (by repeat (first|(with_reducible first|exact HB.out|apply below_alloc|apply pw_below_drewN|apply below_drew1|refine below_set ?_ GE204.out|refine below_set ?_ GE217.out|refine below_set ?_ GE226.out)|exact HB.out))|exact GlobCr.drawn HGCr.out (by repeat (first|exact Drawn0.refl _|apply Drawn0.step)))
                rintro e w58 ⟨rfl,hb⟩
                refine ⟨_,rfl,?_⟩
                have n0_:=Aside0.mk (Kd.R_below (by (with_reducible repeat (first|apply Kd.R_alloc|apply Kd.R_drewN|apply Kd.R_drew));exact HO220.out) hb)
                have n1_:=Aside0.mk (blk_below (g:=gb204) (o:=.cells #[.int .i64 t205,.string t206,.int .i64 t207,.int .i64 t208] 39 (0,0)) (by (with_reducible repeat (first|refine blk_drewN ?_ _|refine blk_drew ?_|refine blk_alloc ?_ _));exact BK204.out) hb)
                have n2_:=Aside0.mk (blk_below (g:=gb217) (o:=.cells #[.int .i64 t212,.string t213,.int .i64 t214,.int .i64 t215] 39 (0,0)) (by (with_reducible repeat (first|refine blk_drewN ?_ _|refine blk_drew ?_|refine blk_alloc ?_ _));exact BK217.out) hb)
                have n3_:=Aside0.mk (blk_below (g:=gb226) (o:=.cells #[.int .i64 0,.string (⟨#[]⟩ : ByteArray),.int .i64 0,.int .i64 0] 39 (0,0)) (by (with_reducible repeat (first|refine blk_drewN ?_ _|refine blk_drew ?_|refine blk_alloc ?_ _));exact BK226.out) hb)
                have n4_:=Aside0.mk (below_step (by repeat (first|(with_reducible first|exact HB.out|apply below_alloc|apply pw_below_drewN|apply below_drew1|refine below_set ?_ GE204.out|refine below_set ?_ GE217.out|refine below_set ?_ GE226.out)|exact HB.out)) hb)
                clear HO220
                clear BK204
                clear BK217
                clear BK226
                clear HB
                have HO220:=n0_
                have BK204:=n1_
                have BK217:=n2_
                have BK226:=n3_
                have HB:=n4_
                clear n0_ n1_ n2_ n3_ n4_
                (try clear hb)
                (try clear hb2)
                (try clear hk)
                (try clear hi)
                refine hK.out _ _ trivial (fun hHeld => ?_)
                clear hK K
                refine norm_ (a':=?_) ?_ ?_
                rotate_left
                ·show Act.put _ (some 72) _ = _
                 simp only [Act.put,List.setIfInBounds_toArray,List.set_cons_zero,List.set_cons_succ,i64_w,i32_w]
                 rfl
                refine pure_ (i:=13) (N:=some 59) (v:=?_) (a':=?_) #[true,true,true,true,true,true,true,true,true,true,true,true,true,true,false,false,true,false,false] rfl rfl (any_of HT_.out (by kernel_rfl)) (fun _ _ _ h => h) (Or.inl ⟨by rfl,?_⟩) ?_ ?_
                rotate_left
                ·intro w'
                 go_simp
                 with_reducible rfl
                rotate_left
                ·simp only [Act.put,List.setIfInBounds_toArray,List.set_cons_zero,List.set_cons_succ,i64_w,i32_w]
                 rfl
                refine pure_ (i:=14) (N:=some 73) (v:=?_) (a':=?_) #[true,true,true,true,true,true,true,true,true,true,true,true,true,true,true,false,true,false,false] rfl rfl (any_of HT_.out (by kernel_rfl)) (fun _ _ _ h => h) (Or.inl ⟨by rfl,?_⟩) ?_ ?_
                rotate_left
                ·intro w'
                 go_simp
                 with_reducible rfl
                rotate_left
                ·simp only [Act.put,List.setIfInBounds_toArray,List.set_cons_zero,List.set_cons_succ,i64_w,i32_w]
                 rfl
                refine pure_ (i:=15) (N:=some 74) (v:=?_) (a':=?_) #[true,true,true,true,true,true,true,true,true,true,true,true,true,true,true,true,true,false,false] rfl rfl (any_of HT_.out (by kernel_rfl)) (fun _ _ _ h => h) (Or.inl ⟨by rfl,?_⟩) ?_ ?_
                rotate_left
                ·intro w'
                 go_simp
                 with_reducible rfl
                rotate_left
                ·simp only [Act.put,List.setIfInBounds_toArray,List.set_cons_zero,List.set_cons_succ,i64_w,i32_w]
                 rfl
                exact norm_ (by simp only [putAll,Act.put,List.setIfInBounds_toArray,List.set_cons_zero,List.set_cons_succ]) (hCont (v219,gb226) _ ⟨(by (with_reducible repeat (first|apply Kd.R_alloc|apply Kd.R_drewN|apply Kd.R_drew));exact HO220.out),(by (with_reducible repeat (first|refine blk_drewN ?_ _|refine blk_drew ?_|refine blk_alloc ?_ _));exact BK204.out),(by (with_reducible repeat (first|refine blk_drewN ?_ _|refine blk_drew ?_|refine blk_alloc ?_ _));exact BK217.out),(by (with_reducible repeat (first|refine blk_drewN ?_ _|refine blk_drew ?_|refine blk_alloc ?_ _));exact BK226.out),GW226.out,GE226.out,NB204_226.out,NB226_204.out,NB217_226.out,NB226_217.out,(by repeat (first|(with_reducible first|exact HB.out|apply below_alloc|apply pw_below_drewN|apply below_drew1|refine below_set ?_ GE204.out|refine below_set ?_ GE217.out|refine below_set ?_ GE226.out)|exact HB.out))⟩)
              rintro ⟨v219,gb226⟩ w59 ⟨h0_,h1_,h2_,h3_,h4_,h5_,h6_,h7_,h8_,h9_,h10_⟩
              have n0_ : Aside0 (Kd.R (Kd.int .u8) 5 w59 w.heap.size (fun _ => True) v219 y218):=⟨h0_⟩
              have n1_ : Aside0 (w59.heap[gb204]? = some (.cells #[.int .i64 t205,.string t206,.int .i64 t207,.int .i64 t208] 39 (0,0))):=⟨h1_⟩
              have n2_ : Aside0 (w59.heap[gb217]? = some (.cells #[.int .i64 t212,.string t213,.int .i64 t214,.int .i64 t215] 39 (0,0))):=⟨h2_⟩
              have n3_ : Aside0 (w59.heap[gb226]? = some (.cells #[.int .i64 0,.string (⟨#[]⟩ : ByteArray),.int .i64 0,.int .i64 0] 39 (0,0))):=⟨h3_⟩
              have n4_ : Aside0 (w.heap.size ≤ gb226):=⟨h4_⟩
              have n5_ : Aside0 (w.heap.size ≤ gb226):=⟨h5_⟩
              have n6_ : Aside0 (gb204 ≠ gb226):=⟨h6_⟩
              have n7_ : Aside0 (gb226 ≠ gb204):=⟨h7_⟩
              have n8_ : Aside0 (gb217 ≠ gb226):=⟨h8_⟩
              have n9_ : Aside0 (gb226 ≠ gb217):=⟨h9_⟩
              have n10_ : Aside0 (Below w.heap.size w w59):=⟨h10_⟩
              clear BK204
              clear BK217
              clear HB
              clear h0_ h1_ h2_ h3_ h4_ h5_ h6_ h7_ h8_ h9_ h10_
              have HO220:=n0_
              have BK204:=n1_
              have BK217:=n2_
              have BK226:=n3_
              have GW226:=n4_
              have GE226:=n5_
              have NB204_226:=n6_
              have NB226_204:=n7_
              have NB217_226:=n8_
              have NB226_217:=n9_
              have HB:=n10_
              clear n0_ n1_ n2_ n3_ n4_ n5_ n6_ n7_ n8_ n9_ n10_
              have hHeld:=trivial
              refine norm_ (a':=?_) ?_ ?_
              rotate_left
              ·simp only [putAll,Act.put,List.setIfInBounds_toArray,List.set_cons_zero,List.set_cons_succ]
               rfl
              refine one_ (i:=17) (N:=none) #[true,true,true,true,true,true,true,true,true,true,true,true,true,true,true,true,true,true,false] rfl rfl (one_of HT_.out (by kernel_rfl)) (by decide) (fun K hK => ?_)
              have hs60 : w59.cell? ⟨gb226,0,none⟩ = some (.int .i64 0):=(blk_cell BK226.out 0).trans rfl
              have hfs60:=blk_frozen BK226.out 0
              have hns60_0:=NB204_226.out
              have hns60_1:=NB217_226.out
              have hms60_0:=NB226_204.out
              have hms60_1:=NB226_217.out
              have hs61 : w59.cell? ⟨gb226,1,none⟩ = some (.string (⟨#[]⟩ : ByteArray)):=(blk_cell BK226.out 1).trans rfl
              have hfs61:=blk_frozen BK226.out 1
              have hns61_0:=NB204_226.out
              have hns61_1:=NB217_226.out
              have hms61_0:=NB226_204.out
              have hms61_1:=NB226_217.out
              have hs62 : w59.cell? ⟨gb226,2,none⟩ = some (.int .i64 0):=(blk_cell BK226.out 2).trans rfl
              have hfs62:=blk_frozen BK226.out 2
              have hns62_0:=NB204_226.out
              have hns62_1:=NB217_226.out
              have hms62_0:=NB226_204.out
              have hms62_1:=NB226_217.out
              have hs63 : w59.cell? ⟨gb226,3,none⟩ = some (.int .i64 0):=(blk_cell BK226.out 3).trans rfl
              have hfs63:=blk_frozen BK226.out 3
              have hns63_0:=NB204_226.out
              have hns63_1:=NB217_226.out
              have hms63_0:=NB226_204.out
              have hms63_1:=NB226_217.out
              refine skip_ (w1:=?_) (by rfl) rfl ?_ ?_
              rotate_left
              ·go_simp
               rfl
              refine hK.out _ _ trivial (fun hHeld => ?_)
              clear hK K
              refine pure_ (i:=18) (N:=some 13) (v:=?_) (a':=?_) #[true,true,true,true,true,true,true,true,true,true,true,true,true,true,true,true,true,true,true] rfl rfl (any_of HT_.out (by kernel_rfl)) (fun _ _ _ h => h) (Or.inl ⟨by rfl,?_⟩) ?_ ?_
              rotate_left
              ·intro w'
               go_simp
               with_reducible rfl
              rotate_left
              ·simp only [Act.put,List.setIfInBounds_toArray,List.set_cons_zero,List.set_cons_succ,i64_w,i32_w]
               rfl
              refine done_ (done_of HT_.out (by kernel_rfl)) ?_
              have H:=HA9.out
              clear HA9
              by_cases c47 : a2 = (bt t209 (ji31))
              ·rw [if_pos c47] at H
               have c47b0 : (a2 == (bt t209 (ji31))) = true:=beq_iff_eq.mpr c47
               have c47b1 : (a2 != (bt t209 (ji31))) = false:=bne_eq_false_iff_eq.mpr c47
               clear c47
               by_cases c48 : t231 = 12
               ·rw [if_pos c48] at H
                have c48b0 : (t231 == 12) = true:=beq_iff_eq.mpr c48
                have c48b1 : (t231 != 12) = false:=bne_eq_false_iff_eq.mpr c48
                clear c48
                by_cases c49 : t237 = 12
                ·rw [if_pos c49] at H
                 have c49b0 : (t237 == 12) = true:=beq_iff_eq.mpr c49
                 have c49b1 : (t237 != 12) = false:=bne_eq_false_iff_eq.mpr c49
                 clear c49
                 by_cases c50 : (t227 == 0 && (t228.toList == ([] : List UInt8) && (t229 == 0 && (t230 == 0)))) = true
                 ·rw [if_pos c50] at H
                  have c50b0 : (t227 == 0 && (t228.toList == ([] : List UInt8) && (t229 == 0 && (t230 == 0)))) = true:=c50
                  (try (have c50b1 : decide (t227 = 0 && (t228.toList == ([] : List UInt8) && (t229 == 0 && (t230 == 0)))) = true:=by simpa using c50))
                  (try (have c50b2 : (t227 == 0 && (t228.toList == ([] : List UInt8) && (t229 == 0 && (t230 == 0)))) = true:=by simpa using c50))
                  clear c50
                  by_cases c51 : (t233 == 0 && (t234.toList == ([] : List UInt8) && (t235 == 0 && (t236 == 0)))) = true
                  ·rw [if_pos c51] at H
                   have c51b0 : (t233 == 0 && (t234.toList == ([] : List UInt8) && (t235 == 0 && (t236 == 0)))) = true:=c51
                   (try (have c51b1 : decide (t233 = 0 && (t234.toList == ([] : List UInt8) && (t235 == 0 && (t236 == 0)))) = true:=by simpa using c51))
                   (try (have c51b2 : (t233 == 0 && (t234.toList == ([] : List UInt8) && (t235 == 0 && (t236 == 0)))) = true:=by simpa using c51))
                   clear c51
                   replace H:=Option.bind_eq_some_iff.mp H
                   obtain ⟨t239,A520,H⟩:=H
                   replace H : (some t239) = some r:=H
                   have A52:=Aside0.mk A520
                   clear A520
                   obtain rfl:=Option.some.inj H
                   go_upto_region 11 with (first|((with_reducible refine gate_callee (f:=22) rfl ?_);refine goesL_ (some 79) rfl rfl Tryd.func22 (by kernel_rfl) rfl #[.string (t209.extract 0 ((ji31) : Int).toNat)] rfl (by (try simp only [List.map_toArray,List.map_cons,List.map_nil]);first|done|(simp only [hji31];rfl)|rfl|(simp only [List.length_drop,List.length_take];rfl)) ?_;(with_reducible refine (ticket_Open.calls (t209.extract 0 ((ji31) : Int).toNat) t227 t228 t229 t230 t231 _ ?side1 A42.out).mono ?_);(case side1 => first|exact HGCr.out|exact GlobCr.below HGCr.out (by repeat (first|(with_reducible first|exact HB.out|apply below_alloc|apply pw_below_drewN|apply below_drew1|refine below_set ?_ GE204.out|refine below_set ?_ GE217.out|refine below_set ?_ GE226.out)|exact HB.out))|exact GlobCr.drawn HGCr.out (by repeat (first|exact Drawn0.refl _|apply Drawn0.step)));rintro e w64 ⟨rfl,hb⟩;refine ⟨_,rfl,?_⟩;have n0_:=Aside0.mk (Kd.R_below (by (with_reducible repeat (first|apply Kd.R_alloc|apply Kd.R_drewN|apply Kd.R_drew));exact (Kd.R_mono (Kd.R_far (p:=⟨gb226,3,none⟩) (Kd.R_far (p:=⟨gb226,2,none⟩) (Kd.R_far (p:=⟨gb226,1,none⟩) (Kd.R_far (p:=⟨gb226,0,none⟩) (Kd.R_types HO220.out BK226.out (by decide)) (fun _ hk => hk.2) (.int .i64 t221)) (fun _ hk => hk.2) (.string t222)) (fun _ hk => hk.2) (.int .i64 t223)) (fun _ hk => hk.2) (.int .i64 t224)) (fun _ h_ => h_.1))) hb);have n1_:=Aside0.mk (blk_below (g:=gb204) (o:=.cells #[.int .i64 t205,.string t206,.int .i64 t207,.int .i64 t208] 39 (0,0)) (by (with_reducible repeat (first|refine blk_drewN ?_ _|refine blk_drew ?_|refine blk_alloc ?_ _));refine blk_far ?_ NB204_226.out _;(with_reducible repeat (first|refine blk_drewN ?_ _|refine blk_drew ?_|refine blk_alloc ?_ _));refine blk_far ?_ NB204_226.out _;(with_reducible repeat (first|refine blk_drewN ?_ _|refine blk_drew ?_|refine blk_alloc ?_ _));refine blk_far ?_ NB204_226.out _;(with_reducible repeat (first|refine blk_drewN ?_ _|refine blk_drew ?_|refine blk_alloc ?_ _));refine blk_far ?_ NB204_226.out _;(with_reducible repeat (first|refine blk_drewN ?_ _|refine blk_drew ?_|refine blk_alloc ?_ _));exact BK204.out) hb);have n2_:=Aside0.mk (blk_below (g:=gb217) (o:=.cells #[.int .i64 t212,.string t213,.int .i64 t214,.int .i64 t215] 39 (0,0)) (by (with_reducible repeat (first|refine blk_drewN ?_ _|refine blk_drew ?_|refine blk_alloc ?_ _));refine blk_far ?_ NB217_226.out _;(with_reducible repeat (first|refine blk_drewN ?_ _|refine blk_drew ?_|refine blk_alloc ?_ _));refine blk_far ?_ NB217_226.out _;(with_reducible repeat (first|refine blk_drewN ?_ _|refine blk_drew ?_|refine blk_alloc ?_ _));refine blk_far ?_ NB217_226.out _;(with_reducible repeat (first|refine blk_drewN ?_ _|refine blk_drew ?_|refine blk_alloc ?_ _));refine blk_far ?_ NB217_226.out _;(with_reducible repeat (first|refine blk_drewN ?_ _|refine blk_drew ?_|refine blk_alloc ?_ _));exact BK217.out) hb);have n3_:=Aside0.mk (blk_below (g:=gb226) (o:=.cells #[.int .i64 t221,.string t222,.int .i64 t223,.int .i64 t224] 39 (0,0)) (by (with_reducible repeat (first|refine blk_drewN ?_ _|refine blk_drew ?_|refine blk_alloc ?_ _));refine blk_put (cs:=#[.int .i64 t221,.string t222,.int .i64 t223,.int .i64 0]) ?_ 3 _ rfl;(with_reducible repeat (first|refine blk_drewN ?_ _|refine blk_drew ?_|refine blk_alloc ?_ _));refine blk_put (cs:=#[.int .i64 t221,.string t222,.int .i64 0,.int .i64 0]) ?_ 2 _ rfl;(with_reducible repeat (first|refine blk_drewN ?_ _|refine blk_drew ?_|refine blk_alloc ?_ _));refine blk_put (cs:=#[.int .i64 t221,.string (⟨#[]⟩ : ByteArray),.int .i64 0,.int .i64 0]) ?_ 1 _ rfl;(with_reducible repeat (first|refine blk_drewN ?_ _|refine blk_drew ?_|refine blk_alloc ?_ _));refine blk_put (cs:=#[.int .i64 0,.string (⟨#[]⟩ : ByteArray),.int .i64 0,.int .i64 0]) ?_ 0 _ rfl;(with_reducible repeat (first|refine blk_drewN ?_ _|refine blk_drew ?_|refine blk_alloc ?_ _));exact BK226.out) hb);have n4_:=Aside0.mk (below_step (by repeat (first|(with_reducible first|exact HB.out|apply below_alloc|apply pw_below_drewN|apply below_drew1|refine below_set ?_ GE204.out|refine below_set ?_ GE217.out|refine below_set ?_ GE226.out)|exact HB.out)) hb);clear HO220;clear BK204;clear BK217;clear BK226;clear HB;have HO220:=n0_;have BK204:=n1_;have BK217:=n2_;have BK226:=n3_;have HB:=n4_;clear n0_ n1_ n2_ n3_ n4_;(try clear hb);(try clear hb2);(try clear hk);(try clear hi))|((with_reducible refine gate_dst (N:=14) rfl ?_);(try (refine gate_guard (by rfl) ?_;dsimp only));refine box_event ?hg (N:=14) ?hd (cs:=#[.int .i64 0,.string (⟨#[]⟩ : ByteArray),.int .i64 0,.int .i64 0]) (t:=39) ?hr ?_;(case hd => rfl);(case hg => rfl);(case hr => first|(go_simp;done)|(go_simp;rfl));intro gb232 hg w65 hbox hb;have n0_:=Aside0.mk (Kd.R_below (by (with_reducible repeat (first|apply Kd.R_alloc|apply Kd.R_drewN|apply Kd.R_drew));exact HO220.out) hb);have n1_:=Aside0.mk (blk_below (g:=gb204) (o:=.cells #[.int .i64 t205,.string t206,.int .i64 t207,.int .i64 t208] 39 (0,0)) (by (with_reducible repeat (first|refine blk_drewN ?_ _|refine blk_drew ?_|refine blk_alloc ?_ _));exact BK204.out) hb);have n2_:=Aside0.mk (blk_below (g:=gb217) (o:=.cells #[.int .i64 t212,.string t213,.int .i64 t214,.int .i64 t215] 39 (0,0)) (by (with_reducible repeat (first|refine blk_drewN ?_ _|refine blk_drew ?_|refine blk_alloc ?_ _));exact BK217.out) hb);have n3_:=Aside0.mk (blk_below (g:=gb226) (o:=.cells #[.int .i64 t221,.string t222,.int .i64 t223,.int .i64 t224] 39 (0,0)) (by (with_reducible repeat (first|refine blk_drewN ?_ _|refine blk_drew ?_|refine blk_alloc ?_ _));exact BK226.out) hb);have n4_:=Aside0.mk (below_step (by repeat (first|(with_reducible first|exact HB.out|apply below_alloc|apply pw_below_drewN|apply below_drew1|refine below_set ?_ GE204.out|refine below_set ?_ GE217.out|refine below_set ?_ GE226.out)|exact HB.out)) hb);have n5_:=Aside0.mk (hbox);have n6_:=Aside0.mk ((by rw [hg];exact (below_size (by repeat (first|(with_reducible first|exact HB.out|apply below_alloc|apply pw_below_drewN|apply below_drew1|refine below_set ?_ GE204.out|refine below_set ?_ GE217.out|refine below_set ?_ GE226.out)|exact HB.out))) : w.heap.size ≤ gb232));have n7_:=Aside0.mk ((by rw [hg];exact (below_size (by repeat (first|(with_reducible first|exact HB.out|apply below_alloc|apply pw_below_drewN|apply below_drew1|refine below_set ?_ GE204.out|refine below_set ?_ GE217.out|refine below_set ?_ GE226.out)|exact HB.out))) : w.heap.size ≤ gb232));have n8_:=Aside0.mk ((by rw [hg];exact Nat.ne_of_lt (blk_lt (g:=gb204) (o:=.cells #[.int .i64 t205,.string t206,.int .i64 t207,.int .i64 t208] 39 (0,0)) (by (with_reducible repeat (first|refine blk_drewN ?_ _|refine blk_drew ?_|refine blk_alloc ?_ _));exact BK204.out)) : gb204 ≠ gb232));have n9_:=Aside0.mk ((by rw [hg];exact Nat.ne_of_gt (blk_lt (g:=gb204) (o:=.cells #[.int .i64 t205,.string t206,.int .i64 t207,.int .i64 t208] 39 (0,0)) (by (with_reducible repeat (first|refine blk_drewN ?_ _|refine blk_drew ?_|refine blk_alloc ?_ _));exact BK204.out)) : gb232 ≠ gb204));have n10_:=Aside0.mk ((by rw [hg];exact Nat.ne_of_lt (blk_lt (g:=gb217) (o:=.cells #[.int .i64 t212,.string t213,.int .i64 t214,.int .i64 t215] 39 (0,0)) (by (with_reducible repeat (first|refine blk_drewN ?_ _|refine blk_drew ?_|refine blk_alloc ?_ _));exact BK217.out)) : gb217 ≠ gb232));have n11_:=Aside0.mk ((by rw [hg];exact Nat.ne_of_gt (blk_lt (g:=gb217) (o:=.cells #[.int .i64 t212,.string t213,.int .i64 t214,.int .i64 t215] 39 (0,0)) (by (with_reducible repeat (first|refine blk_drewN ?_ _|refine blk_drew ?_|refine blk_alloc ?_ _));exact BK217.out)) : gb232 ≠ gb217));have n12_:=Aside0.mk ((by rw [hg];exact Nat.ne_of_lt (blk_lt (g:=gb226) (o:=.cells #[.int .i64 t221,.string t222,.int .i64 t223,.int .i64 t224] 39 (0,0)) (by (with_reducible repeat (first|refine blk_drewN ?_ _|refine blk_drew ?_|refine blk_alloc ?_ _));exact BK226.out)) : gb226 ≠ gb232));have n13_:=Aside0.mk ((by rw [hg];exact Nat.ne_of_gt (blk_lt (g:=gb226) (o:=.cells #[.int .i64 t221,.string t222,.int .i64 t223,.int .i64 t224] 39 (0,0)) (by (with_reducible repeat (first|refine blk_drewN ?_ _|refine blk_drew ?_|refine blk_alloc ?_ _));exact BK226.out)) : gb232 ≠ gb226));clear HO220;clear BK204;clear BK217;clear BK226;clear HB;have HO220:=n0_;have BK204:=n1_;have BK217:=n2_;have BK226:=n3_;have HB:=n4_;have BK232:=n5_;have GW232:=n6_;have GE232:=n7_;have NB204_232:=n8_;have NB232_204:=n9_;have NB217_232:=n10_;have NB232_217:=n11_;have NB226_232:=n12_;have NB232_226:=n13_;clear n0_ n1_ n2_ n3_ n4_ n5_ n6_ n7_ n8_ n9_ n10_ n11_ n12_ n13_;clear hb hbox hg;have hnb66:=NB232_204.out;have hnc66:=NB204_232.out;have hnb67:=NB232_217.out;have hnc67:=NB217_232.out;have hnb68:=NB232_226.out;have hnc68:=NB226_232.out;have hcz69_0 : w65.cell? ⟨gb232,0,none⟩ = some (.int .i64 0):=(blk_cell BK232.out 0).trans rfl;have hcz69_1 : w65.cell? ⟨gb232,1,none⟩ = some (.string (⟨#[]⟩ : ByteArray)):=(blk_cell BK232.out 1).trans rfl;have hcz69_2 : w65.cell? ⟨gb232,2,none⟩ = some (.int .i64 0):=(blk_cell BK232.out 2).trans rfl;have hcz69_3 : w65.cell? ⟨gb232,3,none⟩ = some (.int .i64 0):=(blk_cell BK232.out 3).trans rfl;have hfz69_0:=blk_frozen BK232.out 0;have hfz69_1:=blk_frozen BK232.out 1;have hfz69_2:=blk_frozen BK232.out 2;have hfz69_3:=blk_frozen BK232.out 3))
                   go_upto_region 12 with (first|((with_reducible refine gate_callee (f:=22) rfl ?_);refine goesL_ (some 85) rfl rfl Tryd.func22 (by kernel_rfl) rfl #[.string (t209 ++ (⟨#[65,65,65,65]⟩ : ByteArray))] rfl (by (try simp only [List.map_toArray,List.map_cons,List.map_nil]);first|done|rfl|(simp only [List.length_drop,List.length_take];rfl)) ?_;(with_reducible refine (ticket_Open.calls (t209 ++ (⟨#[65,65,65,65]⟩ : ByteArray)) t233 t234 t235 t236 t237 _ ?side1 A44.out).mono ?_);(case side1 => first|exact HGCr.out|exact GlobCr.below HGCr.out (by repeat (first|(with_reducible first|exact HB.out|apply below_alloc|apply pw_below_drewN|apply below_drew1|refine below_set ?_ GE204.out|refine below_set ?_ GE217.out|refine below_set ?_ GE226.out|refine below_set ?_ GE232.out)|exact HB.out))|exact GlobCr.drawn HGCr.out (by repeat (first|exact Drawn0.refl _|apply Drawn0.step)));rintro e w70 ⟨rfl,hb⟩;refine ⟨_,rfl,?_⟩;have n0_:=Aside0.mk (Kd.R_below (by (with_reducible repeat (first|apply Kd.R_alloc|apply Kd.R_drewN|apply Kd.R_drew));exact (Kd.R_mono (Kd.R_far (p:=⟨gb232,3,none⟩) (Kd.R_far (p:=⟨gb232,2,none⟩) (Kd.R_far (p:=⟨gb232,1,none⟩) (Kd.R_far (p:=⟨gb232,0,none⟩) (Kd.R_types HO220.out BK232.out (by decide)) (fun _ hk => hk.2) (.int .i64 t227)) (fun _ hk => hk.2) (.string t228)) (fun _ hk => hk.2) (.int .i64 t229)) (fun _ hk => hk.2) (.int .i64 t230)) (fun _ h_ => h_.1))) hb);have n1_:=Aside0.mk (blk_below (g:=gb204) (o:=.cells #[.int .i64 t205,.string t206,.int .i64 t207,.int .i64 t208] 39 (0,0)) (by (with_reducible repeat (first|refine blk_drewN ?_ _|refine blk_drew ?_|refine blk_alloc ?_ _));refine blk_far ?_ NB204_232.out _;(with_reducible repeat (first|refine blk_drewN ?_ _|refine blk_drew ?_|refine blk_alloc ?_ _));refine blk_far ?_ NB204_232.out _;(with_reducible repeat (first|refine blk_drewN ?_ _|refine blk_drew ?_|refine blk_alloc ?_ _));refine blk_far ?_ NB204_232.out _;(with_reducible repeat (first|refine blk_drewN ?_ _|refine blk_drew ?_|refine blk_alloc ?_ _));refine blk_far ?_ NB204_232.out _;(with_reducible repeat (first|refine blk_drewN ?_ _|refine blk_drew ?_|refine blk_alloc ?_ _));exact BK204.out) hb);have n2_:=Aside0.mk (blk_below (g:=gb217) (o:=.cells #[.int .i64 t212,.string t213,.int .i64 t214,.int .i64 t215] 39 (0,0)) (by (with_reducible repeat (first|refine blk_drewN ?_ _|refine blk_drew ?_|refine blk_alloc ?_ _));refine blk_far ?_ NB217_232.out _;(with_reducible repeat (first|refine blk_drewN ?_ _|refine blk_drew ?_|refine blk_alloc ?_ _));refine blk_far ?_ NB217_232.out _;(with_reducible repeat (first|refine blk_drewN ?_ _|refine blk_drew ?_|refine blk_alloc ?_ _));refine blk_far ?_ NB217_232.out _;(with_reducible repeat (first|refine blk_drewN ?_ _|refine blk_drew ?_|refine blk_alloc ?_ _));refine blk_far ?_ NB217_232.out _;(with_reducible repeat (first|refine blk_drewN ?_ _|refine blk_drew ?_|refine blk_alloc ?_ _));exact BK217.out) hb);have n3_:=Aside0.mk (blk_below (g:=gb226) (o:=.cells #[.int .i64 t221,.string t222,.int .i64 t223,.int .i64 t224] 39 (0,0)) (by (with_reducible repeat (first|refine blk_drewN ?_ _|refine blk_drew ?_|refine blk_alloc ?_ _));refine blk_far ?_ NB226_232.out _;(with_reducible repeat (first|refine blk_drewN ?_ _|refine blk_drew ?_|refine blk_alloc ?_ _));refine blk_far ?_ NB226_232.out _;(with_reducible repeat (first|refine blk_drewN ?_ _|refine blk_drew ?_|refine blk_alloc ?_ _));refine blk_far ?_ NB226_232.out _;(with_reducible repeat (first|refine blk_drewN ?_ _|refine blk_drew ?_|refine blk_alloc ?_ _));refine blk_far ?_ NB226_232.out _;(with_reducible repeat (first|refine blk_drewN ?_ _|refine blk_drew ?_|refine blk_alloc ?_ _));exact BK226.out) hb);have n4_:=Aside0.mk (blk_below (g:=gb232) (o:=.cells #[.int .i64 t227,.string t228,.int .i64 t229,.int .i64 t230] 39 (0,0)) (by (with_reducible repeat (first|refine blk_drewN ?_ _|refine blk_drew ?_|refine blk_alloc ?_ _));refine blk_put (cs:=#[.int .i64 t227,.string t228,.int .i64 t229,.int .i64 0]) ?_ 3 _ rfl;(with_reducible repeat (first|refine blk_drewN ?_ _|refine blk_drew ?_|refine blk_alloc ?_ _));refine blk_put (cs:=#[.int .i64 t227,.string t228,.int .i64 0,.int .i64 0]) ?_ 2 _ rfl;(with_reducible repeat (first|refine blk_drewN ?_ _|refine blk_drew ?_|refine blk_alloc ?_ _));refine blk_put (cs:=#[.int .i64 t227,.string (⟨#[]⟩ : ByteArray),.int .i64 0,.int .i64 0]) ?_ 1 _ rfl;(with_reducible repeat (first|refine blk_drewN ?_ _|refine blk_drew ?_|refine blk_alloc ?_ _));refine blk_put (cs:=#[.int .i64 0,.string (⟨#[]⟩ : ByteArray),.int .i64 0,.int .i64 0]) ?_ 0 _ rfl;(with_reducible repeat (first|refine blk_drewN ?_ _|refine blk_drew ?_|refine blk_alloc ?_ _));exact BK232.out) hb);have n5_:=Aside0.mk (below_step (by repeat (first|(with_reducible first|exact HB.out|apply below_alloc|apply pw_below_drewN|apply below_drew1|refine below_set ?_ GE204.out|refine below_set ?_ GE217.out|refine below_set ?_ GE226.out|refine below_set ?_ GE232.out)|exact HB.out)) hb);clear HO220;clear BK204;clear BK217;clear BK226;clear BK232;clear HB;have HO220:=n0_;have BK204:=n1_;have BK217:=n2_;have BK226:=n3_;have BK232:=n4_;have HB:=n5_;clear n0_ n1_ n2_ n3_ n4_ n5_;(try clear hb);(try clear hb2);(try clear hk);(try clear hi))|((with_reducible refine gate_dst (N:=16) rfl ?_);(try (refine gate_guard (by rfl) ?_;dsimp only));refine box_event ?hg (N:=16) ?hd (cs:=#[.int .i64 0,.string (⟨#[]⟩ : ByteArray),.int .i64 0,.int .i64 0]) (t:=39) ?hr ?_;(case hd => rfl);(case hg => rfl);(case hr => first|(go_simp;done)|(go_simp;rfl));intro gb238 hg w71 hbox hb;have n0_:=Aside0.mk (Kd.R_below (by (with_reducible repeat (first|apply Kd.R_alloc|apply Kd.R_drewN|apply Kd.R_drew));exact HO220.out) hb);have n1_:=Aside0.mk (blk_below (g:=gb204) (o:=.cells #[.int .i64 t205,.string t206,.int .i64 t207,.int .i64 t208] 39 (0,0)) (by (with_reducible repeat (first|refine blk_drewN ?_ _|refine blk_drew ?_|refine blk_alloc ?_ _));exact BK204.out) hb);have n2_:=Aside0.mk (blk_below (g:=gb217) (o:=.cells #[.int .i64 t212,.string t213,.int .i64 t214,.int .i64 t215] 39 (0,0)) (by (with_reducible repeat (first|refine blk_drewN ?_ _|refine blk_drew ?_|refine blk_alloc ?_ _));exact BK217.out) hb);have n3_:=Aside0.mk (blk_below (g:=gb226) (o:=.cells #[.int .i64 t221,.string t222,.int .i64 t223,.int .i64 t224] 39 (0,0)) (by (with_reducible repeat (first|refine blk_drewN ?_ _|refine blk_drew ?_|refine blk_alloc ?_ _));exact BK226.out) hb);have n4_:=Aside0.mk (blk_below (g:=gb232) (o:=.cells #[.int .i64 t227,.string t228,.int .i64 t229,.int .i64 t230] 39 (0,0)) (by (with_reducible repeat (first|refine blk_drewN ?_ _|refine blk_drew ?_|refine blk_alloc ?_ _));exact BK232.out) hb);have n5_:=Aside0.mk (below_step (by repeat (first|(with_reducible first|exact HB.out|apply below_alloc|apply pw_below_drewN|apply below_drew1|refine below_set ?_ GE204.out|refine below_set ?_ GE217.out|refine below_set ?_ GE226.out|refine below_set ?_ GE232.out)|exact HB.out)) hb);have n6_:=Aside0.mk (hbox);have n7_:=Aside0.mk ((by rw [hg];exact (below_size (by repeat (first|(with_reducible first|exact HB.out|apply below_alloc|apply pw_below_drewN|apply below_drew1|refine below_set ?_ GE204.out|refine below_set ?_ GE217.out|refine below_set ?_ GE226.out|refine below_set ?_ GE232.out)|exact HB.out))) : w.heap.size ≤ gb238));have n8_:=Aside0.mk ((by rw [hg];exact (below_size (by repeat (first|(with_reducible first|exact HB.out|apply below_alloc|apply pw_below_drewN|apply below_drew1|refine below_set ?_ GE204.out|refine below_set ?_ GE217.out|refine below_set ?_ GE226.out|refine below_set ?_ GE232.out)|exact HB.out))) : w.heap.size ≤ gb238));have n9_:=Aside0.mk ((by rw [hg];exact Nat.ne_of_lt (blk_lt (g:=gb204) (o:=.cells #[.int .i64 t205,.string t206,.int .i64 t207,.int .i64 t208] 39 (0,0)) (by (with_reducible repeat (first|refine blk_drewN ?_ _|refine blk_drew ?_|refine blk_alloc ?_ _));exact BK204.out)) : gb204 ≠ gb238));have n10_:=Aside0.mk ((by rw [hg];exact Nat.ne_of_gt (blk_lt (g:=gb204) (o:=.cells #[.int .i64 t205,.string t206,.int .i64 t207,.int .i64 t208] 39 (0,0)) (by (with_reducible repeat (first|refine blk_drewN ?_ _|refine blk_drew ?_|refine blk_alloc ?_ _));exact BK204.out)) : gb238 ≠ gb204));have n11_:=Aside0.mk ((by rw [hg];exact Nat.ne_of_lt (blk_lt (g:=gb217) (o:=.cells #[.int .i64 t212,.string t213,.int .i64 t214,.int .i64 t215] 39 (0,0)) (by (with_reducible repeat (first|refine blk_drewN ?_ _|refine blk_drew ?_|refine blk_alloc ?_ _));exact BK217.out)) : gb217 ≠ gb238));have n12_:=Aside0.mk ((by rw [hg];exact Nat.ne_of_gt (blk_lt (g:=gb217) (o:=.cells #[.int .i64 t212,.string t213,.int .i64 t214,.int .i64 t215] 39 (0,0)) (by (with_reducible repeat (first|refine blk_drewN ?_ _|refine blk_drew ?_|refine blk_alloc ?_ _));exact BK217.out)) : gb238 ≠ gb217));have n13_:=Aside0.mk ((by rw [hg];exact Nat.ne_of_lt (blk_lt (g:=gb226) (o:=.cells #[.int .i64 t221,.string t222,.int .i64 t223,.int .i64 t224] 39 (0,0)) (by (with_reducible repeat (first|refine blk_drewN ?_ _|refine blk_drew ?_|refine blk_alloc ?_ _));exact BK226.out)) : gb226 ≠ gb238));have n14_:=Aside0.mk ((by rw [hg];exact Nat.ne_of_gt (blk_lt (g:=gb226) (o:=.cells #[.int .i64 t221,.string t222,.int .i64 t223,.int .i64 t224] 39 (0,0)) (by (with_reducible repeat (first|refine blk_drewN ?_ _|refine blk_drew ?_|refine blk_alloc ?_ _));exact BK226.out)) : gb238 ≠ gb226));have n15_:=Aside0.mk ((by rw [hg];exact Nat.ne_of_lt (blk_lt (g:=gb232) (o:=.cells #[.int .i64 t227,.string t228,.int .i64 t229,.int .i64 t230] 39 (0,0)) (by (with_reducible repeat (first|refine blk_drewN ?_ _|refine blk_drew ?_|refine blk_alloc ?_ _));exact BK232.out)) : gb232 ≠ gb238));have n16_:=Aside0.mk ((by rw [hg];exact Nat.ne_of_gt (blk_lt (g:=gb232) (o:=.cells #[.int .i64 t227,.string t228,.int .i64 t229,.int .i64 t230] 39 (0,0)) (by (with_reducible repeat (first|refine blk_drewN ?_ _|refine blk_drew ?_|refine blk_alloc ?_ _));exact BK232.out)) : gb238 ≠ gb232));clear HO220;clear BK204;clear BK217;clear BK226;clear BK232;clear HB;have HO220:=n0_;have BK204:=n1_;have BK217:=n2_;have BK226:=n3_;have BK232:=n4_;have HB:=n5_;have BK238:=n6_;have GW238:=n7_;have GE238:=n8_;have NB204_238:=n9_;have NB238_204:=n10_;have NB217_238:=n11_;have NB238_217:=n12_;have NB226_238:=n13_;have NB238_226:=n14_;have NB232_238:=n15_;have NB238_232:=n16_;clear n0_ n1_ n2_ n3_ n4_ n5_ n6_ n7_ n8_ n9_ n10_ n11_ n12_ n13_ n14_ n15_ n16_;clear hb hbox hg;have hnb72:=NB238_204.out;have hnc72:=NB204_238.out;have hnb73:=NB238_217.out;have hnc73:=NB217_238.out;have hnb74:=NB238_226.out;have hnc74:=NB226_238.out;have hnb75:=NB238_232.out;have hnc75:=NB232_238.out;have hcz76_0 : w71.cell? ⟨gb238,0,none⟩ = some (.int .i64 0):=(blk_cell BK238.out 0).trans rfl;have hcz76_1 : w71.cell? ⟨gb238,1,none⟩ = some (.string (⟨#[]⟩ : ByteArray)):=(blk_cell BK238.out 1).trans rfl;have hcz76_2 : w71.cell? ⟨gb238,2,none⟩ = some (.int .i64 0):=(blk_cell BK238.out 2).trans rfl;have hcz76_3 : w71.cell? ⟨gb238,3,none⟩ = some (.int .i64 0):=(blk_cell BK238.out 3).trans rfl;have hfz76_0:=blk_frozen BK238.out 0;have hfz76_1:=blk_frozen BK238.out 1;have hfz76_2:=blk_frozen BK238.out 2;have hfz76_3:=blk_frozen BK238.out 3;have p46 : 0 ≤ ((ji31) : Int):=of_decide_eq_true (by first|(with_reducible assumption)|assumption);have q46 : (ji31) < (t209.size : Int):=of_decide_eq_true (by first|(with_reducible assumption)|assumption);have hx46:=bt_at t209 (ji31);replace p46:=eq_true p46;replace q46:=eq_true q46;have hcz77_0 : w71.cell? ⟨gb232,0,none⟩ = some (.int .i64 t227):=(blk_cell BK232.out 0).trans rfl;have hcz77_1 : w71.cell? ⟨gb232,1,none⟩ = some (.string t228):=(blk_cell BK232.out 1).trans rfl;have hcz77_2 : w71.cell? ⟨gb232,2,none⟩ = some (.int .i64 t229):=(blk_cell BK232.out 2).trans rfl;have hcz77_3 : w71.cell? ⟨gb232,3,none⟩ = some (.int .i64 t230):=(blk_cell BK232.out 3).trans rfl;have hfz77_0:=blk_frozen BK232.out 0;have hfz77_1:=blk_frozen BK232.out 1;have hfz77_2:=blk_frozen BK232.out 2;have hfz77_3:=blk_frozen BK232.out 3))
                   go_upto_region 14 with (fail)
                   have c50p : t227 = 0 ∧ t228.toList = ([] : List UInt8) ∧ t229 = 0 ∧ t230 = 0:=by simpa [Bool.and_eq_true,beq_iff_eq] using c50b0
                   have c51p : t233 = 0 ∧ t234.toList = ([] : List UInt8) ∧ t235 = 0 ∧ t236 = 0:=by simpa [Bool.and_eq_true,beq_iff_eq] using c51b0
                   refine wp_region_lit ?_
                   iterate 9 (refine wpList_step (fun K hK => ?_);go_simp;refine hK _ _ ?_;clear hK K)
                   refine wpList_step (fun K hK => ?_)
                   go_simp
                   refine (racewaylaw27_works.calls kj7 t239 _ A52.out).mono ?_
                   rintro e w_ ⟨rfl,hb⟩
                   have HBw:=below_step (by repeat (first|(with_reducible first|exact HB.out|apply below_alloc|apply pw_below_drewN|apply below_drew1|refine below_set ?_ GE204.out|refine below_set ?_ GE217.out|refine below_set ?_ GE226.out|refine below_set ?_ GE232.out|refine below_set ?_ GE238.out)|exact HB.out)) hb
                   have HBW:=Aside0.mk HBw
                   clear HBw hb
                   refine hK _ _ ?_
                   clear hK K
                   refine wpList_step (fun K hK => ?_)
                   go_simp
                   refine hK _ _ ?_
                   clear hK K
                   refine wpList_step (fun K hK => ?_)
                   go_simp
                   refine hK _ _ ?_
                   clear hK K
                   refine wpList_nil ?_
                   go_wp2
                   go_ret
                   exact ⟨rfl,HBW.out⟩
                  ·rw [if_neg c51] at H
                   have c51b0 : (t233 == 0 && (t234.toList == ([] : List UInt8) && (t235 == 0 && (t236 == 0)))) = false:=by simpa using c51
                   (try (have c51b1 : decide (t233 = 0 && (t234.toList == ([] : List UInt8) && (t235 == 0 && (t236 == 0)))) = false:=by simpa using c51))
                   (try (have c51b2 : (t233 == 0 && (t234.toList == ([] : List UInt8) && (t235 == 0 && (t236 == 0)))) = false:=by simpa using c51))
                   (try (have c51b3 : ¬ (t233 = 0 && (t234.toList == ([] : List UInt8) && (t235 == 0 && (t236 == 0)))):=by simpa using c51))
                   clear c51
                   exact absurd ((Option.some.inj H).trans HRT.out) (by decide)
                 ·rw [if_neg c50] at H
                  have c50b0 : (t227 == 0 && (t228.toList == ([] : List UInt8) && (t229 == 0 && (t230 == 0)))) = false:=by simpa using c50
                  (try (have c50b1 : decide (t227 = 0 && (t228.toList == ([] : List UInt8) && (t229 == 0 && (t230 == 0)))) = false:=by simpa using c50))
                  (try (have c50b2 : (t227 == 0 && (t228.toList == ([] : List UInt8) && (t229 == 0 && (t230 == 0)))) = false:=by simpa using c50))
                  (try (have c50b3 : ¬ (t227 = 0 && (t228.toList == ([] : List UInt8) && (t229 == 0 && (t230 == 0)))):=by simpa using c50))
                  clear c50
                  exact absurd ((Option.some.inj H).trans HRT.out) (by decide)
                ·rw [if_neg c49] at H
                 have c49b0 : (t237 == 12) = false:=beq_eq_false_iff_ne.mpr c49
                 have c49b1 : (t237 != 12) = true:=bne_iff_ne.mpr c49
                 exact absurd ((Option.some.inj H).trans HRT.out) (by decide)
               ·rw [if_neg c48] at H
                have c48b0 : (t231 == 12) = false:=beq_eq_false_iff_ne.mpr c48
                have c48b1 : (t231 != 12) = true:=bne_iff_ne.mpr c48
                exact absurd ((Option.some.inj H).trans HRT.out) (by decide)
              ·rw [if_neg c47] at H
               have c47b0 : (a2 == (bt t209 (ji31))) = false:=beq_eq_false_iff_ne.mpr c47
               have c47b1 : (a2 != (bt t209 (ji31))) = true:=bne_iff_ne.mpr c47
               by_cases c177 : t225 = 0
               ·rw [if_pos c177] at H
                have c177b0 : (t225 == 0) = true:=beq_iff_eq.mpr c177
                have c177b1 : (t225 != 0) = false:=bne_eq_false_iff_eq.mpr c177
                clear c177
                by_cases c178 : (t221 == t205 && (t222.toList == t206.toList && (t223 == t207 && (t224 == t208)))) = true
                ·rw [if_pos c178] at H
                 have c178b0 : (t221 == t205 && (t222.toList == t206.toList && (t223 == t207 && (t224 == t208)))) = true:=c178
                 (try (have c178b1 : decide (t221 = t205 && (t222.toList == t206.toList && (t223 == t207 && (t224 == t208)))) = true:=by simpa using c178))
                 (try (have c178b2 : (t221 == t205 && (t222.toList == t206.toList && (t223 == t207 && (t224 == t208)))) = true:=by simpa using c178))
                 clear c178
                 exact absurd ((Option.some.inj H).trans HRT.out) (by decide)
                ·rw [if_neg c178] at H
                 have c178b0 : (t221 == t205 && (t222.toList == t206.toList && (t223 == t207 && (t224 == t208)))) = false:=by simpa using c178
                 (try (have c178b1 : decide (t221 = t205 && (t222.toList == t206.toList && (t223 == t207 && (t224 == t208)))) = false:=by simpa using c178))
                 (try (have c178b2 : (t221 == t205 && (t222.toList == t206.toList && (t223 == t207 && (t224 == t208)))) = false:=by simpa using c178))
                 (try (have c178b3 : ¬ (t221 = t205 && (t222.toList == t206.toList && (t223 == t207 && (t224 == t208)))):=by simpa using c178))
                 clear c178
                 by_cases c208 : t231 = 12
                 ·rw [if_pos c208] at H
                  have c208b0 : (t231 == 12) = true:=beq_iff_eq.mpr c208
                  have c208b1 : (t231 != 12) = false:=bne_eq_false_iff_eq.mpr c208
                  clear c208
                  by_cases c209 : t237 = 12
                  ·rw [if_pos c209] at H
                   have c209b0 : (t237 == 12) = true:=beq_iff_eq.mpr c209
                   have c209b1 : (t237 != 12) = false:=bne_eq_false_iff_eq.mpr c209
                   clear c209
                   by_cases c210 : (t227 == 0 && (t228.toList == ([] : List UInt8) && (t229 == 0 && (t230 == 0)))) = true
                   ·rw [if_pos c210] at H
                    have c210b0 : (t227 == 0 && (t228.toList == ([] : List UInt8) && (t229 == 0 && (t230 == 0)))) = true:=c210
                    (try (have c210b1 : decide (t227 = 0 && (t228.toList == ([] : List UInt8) && (t229 == 0 && (t230 == 0)))) = true:=by simpa using c210))
                    (try (have c210b2 : (t227 == 0 && (t228.toList == ([] : List UInt8) && (t229 == 0 && (t230 == 0)))) = true:=by simpa using c210))
                    clear c210
                    by_cases c211 : (t233 == 0 && (t234.toList == ([] : List UInt8) && (t235 == 0 && (t236 == 0)))) = true
                    ·rw [if_pos c211] at H
                     have c211b0 : (t233 == 0 && (t234.toList == ([] : List UInt8) && (t235 == 0 && (t236 == 0)))) = true:=c211
                     (try (have c211b1 : decide (t233 = 0 && (t234.toList == ([] : List UInt8) && (t235 == 0 && (t236 == 0)))) = true:=by simpa using c211))
                     (try (have c211b2 : (t233 == 0 && (t234.toList == ([] : List UInt8) && (t235 == 0 && (t236 == 0)))) = true:=by simpa using c211))
                     clear c211
                     replace H:=Option.bind_eq_some_iff.mp H
                     obtain ⟨t240,A2120,H⟩:=H
                     replace H : (some t240) = some r:=H
                     have A212:=Aside0.mk A2120
                     clear A2120
                     obtain rfl:=Option.some.inj H
                     go_upto_region 11 with (first|((with_reducible refine gate_callee (f:=22) rfl ?_);refine goesL_ (some 79) rfl rfl Tryd.func22 (by kernel_rfl) rfl #[.string (t209.extract 0 ((ji31) : Int).toNat)] rfl (by (try simp only [List.map_toArray,List.map_cons,List.map_nil]);first|done|(simp only [hji31];rfl)|rfl|(simp only [List.length_drop,List.length_take];rfl)) ?_;(with_reducible refine (ticket_Open.calls (t209.extract 0 ((ji31) : Int).toNat) t227 t228 t229 t230 t231 _ ?side1 A42.out).mono ?_);(case side1 => first|exact HGCr.out|exact GlobCr.below HGCr.out (by repeat (first|(with_reducible first|exact HB.out|apply below_alloc|apply pw_below_drewN|apply below_drew1|refine below_set ?_ GE204.out|refine below_set ?_ GE217.out|refine below_set ?_ GE226.out)|exact HB.out))|exact GlobCr.drawn HGCr.out (by repeat (first|exact Drawn0.refl _|apply Drawn0.step)));rintro e w224 ⟨rfl,hb⟩;refine ⟨_,rfl,?_⟩;have n0_:=Aside0.mk (Kd.R_below (by (with_reducible repeat (first|apply Kd.R_alloc|apply Kd.R_drewN|apply Kd.R_drew));exact (Kd.R_mono (Kd.R_far (p:=⟨gb226,3,none⟩) (Kd.R_far (p:=⟨gb226,2,none⟩) (Kd.R_far (p:=⟨gb226,1,none⟩) (Kd.R_far (p:=⟨gb226,0,none⟩) (Kd.R_types HO220.out BK226.out (by decide)) (fun _ hk => hk.2) (.int .i64 t221)) (fun _ hk => hk.2) (.string t222)) (fun _ hk => hk.2) (.int .i64 t223)) (fun _ hk => hk.2) (.int .i64 t224)) (fun _ h_ => h_.1))) hb);have n1_:=Aside0.mk (blk_below (g:=gb204) (o:=.cells #[.int .i64 t205,.string t206,.int .i64 t207,.int .i64 t208] 39 (0,0)) (by (with_reducible repeat (first|refine blk_drewN ?_ _|refine blk_drew ?_|refine blk_alloc ?_ _));refine blk_far ?_ NB204_226.out _;(with_reducible repeat (first|refine blk_drewN ?_ _|refine blk_drew ?_|refine blk_alloc ?_ _));refine blk_far ?_ NB204_226.out _;(with_reducible repeat (first|refine blk_drewN ?_ _|refine blk_drew ?_|refine blk_alloc ?_ _));refine blk_far ?_ NB204_226.out _;(with_reducible repeat (first|refine blk_drewN ?_ _|refine blk_drew ?_|refine blk_alloc ?_ _));refine blk_far ?_ NB204_226.out _;(with_reducible repeat (first|refine blk_drewN ?_ _|refine blk_drew ?_|refine blk_alloc ?_ _));exact BK204.out) hb);have n2_:=Aside0.mk (blk_below (g:=gb217) (o:=.cells #[.int .i64 t212,.string t213,.int .i64 t214,.int .i64 t215] 39 (0,0)) (by (with_reducible repeat (first|refine blk_drewN ?_ _|refine blk_drew ?_|refine blk_alloc ?_ _));refine blk_far ?_ NB217_226.out _;(with_reducible repeat (first|refine blk_drewN ?_ _|refine blk_drew ?_|refine blk_alloc ?_ _));refine blk_far ?_ NB217_226.out _;(with_reducible repeat (first|refine blk_drewN ?_ _|refine blk_drew ?_|refine blk_alloc ?_ _));refine blk_far ?_ NB217_226.out _;(with_reducible repeat (first|refine blk_drewN ?_ _|refine blk_drew ?_|refine blk_alloc ?_ _));refine blk_far ?_ NB217_226.out _;(with_reducible repeat (first|refine blk_drewN ?_ _|refine blk_drew ?_|refine blk_alloc ?_ _));exact BK217.out) hb);have n3_:=Aside0.mk (blk_below (g:=gb226) (o:=.cells #[.int .i64 t221,.string t222,.int .i64 t223,.int .i64 t224] 39 (0,0)) (by (with_reducible repeat (first|refine blk_drewN ?_ _|refine blk_drew ?_|refine blk_alloc ?_ _));refine blk_put (cs:=#[.int .i64 t221,.string t222,.int .i64 t223,.int .i64 0]) ?_ 3 _ rfl;(with_reducible repeat (first|refine blk_drewN ?_ _|refine blk_drew ?_|refine blk_alloc ?_ _));refine blk_put (cs:=#[.int .i64 t221,.string t222,.int .i64 0,.int .i64 0]) ?_ 2 _ rfl;(with_reducible repeat (first|refine blk_drewN ?_ _|refine blk_drew ?_|refine blk_alloc ?_ _));refine blk_put (cs:=#[.int .i64 t221,.string (⟨#[]⟩ : ByteArray),.int .i64 0,.int .i64 0]) ?_ 1 _ rfl;(with_reducible repeat (first|refine blk_drewN ?_ _|refine blk_drew ?_|refine blk_alloc ?_ _));refine blk_put (cs:=#[.int .i64 0,.string (⟨#[]⟩ : ByteArray),.int .i64 0,.int .i64 0]) ?_ 0 _ rfl;(with_reducible repeat (first|refine blk_drewN ?_ _|refine blk_drew ?_|refine blk_alloc ?_ _));exact BK226.out) hb);have n4_:=Aside0.mk (below_step (by repeat (first|(with_reducible first|exact HB.out|apply below_alloc|apply pw_below_drewN|apply below_drew1|refine below_set ?_ GE204.out|refine below_set ?_ GE217.out|refine below_set ?_ GE226.out)|exact HB.out)) hb);clear HO220;clear BK204;clear BK217;clear BK226;clear HB;have HO220:=n0_;have BK204:=n1_;have BK217:=n2_;have BK226:=n3_;have HB:=n4_;clear n0_ n1_ n2_ n3_ n4_;(try clear hb);(try clear hb2);(try clear hk);(try clear hi))|((with_reducible refine gate_dst (N:=14) rfl ?_);(try (refine gate_guard (by rfl) ?_;dsimp only));refine box_event ?hg (N:=14) ?hd (cs:=#[.int .i64 0,.string (⟨#[]⟩ : ByteArray),.int .i64 0,.int .i64 0]) (t:=39) ?hr ?_;(case hd => rfl);(case hg => rfl);(case hr => first|(go_simp;done)|(go_simp;rfl));intro gb232 hg w225 hbox hb;have n0_:=Aside0.mk (Kd.R_below (by (with_reducible repeat (first|apply Kd.R_alloc|apply Kd.R_drewN|apply Kd.R_drew));exact HO220.out) hb);have n1_:=Aside0.mk (blk_below (g:=gb204) (o:=.cells #[.int .i64 t205,.string t206,.int .i64 t207,.int .i64 t208] 39 (0,0)) (by (with_reducible repeat (first|refine blk_drewN ?_ _|refine blk_drew ?_|refine blk_alloc ?_ _));exact BK204.out) hb);have n2_:=Aside0.mk (blk_below (g:=gb217) (o:=.cells #[.int .i64 t212,.string t213,.int .i64 t214,.int .i64 t215] 39 (0,0)) (by (with_reducible repeat (first|refine blk_drewN ?_ _|refine blk_drew ?_|refine blk_alloc ?_ _));exact BK217.out) hb);have n3_:=Aside0.mk (blk_below (g:=gb226) (o:=.cells #[.int .i64 t221,.string t222,.int .i64 t223,.int .i64 t224] 39 (0,0)) (by (with_reducible repeat (first|refine blk_drewN ?_ _|refine blk_drew ?_|refine blk_alloc ?_ _));exact BK226.out) hb);have n4_:=Aside0.mk (below_step (by repeat (first|(with_reducible first|exact HB.out|apply below_alloc|apply pw_below_drewN|apply below_drew1|refine below_set ?_ GE204.out|refine below_set ?_ GE217.out|refine below_set ?_ GE226.out)|exact HB.out)) hb);have n5_:=Aside0.mk (hbox);have n6_:=Aside0.mk ((by rw [hg];exact (below_size (by repeat (first|(with_reducible first|exact HB.out|apply below_alloc|apply pw_below_drewN|apply below_drew1|refine below_set ?_ GE204.out|refine below_set ?_ GE217.out|refine below_set ?_ GE226.out)|exact HB.out))) : w.heap.size ≤ gb232));have n7_:=Aside0.mk ((by rw [hg];exact (below_size (by repeat (first|(with_reducible first|exact HB.out|apply below_alloc|apply pw_below_drewN|apply below_drew1|refine below_set ?_ GE204.out|refine below_set ?_ GE217.out|refine below_set ?_ GE226.out)|exact HB.out))) : w.heap.size ≤ gb232));have n8_:=Aside0.mk ((by rw [hg];exact Nat.ne_of_lt (blk_lt (g:=gb204) (o:=.cells #[.int .i64 t205,.string t206,.int .i64 t207,.int .i64 t208] 39 (0,0)) (by (with_reducible repeat (first|refine blk_drewN ?_ _|refine blk_drew ?_|refine blk_alloc ?_ _));exact BK204.out)) : gb204 ≠ gb232));have n9_:=Aside0.mk ((by rw [hg];exact Nat.ne_of_gt (blk_lt (g:=gb204) (o:=.cells #[.int .i64 t205,.string t206,.int .i64 t207,.int .i64 t208] 39 (0,0)) (by (with_reducible repeat (first|refine blk_drewN ?_ _|refine blk_drew ?_|refine blk_alloc ?_ _));exact BK204.out)) : gb232 ≠ gb204));have n10_:=Aside0.mk ((by rw [hg];exact Nat.ne_of_lt (blk_lt (g:=gb217) (o:=.cells #[.int .i64 t212,.string t213,.int .i64 t214,.int .i64 t215] 39 (0,0)) (by (with_reducible repeat (first|refine blk_drewN ?_ _|refine blk_drew ?_|refine blk_alloc ?_ _));exact BK217.out)) : gb217 ≠ gb232));have n11_:=Aside0.mk ((by rw [hg];exact Nat.ne_of_gt (blk_lt (g:=gb217) (o:=.cells #[.int .i64 t212,.string t213,.int .i64 t214,.int .i64 t215] 39 (0,0)) (by (with_reducible repeat (first|refine blk_drewN ?_ _|refine blk_drew ?_|refine blk_alloc ?_ _));exact BK217.out)) : gb232 ≠ gb217));have n12_:=Aside0.mk ((by rw [hg];exact Nat.ne_of_lt (blk_lt (g:=gb226) (o:=.cells #[.int .i64 t221,.string t222,.int .i64 t223,.int .i64 t224] 39 (0,0)) (by (with_reducible repeat (first|refine blk_drewN ?_ _|refine blk_drew ?_|refine blk_alloc ?_ _));exact BK226.out)) : gb226 ≠ gb232));have n13_:=Aside0.mk ((by rw [hg];exact Nat.ne_of_gt (blk_lt (g:=gb226) (o:=.cells #[.int .i64 t221,.string t222,.int .i64 t223,.int .i64 t224] 39 (0,0)) (by (with_reducible repeat (first|refine blk_drewN ?_ _|refine blk_drew ?_|refine blk_alloc ?_ _));exact BK226.out)) : gb232 ≠ gb226));clear HO220;clear BK204;clear BK217;clear BK226;clear HB;have HO220:=n0_;have BK204:=n1_;have BK217:=n2_;have BK226:=n3_;have HB:=n4_;have BK232:=n5_;have GW232:=n6_;have GE232:=n7_;have NB204_232:=n8_;have NB232_204:=n9_;have NB217_232:=n10_;have NB232_217:=n11_;have NB226_232:=n12_;have NB232_226:=n13_;clear n0_ n1_ n2_ n3_ n4_ n5_ n6_ n7_ n8_ n9_ n10_ n11_ n12_ n13_;clear hb hbox hg;have hnb226:=NB232_204.out;have hnc226:=NB204_232.out;have hnb227:=NB232_217.out;have hnc227:=NB217_232.out;have hnb228:=NB232_226.out;have hnc228:=NB226_232.out;have hcz229_0 : w225.cell? ⟨gb232,0,none⟩ = some (.int .i64 0):=(blk_cell BK232.out 0).trans rfl;have hcz229_1 : w225.cell? ⟨gb232,1,none⟩ = some (.string (⟨#[]⟩ : ByteArray)):=(blk_cell BK232.out 1).trans rfl;have hcz229_2 : w225.cell? ⟨gb232,2,none⟩ = some (.int .i64 0):=(blk_cell BK232.out 2).trans rfl;have hcz229_3 : w225.cell? ⟨gb232,3,none⟩ = some (.int .i64 0):=(blk_cell BK232.out 3).trans rfl;have hfz229_0:=blk_frozen BK232.out 0;have hfz229_1:=blk_frozen BK232.out 1;have hfz229_2:=blk_frozen BK232.out 2;have hfz229_3:=blk_frozen BK232.out 3))
                     go_upto_region 12 with (first|((with_reducible refine gate_callee (f:=22) rfl ?_);refine goesL_ (some 85) rfl rfl Tryd.func22 (by kernel_rfl) rfl #[.string (t209 ++ (⟨#[65,65,65,65]⟩ : ByteArray))] rfl (by (try simp only [List.map_toArray,List.map_cons,List.map_nil]);first|done|rfl|(simp only [List.length_drop,List.length_take];rfl)) ?_;(with_reducible refine (ticket_Open.calls (t209 ++ (⟨#[65,65,65,65]⟩ : ByteArray)) t233 t234 t235 t236 t237 _ ?side1 A44.out).mono ?_);(case side1 => first|exact HGCr.out|exact GlobCr.below HGCr.out (by repeat (first|(with_reducible first|exact HB.out|apply below_alloc|apply pw_below_drewN|apply below_drew1|refine below_set ?_ GE204.out|refine below_set ?_ GE217.out|refine below_set ?_ GE226.out|refine below_set ?_ GE232.out)|exact HB.out))|exact GlobCr.drawn HGCr.out (by repeat (first|exact Drawn0.refl _|apply Drawn0.step)));rintro e w230 ⟨rfl,hb⟩;refine ⟨_,rfl,?_⟩;have n0_:=Aside0.mk (Kd.R_below (by (with_reducible repeat (first|apply Kd.R_alloc|apply Kd.R_drewN|apply Kd.R_drew));exact (Kd.R_mono (Kd.R_far (p:=⟨gb232,3,none⟩) (Kd.R_far (p:=⟨gb232,2,none⟩) (Kd.R_far (p:=⟨gb232,1,none⟩) (Kd.R_far (p:=⟨gb232,0,none⟩) (Kd.R_types HO220.out BK232.out (by decide)) (fun _ hk => hk.2) (.int .i64 t227)) (fun _ hk => hk.2) (.string t228)) (fun _ hk => hk.2) (.int .i64 t229)) (fun _ hk => hk.2) (.int .i64 t230)) (fun _ h_ => h_.1))) hb);have n1_:=Aside0.mk (blk_below (g:=gb204) (o:=.cells #[.int .i64 t205,.string t206,.int .i64 t207,.int .i64 t208] 39 (0,0)) (by (with_reducible repeat (first|refine blk_drewN ?_ _|refine blk_drew ?_|refine blk_alloc ?_ _));refine blk_far ?_ NB204_232.out _;(with_reducible repeat (first|refine blk_drewN ?_ _|refine blk_drew ?_|refine blk_alloc ?_ _));refine blk_far ?_ NB204_232.out _;(with_reducible repeat (first|refine blk_drewN ?_ _|refine blk_drew ?_|refine blk_alloc ?_ _));refine blk_far ?_ NB204_232.out _;(with_reducible repeat (first|refine blk_drewN ?_ _|refine blk_drew ?_|refine blk_alloc ?_ _));refine blk_far ?_ NB204_232.out _;(with_reducible repeat (first|refine blk_drewN ?_ _|refine blk_drew ?_|refine blk_alloc ?_ _));exact BK204.out) hb);have n2_:=Aside0.mk (blk_below (g:=gb217) (o:=.cells #[.int .i64 t212,.string t213,.int .i64 t214,.int .i64 t215] 39 (0,0)) (by (with_reducible repeat (first|refine blk_drewN ?_ _|refine blk_drew ?_|refine blk_alloc ?_ _));refine blk_far ?_ NB217_232.out _;(with_reducible repeat (first|refine blk_drewN ?_ _|refine blk_drew ?_|refine blk_alloc ?_ _));refine blk_far ?_ NB217_232.out _;(with_reducible repeat (first|refine blk_drewN ?_ _|refine blk_drew ?_|refine blk_alloc ?_ _));refine blk_far ?_ NB217_232.out _;(with_reducible repeat (first|refine blk_drewN ?_ _|refine blk_drew ?_|refine blk_alloc ?_ _));refine blk_far ?_ NB217_232.out _;(with_reducible repeat (first|refine blk_drewN ?_ _|refine blk_drew ?_|refine blk_alloc ?_ _));exact BK217.out) hb);have n3_:=Aside0.mk (blk_below (g:=gb226) (o:=.cells #[.int .i64 t221,.string t222,.int .i64 t223,.int .i64 t224] 39 (0,0)) (by (with_reducible repeat (first|refine blk_drewN ?_ _|refine blk_drew ?_|refine blk_alloc ?_ _));refine blk_far ?_ NB226_232.out _;(with_reducible repeat (first|refine blk_drewN ?_ _|refine blk_drew ?_|refine blk_alloc ?_ _));refine blk_far ?_ NB226_232.out _;(with_reducible repeat (first|refine blk_drewN ?_ _|refine blk_drew ?_|refine blk_alloc ?_ _));refine blk_far ?_ NB226_232.out _;(with_reducible repeat (first|refine blk_drewN ?_ _|refine blk_drew ?_|refine blk_alloc ?_ _));refine blk_far ?_ NB226_232.out _;(with_reducible repeat (first|refine blk_drewN ?_ _|refine blk_drew ?_|refine blk_alloc ?_ _));exact BK226.out) hb);have n4_:=Aside0.mk (blk_below (g:=gb232) (o:=.cells #[.int .i64 t227,.string t228,.int .i64 t229,.int .i64 t230] 39 (0,0)) (by (with_reducible repeat (first|refine blk_drewN ?_ _|refine blk_drew ?_|refine blk_alloc ?_ _));refine blk_put (cs:=#[.int .i64 t227,.string t228,.int .i64 t229,.int .i64 0]) ?_ 3 _ rfl;(with_reducible repeat (first|refine blk_drewN ?_ _|refine blk_drew ?_|refine blk_alloc ?_ _));refine blk_put (cs:=#[.int .i64 t227,.string t228,.int .i64 0,.int .i64 0]) ?_ 2 _ rfl;(with_reducible repeat (first|refine blk_drewN ?_ _|refine blk_drew ?_|refine blk_alloc ?_ _));refine blk_put (cs:=#[.int .i64 t227,.string (⟨#[]⟩ : ByteArray),.int .i64 0,.int .i64 0]) ?_ 1 _ rfl;(with_reducible repeat (first|refine blk_drewN ?_ _|refine blk_drew ?_|refine blk_alloc ?_ _));refine blk_put (cs:=#[.int .i64 0,.string (⟨#[]⟩ : ByteArray),.int .i64 0,.int .i64 0]) ?_ 0 _ rfl;(with_reducible repeat (first|refine blk_drewN ?_ _|refine blk_drew ?_|refine blk_alloc ?_ _));exact BK232.out) hb);have n5_:=Aside0.mk (below_step (by repeat (first|(with_reducible first|exact HB.out|apply below_alloc|apply pw_below_drewN|apply below_drew1|refine below_set ?_ GE204.out|refine below_set ?_ GE217.out|refine below_set ?_ GE226.out|refine below_set ?_ GE232.out)|exact HB.out)) hb);clear HO220;clear BK204;clear BK217;clear BK226;clear BK232;clear HB;have HO220:=n0_;have BK204:=n1_;have BK217:=n2_;have BK226:=n3_;have BK232:=n4_;have HB:=n5_;clear n0_ n1_ n2_ n3_ n4_ n5_;(try clear hb);(try clear hb2);(try clear hk);(try clear hi))|((with_reducible refine gate_dst (N:=16) rfl ?_);(try (refine gate_guard (by rfl) ?_;dsimp only));refine box_event ?hg (N:=16) ?hd (cs:=#[.int .i64 0,.string (⟨#[]⟩ : ByteArray),.int .i64 0,.int .i64 0]) (t:=39) ?hr ?_;(case hd => rfl);(case hg => rfl);(case hr => first|(go_simp;done)|(go_simp;rfl));intro gb238 hg w231 hbox hb;have n0_:=Aside0.mk (Kd.R_below (by (with_reducible repeat (first|apply Kd.R_alloc|apply Kd.R_drewN|apply Kd.R_drew));exact HO220.out) hb);have n1_:=Aside0.mk (blk_below (g:=gb204) (o:=.cells #[.int .i64 t205,.string t206,.int .i64 t207,.int .i64 t208] 39 (0,0)) (by (with_reducible repeat (first|refine blk_drewN ?_ _|refine blk_drew ?_|refine blk_alloc ?_ _));exact BK204.out) hb);have n2_:=Aside0.mk (blk_below (g:=gb217) (o:=.cells #[.int .i64 t212,.string t213,.int .i64 t214,.int .i64 t215] 39 (0,0)) (by (with_reducible repeat (first|refine blk_drewN ?_ _|refine blk_drew ?_|refine blk_alloc ?_ _));exact BK217.out) hb);have n3_:=Aside0.mk (blk_below (g:=gb226) (o:=.cells #[.int .i64 t221,.string t222,.int .i64 t223,.int .i64 t224] 39 (0,0)) (by (with_reducible repeat (first|refine blk_drewN ?_ _|refine blk_drew ?_|refine blk_alloc ?_ _));exact BK226.out) hb);have n4_:=Aside0.mk (blk_below (g:=gb232) (o:=.cells #[.int .i64 t227,.string t228,.int .i64 t229,.int .i64 t230] 39 (0,0)) (by (with_reducible repeat (first|refine blk_drewN ?_ _|refine blk_drew ?_|refine blk_alloc ?_ _));exact BK232.out) hb);have n5_:=Aside0.mk (below_step (by repeat (first|(with_reducible first|exact HB.out|apply below_alloc|apply pw_below_drewN|apply below_drew1|refine below_set ?_ GE204.out|refine below_set ?_ GE217.out|refine below_set ?_ GE226.out|refine below_set ?_ GE232.out)|exact HB.out)) hb);have n6_:=Aside0.mk (hbox);have n7_:=Aside0.mk ((by rw [hg];exact (below_size (by repeat (first|(with_reducible first|exact HB.out|apply below_alloc|apply pw_below_drewN|apply below_drew1|refine below_set ?_ GE204.out|refine below_set ?_ GE217.out|refine below_set ?_ GE226.out|refine below_set ?_ GE232.out)|exact HB.out))) : w.heap.size ≤ gb238));have n8_:=Aside0.mk ((by rw [hg];exact (below_size (by repeat (first|(with_reducible first|exact HB.out|apply below_alloc|apply pw_below_drewN|apply below_drew1|refine below_set ?_ GE204.out|refine below_set ?_ GE217.out|refine below_set ?_ GE226.out|refine below_set ?_ GE232.out)|exact HB.out))) : w.heap.size ≤ gb238));have n9_:=Aside0.mk ((by rw [hg];exact Nat.ne_of_lt (blk_lt (g:=gb204) (o:=.cells #[.int .i64 t205,.string t206,.int .i64 t207,.int .i64 t208] 39 (0,0)) (by (with_reducible repeat (first|refine blk_drewN ?_ _|refine blk_drew ?_|refine blk_alloc ?_ _));exact BK204.out)) : gb204 ≠ gb238));have n10_:=Aside0.mk ((by rw [hg];exact Nat.ne_of_gt (blk_lt (g:=gb204) (o:=.cells #[.int .i64 t205,.string t206,.int .i64 t207,.int .i64 t208] 39 (0,0)) (by (with_reducible repeat (first|refine blk_drewN ?_ _|refine blk_drew ?_|refine blk_alloc ?_ _));exact BK204.out)) : gb238 ≠ gb204));have n11_:=Aside0.mk ((by rw [hg];exact Nat.ne_of_lt (blk_lt (g:=gb217) (o:=.cells #[.int .i64 t212,.string t213,.int .i64 t214,.int .i64 t215] 39 (0,0)) (by (with_reducible repeat (first|refine blk_drewN ?_ _|refine blk_drew ?_|refine blk_alloc ?_ _));exact BK217.out)) : gb217 ≠ gb238));have n12_:=Aside0.mk ((by rw [hg];exact Nat.ne_of_gt (blk_lt (g:=gb217) (o:=.cells #[.int .i64 t212,.string t213,.int .i64 t214,.int .i64 t215] 39 (0,0)) (by (with_reducible repeat (first|refine blk_drewN ?_ _|refine blk_drew ?_|refine blk_alloc ?_ _));exact BK217.out)) : gb238 ≠ gb217));have n13_:=Aside0.mk ((by rw [hg];exact Nat.ne_of_lt (blk_lt (g:=gb226) (o:=.cells #[.int .i64 t221,.string t222,.int .i64 t223,.int .i64 t224] 39 (0,0)) (by (with_reducible repeat (first|refine blk_drewN ?_ _|refine blk_drew ?_|refine blk_alloc ?_ _));exact BK226.out)) : gb226 ≠ gb238));have n14_:=Aside0.mk ((by rw [hg];exact Nat.ne_of_gt (blk_lt (g:=gb226) (o:=.cells #[.int .i64 t221,.string t222,.int .i64 t223,.int .i64 t224] 39 (0,0)) (by (with_reducible repeat (first|refine blk_drewN ?_ _|refine blk_drew ?_|refine blk_alloc ?_ _));exact BK226.out)) : gb238 ≠ gb226));have n15_:=Aside0.mk ((by rw [hg];exact Nat.ne_of_lt (blk_lt (g:=gb232) (o:=.cells #[.int .i64 t227,.string t228,.int .i64 t229,.int .i64 t230] 39 (0,0)) (by (with_reducible repeat (first|refine blk_drewN ?_ _|refine blk_drew ?_|refine blk_alloc ?_ _));exact BK232.out)) : gb232 ≠ gb238));have n16_:=Aside0.mk ((by rw [hg];exact Nat.ne_of_gt (blk_lt (g:=gb232) (o:=.cells #[.int .i64 t227,.string t228,.int .i64 t229,.int .i64 t230] 39 (0,0)) (by (with_reducible repeat (first|refine blk_drewN ?_ _|refine blk_drew ?_|refine blk_alloc ?_ _));exact BK232.out)) : gb238 ≠ gb232));clear HO220;clear BK204;clear BK217;clear BK226;clear BK232;clear HB;have HO220:=n0_;have BK204:=n1_;have BK217:=n2_;have BK226:=n3_;have BK232:=n4_;have HB:=n5_;have BK238:=n6_;have GW238:=n7_;have GE238:=n8_;have NB204_238:=n9_;have NB238_204:=n10_;have NB217_238:=n11_;have NB238_217:=n12_;have NB226_238:=n13_;have NB238_226:=n14_;have NB232_238:=n15_;have NB238_232:=n16_;clear n0_ n1_ n2_ n3_ n4_ n5_ n6_ n7_ n8_ n9_ n10_ n11_ n12_ n13_ n14_ n15_ n16_;clear hb hbox hg;have hnb232:=NB238_204.out;have hnc232:=NB204_238.out;have hnb233:=NB238_217.out;have hnc233:=NB217_238.out;have hnb234:=NB238_226.out;have hnc234:=NB226_238.out;have hnb235:=NB238_232.out;have hnc235:=NB232_238.out;have hcz236_0 : w231.cell? ⟨gb238,0,none⟩ = some (.int .i64 0):=(blk_cell BK238.out 0).trans rfl;have hcz236_1 : w231.cell? ⟨gb238,1,none⟩ = some (.string (⟨#[]⟩ : ByteArray)):=(blk_cell BK238.out 1).trans rfl;have hcz236_2 : w231.cell? ⟨gb238,2,none⟩ = some (.int .i64 0):=(blk_cell BK238.out 2).trans rfl;have hcz236_3 : w231.cell? ⟨gb238,3,none⟩ = some (.int .i64 0):=(blk_cell BK238.out 3).trans rfl;have hfz236_0:=blk_frozen BK238.out 0;have hfz236_1:=blk_frozen BK238.out 1;have hfz236_2:=blk_frozen BK238.out 2;have hfz236_3:=blk_frozen BK238.out 3;have p46 : 0 ≤ ((ji31) : Int):=of_decide_eq_true (by first|(with_reducible assumption)|assumption);have q46 : (ji31) < (t209.size : Int):=of_decide_eq_true (by first|(with_reducible assumption)|assumption);have hx46:=bt_at t209 (ji31);replace p46:=eq_true p46;replace q46:=eq_true q46;have hnb237:=NB226_204.out;have hnc237:=NB204_226.out;have hnb238:=NB226_217.out;have hnc238:=NB217_226.out;have hcz239_0 : w231.cell? ⟨gb226,0,none⟩ = some (.int .i64 t221):=(blk_cell BK226.out 0).trans rfl;have hcz239_1 : w231.cell? ⟨gb226,1,none⟩ = some (.string t222):=(blk_cell BK226.out 1).trans rfl;have hcz239_2 : w231.cell? ⟨gb226,2,none⟩ = some (.int .i64 t223):=(blk_cell BK226.out 2).trans rfl;have hcz239_3 : w231.cell? ⟨gb226,3,none⟩ = some (.int .i64 t224):=(blk_cell BK226.out 3).trans rfl;have hfz239_0:=blk_frozen BK226.out 0;have hfz239_1:=blk_frozen BK226.out 1;have hfz239_2:=blk_frozen BK226.out 2;have hfz239_3:=blk_frozen BK226.out 3;have hnb240:=NB204_217.out;have hnc240:=NB217_204.out;have hcz241_0 : w231.cell? ⟨gb204,0,none⟩ = some (.int .i64 t205):=(blk_cell BK204.out 0).trans rfl;have hcz241_1 : w231.cell? ⟨gb204,1,none⟩ = some (.string t206):=(blk_cell BK204.out 1).trans rfl;have hcz241_2 : w231.cell? ⟨gb204,2,none⟩ = some (.int .i64 t207):=(blk_cell BK204.out 2).trans rfl;have hcz241_3 : w231.cell? ⟨gb204,3,none⟩ = some (.int .i64 t208):=(blk_cell BK204.out 3).trans rfl;have hfz241_0:=blk_frozen BK204.out 0;have hfz241_1:=blk_frozen BK204.out 1;have hfz241_2:=blk_frozen BK204.out 2;have hfz241_3:=blk_frozen BK204.out 3;have hcz242_0 : w231.cell? ⟨gb232,0,none⟩ = some (.int .i64 t227):=(blk_cell BK232.out 0).trans rfl;have hcz242_1 : w231.cell? ⟨gb232,1,none⟩ = some (.string t228):=(blk_cell BK232.out 1).trans rfl;have hcz242_2 : w231.cell? ⟨gb232,2,none⟩ = some (.int .i64 t229):=(blk_cell BK232.out 2).trans rfl;have hcz242_3 : w231.cell? ⟨gb232,3,none⟩ = some (.int .i64 t230):=(blk_cell BK232.out 3).trans rfl;have hfz242_0:=blk_frozen BK232.out 0;have hfz242_1:=blk_frozen BK232.out 1;have hfz242_2:=blk_frozen BK232.out 2;have hfz242_3:=blk_frozen BK232.out 3))
                     have c178p : (t221 = t205 ∧ t222.toList = t206.toList ∧ t223 = t207 ∧ t224 = t208) = False:=eq_false (by have h_:=c178b0;simpa using h_)
                     go_upto_region 14 with (fail)
                     have c210p : t227 = 0 ∧ t228.toList = ([] : List UInt8) ∧ t229 = 0 ∧ t230 = 0:=by simpa [Bool.and_eq_true,beq_iff_eq] using c210b0
                     have c211p : t233 = 0 ∧ t234.toList = ([] : List UInt8) ∧ t235 = 0 ∧ t236 = 0:=by simpa [Bool.and_eq_true,beq_iff_eq] using c211b0
                     refine wp_region_lit ?_
                     iterate 9 (refine wpList_step (fun K hK => ?_);go_simp;refine hK _ _ ?_;clear hK K)
                     refine wpList_step (fun K hK => ?_)
                     go_simp
                     refine (racewaylaw27_works.calls kj7 t240 _ A212.out).mono ?_
                     rintro e w_ ⟨rfl,hb⟩
                     have HBw:=below_step (by repeat (first|(with_reducible first|exact HB.out|apply below_alloc|apply pw_below_drewN|apply below_drew1|refine below_set ?_ GE204.out|refine below_set ?_ GE217.out|refine below_set ?_ GE226.out|refine below_set ?_ GE232.out|refine below_set ?_ GE238.out)|exact HB.out)) hb
                     have HBW:=Aside0.mk HBw
                     clear HBw hb
                     refine hK _ _ ?_
                     clear hK K
                     refine wpList_step (fun K hK => ?_)
                     go_simp
                     refine hK _ _ ?_
                     clear hK K
                     refine wpList_step (fun K hK => ?_)
                     go_simp
                     refine hK _ _ ?_
                     clear hK K
                     refine wpList_nil ?_
                     go_wp2
                     go_ret
                     exact ⟨rfl,HBW.out⟩
                    ·rw [if_neg c211] at H
                     have c211b0 : (t233 == 0 && (t234.toList == ([] : List UInt8) && (t235 == 0 && (t236 == 0)))) = false:=by simpa using c211
                     (try (have c211b1 : decide (t233 = 0 && (t234.toList == ([] : List UInt8) && (t235 == 0 && (t236 == 0)))) = false:=by simpa using c211))
                     (try (have c211b2 : (t233 == 0 && (t234.toList == ([] : List UInt8) && (t235 == 0 && (t236 == 0)))) = false:=by simpa using c211))
                     (try (have c211b3 : ¬ (t233 = 0 && (t234.toList == ([] : List UInt8) && (t235 == 0 && (t236 == 0)))):=by simpa using c211))
                     clear c211
                     exact absurd ((Option.some.inj H).trans HRT.out) (by decide)
                   ·rw [if_neg c210] at H
                    have c210b0 : (t227 == 0 && (t228.toList == ([] : List UInt8) && (t229 == 0 && (t230 == 0)))) = false:=by simpa using c210
                    (try (have c210b1 : decide (t227 = 0 && (t228.toList == ([] : List UInt8) && (t229 == 0 && (t230 == 0)))) = false:=by simpa using c210))
                    (try (have c210b2 : (t227 == 0 && (t228.toList == ([] : List UInt8) && (t229 == 0 && (t230 == 0)))) = false:=by simpa using c210))
                    (try (have c210b3 : ¬ (t227 = 0 && (t228.toList == ([] : List UInt8) && (t229 == 0 && (t230 == 0)))):=by simpa using c210))
                    clear c210
                    exact absurd ((Option.some.inj H).trans HRT.out) (by decide)
                  ·rw [if_neg c209] at H
                   have c209b0 : (t237 == 12) = false:=beq_eq_false_iff_ne.mpr c209
                   have c209b1 : (t237 != 12) = true:=bne_iff_ne.mpr c209
                   exact absurd ((Option.some.inj H).trans HRT.out) (by decide)
                 ·rw [if_neg c208] at H
                  have c208b0 : (t231 == 12) = false:=beq_eq_false_iff_ne.mpr c208
                  have c208b1 : (t231 != 12) = true:=bne_iff_ne.mpr c208
                  exact absurd ((Option.some.inj H).trans HRT.out) (by decide)
               ·rw [if_neg c177] at H
                have c177b0 : (t225 == 0) = false:=beq_eq_false_iff_ne.mpr c177
                have c177b1 : (t225 != 0) = true:=bne_iff_ne.mpr c177
                by_cases c362 : t231 = 12
                ·rw [if_pos c362] at H
                 have c362b0 : (t231 == 12) = true:=beq_iff_eq.mpr c362
                 have c362b1 : (t231 != 12) = false:=bne_eq_false_iff_eq.mpr c362
                 clear c362
                 by_cases c363 : t237 = 12
                 ·rw [if_pos c363] at H
                  have c363b0 : (t237 == 12) = true:=beq_iff_eq.mpr c363
                  have c363b1 : (t237 != 12) = false:=bne_eq_false_iff_eq.mpr c363
                  clear c363
                  by_cases c364 : (t227 == 0 && (t228.toList == ([] : List UInt8) && (t229 == 0 && (t230 == 0)))) = true
                  ·rw [if_pos c364] at H
                   have c364b0 : (t227 == 0 && (t228.toList == ([] : List UInt8) && (t229 == 0 && (t230 == 0)))) = true:=c364
                   (try (have c364b1 : decide (t227 = 0 && (t228.toList == ([] : List UInt8) && (t229 == 0 && (t230 == 0)))) = true:=by simpa using c364))
                   (try (have c364b2 : (t227 == 0 && (t228.toList == ([] : List UInt8) && (t229 == 0 && (t230 == 0)))) = true:=by simpa using c364))
                   clear c364
                   by_cases c365 : (t233 == 0 && (t234.toList == ([] : List UInt8) && (t235 == 0 && (t236 == 0)))) = true
                   ·rw [if_pos c365] at H
                    have c365b0 : (t233 == 0 && (t234.toList == ([] : List UInt8) && (t235 == 0 && (t236 == 0)))) = true:=c365
                    (try (have c365b1 : decide (t233 = 0 && (t234.toList == ([] : List UInt8) && (t235 == 0 && (t236 == 0)))) = true:=by simpa using c365))
                    (try (have c365b2 : (t233 == 0 && (t234.toList == ([] : List UInt8) && (t235 == 0 && (t236 == 0)))) = true:=by simpa using c365))
                    clear c365
                    replace H:=Option.bind_eq_some_iff.mp H
                    obtain ⟨t241,A3660,H⟩:=H
                    replace H : (some t241) = some r:=H
                    have A366:=Aside0.mk A3660
                    clear A3660
                    obtain rfl:=Option.some.inj H
                    go_upto_region 11 with (first|((with_reducible refine gate_callee (f:=22) rfl ?_);refine goesL_ (some 79) rfl rfl Tryd.func22 (by kernel_rfl) rfl #[.string (t209.extract 0 ((ji31) : Int).toNat)] rfl (by (try simp only [List.map_toArray,List.map_cons,List.map_nil]);first|done|(simp only [hji31];rfl)|rfl|(simp only [List.length_drop,List.length_take];rfl)) ?_;(with_reducible refine (ticket_Open.calls (t209.extract 0 ((ji31) : Int).toNat) t227 t228 t229 t230 t231 _ ?side1 A42.out).mono ?_);(case side1 => first|exact HGCr.out|exact GlobCr.below HGCr.out (by repeat (first|(with_reducible first|exact HB.out|apply below_alloc|apply pw_below_drewN|apply below_drew1|refine below_set ?_ GE204.out|refine below_set ?_ GE217.out|refine below_set ?_ GE226.out)|exact HB.out))|exact GlobCr.drawn HGCr.out (by repeat (first|exact Drawn0.refl _|apply Drawn0.step)));rintro e w378 ⟨rfl,hb⟩;refine ⟨_,rfl,?_⟩;have n0_:=Aside0.mk (Kd.R_below (by (with_reducible repeat (first|apply Kd.R_alloc|apply Kd.R_drewN|apply Kd.R_drew));exact (Kd.R_mono (Kd.R_far (p:=⟨gb226,3,none⟩) (Kd.R_far (p:=⟨gb226,2,none⟩) (Kd.R_far (p:=⟨gb226,1,none⟩) (Kd.R_far (p:=⟨gb226,0,none⟩) (Kd.R_types HO220.out BK226.out (by decide)) (fun _ hk => hk.2) (.int .i64 t221)) (fun _ hk => hk.2) (.string t222)) (fun _ hk => hk.2) (.int .i64 t223)) (fun _ hk => hk.2) (.int .i64 t224)) (fun _ h_ => h_.1))) hb);have n1_:=Aside0.mk (blk_below (g:=gb204) (o:=.cells #[.int .i64 t205,.string t206,.int .i64 t207,.int .i64 t208] 39 (0,0)) (by (with_reducible repeat (first|refine blk_drewN ?_ _|refine blk_drew ?_|refine blk_alloc ?_ _));refine blk_far ?_ NB204_226.out _;(with_reducible repeat (first|refine blk_drewN ?_ _|refine blk_drew ?_|refine blk_alloc ?_ _));refine blk_far ?_ NB204_226.out _;(with_reducible repeat (first|refine blk_drewN ?_ _|refine blk_drew ?_|refine blk_alloc ?_ _));refine blk_far ?_ NB204_226.out _;(with_reducible repeat (first|refine blk_drewN ?_ _|refine blk_drew ?_|refine blk_alloc ?_ _));refine blk_far ?_ NB204_226.out _;(with_reducible repeat (first|refine blk_drewN ?_ _|refine blk_drew ?_|refine blk_alloc ?_ _));exact BK204.out) hb);have n2_:=Aside0.mk (blk_below (g:=gb217) (o:=.cells #[.int .i64 t212,.string t213,.int .i64 t214,.int .i64 t215] 39 (0,0)) (by (with_reducible repeat (first|refine blk_drewN ?_ _|refine blk_drew ?_|refine blk_alloc ?_ _));refine blk_far ?_ NB217_226.out _;(with_reducible repeat (first|refine blk_drewN ?_ _|refine blk_drew ?_|refine blk_alloc ?_ _));refine blk_far ?_ NB217_226.out _;(with_reducible repeat (first|refine blk_drewN ?_ _|refine blk_drew ?_|refine blk_alloc ?_ _));refine blk_far ?_ NB217_226.out _;(with_reducible repeat (first|refine blk_drewN ?_ _|refine blk_drew ?_|refine blk_alloc ?_ _));refine blk_far ?_ NB217_226.out _;(with_reducible repeat (first|refine blk_drewN ?_ _|refine blk_drew ?_|refine blk_alloc ?_ _));exact BK217.out) hb);have n3_:=Aside0.mk (blk_below (g:=gb226) (o:=.cells #[.int .i64 t221,.string t222,.int .i64 t223,.int .i64 t224] 39 (0,0)) (by (with_reducible repeat (first|refine blk_drewN ?_ _|refine blk_drew ?_|refine blk_alloc ?_ _));refine blk_put (cs:=#[.int .i64 t221,.string t222,.int .i64 t223,.int .i64 0]) ?_ 3 _ rfl;(with_reducible repeat (first|refine blk_drewN ?_ _|refine blk_drew ?_|refine blk_alloc ?_ _));refine blk_put (cs:=#[.int .i64 t221,.string t222,.int .i64 0,.int .i64 0]) ?_ 2 _ rfl;(with_reducible repeat (first|refine blk_drewN ?_ _|refine blk_drew ?_|refine blk_alloc ?_ _));refine blk_put (cs:=#[.int .i64 t221,.string (⟨#[]⟩ : ByteArray),.int .i64 0,.int .i64 0]) ?_ 1 _ rfl;(with_reducible repeat (first|refine blk_drewN ?_ _|refine blk_drew ?_|refine blk_alloc ?_ _));refine blk_put (cs:=#[.int .i64 0,.string (⟨#[]⟩ : ByteArray),.int .i64 0,.int .i64 0]) ?_ 0 _ rfl;(with_reducible repeat (first|refine blk_drewN ?_ _|refine blk_drew ?_|refine blk_alloc ?_ _));exact BK226.out) hb);have n4_:=Aside0.mk (below_step (by repeat (first|(with_reducible first|exact HB.out|apply below_alloc|apply pw_below_drewN|apply below_drew1|refine below_set ?_ GE204.out|refine below_set ?_ GE217.out|refine below_set ?_ GE226.out)|exact HB.out)) hb);clear HO220;clear BK204;clear BK217;clear BK226;clear HB;have HO220:=n0_;have BK204:=n1_;have BK217:=n2_;have BK226:=n3_;have HB:=n4_;clear n0_ n1_ n2_ n3_ n4_;(try clear hb);(try clear hb2);(try clear hk);(try clear hi))|((with_reducible refine gate_dst (N:=14) rfl ?_);(try (refine gate_guard (by rfl) ?_;dsimp only));refine box_event ?hg (N:=14) ?hd (cs:=#[.int .i64 0,.string (⟨#[]⟩ : ByteArray),.int .i64 0,.int .i64 0]) (t:=39) ?hr ?_;(case hd => rfl);(case hg => rfl);(case hr => first|(go_simp;done)|(go_simp;rfl));intro gb232 hg w379 hbox hb;have n0_:=Aside0.mk (Kd.R_below (by (with_reducible repeat (first|apply Kd.R_alloc|apply Kd.R_drewN|apply Kd.R_drew));exact HO220.out) hb);have n1_:=Aside0.mk (blk_below (g:=gb204) (o:=.cells #[.int .i64 t205,.string t206,.int .i64 t207,.int .i64 t208] 39 (0,0)) (by (with_reducible repeat (first|refine blk_drewN ?_ _|refine blk_drew ?_|refine blk_alloc ?_ _));exact BK204.out) hb);have n2_:=Aside0.mk (blk_below (g:=gb217) (o:=.cells #[.int .i64 t212,.string t213,.int .i64 t214,.int .i64 t215] 39 (0,0)) (by (with_reducible repeat (first|refine blk_drewN ?_ _|refine blk_drew ?_|refine blk_alloc ?_ _));exact BK217.out) hb);have n3_:=Aside0.mk (blk_below (g:=gb226) (o:=.cells #[.int .i64 t221,.string t222,.int .i64 t223,.int .i64 t224] 39 (0,0)) (by (with_reducible repeat (first|refine blk_drewN ?_ _|refine blk_drew ?_|refine blk_alloc ?_ _));exact BK226.out) hb);have n4_:=Aside0.mk (below_step (by repeat (first|(with_reducible first|exact HB.out|apply below_alloc|apply pw_below_drewN|apply below_drew1|refine below_set ?_ GE204.out|refine below_set ?_ GE217.out|refine below_set ?_ GE226.out)|exact HB.out)) hb);have n5_:=Aside0.mk (hbox);have n6_:=Aside0.mk ((by rw [hg];exact (below_size (by repeat (first|(with_reducible first|exact HB.out|apply below_alloc|apply pw_below_drewN|apply below_drew1|refine below_set ?_ GE204.out|refine below_set ?_ GE217.out|refine below_set ?_ GE226.out)|exact HB.out))) : w.heap.size ≤ gb232));have n7_:=Aside0.mk ((by rw [hg];exact (below_size (by repeat (first|(with_reducible first|exact HB.out|apply below_alloc|apply pw_below_drewN|apply below_drew1|refine below_set ?_ GE204.out|refine below_set ?_ GE217.out|refine below_set ?_ GE226.out)|exact HB.out))) : w.heap.size ≤ gb232));have n8_:=Aside0.mk ((by rw [hg];exact Nat.ne_of_lt (blk_lt (g:=gb204) (o:=.cells #[.int .i64 t205,.string t206,.int .i64 t207,.int .i64 t208] 39 (0,0)) (by (with_reducible repeat (first|refine blk_drewN ?_ _|refine blk_drew ?_|refine blk_alloc ?_ _));exact BK204.out)) : gb204 ≠ gb232));have n9_:=Aside0.mk ((by rw [hg];exact Nat.ne_of_gt (blk_lt (g:=gb204) (o:=.cells #[.int .i64 t205,.string t206,.int .i64 t207,.int .i64 t208] 39 (0,0)) (by (with_reducible repeat (first|refine blk_drewN ?_ _|refine blk_drew ?_|refine blk_alloc ?_ _));exact BK204.out)) : gb232 ≠ gb204));have n10_:=Aside0.mk ((by rw [hg];exact Nat.ne_of_lt (blk_lt (g:=gb217) (o:=.cells #[.int .i64 t212,.string t213,.int .i64 t214,.int .i64 t215] 39 (0,0)) (by (with_reducible repeat (first|refine blk_drewN ?_ _|refine blk_drew ?_|refine blk_alloc ?_ _));exact BK217.out)) : gb217 ≠ gb232));have n11_:=Aside0.mk ((by rw [hg];exact Nat.ne_of_gt (blk_lt (g:=gb217) (o:=.cells #[.int .i64 t212,.string t213,.int .i64 t214,.int .i64 t215] 39 (0,0)) (by (with_reducible repeat (first|refine blk_drewN ?_ _|refine blk_drew ?_|refine blk_alloc ?_ _));exact BK217.out)) : gb232 ≠ gb217));have n12_:=Aside0.mk ((by rw [hg];exact Nat.ne_of_lt (blk_lt (g:=gb226) (o:=.cells #[.int .i64 t221,.string t222,.int .i64 t223,.int .i64 t224] 39 (0,0)) (by (with_reducible repeat (first|refine blk_drewN ?_ _|refine blk_drew ?_|refine blk_alloc ?_ _));exact BK226.out)) : gb226 ≠ gb232));have n13_:=Aside0.mk ((by rw [hg];exact Nat.ne_of_gt (blk_lt (g:=gb226) (o:=.cells #[.int .i64 t221,.string t222,.int .i64 t223,.int .i64 t224] 39 (0,0)) (by (with_reducible repeat (first|refine blk_drewN ?_ _|refine blk_drew ?_|refine blk_alloc ?_ _));exact BK226.out)) : gb232 ≠ gb226));clear HO220;clear BK204;clear BK217;clear BK226;clear HB;have HO220:=n0_;have BK204:=n1_;have BK217:=n2_;have BK226:=n3_;have HB:=n4_;have BK232:=n5_;have GW232:=n6_;have GE232:=n7_;have NB204_232:=n8_;have NB232_204:=n9_;have NB217_232:=n10_;have NB232_217:=n11_;have NB226_232:=n12_;have NB232_226:=n13_;clear n0_ n1_ n2_ n3_ n4_ n5_ n6_ n7_ n8_ n9_ n10_ n11_ n12_ n13_;clear hb hbox hg;have hnb380:=NB232_204.out;have hnc380:=NB204_232.out;have hnb381:=NB232_217.out;have hnc381:=NB217_232.out;have hnb382:=NB232_226.out;have hnc382:=NB226_232.out;have hcz383_0 : w379.cell? ⟨gb232,0,none⟩ = some (.int .i64 0):=(blk_cell BK232.out 0).trans rfl;have hcz383_1 : w379.cell? ⟨gb232,1,none⟩ = some (.string (⟨#[]⟩ : ByteArray)):=(blk_cell BK232.out 1).trans rfl;have hcz383_2 : w379.cell? ⟨gb232,2,none⟩ = some (.int .i64 0):=(blk_cell BK232.out 2).trans rfl;have hcz383_3 : w379.cell? ⟨gb232,3,none⟩ = some (.int .i64 0):=(blk_cell BK232.out 3).trans rfl;have hfz383_0:=blk_frozen BK232.out 0;have hfz383_1:=blk_frozen BK232.out 1;have hfz383_2:=blk_frozen BK232.out 2;have hfz383_3:=blk_frozen BK232.out 3))
                    go_upto_region 12 with (first|((with_reducible refine gate_callee (f:=22) rfl ?_);refine goesL_ (some 85) rfl rfl Tryd.func22 (by kernel_rfl) rfl #[.string (t209 ++ (⟨#[65,65,65,65]⟩ : ByteArray))] rfl (by (try simp only [List.map_toArray,List.map_cons,List.map_nil]);first|done|rfl|(simp only [List.length_drop,List.length_take];rfl)) ?_;(with_reducible refine (ticket_Open.calls (t209 ++ (⟨#[65,65,65,65]⟩ : ByteArray)) t233 t234 t235 t236 t237 _ ?side1 A44.out).mono ?_);(case side1 => first|exact HGCr.out|exact GlobCr.below HGCr.out (by repeat (first|(with_reducible first|exact HB.out|apply below_alloc|apply pw_below_drewN|apply below_drew1|refine below_set ?_ GE204.out|refine below_set ?_ GE217.out|refine below_set ?_ GE226.out|refine below_set ?_ GE232.out)|exact HB.out))|exact GlobCr.drawn HGCr.out (by repeat (first|exact Drawn0.refl _|apply Drawn0.step)));rintro e w384 ⟨rfl,hb⟩;refine ⟨_,rfl,?_⟩;have n0_:=Aside0.mk (Kd.R_below (by (with_reducible repeat (first|apply Kd.R_alloc|apply Kd.R_drewN|apply Kd.R_drew));exact (Kd.R_mono (Kd.R_far (p:=⟨gb232,3,none⟩) (Kd.R_far (p:=⟨gb232,2,none⟩) (Kd.R_far (p:=⟨gb232,1,none⟩) (Kd.R_far (p:=⟨gb232,0,none⟩) (Kd.R_types HO220.out BK232.out (by decide)) (fun _ hk => hk.2) (.int .i64 t227)) (fun _ hk => hk.2) (.string t228)) (fun _ hk => hk.2) (.int .i64 t229)) (fun _ hk => hk.2) (.int .i64 t230)) (fun _ h_ => h_.1))) hb);have n1_:=Aside0.mk (blk_below (g:=gb204) (o:=.cells #[.int .i64 t205,.string t206,.int .i64 t207,.int .i64 t208] 39 (0,0)) (by (with_reducible repeat (first|refine blk_drewN ?_ _|refine blk_drew ?_|refine blk_alloc ?_ _));refine blk_far ?_ NB204_232.out _;(with_reducible repeat (first|refine blk_drewN ?_ _|refine blk_drew ?_|refine blk_alloc ?_ _));refine blk_far ?_ NB204_232.out _;(with_reducible repeat (first|refine blk_drewN ?_ _|refine blk_drew ?_|refine blk_alloc ?_ _));refine blk_far ?_ NB204_232.out _;(with_reducible repeat (first|refine blk_drewN ?_ _|refine blk_drew ?_|refine blk_alloc ?_ _));refine blk_far ?_ NB204_232.out _;(with_reducible repeat (first|refine blk_drewN ?_ _|refine blk_drew ?_|refine blk_alloc ?_ _));exact BK204.out) hb);have n2_:=Aside0.mk (blk_below (g:=gb217) (o:=.cells #[.int .i64 t212,.string t213,.int .i64 t214,.int .i64 t215] 39 (0,0)) (by (with_reducible repeat (first|refine blk_drewN ?_ _|refine blk_drew ?_|refine blk_alloc ?_ _));refine blk_far ?_ NB217_232.out _;(with_reducible repeat (first|refine blk_drewN ?_ _|refine blk_drew ?_|refine blk_alloc ?_ _));refine blk_far ?_ NB217_232.out _;(with_reducible repeat (first|refine blk_drewN ?_ _|refine blk_drew ?_|refine blk_alloc ?_ _));refine blk_far ?_ NB217_232.out _;(with_reducible repeat (first|refine blk_drewN ?_ _|refine blk_drew ?_|refine blk_alloc ?_ _));refine blk_far ?_ NB217_232.out _;(with_reducible repeat (first|refine blk_drewN ?_ _|refine blk_drew ?_|refine blk_alloc ?_ _));exact BK217.out) hb);have n3_:=Aside0.mk (blk_below (g:=gb226) (o:=.cells #[.int .i64 t221,.string t222,.int .i64 t223,.int .i64 t224] 39 (0,0)) (by (with_reducible repeat (first|refine blk_drewN ?_ _|refine blk_drew ?_|refine blk_alloc ?_ _));refine blk_far ?_ NB226_232.out _;(with_reducible repeat (first|refine blk_drewN ?_ _|refine blk_drew ?_|refine blk_alloc ?_ _));refine blk_far ?_ NB226_232.out _;(with_reducible repeat (first|refine blk_drewN ?_ _|refine blk_drew ?_|refine blk_alloc ?_ _));refine blk_far ?_ NB226_232.out _;(with_reducible repeat (first|refine blk_drewN ?_ _|refine blk_drew ?_|refine blk_alloc ?_ _));refine blk_far ?_ NB226_232.out _;(with_reducible repeat (first|refine blk_drewN ?_ _|refine blk_drew ?_|refine blk_alloc ?_ _));exact BK226.out) hb);have n4_:=Aside0.mk (blk_below (g:=gb232) (o:=.cells #[.int .i64 t227,.string t228,.int .i64 t229,.int .i64 t230] 39 (0,0)) (by (with_reducible repeat (first|refine blk_drewN ?_ _|refine blk_drew ?_|refine blk_alloc ?_ _));refine blk_put (cs:=#[.int .i64 t227,.string t228,.int .i64 t229,.int .i64 0]) ?_ 3 _ rfl;(with_reducible repeat (first|refine blk_drewN ?_ _|refine blk_drew ?_|refine blk_alloc ?_ _));refine blk_put (cs:=#[.int .i64 t227,.string t228,.int .i64 0,.int .i64 0]) ?_ 2 _ rfl;(with_reducible repeat (first|refine blk_drewN ?_ _|refine blk_drew ?_|refine blk_alloc ?_ _));refine blk_put (cs:=#[.int .i64 t227,.string (⟨#[]⟩ : ByteArray),.int .i64 0,.int .i64 0]) ?_ 1 _ rfl;(with_reducible repeat (first|refine blk_drewN ?_ _|refine blk_drew ?_|refine blk_alloc ?_ _));refine blk_put (cs:=#[.int .i64 0,.string (⟨#[]⟩ : ByteArray),.int .i64 0,.int .i64 0]) ?_ 0 _ rfl;(with_reducible repeat (first|refine blk_drewN ?_ _|refine blk_drew ?_|refine blk_alloc ?_ _));exact BK232.out) hb);have n5_:=Aside0.mk (below_step (by repeat (first|(with_reducible first|exact HB.out|apply below_alloc|apply pw_below_drewN|apply below_drew1|refine below_set ?_ GE204.out|refine below_set ?_ GE217.out|refine below_set ?_ GE226.out|refine below_set ?_ GE232.out)|exact HB.out)) hb);clear HO220;clear BK204;clear BK217;clear BK226;clear BK232;clear HB;have HO220:=n0_;have BK204:=n1_;have BK217:=n2_;have BK226:=n3_;have BK232:=n4_;have HB:=n5_;clear n0_ n1_ n2_ n3_ n4_ n5_;(try clear hb);(try clear hb2);(try clear hk);(try clear hi))|((with_reducible refine gate_dst (N:=16) rfl ?_);(try (refine gate_guard (by rfl) ?_;dsimp only));refine box_event ?hg (N:=16) ?hd (cs:=#[.int .i64 0,.string (⟨#[]⟩ : ByteArray),.int .i64 0,.int .i64 0]) (t:=39) ?hr ?_;(case hd => rfl);(case hg => rfl);(case hr => first|(go_simp;done)|(go_simp;rfl));intro gb238 hg w385 hbox hb;have n0_:=Aside0.mk (Kd.R_below (by (with_reducible repeat (first|apply Kd.R_alloc|apply Kd.R_drewN|apply Kd.R_drew));exact HO220.out) hb);have n1_:=Aside0.mk (blk_below (g:=gb204) (o:=.cells #[.int .i64 t205,.string t206,.int .i64 t207,.int .i64 t208] 39 (0,0)) (by (with_reducible repeat (first|refine blk_drewN ?_ _|refine blk_drew ?_|refine blk_alloc ?_ _));exact BK204.out) hb);have n2_:=Aside0.mk (blk_below (g:=gb217) (o:=.cells #[.int .i64 t212,.string t213,.int .i64 t214,.int .i64 t215] 39 (0,0)) (by (with_reducible repeat (first|refine blk_drewN ?_ _|refine blk_drew ?_|refine blk_alloc ?_ _));exact BK217.out) hb);have n3_:=Aside0.mk (blk_below (g:=gb226) (o:=.cells #[.int .i64 t221,.string t222,.int .i64 t223,.int .i64 t224] 39 (0,0)) (by (with_reducible repeat (first|refine blk_drewN ?_ _|refine blk_drew ?_|refine blk_alloc ?_ _));exact BK226.out) hb);have n4_:=Aside0.mk (blk_below (g:=gb232) (o:=.cells #[.int .i64 t227,.string t228,.int .i64 t229,.int .i64 t230] 39 (0,0)) (by (with_reducible repeat (first|refine blk_drewN ?_ _|refine blk_drew ?_|refine blk_alloc ?_ _));exact BK232.out) hb);have n5_:=Aside0.mk (below_step (by repeat (first|(with_reducible first|exact HB.out|apply below_alloc|apply pw_below_drewN|apply below_drew1|refine below_set ?_ GE204.out|refine below_set ?_ GE217.out|refine below_set ?_ GE226.out|refine below_set ?_ GE232.out)|exact HB.out)) hb);have n6_:=Aside0.mk (hbox);have n7_:=Aside0.mk ((by rw [hg];exact (below_size (by repeat (first|(with_reducible first|exact HB.out|apply below_alloc|apply pw_below_drewN|apply below_drew1|refine below_set ?_ GE204.out|refine below_set ?_ GE217.out|refine below_set ?_ GE226.out|refine below_set ?_ GE232.out)|exact HB.out))) : w.heap.size ≤ gb238));have n8_:=Aside0.mk ((by rw [hg];exact (below_size (by repeat (first|(with_reducible first|exact HB.out|apply below_alloc|apply pw_below_drewN|apply below_drew1|refine below_set ?_ GE204.out|refine below_set ?_ GE217.out|refine below_set ?_ GE226.out|refine below_set ?_ GE232.out)|exact HB.out))) : w.heap.size ≤ gb238));have n9_:=Aside0.mk ((by rw [hg];exact Nat.ne_of_lt (blk_lt (g:=gb204) (o:=.cells #[.int .i64 t205,.string t206,.int .i64 t207,.int .i64 t208] 39 (0,0)) (by (with_reducible repeat (first|refine blk_drewN ?_ _|refine blk_drew ?_|refine blk_alloc ?_ _));exact BK204.out)) : gb204 ≠ gb238));have n10_:=Aside0.mk ((by rw [hg];exact Nat.ne_of_gt (blk_lt (g:=gb204) (o:=.cells #[.int .i64 t205,.string t206,.int .i64 t207,.int .i64 t208] 39 (0,0)) (by (with_reducible repeat (first|refine blk_drewN ?_ _|refine blk_drew ?_|refine blk_alloc ?_ _));exact BK204.out)) : gb238 ≠ gb204));have n11_:=Aside0.mk ((by rw [hg];exact Nat.ne_of_lt (blk_lt (g:=gb217) (o:=.cells #[.int .i64 t212,.string t213,.int .i64 t214,.int .i64 t215] 39 (0,0)) (by (with_reducible repeat (first|refine blk_drewN ?_ _|refine blk_drew ?_|refine blk_alloc ?_ _));exact BK217.out)) : gb217 ≠ gb238));have n12_:=Aside0.mk ((by rw [hg];exact Nat.ne_of_gt (blk_lt (g:=gb217) (o:=.cells #[.int .i64 t212,.string t213,.int .i64 t214,.int .i64 t215] 39 (0,0)) (by (with_reducible repeat (first|refine blk_drewN ?_ _|refine blk_drew ?_|refine blk_alloc ?_ _));exact BK217.out)) : gb238 ≠ gb217));have n13_:=Aside0.mk ((by rw [hg];exact Nat.ne_of_lt (blk_lt (g:=gb226) (o:=.cells #[.int .i64 t221,.string t222,.int .i64 t223,.int .i64 t224] 39 (0,0)) (by (with_reducible repeat (first|refine blk_drewN ?_ _|refine blk_drew ?_|refine blk_alloc ?_ _));exact BK226.out)) : gb226 ≠ gb238));have n14_:=Aside0.mk ((by rw [hg];exact Nat.ne_of_gt (blk_lt (g:=gb226) (o:=.cells #[.int .i64 t221,.string t222,.int .i64 t223,.int .i64 t224] 39 (0,0)) (by (with_reducible repeat (first|refine blk_drewN ?_ _|refine blk_drew ?_|refine blk_alloc ?_ _));exact BK226.out)) : gb238 ≠ gb226));have n15_:=Aside0.mk ((by rw [hg];exact Nat.ne_of_lt (blk_lt (g:=gb232) (o:=.cells #[.int .i64 t227,.string t228,.int .i64 t229,.int .i64 t230] 39 (0,0)) (by (with_reducible repeat (first|refine blk_drewN ?_ _|refine blk_drew ?_|refine blk_alloc ?_ _));exact BK232.out)) : gb232 ≠ gb238));have n16_:=Aside0.mk ((by rw [hg];exact Nat.ne_of_gt (blk_lt (g:=gb232) (o:=.cells #[.int .i64 t227,.string t228,.int .i64 t229,.int .i64 t230] 39 (0,0)) (by (with_reducible repeat (first|refine blk_drewN ?_ _|refine blk_drew ?_|refine blk_alloc ?_ _));exact BK232.out)) : gb238 ≠ gb232));clear HO220;clear BK204;clear BK217;clear BK226;clear BK232;clear HB;have HO220:=n0_;have BK204:=n1_;have BK217:=n2_;have BK226:=n3_;have BK232:=n4_;have HB:=n5_;have BK238:=n6_;have GW238:=n7_;have GE238:=n8_;have NB204_238:=n9_;have NB238_204:=n10_;have NB217_238:=n11_;have NB238_217:=n12_;have NB226_238:=n13_;have NB238_226:=n14_;have NB232_238:=n15_;have NB238_232:=n16_;clear n0_ n1_ n2_ n3_ n4_ n5_ n6_ n7_ n8_ n9_ n10_ n11_ n12_ n13_ n14_ n15_ n16_;clear hb hbox hg;have hnb386:=NB238_204.out;have hnc386:=NB204_238.out;have hnb387:=NB238_217.out;have hnc387:=NB217_238.out;have hnb388:=NB238_226.out;have hnc388:=NB226_238.out;have hnb389:=NB238_232.out;have hnc389:=NB232_238.out;have hcz390_0 : w385.cell? ⟨gb238,0,none⟩ = some (.int .i64 0):=(blk_cell BK238.out 0).trans rfl;have hcz390_1 : w385.cell? ⟨gb238,1,none⟩ = some (.string (⟨#[]⟩ : ByteArray)):=(blk_cell BK238.out 1).trans rfl;have hcz390_2 : w385.cell? ⟨gb238,2,none⟩ = some (.int .i64 0):=(blk_cell BK238.out 2).trans rfl;have hcz390_3 : w385.cell? ⟨gb238,3,none⟩ = some (.int .i64 0):=(blk_cell BK238.out 3).trans rfl;have hfz390_0:=blk_frozen BK238.out 0;have hfz390_1:=blk_frozen BK238.out 1;have hfz390_2:=blk_frozen BK238.out 2;have hfz390_3:=blk_frozen BK238.out 3;have p46 : 0 ≤ ((ji31) : Int):=of_decide_eq_true (by first|(with_reducible assumption)|assumption);have q46 : (ji31) < (t209.size : Int):=of_decide_eq_true (by first|(with_reducible assumption)|assumption);have hx46:=bt_at t209 (ji31);replace p46:=eq_true p46;replace q46:=eq_true q46;have hcz391_0 : w385.cell? ⟨gb232,0,none⟩ = some (.int .i64 t227):=(blk_cell BK232.out 0).trans rfl;have hcz391_1 : w385.cell? ⟨gb232,1,none⟩ = some (.string t228):=(blk_cell BK232.out 1).trans rfl;have hcz391_2 : w385.cell? ⟨gb232,2,none⟩ = some (.int .i64 t229):=(blk_cell BK232.out 2).trans rfl;have hcz391_3 : w385.cell? ⟨gb232,3,none⟩ = some (.int .i64 t230):=(blk_cell BK232.out 3).trans rfl;have hfz391_0:=blk_frozen BK232.out 0;have hfz391_1:=blk_frozen BK232.out 1;have hfz391_2:=blk_frozen BK232.out 2;have hfz391_3:=blk_frozen BK232.out 3))
                    go_upto_region 14 with (fail)
                    have c364p : t227 = 0 ∧ t228.toList = ([] : List UInt8) ∧ t229 = 0 ∧ t230 = 0:=by simpa [Bool.and_eq_true,beq_iff_eq] using c364b0
                    have c365p : t233 = 0 ∧ t234.toList = ([] : List UInt8) ∧ t235 = 0 ∧ t236 = 0:=by simpa [Bool.and_eq_true,beq_iff_eq] using c365b0
                    refine wp_region_lit ?_
                    iterate 9 (refine wpList_step (fun K hK => ?_);go_simp;refine hK _ _ ?_;clear hK K)
                    refine wpList_step (fun K hK => ?_)
                    go_simp
                    refine (racewaylaw27_works.calls kj7 t241 _ A366.out).mono ?_
                    rintro e w_ ⟨rfl,hb⟩
                    have HBw:=below_step (by repeat (first|(with_reducible first|exact HB.out|apply below_alloc|apply pw_below_drewN|apply below_drew1|refine below_set ?_ GE204.out|refine below_set ?_ GE217.out|refine below_set ?_ GE226.out|refine below_set ?_ GE232.out|refine below_set ?_ GE238.out)|exact HB.out)) hb
                    have HBW:=Aside0.mk HBw
                    clear HBw hb
                    refine hK _ _ ?_
                    clear hK K
                    refine wpList_step (fun K hK => ?_)
                    go_simp
                    refine hK _ _ ?_
                    clear hK K
                    refine wpList_step (fun K hK => ?_)
                    go_simp
                    refine hK _ _ ?_
                    clear hK K
                    refine wpList_nil ?_
                    go_wp2
                    go_ret
                    exact ⟨rfl,HBW.out⟩
                   ·rw [if_neg c365] at H
                    have c365b0 : (t233 == 0 && (t234.toList == ([] : List UInt8) && (t235 == 0 && (t236 == 0)))) = false:=by simpa using c365
                    (try (have c365b1 : decide (t233 = 0 && (t234.toList == ([] : List UInt8) && (t235 == 0 && (t236 == 0)))) = false:=by simpa using c365))
                    (try (have c365b2 : (t233 == 0 && (t234.toList == ([] : List UInt8) && (t235 == 0 && (t236 == 0)))) = false:=by simpa using c365))
                    (try (have c365b3 : ¬ (t233 = 0 && (t234.toList == ([] : List UInt8) && (t235 == 0 && (t236 == 0)))):=by simpa using c365))
                    clear c365
                    exact absurd ((Option.some.inj H).trans HRT.out) (by decide)
                  ·rw [if_neg c364] at H
                   have c364b0 : (t227 == 0 && (t228.toList == ([] : List UInt8) && (t229 == 0 && (t230 == 0)))) = false:=by simpa using c364
                   (try (have c364b1 : decide (t227 = 0 && (t228.toList == ([] : List UInt8) && (t229 == 0 && (t230 == 0)))) = false:=by simpa using c364))
                   (try (have c364b2 : (t227 == 0 && (t228.toList == ([] : List UInt8) && (t229 == 0 && (t230 == 0)))) = false:=by simpa using c364))
                   (try (have c364b3 : ¬ (t227 = 0 && (t228.toList == ([] : List UInt8) && (t229 == 0 && (t230 == 0)))):=by simpa using c364))
                   clear c364
                   exact absurd ((Option.some.inj H).trans HRT.out) (by decide)
                 ·rw [if_neg c363] at H
                  have c363b0 : (t237 == 12) = false:=beq_eq_false_iff_ne.mpr c363
                  have c363b1 : (t237 != 12) = true:=bne_iff_ne.mpr c363
                  exact absurd ((Option.some.inj H).trans HRT.out) (by decide)
                ·rw [if_neg c362] at H
                 have c362b0 : (t231 == 12) = false:=beq_eq_false_iff_ne.mpr c362
                 have c362b1 : (t231 != 12) = true:=bne_iff_ne.mpr c362
                 exact absurd ((Option.some.inj H).trans HRT.out) (by decide)
             ·rw [if_neg c45] at H
              exact absurd H (by simp)
            ·rw [if_neg c43] at H
             exact absurd H (by simp)
           ·rw [if_neg c38] at H
            exact absurd H (by simp)
          ·rw [if_neg c37] at H
           exact absurd H (by simp)
         ·rw [if_neg c36] at H
          exact absurd H (by simp)
        ·rw [if_neg c34] at H
         exact absurd H (by simp)
       ·rw [if_neg c33] at H
        exact absurd H (by simp)
      ·rw [if_neg c32] at H
       exact absurd H (by simp)
 ·rw [if_neg c6] at H
  have c6b0 : (t210 == 0) = false:=beq_eq_false_iff_ne.mpr c6
  have c6b1 : (t210 != 0) = true:=bne_iff_ne.mpr c6
  by_cases c491 : t209.toList = ([] : List UInt8)
  ·rw [if_pos c491] at H
   have c491b0 : (t209.toList == ([] : List UInt8)) = true:=beq_iff_eq.mpr c491
   have c491b1 : (t209.toList != ([] : List UInt8)) = false:=bne_eq_false_iff_eq.mpr c491
   clear c491
   replace H:=Option.bind_eq_some_iff.mp H
   obtain ⟨t211,A4920,H⟩:=H
   replace H : (some t211) = some r:=H
   have A492:=Aside0.mk A4920
   clear A4920
   obtain rfl:=Option.some.inj H
   go_enter Tryd.func7,Tryd.ntmps7
   go_wp2_with (first|((with_reducible refine gate_dst (N:=3) rfl ?_);(try (refine gate_guard (by rfl) ?_;dsimp only));refine box_event ?hg (N:=3) ?hd (cs:=#[.int .i64 a0_0,.string a0_1,.int .i64 a0_2,.int .i64 a0_3]) (t:=39) ?hr ?_;(case hd => rfl);(case hg => rfl);(case hr => first|(go_simp;done)|(go_simp;rfl));intro gb204 hg w493 hbox hb;have n0_:=Aside0.mk (below_step (by repeat (first|(with_reducible first|exact HB.out|apply below_alloc|apply pw_below_drewN|apply below_drew1)|exact HB.out)) hb);have n1_:=Aside0.mk (hbox);have n2_:=Aside0.mk ((by rw [hg];exact (below_size (by repeat (first|(with_reducible first|exact HB.out|apply below_alloc|apply pw_below_drewN|apply below_drew1)|exact HB.out))) : w.heap.size ≤ gb204));have n3_:=Aside0.mk ((by rw [hg];exact (below_size (by repeat (first|(with_reducible first|exact HB.out|apply below_alloc|apply pw_below_drewN|apply below_drew1)|exact HB.out))) : w.heap.size ≤ gb204));clear HB;have HB:=n0_;have BK204:=n1_;have GW204:=n2_;have GE204:=n3_;clear n0_ n1_ n2_ n3_;clear hb hbox hg;have hcz494_0 : w493.cell? ⟨gb204,0,none⟩ = some (.int .i64 a0_0):=(blk_cell BK204.out 0).trans rfl;have hcz494_1 : w493.cell? ⟨gb204,1,none⟩ = some (.string a0_1):=(blk_cell BK204.out 1).trans rfl;have hcz494_2 : w493.cell? ⟨gb204,2,none⟩ = some (.int .i64 a0_2):=(blk_cell BK204.out 2).trans rfl;have hcz494_3 : w493.cell? ⟨gb204,3,none⟩ = some (.int .i64 a0_3):=(blk_cell BK204.out 3).trans rfl;have hfz494_0:=blk_frozen BK204.out 0;have hfz494_1:=blk_frozen BK204.out 1;have hfz494_2:=blk_frozen BK204.out 2;have hfz494_3:=blk_frozen BK204.out 3)|((with_reducible refine gate_callee (f:=19) rfl ?_);refine goesL_ (some 19) rfl rfl Tryd.func19 (by kernel_rfl) rfl #[.agg #[.int .i64 a0_0,.string a0_1,.int .i64 a0_2,.int .i64 a0_3]] rfl (by (try simp only [List.map_toArray,List.map_cons,List.map_nil]);first|done|rfl|(simp only [List.length_drop,List.length_take];rfl)) ?_;(with_reducible refine (racewaylaw27_few.calls a0_0 a0_1 a0_2 a0_3 t205 t206 t207 t208 _ A4.out).mono ?_);rintro e w495 ⟨rfl,hb⟩;refine ⟨_,rfl,?_⟩;have n0_:=Aside0.mk (blk_below (g:=gb204) (o:=.cells #[.int .i64 a0_0,.string a0_1,.int .i64 a0_2,.int .i64 a0_3] 39 (0,0)) (by (with_reducible repeat (first|refine blk_drewN ?_ _|refine blk_drew ?_|refine blk_alloc ?_ _));exact BK204.out) hb);have n1_:=Aside0.mk (below_step (by repeat (first|(with_reducible first|exact HB.out|apply below_alloc|apply pw_below_drewN|apply below_drew1|refine below_set ?_ GE204.out)|exact HB.out)) hb);clear BK204;clear HB;have BK204:=n0_;have HB:=n1_;clear n0_ n1_;(try clear hb);(try clear hb2);(try clear hk);(try clear hi);have hcz496_0 : w495.cell? ⟨gb204,0,none⟩ = some (.int .i64 a0_0):=(blk_cell BK204.out 0).trans rfl;have hcz496_1 : w495.cell? ⟨gb204,1,none⟩ = some (.string a0_1):=(blk_cell BK204.out 1).trans rfl;have hcz496_2 : w495.cell? ⟨gb204,2,none⟩ = some (.int .i64 a0_2):=(blk_cell BK204.out 2).trans rfl;have hcz496_3 : w495.cell? ⟨gb204,3,none⟩ = some (.int .i64 a0_3):=(blk_cell BK204.out 3).trans rfl;have hfz496_0:=blk_frozen BK204.out 0;have hfz496_1:=blk_frozen BK204.out 1;have hfz496_2:=blk_frozen BK204.out 2;have hfz496_3:=blk_frozen BK204.out 3)|((with_reducible refine gate_callee (f:=20) rfl ?_);refine goesL_ (some 22) rfl rfl Tryd.func20 (by kernel_rfl) rfl #[.agg #[.int .i64 t205,.string t206,.int .i64 t207,.int .i64 t208]] rfl (by (try simp only [List.map_toArray,List.map_cons,List.map_nil]);first|done|rfl|(simp only [List.length_drop,List.length_take];rfl)) ?_;(with_reducible refine (ticket_Handle.calls k t205 t206 t207 t208 t209 t210 _ ?side1 A5.out).mono ?_);(case side1 => first|exact HGCr.out|exact GlobCr.below HGCr.out (by repeat (first|(with_reducible first|exact HB.out|apply below_alloc|apply pw_below_drewN|apply below_drew1|refine below_set ?_ GE204.out)|exact HB.out))|exact GlobCr.drawn HGCr.out (by repeat (first|exact Drawn0.refl _|apply Drawn0.step)));rintro e w497 ⟨rfl,hb⟩;refine ⟨_,rfl,?_⟩;have n0_:=Aside0.mk (blk_below (g:=gb204) (o:=.cells #[.int .i64 t205,.string t206,.int .i64 t207,.int .i64 t208] 39 (0,0)) (by (with_reducible repeat (first|refine blk_drewN ?_ _|refine blk_drew ?_|refine blk_alloc ?_ _));refine blk_put (cs:=#[.int .i64 t205,.string t206,.int .i64 t207,.int .i64 a0_3]) ?_ 3 _ rfl;(with_reducible repeat (first|refine blk_drewN ?_ _|refine blk_drew ?_|refine blk_alloc ?_ _));refine blk_put (cs:=#[.int .i64 t205,.string t206,.int .i64 a0_2,.int .i64 a0_3]) ?_ 2 _ rfl;(with_reducible repeat (first|refine blk_drewN ?_ _|refine blk_drew ?_|refine blk_alloc ?_ _));refine blk_put (cs:=#[.int .i64 t205,.string a0_1,.int .i64 a0_2,.int .i64 a0_3]) ?_ 1 _ rfl;(with_reducible repeat (first|refine blk_drewN ?_ _|refine blk_drew ?_|refine blk_alloc ?_ _));refine blk_put (cs:=#[.int .i64 a0_0,.string a0_1,.int .i64 a0_2,.int .i64 a0_3]) ?_ 0 _ rfl;(with_reducible repeat (first|refine blk_drewN ?_ _|refine blk_drew ?_|refine blk_alloc ?_ _));exact BK204.out) hb);have n1_:=Aside0.mk (below_step (by repeat (first|(with_reducible first|exact HB.out|apply below_alloc|apply pw_below_drewN|apply below_drew1|refine below_set ?_ GE204.out)|exact HB.out)) hb);clear BK204;clear HB;have BK204:=n0_;have HB:=n1_;clear n0_ n1_;(try clear hb);(try clear hb2);(try clear hk);(try clear hi))|(go_at_call 11;(with_reducible refine (racewaylaw27_works.calls k  t211 _ A492.out).mono ?_);rintro e w498 ⟨rfl,hb⟩;have n0_:=Aside0.mk (blk_below (g:=gb204) (o:=.cells #[.int .i64 t205,.string t206,.int .i64 t207,.int .i64 t208] 39 (0,0)) (by (with_reducible repeat (first|refine blk_drewN ?_ _|refine blk_drew ?_|refine blk_alloc ?_ _));exact BK204.out) hb);have n1_:=Aside0.mk (below_step (by repeat (first|(with_reducible first|exact HB.out|apply below_alloc|apply pw_below_drewN|apply below_drew1|refine below_set ?_ GE204.out)|exact HB.out)) hb);clear BK204;clear HB;have BK204:=n0_;have HB:=n1_;clear n0_ n1_;(try clear hb);(try clear hb2);(try clear hk);(try clear hi)))
   go_ret
   exact ⟨by first|rfl|(simp [errW_none,errW_some] <;> rfl)|(simp [*,errW_none,errW_some] <;> rfl),by repeat (first|(with_reducible first|exact HB.out|apply below_alloc|apply pw_below_drewN|apply below_drew1|refine below_set ?_ GE204.out)|exact HB.out)⟩
  ·rw [if_neg c491] at H
   have c491b0 : (t209.toList == ([] : List UInt8)) = false:=beq_eq_false_iff_ne.mpr c491
   have c491b1 : (t209.toList != ([] : List UInt8)) = true:=bne_iff_ne.mpr c491
   exact absurd ((Option.some.inj H).trans HRT.out) (by decide)
end Go.Proofs.YtedfgkjimnjdpaaDoor.X
namespace Go.Proofs.YtedfgkjimnjdpaaDoor.X
open Go.RowKit Go.Proofs.YtedfgkjimnjdpaaDoorW.PrintWords Go.Proofs.YtedfgkjimnjdpaaDoorW.PrintMore
set_option linter.unusedVariables false
set_option linter.unusedSimpArgs false
def inB (l : ByteArray) (c : Int) : Bool:=decide (0 ≤ Lib.indexByte l.data.toList c.toNat.toUInt8)
def smallB (c : Int) : Bool:=decide (97 ≤ c) && decide (c ≤ 122)
def digitB (c : Int) : Bool:=decide (48 ≤ c) && decide (c ≤ 57)
def largeB (c : Int) : Bool:=decide (65 ≤ c) && decide (c ≤ 90)
def pHost (c : Int) : Bool:=smallB c || digitB c || decide (c = 45) || decide (c = 46)
def pQueue (c : Int) : Bool:=smallB c || digitB c || largeB c || decide (c = 45) || decide (c = 95)
def hostB (s : ByteArray) : Bool:=decide (1 ≤ s.size) && decide (s.size ≤ 63) && allD pHost s s.size 0
def accountB (s : ByteArray) : Bool:=decide (s.size = 12) && allD digitB s s.size 0
def queueB (s : ByteArray) : Bool:=decide (11 ≤ s.size) && decide (s.size ≤ 80) && ((s.extract (s.size - 5) s.size).toList == [46,102,105,102,111]) && allD pQueue s (s.size - 5) 0
theorem only_l0 (s x9 : ByteArray) (hs : s.size ≤ 4611686018427387904) (d : Nat) : ∀ (k i : Nat),i + d = s.size → d < k → ticket_only.l0 k s x9 (s.size : Int) (i : Int) = some (allD (inB x9) s d i):=by
 induction d with
 | zero =>
  intro k i h hk
  obtain ⟨k,rfl⟩ : ∃ m,k = m + 1:=⟨k - 1,by omega⟩
  simp only [ticket_only.l0,allD]
  rw [if_neg (by omega)]
 | succ d ih =>
  intro k i h hk
  obtain ⟨k,rfl⟩ : ∃ m,k = m + 1:=⟨k - 1,by omega⟩
  simp only [ticket_only.l0,allD,strings_IndexByte.f,Option.bind_some]
  rw [if_pos (by omega),if_pos (by omega),if_pos (by omega),w64 (by omega) (by omega),show ((i : Int) + 1) = ((i + 1 : Nat) : Int) by omega,ih k (i + 1) (by omega) (by omega)]
  unfold inB
  by_cases hb : Lib.indexByte x9.data.toList (bt s (i : Int)).toNat.toUInt8 < 0
  ·rw [if_pos hb,decide_eq_false (by omega)];rfl
  ·rw [if_neg hb,decide_eq_true (by omega)];rfl
theorem only_eq (s : ByteArray) (lo hi : Nat) (l : List ByteArray) (j : ByteArray) (hj : strings_Join.f l ⟨#[]⟩ = some j) (hs : s.size ≤ 4611686018427387904) (k : Nat) (hk : s.size + 2 < k) :
  ticket_only.f k s (lo : Int) (hi : Int) l = some (decide (lo ≤ s.size) && decide (s.size ≤ hi) && allD (inB j) s s.size 0):=by
 unfold ticket_only.f
 rw [hj]
 simp only [Option.bind_some]
 obtain ⟨k,rfl⟩ : ∃ m,k = m + 1:=⟨k - 1,by omega⟩
 by_cases h1 : (s.size : Int) < lo
 ·rw [if_pos h1,decide_eq_false (p:=lo ≤ s.size) (by omega)];simp [ticket_only.j0]
 ·rw [if_neg h1,decide_eq_true (p:=lo ≤ s.size) (by omega)]
  by_cases h2 : (s.size : Int) > hi
  ·rw [decide_eq_true (p:=(s.size : Int) > hi) h2,decide_eq_false (p:=s.size ≤ hi) (by omega)];simp [ticket_only.j0]
  ·rw [decide_eq_false (p:=(s.size : Int) > hi) h2,decide_eq_true (p:=s.size ≤ hi) (by omega)]
   simp only [ticket_only.j0,Bool.false_eq_true,if_false,Bool.true_and]
   exact only_l0 s j hs s.size k 0 (by omega) (by omega)
theorem host_join : strings_Join.f [⟨#[97,98,99,100,101,102,103,104,105,106,107,108,109,110,111,112,113,114,115,116,117,118,119,120,121,122]⟩,⟨#[48,49,50,51,52,53,54,55,56,57]⟩,⟨#[45,46]⟩] ⟨#[]⟩ = some ⟨#[97,98,99,100,101,102,103,104,105,106,107,108,109,110,111,112,113,114,115,116,117,118,119,120,121,122,48,49,50,51,52,53,54,55,56,57,45,46]⟩:=by decide +kernel
theorem account_join : strings_Join.f [⟨#[48,49,50,51,52,53,54,55,56,57]⟩] ⟨#[]⟩ = some ⟨#[48,49,50,51,52,53,54,55,56,57]⟩:=by decide +kernel
theorem queue_join : strings_Join.f [⟨#[97,98,99,100,101,102,103,104,105,106,107,108,109,110,111,112,113,114,115,116,117,118,119,120,121,122]⟩,⟨#[65,66,67,68,69,70,71,72,73,74,75,76,77,78,79,80,81,82,83,84,85,86,87,88,89,90]⟩,⟨#[48,49,50,51,52,53,54,55,56,57]⟩,⟨#[45,95]⟩] ⟨#[]⟩ = some ⟨#[97,98,99,100,101,102,103,104,105,106,107,108,109,110,111,112,113,114,115,116,117,118,119,120,121,122,65,66,67,68,69,70,71,72,73,74,75,76,77,78,79,80,81,82,83,84,85,86,87,88,89,90,48,49,50,51,52,53,54,55,56,57,45,95]⟩:=by decide +kernel
theorem host_in (c : Int) (h0 : 0 ≤ c) (h1 : c < 256) : inB ⟨#[97,98,99,100,101,102,103,104,105,106,107,108,109,110,111,112,113,114,115,116,117,118,119,120,121,122,48,49,50,51,52,53,54,55,56,57,45,46]⟩ c = pHost c:=byte_eq (by decide +kernel) c h0 h1
theorem account_in (c : Int) (h0 : 0 ≤ c) (h1 : c < 256) : inB ⟨#[48,49,50,51,52,53,54,55,56,57]⟩ c = digitB c:=byte_eq (by decide +kernel) c h0 h1
theorem queue_in (c : Int) (h0 : 0 ≤ c) (h1 : c < 256) : inB ⟨#[97,98,99,100,101,102,103,104,105,106,107,108,109,110,111,112,113,114,115,116,117,118,119,120,121,122,65,66,67,68,69,70,71,72,73,74,75,76,77,78,79,80,81,82,83,84,85,86,87,88,89,90,48,49,50,51,52,53,54,55,56,57,45,95]⟩ c = pQueue c:=byte_eq (by decide +kernel) c h0 h1
theorem ticket_host_eq (s : ByteArray) (hs : s.size ≤ 4611686018427387904) (k : Nat) (hk : s.size + 2 < k) : ticket_host.f k s = some (hostB s):=by
 unfold ticket_host.f hostB
 have:=only_eq s 1 63 _ _ host_join hs k hk
 rw [show ((1 : Nat) : Int) = 1 from rfl,show ((63 : Nat) : Int) = 63 from rfl] at this
 rw [this,allD_congr host_in]
 rfl
theorem ticket_account_eq (s : ByteArray) (hs : s.size ≤ 4611686018427387904) (k : Nat) (hk : s.size + 2 < k) : ticket_account.f k s = some (accountB s):=by
 unfold ticket_account.f accountB
 have:=only_eq s 12 12 _ _ account_join hs k hk
 rw [show ((12 : Nat) : Int) = 12 from rfl] at this
 rw [this,allD_congr account_in]
 simp only [Option.bind_some]
 congr 2
 by_cases h : s.size = 12
 ·simp [h]
 ·rw [decide_eq_false h,Bool.and_eq_false_iff]
  simp only [decide_eq_false_iff_not]
  omega
theorem hasSuffix_eq (s p : ByteArray) (hs : s.size ≤ 4611686018427387904) : stringslite_HasSuffix.f s p = some (decide (p.size ≤ s.size) && ((s.extract (s.size - p.size) s.size).toList == p.toList)):=by
 unfold stringslite_HasSuffix.f
 by_cases h : p.size ≤ s.size
 ·rw [if_pos (by omega),w64 (by omega) (by omega),if_pos (by omega),if_pos (by omega),decide_eq_true h,show ((s.size : Int) - p.size).toNat = s.size - p.size by omega];rfl
 ·rw [if_neg (by omega),decide_eq_false h];rfl
theorem cutSuffix_eq (s p : ByteArray) (hs : s.size ≤ 4611686018427387904) : strings_CutSuffix.f s p = some (if (decide (p.size ≤ s.size) && ((s.extract (s.size - p.size) s.size).toList == p.toList)) = true then (s.extract 0 (s.size - p.size),true) else (s,false)):=by
 unfold strings_CutSuffix.f stringslite_CutSuffix.f
 rw [hasSuffix_eq s p hs]
 simp only [Option.bind_some]
 by_cases h : (decide (p.size ≤ s.size) && ((s.extract (s.size - p.size) s.size).toList == p.toList)) = true
 ·have h':=h
  rw [Bool.and_eq_true,decide_eq_true_iff] at h'
  rw [if_pos h,if_pos h,w64 (by omega) (by omega),if_pos (by omega),if_pos (by omega),show ((s.size : Int) - p.size).toNat = s.size - p.size by omega];rfl
 ·rw [if_neg h,if_neg h];rfl
theorem bt_cut (s : ByteArray) (n j : Nat) (hn : n ≤ s.size) (hj : j < n) : bt (s.extract 0 n) (j : Int) = bt s (j : Int):=by
 rw [q_bt _ _ (by rw [ByteArray.size_extract];omega),q_bt _ _ (by omega)]
 simp [ByteArray.getElem_extract]
theorem ticket_Queue_eq (s : ByteArray) (hs : s.size ≤ 4611686018427387904) (k : Nat) (hk : s.size + 2 < k) : ticket_Queue.f k s = some (queueB s):=by
 unfold ticket_Queue.f queueB
 rw [cutSuffix_eq s _ hs]
 simp only [Option.bind_some]
 have e5 : (⟨#[46,102,105,102,111]⟩ : ByteArray).size = 5:=rfl
 have el : (⟨#[46,102,105,102,111]⟩ : ByteArray).toList = [46,102,105,102,111]:=by decide +kernel
 rw [e5,el]
 by_cases h : (decide (5 ≤ s.size) && ((s.extract (s.size - 5) s.size).toList == [46,102,105,102,111])) = true
 ·rw [if_pos h]
  rw [Bool.and_eq_true,decide_eq_true_iff] at h
  simp only [if_true]
  rw [h.2,Bool.and_true]
  have hz : (s.extract 0 (s.size - 5)).size = s.size - 5:=by rw [ByteArray.size_extract];omega
  by_cases h80 : s.size ≤ 80
  ·rw [if_pos (by omega)]
   have:=only_eq (s.extract 0 (s.size - 5)) 6 75 _ _ queue_join (by omega) k (by omega)
   rw [show ((6 : Nat) : Int) = 6 from rfl,show ((75 : Nat) : Int) = 75 from rfl] at this
   rw [this,allD_congr queue_in,hz]
   rw [allD_prefix (t:=s) (s.size - 5) 0 (fun j _ h2 => bt_cut s (s.size - 5) j (by omega) (by omega))]
   simp only [Option.bind_some]
   congr 2
   rw [decide_eq_true h80]
   congr 1
   ·rw [decide_eq_decide];omega
   ·rw [decide_eq_true_iff];omega
  ·rw [if_neg (by omega),decide_eq_false h80];simp
 ·rw [if_neg h]
  simp only [Bool.false_eq_true,if_false]
  congr 1
  by_cases h5 : 5 ≤ s.size
  ·rw [decide_eq_true h5,Bool.true_and,Bool.not_eq_true] at h
   rw [h];simp
  ·rw [decide_eq_false (p:=11 ≤ s.size) (by omega)];simp
def putB (b g x y z : ByteArray) : ByteArray × Int:=if hostB x && accountB y && queueB z then (b ++ x ++ g ++ y ++ g ++ z,0) else (⟨#[]⟩,2)
end Go.Proofs.YtedfgkjimnjdpaaDoor.X
namespace Go.Proofs.YtedfgkjimnjdpaaDoor.X
open Go.RowKit Go.Proofs.YtedfgkjimnjdpaaDoorW.PrintWords Go.Proofs.YtedfgkjimnjdpaaDoorW.PrintMore
set_option linter.unusedVariables false
set_option linter.unusedSimpArgs false
theorem ticket_Url_eq (x y z : ByteArray) (hx : x.size ≤ 100000) (hy : y.size ≤ 100000) (hz : z.size ≤ 100000) (k : Nat) (hk : x.size + y.size + z.size + 3 < k) :
  ticket_Url.f k x y z = some (putB ⟨#[104,116,116,112,115,58,47,47]⟩ ⟨#[47]⟩ x y z):=by
 unfold ticket_Url.f putB
 rw [ticket_host_eq x (by omega) k (by omega),ticket_account_eq y (by omega) k (by omega),ticket_Queue_eq z (by omega) k (by omega)]
 simp only [Option.bind_some]
 rw [if_pos (show 8 + x.size ≤ 9223372036854775807 by omega),if_pos (show 8 + x.size + 1 ≤ 9223372036854775807 by omega),if_pos (show 8 + x.size + 1 + y.size ≤ 9223372036854775807 by omega),if_pos (show 8 + x.size + 1 + y.size + 1 ≤ 9223372036854775807 by omega),if_pos (show 8 + x.size + 1 + y.size + 1 + z.size ≤ 9223372036854775807 by omega)]
 cases hostB x <;> cases accountB y <;> cases queueB z <;> simp
theorem seq7 : ticket_Sequence.f 7 = some ⟨#[48,48,48,48,48,48,48,48,48,48,48,48,48,48,48,48,48,48,48,55]⟩:=by
 unfold ticket_Sequence.f basic_Pad.f basic_Itoa.f
 rw [if_pos (by omega)]
 simp only [Option.bind_some]
 rw [if_neg (by omega)]
 simp only [Lib.itoa]
 rw [if_neg (by omega),show (7 : Int).toNat = 7 from rfl,Lib.decDigits_one (by omega)]
 decide +kernel
theorem works_eq (k : Nat) (hk : 100 < k) : racewaylaw27_works.f k = some true:=by
 unfold racewaylaw27_works.f
 rw [ticket_Url_eq _ _ _ (by decide +kernel) (by decide +kernel) (by decide +kernel) k (Nat.lt_of_le_of_lt (by decide +kernel) hk),ticket_Url_eq _ _ _ (by decide +kernel) (by decide +kernel) (by decide +kernel) k (Nat.lt_of_le_of_lt (by decide +kernel) hk),seq7]
 simp only [Option.bind_some]
 decide +kernel
end Go.Proofs.YtedfgkjimnjdpaaDoor.X
namespace Go.Proofs.YtedfgkjimnjdpaaDoor.Pure
open Go.RowKit Go.Proofs.YtedfgkjimnjdpaaDoor.X Go.Proofs.YtedfgkjimnjdpaaDoorW.PrintWords Go.Proofs.YtedfgkjimnjdpaaDoorW.PrintLast Go.Proofs.YtedfgkjimnjdpaaDoorW.PrintMore
set_option linter.unusedVariables false
set_option linter.unusedSimpArgs false
theorem few_is27 (q : Int) (g : ByteArray) (s c : Int) : racewaylaw27_few.f q g s c = some (q,cutB g 60,s,c):=by
 have h1:=mn_le_left (g.size : Int) 60
 have h2:=mn_cases (g.size : Int) 60
 unfold racewaylaw27_few.f
 rw [if_pos (by omega),if_pos h1]
 rfl
theorem openV_of {t : ByteArray} {q : Int} {g : ByteArray} {s c : Int} (h : openB t = some (q,g,s,c)) : openV t = (q,g,s,c,0):=by unfold openV;rw [h]
theorem openV_none {t : ByteArray} (h : ∀ q g s c,openB t ≠ some (q,g,s,c)) : openV t = (0,⟨#[]⟩,0,0,12):=by
 unfold openV
 cases hb : openB t with
 | none => rfl
 | some r => obtain ⟨q,g,s,c⟩:=r;exact absurd hb (h q g s c)
theorem openV_ok {t : ByteArray} {q : Int} {g : ByteArray} {s c : Int} (h : openV t = (q,g,s,c,0)) : openB t = some (q,g,s,c):=by
 unfold openV at h
 cases hb : openB t with
 | none => rw [hb] at h;simp at h
 | some r => obtain ⟨q',g',s',c'⟩:=r;rw [hb] at h;simp only [Prod.mk.injEq] at h;obtain ⟨rfl,rfl,rfl,rfl,_⟩:=h;rfl
theorem lenR {q : Int} {g : ByteArray} {s c : Int} (h : okR q g s c) : (hbody q.toNat g s.toNat c.toNat).length ≤ 100:=by
 obtain ⟨h1,h2,h3,h4⟩:=h
 exact hbody_len _ _ _ _ (by omega) (by omega) (by omega) h4
theorem handB_size {q : Int} {g : ByteArray} {s c : Int} (h : okR q g s c) : 0 < (handB q.toNat g s.toNat c.toNat).size ∧ (handB q.toNat g s.toNat c.toNat).size ≤ 300:=by
 have hl:=lenR h
 have h1:=encR_ge (frameB (hbody q.toNat g s.toNat c.toNat))
 have h2:=encR_size (frameB (hbody q.toNat g s.toNat c.toNat))
 rw [frameB_len] at h1 h2
 have e : (handB q.toNat g s.toNat c.toNat).size = (encR (frameB (hbody q.toNat g s.toNat c.toNat))).length:=by unfold handB;simp [ByteArray.size]
 omega
theorem ba_ext {a b : ByteArray} (h : a.data.toList = b.data.toList) : a = b:=by
 cases a;cases b
 congr 1
 exact Array.ext' h
theorem sh {a : ByteArray} : a.data.toList.length = a.size:=rfl
theorem TicketBack (a0_0 : Int) (a0_1 : ByteArray) (a0_2 a0_3 a1 a2 : Int) (x1 : (Lit.int .i64 a0_0).wf = true) (x2 : (Lit.int .i64 a0_2).wf = true) (x3 : (Lit.int .i64 a0_3).wf = true) (x4 : (Lit.int .i64 a1).wf = true) (h0 : 0 ≤ a2 ∧ a2 < 256) : ∃ k,racewaylaw27_TicketBack.f k a0_0 a0_1 a0_2 a0_3 a1 a2 = some true:=by
 refine ⟨200,?_⟩
 rw [racewaylaw27_TicketBack.f,few_is27,Option.bind_some]
 simp only
 generalize cutB a0_1 60 = g
 obtain ⟨e,hh,he,_⟩:=Handle_is a0_0 a0_2 a0_3 g 200 (by omega)
 rw [hh,Option.bind_some]
 by_cases hok : okR a0_0 g a0_2 a0_3
 ·rw [if_pos hok]
  simp only [if_true]
  have hsz:=handB_size hok
  have hopen:=open_hand hok
  have hlr:=lenR hok
  have hF : ∀ t : ByteArray,t.size ≤ 131072 → ticket_Open.f t = some (openV t):=fun t ht => by unfold ticket_Open.f;rw [if_pos ht]
  have hVk:=openV_of hopen
  have hback : ∀ (t : ByteArray) (q' : Int) (g' : ByteArray) (s' c' : Int),openB t = some (q',g',s',c') → okR q' g' s' c' ∧ t = handB q'.toNat g' s'.toNat c'.toNat:=fun t q' g' s' c' h => hand_open h
  have hpre1 : ∀ (q' : Int) (g' : ByteArray) (s' c' : Int) (t : List UInt8),okR q' g' s' c' → (handB a0_0.toNat g a0_2.toNat a0_3.toNat).data.toList ++ t = (handB q'.toNat g' s'.toNat c'.toNat).data.toList → t = []:=fun q' g' s' c' t h => hand_prefix hlr (lenR h) t
  have hpre2 : ∀ (q' : Int) (g' : ByteArray) (s' c' : Int) (t : List UInt8),okR q' g' s' c' → (handB q'.toNat g' s'.toNat c'.toNat).data.toList ++ t = (handB a0_0.toNat g a0_2.toNat a0_3.toNat).data.toList → t = []:=fun q' g' s' c' t h => hand_prefix (lenR h) hlr t
  have hsame : ∀ (t : ByteArray),openB t = some (a0_0,g,a0_2,a0_3) → t = handB a0_0.toNat g a0_2.toNat a0_3.toNat:=fun t h => (hand_open h).2
  generalize handB a0_0.toNat g a0_2.toNat a0_3.toNat = H at *
  rw [hF H (by omega),Option.bind_some,hVk]
  simp only [beq_self_eq_true,Bool.not_true,Bool.or_self,Bool.false_eq_true,if_false,if_true]
  have hs0 : ((H.size : Int) == 0) = false:=by rw [beq_eq_false_iff_ne];omega
  rw [hs0,racewaylaw27_TicketBack.j0,if_neg (by decide),if_neg (by omega)]
  have hmod : ∃ n : Nat,n < H.size ∧ (wrap64 (a1.tmod (H.size : Int) + (H.size : Int))).tmod (H.size : Int) = (n : Int):=by
   have hpi : (0 : Int) < (H.size : Int):=by omega
   have t1:=Int.tmod_lt_of_pos a1 hpi
   have t0 : -(H.size : Int) < Int.tmod a1 (H.size : Int):=by
    have:=Int.tmod_lt_of_pos (-a1) hpi
    rw [Int.neg_tmod] at this
    omega
   rw [w64 (by omega) (by omega)]
   have u1:=Int.tmod_lt_of_pos (a1.tmod (H.size : Int) + (H.size : Int)) hpi
   have u0:=Int.tmod_nonneg (H.size : Int) (show 0 ≤ a1.tmod (H.size : Int) + (H.size : Int) by omega)
   exact ⟨_,by omega,(Int.toNat_of_nonneg u0).symm⟩
  obtain ⟨n,hn,hne⟩:=hmod
  rw [hne,Option.bind_some]
  have e1 : wrap64 ((n : Int) + 1) = ((n + 1 : Nat) : Int):=by rw [w64 (by omega) (by omega)];omega
  have hsn : (strOfNums [a2]).size = 1:=rfl
  have z1 : (H.extract 0 ((n : Int)).toNat).size = n:=by rw [ByteArray.size_extract];omega
  have z2 : (H.extract (((n + 1 : Nat) : Int)).toNat H.size).size = H.size - (n + 1):=by rw [ByteArray.size_extract];omega
  rw [e1,if_pos (by omega),if_pos (by omega),if_pos (by omega),if_pos (by omega),if_pos (by omega),if_pos (by omega)]
  rw [hF _ (by rw [ByteArray.size_append,ByteArray.size_append];omega),Option.bind_some,hF _ (by omega),Option.bind_some,if_pos (by omega),hF _ (by rw [ByteArray.size_append];show H.size + 4 ≤ _;omega),Option.bind_some,if_pos (by omega)]
  have hV2 : openV (H.extract 0 ((n : Int)).toNat) = (0,⟨#[]⟩,0,0,12):=by
   refine openV_none fun q' g' s' c' h => ?_
   obtain ⟨hk,ht⟩:=hback _ _ _ _ _ h
   have:=hpre2 q' g' s' c' (H.data.toList.drop n) hk (by rw [← ht,ext_listD,List.drop_zero,Int.toNat_natCast,List.take_append_drop])
   have hl : (H.data.toList.drop n).length = 0:=by rw [this];rfl
   rw [List.length_drop,sh] at hl
   omega
  have hV3 : openV (H ++ (⟨#[65,65,65,65]⟩ : ByteArray)) = (0,⟨#[]⟩,0,0,12):=by
   refine openV_none fun q' g' s' c' h => ?_
   obtain ⟨hk,ht⟩:=hback _ _ _ _ _ h
   have:=hpre1 q' g' s' c' [65,65,65,65] hk (by rw [← ht];simp)
   exact absurd this (by simp)
  have hw:=works_eq 199 (by omega)
  rw [hV2,hV3,hw]
  by_cases hc : a2 = bt H (n : Int)
  ·rw [if_pos hc]
   decide +kernel
  ·rw [if_neg hc]
   have hne2 : openV ((H.extract 0 ((n : Int)).toNat ++ strOfNums [a2]) ++ H.extract (((n + 1 : Nat) : Int)).toNat H.size) ≠ (a0_0,g,a0_2,a0_3,0):=by
    intro h
    have ht:=hsame _ (openV_ok h)
    apply hc
    have hd:=congrArg (fun x : ByteArray => x.data.toList[n]?) ht
    have l1 : ((H.extract 0 ((n : Int)).toNat ++ strOfNums [a2]) ++ H.extract (((n + 1 : Nat) : Int)).toNat H.size).data.toList = (H.data.toList.take n ++ [UInt8.ofNat a2.toNat]) ++ H.data.toList.drop (n + 1):=by
     simp only [ByteArray.data_append,Array.toList_append,ext_listD,Int.toNat_natCast,List.drop_zero]
     congr 1
     rw [List.take_of_length_le (by rw [sh];omega)]
    have hlt : n < H.data.toList.length:=by rw [sh];exact hn
    rw [l1,List.append_assoc,List.getElem?_append_right (by rw [List.length_take];omega),List.length_take,Nat.min_eq_left (by omega),Nat.sub_self,List.getElem?_eq_getElem hlt] at hd
    have hd2 : UInt8.ofNat a2.toNat = H.data.toList[n]:=by simpa using hd
    rw [q_bt H n hn]
    have : (H.data.toList[n]).toNat = (H[n]).toNat:=rfl
    rw [← this,← hd2]
    simp
    omega
   generalize openV ((H.extract 0 ((n : Int)).toNat ++ strOfNums [a2]) ++ H.extract (((n + 1 : Nat) : Int)).toNat H.size) = V at *
   obtain ⟨v1,v2,v3,v4,v5⟩:=V
   simp only
   by_cases h5 : v5 = 0
   ·rw [if_pos h5,if_neg]
    ·decide +kernel
    ·intro hb
     simp only [Bool.and_eq_true,beq_iff_eq] at hb
     obtain ⟨rfl,hb2,rfl,rfl⟩:=hb
     refine hne2 ?_
     rw [toL,toL] at hb2
     rw [h5,ba_ext hb2]
   ·rw [if_neg h5]
    decide +kernel
 ·rw [if_neg hok]
  simp only
  rw [if_neg he,if_pos (toL _),works_eq 200 (by omega)]
  rfl
end Go.Proofs.YtedfgkjimnjdpaaDoor.Pure
