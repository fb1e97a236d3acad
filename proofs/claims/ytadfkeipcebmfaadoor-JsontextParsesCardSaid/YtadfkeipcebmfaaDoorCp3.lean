/-
  What the claim's law rests on, part 3 of 8: printed walks, externals, plain lemmas; conditions: none of its own.
-/
import Derived.Test.YtadfkeipcebmfaaDoorCp2
namespace Go.Proofs.YtadfkeipcebmfaaDoor.X
open Go.RowKit Go.Proofs.YtadfkeipcebmfaaDoorW.PrintWords Go.Proofs.YtadfkeipcebmfaaDoorW.PrintLast Go.Proofs.YtadfkeipcebmfaaDoorW.PrintMore
attribute [local go_sem] max2_int min2_int max_two min_two max_three min_three max_four min_four
set_option linter.unusedVariables false
set_option linter.unusedSimpArgs false
mutual
def racewayref25_escape.l0 : Nat → ByteArray → Int → Int → Option (Int × Int × (List (S46)) × ByteArray)
 | 0,_,_,_ => none
 | k + 1,x0,x1,x5 => if x5 < 8 then (if 0 ≤ (wrap64 (x1 + 1)) then (if (wrap64 (x1 + 1)) < (x0.size : Int) then (if 0 ≤ x5 then (if (bt x0 (wrap64 (x1 + 1))) = (bt (⟨#[34,92,47,98,102,110,114,116]⟩ : ByteArray) x5) then (if x5 ≤ (wrap64 (x5 + 1)) then (if (wrap64 (x5 + 1)) ≤ 8 then (some (wrap64 (x1 + 2),0,([] : List (S46)),(⟨#[34,92,47,8,12,10,13,9]⟩ : ByteArray).extract (x5 : Int).toNat ((wrap64 (x5 + 1)) : Int).toNat)) else (none)) else (none)) else (racewayref25_escape.l0 k x0 x1 (wrap64 (x5 + 1)))) else (none)) else (none)) else (none)) else (if 0 ≤ (wrap64 (x1 + 1)) then (if (wrap64 (x1 + 1)) < (x0.size : Int) then (if (bt x0 (wrap64 (x1 + 1))) = 117 then ((racewayref25_four.f k x0 (wrap64 (x1 + 2))).bind fun t521 => (racewayref25_escape.j1 k x0 x1 t521)) else (racewayref25_escape.j1 k x0 x1 (-1))) else (none)) else (none))
def racewayref25_escape.j1 : Nat → ByteArray → Int → Int → Option (Int × Int × (List (S46)) × ByteArray)
 | 0,_,_,_ => none
 | k + 1,x0,x1,x6 => if x6 < 0 then (racewayref25_escape.j2 k x0 x1 x6 true) else (if x6 ≥ 56320 then (racewayref25_escape.j2 k x0 x1 x6 (decide (x6 ≤ 57343))) else (racewayref25_escape.j2 k x0 x1 x6 false))
def racewayref25_escape.j2 : Nat → ByteArray → Int → Int → Bool → Option (Int × Int × (List (S46)) × ByteArray)
 | 0,_,_,_,_ => none
 | k + 1,x0,x1,x6,x51 => if x51 = true then ((racewayref25_fail.f x1).bind fun bt522 => (some (bt522.1,bt522.2.1,bt522.2.2.1,bt522.2.2.2))) else (if x6 < 55296 then (racewayref25_escape.j3 k x0 x1 x6 true) else (racewayref25_escape.j3 k x0 x1 x6 (decide (x6 > 57343))))
def racewayref25_escape.j3 : Nat → ByteArray → Int → Int → Bool → Option (Int × Int × (List (S46)) × ByteArray)
 | 0,_,_,_,_ => none
 | k + 1,x0,x1,x6,x59 => if x59 = true then ((racewayref25_encode.f x6).bind fun t528 => (some (wrap64 (x1 + 6),0,([] : List (S46)),t528))) else ((racewayref25_is.f x0 (wrap64 (x1 + 6)) 92).bind fun t529 => (if t529 = true then ((racewayref25_is.f x0 (wrap64 (x1 + 7)) 117).bind fun t530 => (racewayref25_escape.j4 k x0 x1 x6 (-1) t530)) else (racewayref25_escape.j4 k x0 x1 x6 (-1) false)))
def racewayref25_escape.j4 : Nat → ByteArray → Int → Int → Int → Bool → Option (Int × Int × (List (S46)) × ByteArray)
 | 0,_,_,_,_,_ => none
 | k + 1,x0,x1,x6,x7,x74 => if x74 = true then ((racewayref25_four.f k x0 (wrap64 (x1 + 8))).bind fun t531 => (racewayref25_escape.j5 k x1 x6 t531)) else (racewayref25_escape.j5 k x1 x6 x7)
def racewayref25_escape.j5 : Nat → Int → Int → Int → Option (Int × Int × (List (S46)) × ByteArray)
 | 0,_,_,_ => none
 | k + 1,x1,x6,x7 => if x7 < 56320 then (racewayref25_escape.j6 k x1 x6 x7 true) else (racewayref25_escape.j6 k x1 x6 x7 (decide (x7 > 57343)))
def racewayref25_escape.j6 : Nat → Int → Int → Int → Bool → Option (Int × Int × (List (S46)) × ByteArray)
 | 0,_,_,_,_ => none
 | k + 1,x1,x6,x7,x84 => if x84 = true then ((racewayref25_fail.f x1).bind fun bt532 => (some (bt532.1,bt532.2.1,bt532.2.2.1,bt532.2.2.2))) else ((racewayref25_encode.f (wrap64 ((wrap64 ((wrap64 (65536 + (wrap64 ((wrap64 (x6 - 55296)) * 1024)))) + x7)) - 56320))).bind fun t538 => (some (wrap64 (x1 + 12),0,([] : List (S46)),t538)))
end
def racewayref25_escape.f (k : Nat) (a0 : ByteArray) (a1 : Int) : Option (Int × Int × (List (S46)) × ByteArray):=if (wrap64 (a1 + 1)) ≥ (a0.size : Int) then ((racewayref25_fail.f a1).bind fun bt515 => (some (bt515.1,bt515.2.1,bt515.2.2.1,bt515.2.2.2))) else (racewayref25_escape.l0 k a0 a1 0)
set_option maxHeartbeats 8000000 in
set_option maxRecDepth 100000 in
theorem racewayref25_escape.calls (k : Nat) (a0 : ByteArray) (a1 : Int) (r1 : Int) (r2 : Int) (r3 : List (S46)) (r4 : ByteArray) (w : World) (h : racewayref25_escape.f k a0 a1 = some (r1,r2,r3,r4)) :
  Calls Tryd.prog 71 #[.string a0,.int .i64 a1] w fun e w' => ∃ v2_ : Value,e = .returned (.agg #[.int .i64 r1,.int .i64 r2,v2_,.string r4]) ∧ Kd.R k46 46 w' w.heap.size (fun _ => True) v2_ r3 ∧ Below w.heap.size w w':=by
 have hu67:=Tryd.underlying67
 have HB:=Aside0.mk (Below.refl w.heap.size w)
 have H : (if (wrap64 (a1 + 1)) ≥ (a0.size : Int) then ((racewayref25_fail.f a1).bind fun bt515 => (some (bt515.1,bt515.2.1,bt515.2.2.1,bt515.2.2.2))) else (racewayref25_escape.l0 k a0 a1 0)) = some (r1,r2,r3,r4):=h
 clear h
 by_cases c3 : (wrap64 (a1 + 1)) ≥ (a0.size : Int)
 ·rw [if_pos c3] at H
  have c3b0 : decide ((a0.size : Int) ≤ (wrap64 (a1 + 1))) = true:=decide_eq_true c3
  clear c3
  replace H:=Option.bind_eq_some_iff.mp H
  obtain ⟨⟨t515,t516,t517,t520⟩,A40,H⟩:=H
  replace H : (some (t515,t516,t517,t520)) = some (r1,r2,r3,r4):=H
  have A4:=Aside0.mk A40
  clear A40
  simp only [Option.some.injEq,Prod.mk.injEq] at H
  obtain ⟨rfl,rfl,rfl,rfl⟩:=H
  go_enter Tryd.func71,Tryd.ntmps71
  go_wp2_with (first|((with_reducible refine gate_dst (N:=4) rfl ?_);refine box_event ?hg (N:=4) ?hd (cs:=#[.int .i64 0,.int .i64 0,.slice none 0 0,.string (⟨#[]⟩ : ByteArray)]) (t:=67) ?hr ?_;(case hd => rfl);(case hg => rfl);(case hr => first|(go_simp;done)|(go_simp;rfl));intro gb514 hg w5 hbox hb;have n0_:=Aside0.mk (below_step (by repeat (first|(with_reducible first|exact HB.out|apply below_alloc|apply pw_below_drewN|apply below_drew1)|exact HB.out)) hb);have n1_:=Aside0.mk (hbox);have n2_:=Aside0.mk ((by rw [hg];exact (below_size (by repeat (first|(with_reducible first|exact HB.out|apply below_alloc|apply pw_below_drewN|apply below_drew1)|exact HB.out))) : w.heap.size ≤ gb514));have n3_:=Aside0.mk ((by rw [hg];exact (below_size (by repeat (first|(with_reducible first|exact HB.out|apply below_alloc|apply pw_below_drewN|apply below_drew1)|exact HB.out))) : w.heap.size ≤ gb514));clear HB;have HB:=n0_;have BK514:=n1_;have GW514:=n2_;have GE514:=n3_;clear n0_ n1_ n2_ n3_;clear hb hbox hg)|(go_at_call 54;(with_reducible refine (racewayref25_fail.calls a1 t515 t516 t517 t520 _ A4.out).mono ?_);rintro e w6 ⟨v518,rfl,ho0,hb⟩;have n0_:=Aside0.mk (Kd.R_lower ho0 (below_size (by repeat (first|(with_reducible first|exact HB.out|apply below_alloc|apply pw_below_drewN|apply below_drew1|refine below_set ?_ GE514.out)|exact HB.out))));have n1_:=Aside0.mk (blk_below (g:=gb514) (o:=.cells #[.int .i64 0,.int .i64 0,.slice none 0 0,.string (⟨#[]⟩ : ByteArray)] 67 (0,0)) (by (with_reducible repeat (first|refine blk_drewN ?_ _|refine blk_drew ?_|refine blk_alloc ?_ _));exact BK514.out) hb);have n2_:=Aside0.mk (below_step (by repeat (first|(with_reducible first|exact HB.out|apply below_alloc|apply pw_below_drewN|apply below_drew1|refine below_set ?_ GE514.out)|exact HB.out)) hb);clear BK514;clear HB;have HO519:=n0_;have BK514:=n1_;have HB:=n2_;clear n0_ n1_ n2_;(try clear hb);(try clear hb2);(try clear hk);(try clear hi);(try clear ho0);have hcz7_0 : w6.cell? ⟨gb514,0,none⟩ = some (.int .i64 0):=(blk_cell BK514.out 0).trans rfl;have hcz7_1 : w6.cell? ⟨gb514,1,none⟩ = some (.int .i64 0):=(blk_cell BK514.out 1).trans rfl;have hcz7_2 : w6.cell? ⟨gb514,2,none⟩ = some (.slice none 0 0):=(blk_cell BK514.out 2).trans rfl;have hcz7_3 : w6.cell? ⟨gb514,3,none⟩ = some (.string (⟨#[]⟩ : ByteArray)):=(blk_cell BK514.out 3).trans rfl;have hfz7_0:=blk_frozen BK514.out 0;have hfz7_1:=blk_frozen BK514.out 1;have hfz7_2:=blk_frozen BK514.out 2;have hfz7_3:=blk_frozen BK514.out 3;obtain ⟨Ao8,co8,eo8⟩:=Kd.R_slice HO519.out;subst eo8))
  repeat (go_quiet (first|((with_reducible refine gate_dst (N:=4) rfl ?_);refine box_event ?hg (N:=4) ?hd (cs:=#[.int .i64 0,.int .i64 0,.slice none 0 0,.string (⟨#[]⟩ : ByteArray)]) (t:=67) ?hr ?_;(case hd => rfl);(case hg => rfl);(case hr => first|(go_simp;done)|(go_simp;rfl));intro gb514 hg w5 hbox hb;have n0_:=Aside0.mk (below_step (by repeat (first|(with_reducible first|exact HB.out|apply below_alloc|apply pw_below_drewN|apply below_drew1)|exact HB.out)) hb);have n1_:=Aside0.mk (hbox);have n2_:=Aside0.mk ((by rw [hg];exact (below_size (by repeat (first|(with_reducible first|exact HB.out|apply below_alloc|apply pw_below_drewN|apply below_drew1)|exact HB.out))) : w.heap.size ≤ gb514));have n3_:=Aside0.mk ((by rw [hg];exact (below_size (by repeat (first|(with_reducible first|exact HB.out|apply below_alloc|apply pw_below_drewN|apply below_drew1)|exact HB.out))) : w.heap.size ≤ gb514));clear HB;have HB:=n0_;have BK514:=n1_;have GW514:=n2_;have GE514:=n3_;clear n0_ n1_ n2_ n3_;clear hb hbox hg)|(go_at_call 54;(with_reducible refine (racewayref25_fail.calls a1 t515 t516 t517 t520 _ A4.out).mono ?_);rintro e w6 ⟨v518,rfl,ho0,hb⟩;have n0_:=Aside0.mk (Kd.R_lower ho0 (below_size (by repeat (first|(with_reducible first|exact HB.out|apply below_alloc|apply pw_below_drewN|apply below_drew1|refine below_set ?_ GE514.out)|exact HB.out))));have n1_:=Aside0.mk (blk_below (g:=gb514) (o:=.cells #[.int .i64 0,.int .i64 0,.slice none 0 0,.string (⟨#[]⟩ : ByteArray)] 67 (0,0)) (by (with_reducible repeat (first|refine blk_drewN ?_ _|refine blk_drew ?_|refine blk_alloc ?_ _));exact BK514.out) hb);have n2_:=Aside0.mk (below_step (by repeat (first|(with_reducible first|exact HB.out|apply below_alloc|apply pw_below_drewN|apply below_drew1|refine below_set ?_ GE514.out)|exact HB.out)) hb);clear BK514;clear HB;have HO519:=n0_;have BK514:=n1_;have HB:=n2_;clear n0_ n1_ n2_;(try clear hb);(try clear hb2);(try clear hk);(try clear hi);(try clear ho0);have hcz7_0 : w6.cell? ⟨gb514,0,none⟩ = some (.int .i64 0):=(blk_cell BK514.out 0).trans rfl;have hcz7_1 : w6.cell? ⟨gb514,1,none⟩ = some (.int .i64 0):=(blk_cell BK514.out 1).trans rfl;have hcz7_2 : w6.cell? ⟨gb514,2,none⟩ = some (.slice none 0 0):=(blk_cell BK514.out 2).trans rfl;have hcz7_3 : w6.cell? ⟨gb514,3,none⟩ = some (.string (⟨#[]⟩ : ByteArray)):=(blk_cell BK514.out 3).trans rfl;have hfz7_0:=blk_frozen BK514.out 0;have hfz7_1:=blk_frozen BK514.out 1;have hfz7_2:=blk_frozen BK514.out 2;have hfz7_3:=blk_frozen BK514.out 3;obtain ⟨Ao8,co8,eo8⟩:=Kd.R_slice HO519.out;subst eo8));try go_wp2_with (first|((with_reducible refine gate_dst (N:=4) rfl ?_);refine box_event ?hg (N:=4) ?hd (cs:=#[.int .i64 0,.int .i64 0,.slice none 0 0,.string (⟨#[]⟩ : ByteArray)]) (t:=67) ?hr ?_;(case hd => rfl);(case hg => rfl);(case hr => first|(go_simp;done)|(go_simp;rfl));intro gb514 hg w5 hbox hb;have n0_:=Aside0.mk (below_step (by repeat (first|(with_reducible first|exact HB.out|apply below_alloc|apply pw_below_drewN|apply below_drew1)|exact HB.out)) hb);have n1_:=Aside0.mk (hbox);have n2_:=Aside0.mk ((by rw [hg];exact (below_size (by repeat (first|(with_reducible first|exact HB.out|apply below_alloc|apply pw_below_drewN|apply below_drew1)|exact HB.out))) : w.heap.size ≤ gb514));have n3_:=Aside0.mk ((by rw [hg];exact (below_size (by repeat (first|(with_reducible first|exact HB.out|apply below_alloc|apply pw_below_drewN|apply below_drew1)|exact HB.out))) : w.heap.size ≤ gb514));clear HB;have HB:=n0_;have BK514:=n1_;have GW514:=n2_;have GE514:=n3_;clear n0_ n1_ n2_ n3_;clear hb hbox hg)|(go_at_call 54;(with_reducible refine (racewayref25_fail.calls a1 t515 t516 t517 t520 _ A4.out).mono ?_);rintro e w6 ⟨v518,rfl,ho0,hb⟩;have n0_:=Aside0.mk (Kd.R_lower ho0 (below_size (by repeat (first|(with_reducible first|exact HB.out|apply below_alloc|apply pw_below_drewN|apply below_drew1|refine below_set ?_ GE514.out)|exact HB.out))));have n1_:=Aside0.mk (blk_below (g:=gb514) (o:=.cells #[.int .i64 0,.int .i64 0,.slice none 0 0,.string (⟨#[]⟩ : ByteArray)] 67 (0,0)) (by (with_reducible repeat (first|refine blk_drewN ?_ _|refine blk_drew ?_|refine blk_alloc ?_ _));exact BK514.out) hb);have n2_:=Aside0.mk (below_step (by repeat (first|(with_reducible first|exact HB.out|apply below_alloc|apply pw_below_drewN|apply below_drew1|refine below_set ?_ GE514.out)|exact HB.out)) hb);clear BK514;clear HB;have HO519:=n0_;have BK514:=n1_;have HB:=n2_;clear n0_ n1_ n2_;(try clear hb);(try clear hb2);(try clear hk);(try clear hi);(try clear ho0);have hcz7_0 : w6.cell? ⟨gb514,0,none⟩ = some (.int .i64 0):=(blk_cell BK514.out 0).trans rfl;have hcz7_1 : w6.cell? ⟨gb514,1,none⟩ = some (.int .i64 0):=(blk_cell BK514.out 1).trans rfl;have hcz7_2 : w6.cell? ⟨gb514,2,none⟩ = some (.slice none 0 0):=(blk_cell BK514.out 2).trans rfl;have hcz7_3 : w6.cell? ⟨gb514,3,none⟩ = some (.string (⟨#[]⟩ : ByteArray)):=(blk_cell BK514.out 3).trans rfl;have hfz7_0:=blk_frozen BK514.out 0;have hfz7_1:=blk_frozen BK514.out 1;have hfz7_2:=blk_frozen BK514.out 2;have hfz7_3:=blk_frozen BK514.out 3;obtain ⟨Ao8,co8,eo8⟩:=Kd.R_slice HO519.out;subst eo8)))
  refine bodyPost_ret (results_cell_row rfl _ _ gb514 67 #[.int .i64 t515,.int .i64 t516,.slice Ao8 t517.length co8,.string t520] (0,0) _ rfl (by (with_reducible repeat (first|refine blk_drewN ?_ _|refine blk_drew ?_|refine blk_alloc ?_ _));refine blk_put (cs:=#[.int .i64 t515,.int .i64 t516,.slice Ao8 t517.length co8,.string (⟨#[]⟩ : ByteArray)]) ?_ 3 _ rfl;(with_reducible repeat (first|refine blk_drewN ?_ _|refine blk_drew ?_|refine blk_alloc ?_ _));refine blk_put (cs:=#[.int .i64 t515,.int .i64 t516,.slice none 0 0,.string (⟨#[]⟩ : ByteArray)]) ?_ 2 _ rfl;(with_reducible repeat (first|refine blk_drewN ?_ _|refine blk_drew ?_|refine blk_alloc ?_ _));refine blk_put (cs:=#[.int .i64 t515,.int .i64 0,.slice none 0 0,.string (⟨#[]⟩ : ByteArray)]) ?_ 1 _ rfl;(with_reducible repeat (first|refine blk_drewN ?_ _|refine blk_drew ?_|refine blk_alloc ?_ _));refine blk_put (cs:=#[.int .i64 0,.int .i64 0,.slice none 0 0,.string (⟨#[]⟩ : ByteArray)]) ?_ 0 _ rfl;(with_reducible repeat (first|refine blk_drewN ?_ _|refine blk_drew ?_|refine blk_alloc ?_ _));exact BK514.out) Tryd.underlying67 rfl (by kernel_rfl)) rfl ?_
  exact ⟨_,by first|rfl|(simp [errW_none,errW_some] <;> rfl)|(simp [*,errW_none,errW_some] <;> rfl),by (with_reducible repeat (first|apply Kd.R_alloc|apply Kd.R_drewN|apply Kd.R_drew));exact Kd.R_mono (Kd.R_far (p:=⟨gb514,3,none⟩) (Kd.R_far (p:=⟨gb514,2,none⟩) (Kd.R_far (p:=⟨gb514,1,none⟩) (Kd.R_far (p:=⟨gb514,0,none⟩) (Kd.R_types HO519.out BK514.out (by decide)) (fun _ hk => hk.2) (.int .i64 t515)) (fun _ hk => hk.2) (.int .i64 t516)) (fun _ hk => hk.2) (.slice Ao8 t517.length co8)) (fun _ hk => hk.2) (.string t520)) (fun _ hk => trivial),by repeat (first|(with_reducible first|exact HB.out|apply below_alloc|apply pw_below_drewN|apply below_drew1|refine below_set ?_ GE514.out)|exact HB.out)⟩
 ·rw [if_neg c3] at H
  have c3b0 : decide ((a0.size : Int) ≤ (wrap64 (a1 + 1))) = false:=decide_eq_false c3
  clear c3
  have H':=Aside0.mk H
  clear H
  go_enter Tryd.func71,Tryd.ntmps71
  go_wp2_with (first|((with_reducible refine gate_dst (N:=4) rfl ?_);refine box_event ?hg (N:=4) ?hd (cs:=#[.int .i64 0,.int .i64 0,.slice none 0 0,.string (⟨#[]⟩ : ByteArray)]) (t:=67) ?hr ?_;(case hd => rfl);(case hg => rfl);(case hr => first|(go_simp;done)|(go_simp;rfl));intro gb514 hg w9 hbox hb;have n0_:=Aside0.mk (below_step (by repeat (first|(with_reducible first|exact HB.out|apply below_alloc|apply pw_below_drewN|apply below_drew1)|exact HB.out)) hb);have n1_:=Aside0.mk (hbox);have n2_:=Aside0.mk ((by rw [hg];exact (below_size (by repeat (first|(with_reducible first|exact HB.out|apply below_alloc|apply pw_below_drewN|apply below_drew1)|exact HB.out))) : w.heap.size ≤ gb514));have n3_:=Aside0.mk ((by rw [hg];exact (below_size (by repeat (first|(with_reducible first|exact HB.out|apply below_alloc|apply pw_below_drewN|apply below_drew1)|exact HB.out))) : w.heap.size ≤ gb514));clear HB;have HB:=n0_;have BK514:=n1_;have GW514:=n2_;have GE514:=n3_;clear n0_ n1_ n2_ n3_;clear hb hbox hg))
  repeat (go_quiet (first|((with_reducible refine gate_dst (N:=4) rfl ?_);refine box_event ?hg (N:=4) ?hd (cs:=#[.int .i64 0,.int .i64 0,.slice none 0 0,.string (⟨#[]⟩ : ByteArray)]) (t:=67) ?hr ?_;(case hd => rfl);(case hg => rfl);(case hr => first|(go_simp;done)|(go_simp;rfl));intro gb514 hg w9 hbox hb;have n0_:=Aside0.mk (below_step (by repeat (first|(with_reducible first|exact HB.out|apply below_alloc|apply pw_below_drewN|apply below_drew1)|exact HB.out)) hb);have n1_:=Aside0.mk (hbox);have n2_:=Aside0.mk ((by rw [hg];exact (below_size (by repeat (first|(with_reducible first|exact HB.out|apply below_alloc|apply pw_below_drewN|apply below_drew1)|exact HB.out))) : w.heap.size ≤ gb514));have n3_:=Aside0.mk ((by rw [hg];exact (below_size (by repeat (first|(with_reducible first|exact HB.out|apply below_alloc|apply pw_below_drewN|apply below_drew1)|exact HB.out))) : w.heap.size ≤ gb514));clear HB;have HB:=n0_;have BK514:=n1_;have GW514:=n2_;have GE514:=n3_;clear n0_ n1_ n2_ n3_;clear hb hbox hg));try go_wp2_with (first|((with_reducible refine gate_dst (N:=4) rfl ?_);refine box_event ?hg (N:=4) ?hd (cs:=#[.int .i64 0,.int .i64 0,.slice none 0 0,.string (⟨#[]⟩ : ByteArray)]) (t:=67) ?hr ?_;(case hd => rfl);(case hg => rfl);(case hr => first|(go_simp;done)|(go_simp;rfl));intro gb514 hg w9 hbox hb;have n0_:=Aside0.mk (below_step (by repeat (first|(with_reducible first|exact HB.out|apply below_alloc|apply pw_below_drewN|apply below_drew1)|exact HB.out)) hb);have n1_:=Aside0.mk (hbox);have n2_:=Aside0.mk ((by rw [hg];exact (below_size (by repeat (first|(with_reducible first|exact HB.out|apply below_alloc|apply pw_below_drewN|apply below_drew1)|exact HB.out))) : w.heap.size ≤ gb514));have n3_:=Aside0.mk ((by rw [hg];exact (below_size (by repeat (first|(with_reducible first|exact HB.out|apply below_alloc|apply pw_below_drewN|apply below_drew1)|exact HB.out))) : w.heap.size ≤ gb514));clear HB;have HB:=n0_;have BK514:=n1_;have GW514:=n2_;have GE514:=n3_;clear n0_ n1_ n2_ n3_;clear hb hbox hg)))
  go_loopg [5] k (fun kq v5 w' => ∃ (x5_1 : Int) (x515000_1 : Int) (x515001_1 : Int) (x515003_1 : ByteArray),v5 = .int .i64 x5_1 ∧ Aside0 (racewayref25_escape.l0 kq a0 a1 x5_1 = some (r1,r2,r3,r4)) ∧ Aside0 (kq ≤ k) ∧ Aside0 (w'.heap[gb514]? = some (.cells #[.int .i64 x515000_1,.int .i64 x515001_1,(.slice none 0 0),.string x515003_1] 67 (0,0))) ∧ Aside0 (Below w.heap.size w w'))
  case atStart => exact ⟨(0),(0),(0),((⟨#[]⟩ : ByteArray)),(by first|rfl|(simp;done)|(simp;decide +kernel)|(simp [*];done)),(by first|exact H'|(subst_vars;exact H')),⟨Nat.le_refl _⟩,⟨by (with_reducible repeat (first|refine blk_drewN ?_ _|refine blk_drew ?_|refine blk_alloc ?_ _));exact BK514.out⟩,⟨by repeat (first|(with_reducible first|exact HB.out|apply below_alloc|apply pw_below_drewN|apply below_drew1|refine below_set ?_ GE514.out)|exact HB.out)⟩⟩
  case round =>
   clear H'
   try clear p2
   try clear c3
   try clear c3b0
   try clear p6
   try clear c7
   try clear hcz7_0
   try clear hcz7_1
   try clear hcz7_2
   try clear hcz7_3
   try clear hfz7_0
   try clear hfz7_1
   try clear hfz7_2
   try clear hfz7_3
   obtain ⟨x5_1,x515000_1,x515001_1,x515003_1,rfl,HA,HK1,BK514,HB⟩:=hrel
   cases gk with
   | zero => exact absurd HA.out (by simp [racewayref25_escape.l0])
   | succ k1 =>
    have H:=HA.out
    clear HA
    simp only [racewayref25_escape.l0] at H
    by_cases c10 : x5_1 < 8
    ·rw [if_pos c10] at H
     have c10b0 : decide (x5_1 < 8) = true:=decide_eq_true c10
     clear c10
     obtain ⟨ji11,hji11⟩ : ∃ j_ : Int,(wrap64 (a1 + 1)) = j_:=⟨_,rfl⟩
     replace H : (if 0 ≤ (ji11) then (if (ji11) < (a0.size : Int) then (if 0 ≤ x5_1 then (if (bt a0 (ji11)) = (bt (⟨#[34,92,47,98,102,110,114,116]⟩ : ByteArray) x5_1) then (if x5_1 ≤ (wrap64 (x5_1 + 1)) then (if (wrap64 (x5_1 + 1)) ≤ 8 then (some (wrap64 (a1 + 2),0,([] : List (S46)),(⟨#[34,92,47,8,12,10,13,9]⟩ : ByteArray).extract (x5_1 : Int).toNat ((wrap64 (x5_1 + 1)) : Int).toNat)) else (none)) else (none)) else (racewayref25_escape.l0 k1 a0 a1 (wrap64 (x5_1 + 1)))) else (none)) else (none)) else (none)) = some (r1,r2,r3,r4):=by first|(rw [hji11] at H;exact H)|(simp only [hji11] at H ⊢;exact H)
     (try rw [hji11] at c3b0)
     have hji11w : (IntKind.i64.wrap (a1 + 1)) = ji11:=(i64_w _).trans hji11
     by_cases c12 : 0 ≤ (ji11)
     ·rw [if_pos c12] at H
      have c12b0 : decide (0 ≤ (ji11)) = true:=decide_eq_true c12
      clear c12
      by_cases c13 : (ji11) < (a0.size : Int)
      ·rw [if_pos c13] at H
       have c13b0 : decide ((ji11) < (a0.size : Int)) = true:=decide_eq_true c13
       clear c13
       by_cases c15 : 0 ≤ x5_1
       ·rw [if_pos c15] at H
        have c15b0 : decide (0 ≤ x5_1) = true:=decide_eq_true c15
        clear c15
        by_cases c17 : (bt a0 (ji11)) = (bt (⟨#[34,92,47,98,102,110,114,116]⟩ : ByteArray) x5_1)
        ·rw [if_pos c17] at H
         have c17b0 : ((bt a0 (ji11)) == (bt (⟨#[34,92,47,98,102,110,114,116]⟩ : ByteArray) x5_1)) = true:=beq_iff_eq.mpr c17
         have c17b1 : ((bt a0 (ji11)) != (bt (⟨#[34,92,47,98,102,110,114,116]⟩ : ByteArray) x5_1)) = false:=bne_eq_false_iff_eq.mpr c17
         clear c17
         have c18b0:=eq_true (of_decide_eq_true (by first|(with_reducible assumption)|assumption) : 0 ≤ x5_1)
         by_cases c19 : x5_1 ≤ (wrap64 (x5_1 + 1))
         ·rw [if_pos c19] at H
          have c19b0:=eq_true c19
          have c19b1 : decide (x5_1 ≤ (wrap64 (x5_1 + 1))) = true:=decide_eq_true c19
          by_cases c20 : (wrap64 (x5_1 + 1)) ≤ 8
          ·rw [if_pos c20] at H
           have c20b0:=eq_true c20
           have c20b1 : decide ((wrap64 (x5_1 + 1)) ≤ 8) = true:=decide_eq_true c20
           simp only [Option.some.injEq,Prod.mk.injEq] at H
           obtain ⟨rfl,rfl,rfl,rfl⟩:=H
           have p14 : 0 ≤ ((ji11) : Int):=of_decide_eq_true (by first|(with_reducible assumption)|assumption)
           have q14 : (ji11) < (a0.size : Int):=of_decide_eq_true (by first|(with_reducible assumption)|assumption)
           have hx14:=bt_at a0 (ji11)
           replace p14:=eq_true p14
           replace q14:=eq_true q14
           have p16 : 0 ≤ (x5_1 : Int):=of_decide_eq_true (by first|(with_reducible assumption)|assumption)
           have q16 : x5_1 < (8 : Int):=of_decide_eq_true (by first|(with_reducible assumption)|assumption)
           have hx16:=bt_at (⟨#[34,92,47,98,102,110,114,116]⟩ : ByteArray) x5_1
           replace p16:=eq_true p16
           replace q16:=eq_true q16
           have hcz21_0 : wr.cell? ⟨gb514,0,none⟩ = some (.int .i64 x515000_1):=(blk_cell BK514.out 0).trans rfl
           have hcz21_1 : wr.cell? ⟨gb514,1,none⟩ = some (.int .i64 x515001_1):=(blk_cell BK514.out 1).trans rfl
           have hcz21_2 : wr.cell? ⟨gb514,2,none⟩ = some (.slice none 0 0):=(blk_cell BK514.out 2).trans rfl
           have hcz21_3 : wr.cell? ⟨gb514,3,none⟩ = some (.string x515003_1):=(blk_cell BK514.out 3).trans rfl
           have hfz21_0:=blk_frozen BK514.out 0
           have hfz21_1:=blk_frozen BK514.out 1
           have hfz21_2:=blk_frozen BK514.out 2
           have hfz21_3:=blk_frozen BK514.out 3
           go_wp2
           repeat (go_quiet (fail);try go_wp2)
           refine bodyPost_ret (results_cell_row rfl _ _ gb514 67 #[.int .i64 (wrap64 (a1 + 2)),.int .i64 0,.slice none 0 0,.string ((⟨#[34,92,47,8,12,10,13,9]⟩ : ByteArray).extract (x5_1 : Int).toNat ((wrap64 (x5_1 + 1)) : Int).toNat)] (0,0) _ rfl (by (with_reducible repeat (first|refine blk_drewN ?_ _|refine blk_drew ?_|refine blk_alloc ?_ _));refine blk_put (cs:=#[.int .i64 (wrap64 (a1 + 2)),.int .i64 0,.slice none 0 0,.string x515003_1]) ?_ 3 _ rfl;(with_reducible repeat (first|refine blk_drewN ?_ _|refine blk_drew ?_|refine blk_alloc ?_ _));refine blk_put (cs:=#[.int .i64 (wrap64 (a1 + 2)),.int .i64 0,.slice none 0 0,.string x515003_1]) ?_ 2 _ rfl;(with_reducible repeat (first|refine blk_drewN ?_ _|refine blk_drew ?_|refine blk_alloc ?_ _));refine blk_put (cs:=#[.int .i64 (wrap64 (a1 + 2)),.int .i64 x515001_1,.slice none 0 0,.string x515003_1]) ?_ 1 _ rfl;(with_reducible repeat (first|refine blk_drewN ?_ _|refine blk_drew ?_|refine blk_alloc ?_ _));refine blk_put (cs:=#[.int .i64 x515000_1,.int .i64 x515001_1,.slice none 0 0,.string x515003_1]) ?_ 0 _ rfl;(with_reducible repeat (first|refine blk_drewN ?_ _|refine blk_drew ?_|refine blk_alloc ?_ _));exact BK514.out) Tryd.underlying67 rfl (by kernel_rfl)) rfl ?_
           exact ⟨_,by first|rfl|(simp [errW_none,errW_some] <;> rfl)|(simp only [← hji11];first|rfl|(simp [errW_none,errW_some] <;> rfl))|(simp [*,errW_none,errW_some] <;> rfl),by first|exact Kd.R_nil _ _ _ _ _|exact Kd.N_nil _ _ _ _ _|exact Kd.V_nil _ _ _ _ _|exact Kd.Q_nil _ _ _ _ _|exact Kd.S_nil _ _ _ _ _,by repeat (first|(with_reducible first|exact HB.out|apply below_alloc|apply pw_below_drewN|apply below_drew1|refine below_set ?_ GE514.out)|exact HB.out)⟩
          ·rw [if_neg c20] at H
           exact absurd H (by simp)
         ·rw [if_neg c19] at H
          exact absurd H (by simp)
        ·rw [if_neg c17] at H
         have c17b0 : ((bt a0 (ji11)) == (bt (⟨#[34,92,47,98,102,110,114,116]⟩ : ByteArray) x5_1)) = false:=beq_eq_false_iff_ne.mpr c17
         have c17b1 : ((bt a0 (ji11)) != (bt (⟨#[34,92,47,98,102,110,114,116]⟩ : ByteArray) x5_1)) = true:=bne_iff_ne.mpr c17
         have H':=Aside0.mk H
         clear H
         have p14 : 0 ≤ ((ji11) : Int):=of_decide_eq_true (by first|(with_reducible assumption)|assumption)
         have q14 : (ji11) < (a0.size : Int):=of_decide_eq_true (by first|(with_reducible assumption)|assumption)
         have hx14:=bt_at a0 (ji11)
         replace p14:=eq_true p14
         replace q14:=eq_true q14
         have p16 : 0 ≤ (x5_1 : Int):=of_decide_eq_true (by first|(with_reducible assumption)|assumption)
         have q16 : x5_1 < (8 : Int):=of_decide_eq_true (by first|(with_reducible assumption)|assumption)
         have hx16:=bt_at (⟨#[34,92,47,98,102,110,114,116]⟩ : ByteArray) x5_1
         replace p16:=eq_true p16
         replace q16:=eq_true q16
         go_wp2
         repeat (go_quiet (fail);try go_wp2)
         go_roundg k1
         case measure => have:=HK1.out;omega
         case rel => exact ⟨(wrap64 (x5_1 + 1)),(x515000_1),(x515001_1),(x515003_1),(by first|rfl|(simp;done)|(simp;decide +kernel)|(simp [*];done)),(by first|exact H'|(subst_vars;exact H')),⟨by have:=HK1.out;omega⟩,⟨by (with_reducible repeat (first|refine blk_drewN ?_ _|refine blk_drew ?_|refine blk_alloc ?_ _));exact BK514.out⟩,⟨by repeat (first|(with_reducible first|exact HB.out|apply below_alloc|apply pw_below_drewN|apply below_drew1|refine below_set ?_ GE514.out)|exact HB.out)⟩⟩
       ·rw [if_neg c15] at H
        exact absurd H (by simp)
      ·rw [if_neg c13] at H
       exact absurd H (by simp)
     ·rw [if_neg c12] at H
      exact absurd H (by simp)
    ·rw [if_neg c10] at H
     have c10b0 : decide (x5_1 < 8) = false:=decide_eq_false c10
     clear c10
     obtain ⟨ji22,hji22⟩ : ∃ j_ : Int,(wrap64 (a1 + 1)) = j_:=⟨_,rfl⟩
     replace H : (if 0 ≤ (ji22) then (if (ji22) < (a0.size : Int) then (if (bt a0 (ji22)) = 117 then ((racewayref25_four.f k1 a0 (wrap64 (a1 + 2))).bind fun t521 => (racewayref25_escape.j1 k1 a0 a1 t521)) else (racewayref25_escape.j1 k1 a0 a1 (-1))) else (none)) else (none)) = some (r1,r2,r3,r4):=by first|(rw [hji22] at H;exact H)|(simp only [hji22] at H ⊢;exact H)
     (try rw [hji22] at c3b0)
     have hji22w : (IntKind.i64.wrap (a1 + 1)) = ji22:=(i64_w _).trans hji22
     by_cases c23 : 0 ≤ (ji22)
     ·rw [if_pos c23] at H
      have c23b0 : decide (0 ≤ (ji22)) = true:=decide_eq_true c23
      clear c23
      by_cases c24 : (ji22) < (a0.size : Int)
      ·rw [if_pos c24] at H
       have c24b0 : decide ((ji22) < (a0.size : Int)) = true:=decide_eq_true c24
       clear c24
       have HC26:=Aside0.mk H
       clear H
       have p25 : 0 ≤ ((ji22) : Int):=of_decide_eq_true (by first|(with_reducible assumption)|assumption)
       have q25 : (ji22) < (a0.size : Int):=of_decide_eq_true (by first|(with_reducible assumption)|assumption)
       have hx25:=bt_at a0 (ji22)
       replace p25:=eq_true p25
       replace q25:=eq_true q25
       go_upto_if 37 with (fail)
       repeat (go_quiet (fail);go_upto_if 37 with (fail))
       go_cut [6] (fun v6 wc => ∃ (kq : Nat) (x6_25 : Int),v6 = .int .i64 x6_25 ∧ Aside0 (racewayref25_escape.j1 kq a0 a1 x6_25 = some (r1,r2,r3,r4)) ∧ Aside0 (kq ≤ k1) ∧ Aside0 (wc.heap[gb514]? = some (.cells #[.int .i64 x515000_1,.int .i64 x515001_1,(.slice none 0 0),.string x515003_1] 67 (0,0))) ∧ Aside0 (Below w.heap.size w wc))
       case first =>
        have H:=HC26.out
        clear HC26
        by_cases c27 : (bt a0 (ji22)) = 117
        ·rw [if_pos c27] at H
         have c27b0 : ((bt a0 (ji22)) == 117) = true:=beq_iff_eq.mpr c27
         have c27b1 : ((bt a0 (ji22)) != 117) = false:=bne_eq_false_iff_eq.mpr c27
         clear c27
         (first|rw [c27b0]|(simp only [i64_w,i32_w];rw [c27b0])|skip)
         replace H:=Option.bind_eq_some_iff.mp H
         obtain ⟨t521,A280,H⟩:=H
         replace H : (racewayref25_escape.j1 k1 a0 a1 t521) = some (r1,r2,r3,r4):=H
         have A28:=Aside0.mk A280
         clear A280
         have H':=Aside0.mk H
         clear H
         go_wp2_with (first|(go_at_call 80;(with_reducible refine (racewayref25_four.calls k1 a0 (wrap64 (a1 + 2)) t521 _ A28.out).mono ?_);rintro e w' ⟨rfl,⟨nd,rfl⟩⟩;(try first|exact ⟨rfl,_,World.drewN_drewN _ _ _⟩|exact ⟨rfl,_,Eq.trans (World.drewN_drewN _ _ _) (congrArg (World.drewN _) (Nat.add_assoc _ _ _))⟩)))
         repeat (go_quiet (first|(go_at_call 80;(with_reducible refine (racewayref25_four.calls k1 a0 (wrap64 (a1 + 2)) t521 _ A28.out).mono ?_);rintro e w' ⟨rfl,⟨nd,rfl⟩⟩;(try first|exact ⟨rfl,_,World.drewN_drewN _ _ _⟩|exact ⟨rfl,_,Eq.trans (World.drewN_drewN _ _ _) (congrArg (World.drewN _) (Nat.add_assoc _ _ _))⟩)));try go_wp2_with (first|(go_at_call 80;(with_reducible refine (racewayref25_four.calls k1 a0 (wrap64 (a1 + 2)) t521 _ A28.out).mono ?_);rintro e w' ⟨rfl,⟨nd,rfl⟩⟩;(try first|exact ⟨rfl,_,World.drewN_drewN _ _ _⟩|exact ⟨rfl,_,Eq.trans (World.drewN_drewN _ _ _) (congrArg (World.drewN _) (Nat.add_assoc _ _ _))⟩))))
         go_meet
         case rel => exact ⟨_,(t521),(by first|rfl|(simp;done)|(simp;decide +kernel)|(simp [*];done)),(by first|exact H'|(subst_vars;exact H')),⟨by have:=HK1.out;first|omega|exact Nat.le_refl _⟩,⟨by (with_reducible repeat (first|refine blk_drewN ?_ _|refine blk_drew ?_|refine blk_alloc ?_ _));exact BK514.out⟩,⟨by repeat (first|(with_reducible first|exact HB.out|apply below_alloc|apply pw_below_drewN|apply below_drew1|refine below_set ?_ GE514.out)|exact HB.out)⟩⟩
        ·rw [if_neg c27] at H
         have c27b0 : ((bt a0 (ji22)) == 117) = false:=beq_eq_false_iff_ne.mpr c27
         have c27b1 : ((bt a0 (ji22)) != 117) = true:=bne_iff_ne.mpr c27
         (first|rw [c27b0]|(simp only [i64_w,i32_w];rw [c27b0])|skip)
         have H':=Aside0.mk H
         clear H
         go_wp2
         repeat (go_quiet (fail);try go_wp2)
         go_meet
         case rel => exact ⟨_,((-1)),(by first|rfl|(simp;done)|(simp;decide +kernel)|(simp [*];done)),(by first|exact H'|(subst_vars;exact H')),⟨by have:=HK1.out;first|omega|exact Nat.le_refl _⟩,⟨by (with_reducible repeat (first|refine blk_drewN ?_ _|refine blk_drew ?_|refine blk_alloc ?_ _));exact BK514.out⟩,⟨by repeat (first|(with_reducible first|exact HB.out|apply below_alloc|apply pw_below_drewN|apply below_drew1|refine below_set ?_ GE514.out)|exact HB.out)⟩⟩
       case rest =>
        clear HC26
        try clear c1
        try clear p1
        try clear q1
        try clear hx1
        try clear c2
        try clear p2
        try clear q2
        try clear hx2
        try clear c3
        try clear c3b0
        try clear p6
        try clear c7
        try clear c10
        try clear c10b0
        try clear c12
        try clear c12b0
        try clear c13
        try clear c13b0
        try clear p14
        try clear q14
        try clear hx14
        try clear c15
        try clear c15b0
        try clear p16
        try clear q16
        try clear hx16
        try clear c17
        try clear c17b0
        try clear c17b1
        try clear c18
        try clear c18b0
        try clear c19
        try clear c19b0
        try clear c19b1
        try clear c20
        try clear c20b0
        try clear c20b1
        try clear c23
        try clear c23b0
        try clear c24
        try clear c24b0
        try clear p25
        try clear q25
        try clear hx25
        try clear c27
        try clear c27b0
        try clear c27b1
        try clear hcz21_0
        try clear hcz21_1
        try clear hcz21_2
        try clear hcz21_3
        try clear hcz7_0
        try clear hcz7_1
        try clear hcz7_2
        try clear hcz7_3
        try clear hfz21_0
        try clear hfz21_1
        try clear hfz21_2
        try clear hfz21_3
        try clear hfz7_0
        try clear hfz7_1
        try clear hfz7_2
        try clear hfz7_3
        try clear p14
        try clear p16
        try clear p2
        try clear p25
        try clear p6
        try clear q14
        try clear q16
        try clear q25
        obtain ⟨kq,x6_25,rfl,HA,HJ25,BK514,HB⟩:=hcut
        cases kq with
        | zero => exact absurd HA.out (by simp [racewayref25_escape.j1])
        | succ kj25 =>
         have H:=HA.out
         clear HA
         simp only [racewayref25_escape.j1] at H
         have HC29:=Aside0.mk H
         clear H
         go_upto_region 11 with (fail)
         repeat (go_quiet (fail);go_upto_region 11 with (fail))
         go_cut [51] (fun v51 wc => ∃ (kq : Nat) (x51_28 : Bool),v51 = .bool x51_28 ∧ Aside0 (racewayref25_escape.j2 kq a0 a1 x6_25 x51_28 = some (r1,r2,r3,r4)) ∧ Aside0 (kq ≤ kj25) ∧ Aside0 (wc.heap[gb514]? = some (.cells #[.int .i64 x515000_1,.int .i64 x515001_1,(.slice none 0 0),.string x515003_1] 67 (0,0))) ∧ Aside0 (Below w.heap.size w wc))
         case first =>
          have H:=HC29.out
          clear HC29
          by_cases c30 : x6_25 < 0
          ·rw [if_pos c30] at H
           have c30b0 : decide (x6_25 < 0) = true:=decide_eq_true c30
           clear c30
           (first|rw [c30b0]|(simp only [i64_w,i32_w];rw [c30b0])|skip)
           have H':=Aside0.mk H
           clear H
           go_wp2
           repeat (go_quiet (fail);try go_wp2)
           go_meet
           case rel => exact ⟨_,(true),(by first|rfl|(simp;done)|(simp;decide +kernel)|(simp [*];done)),(by first|exact H'|(subst_vars;exact H')),⟨by have:=HK1.out;have:=HJ25.out;first|omega|exact Nat.le_refl _⟩,⟨by (with_reducible repeat (first|refine blk_drewN ?_ _|refine blk_drew ?_|refine blk_alloc ?_ _));exact BK514.out⟩,⟨by repeat (first|(with_reducible first|exact HB.out|apply below_alloc|apply pw_below_drewN|apply below_drew1|refine below_set ?_ GE514.out)|exact HB.out)⟩⟩
          ·rw [if_neg c30] at H
           have c30b0 : decide (x6_25 < 0) = false:=decide_eq_false c30
           clear c30
           (first|rw [c30b0]|(simp only [i64_w,i32_w];rw [c30b0])|skip)
           by_cases c31 : x6_25 ≥ 56320
           ·rw [if_pos c31] at H
            have c31b0 : decide (56320 ≤ x6_25) = true:=decide_eq_true c31
            clear c31
            have H':=Aside0.mk H
            clear H
            go_wp2
            repeat (go_quiet (fail);try go_wp2)
            go_meet
            case rel => exact ⟨_,(decide (x6_25 ≤ 57343)),(by first|rfl|(simp;done)|(simp;decide +kernel)|(simp [*];done)),(by first|exact H'|(subst_vars;exact H')),⟨by have:=HK1.out;have:=HJ25.out;first|omega|exact Nat.le_refl _⟩,⟨by (with_reducible repeat (first|refine blk_drewN ?_ _|refine blk_drew ?_|refine blk_alloc ?_ _));exact BK514.out⟩,⟨by repeat (first|(with_reducible first|exact HB.out|apply below_alloc|apply pw_below_drewN|apply below_drew1|refine below_set ?_ GE514.out)|exact HB.out)⟩⟩
           ·rw [if_neg c31] at H
            have c31b0 : decide (56320 ≤ x6_25) = false:=decide_eq_false c31
            clear c31
            have H':=Aside0.mk H
            clear H
            go_wp2
            repeat (go_quiet (fail);try go_wp2)
            go_meet
            case rel => exact ⟨_,(false),(by first|rfl|(simp;done)|(simp;decide +kernel)|(simp [*];done)),(by first|exact H'|(subst_vars;exact H')),⟨by have:=HK1.out;have:=HJ25.out;first|omega|exact Nat.le_refl _⟩,⟨by (with_reducible repeat (first|refine blk_drewN ?_ _|refine blk_drew ?_|refine blk_alloc ?_ _));exact BK514.out⟩,⟨by repeat (first|(with_reducible first|exact HB.out|apply below_alloc|apply pw_below_drewN|apply below_drew1|refine below_set ?_ GE514.out)|exact HB.out)⟩⟩
         case rest =>
          clear HC29
          try clear c1
          try clear p1
          try clear q1
          try clear hx1
          try clear c2
          try clear p2
          try clear q2
          try clear hx2
          try clear c3
          try clear c3b0
          try clear p6
          try clear c7
          try clear c10
          try clear c10b0
          try clear c12
          try clear c12b0
          try clear c13
          try clear c13b0
          try clear p14
          try clear q14
          try clear hx14
          try clear c15
          try clear c15b0
          try clear p16
          try clear q16
          try clear hx16
          try clear c17
          try clear c17b0
          try clear c17b1
          try clear c18
          try clear c18b0
          try clear c19
          try clear c19b0
          try clear c19b1
          try clear c20
          try clear c20b0
          try clear c20b1
          try clear c23
          try clear c23b0
          try clear c24
          try clear c24b0
          try clear p25
          try clear q25
          try clear hx25
          try clear c27
          try clear c27b0
          try clear c27b1
          try clear c30
          try clear c30b0
          try clear c31
          try clear c31b0
          try clear hcz21_0
          try clear hcz21_1
          try clear hcz21_2
          try clear hcz21_3
          try clear hcz7_0
          try clear hcz7_1
          try clear hcz7_2
          try clear hcz7_3
          try clear hfz21_0
          try clear hfz21_1
          try clear hfz21_2
          try clear hfz21_3
          try clear hfz7_0
          try clear hfz7_1
          try clear hfz7_2
          try clear hfz7_3
          try clear p1
          try clear p14
          try clear p16
          try clear p2
          try clear p25
          try clear p6
          try clear q1
          try clear q14
          try clear q16
          try clear q2
          try clear q25
          obtain ⟨kq,x51_28,rfl,HA,HJ28,BK514,HB⟩:=hcut
          cases kq with
          | zero => exact absurd HA.out (by simp [racewayref25_escape.j2])
          | succ kj28 =>
           have H:=HA.out
           clear HA
           simp only [racewayref25_escape.j2] at H
           by_cases c32 : x51_28 = true
           ·subst c32
            have H1 : ((racewayref25_fail.f a1).bind fun bt522 => (some (bt522.1,bt522.2.1,bt522.2.2.1,bt522.2.2.2))) = some (r1,r2,r3,r4):=by rw [if_pos rfl] at H;exact H
            clear H
            have H:=H1
            clear H1
            replace H:=Option.bind_eq_some_iff.mp H
            obtain ⟨⟨t522,t523,t524,t527⟩,A330,H⟩:=H
            replace H : (some (t522,t523,t524,t527)) = some (r1,r2,r3,r4):=H
            have A33:=Aside0.mk A330
            clear A330
            simp only [Option.some.injEq,Prod.mk.injEq] at H
            obtain ⟨rfl,rfl,rfl,rfl⟩:=H
            go_wp2_with (first|(go_at_call 54;(with_reducible refine (racewayref25_fail.calls a1 t522 t523 t524 t527 _ A33.out).mono ?_);rintro e w34 ⟨v525,rfl,ho0,hb⟩;have n0_:=Aside0.mk (Kd.R_lower ho0 (below_size (by repeat (first|(with_reducible first|exact HB.out|apply below_alloc|apply pw_below_drewN|apply below_drew1|refine below_set ?_ GE514.out)|exact HB.out))));have n1_:=Aside0.mk (blk_below (g:=gb514) (o:=.cells #[.int .i64 x515000_1,.int .i64 x515001_1,.slice none 0 0,.string x515003_1] 67 (0,0)) (by (with_reducible repeat (first|refine blk_drewN ?_ _|refine blk_drew ?_|refine blk_alloc ?_ _));exact BK514.out) hb);have n2_:=Aside0.mk (below_step (by repeat (first|(with_reducible first|exact HB.out|apply below_alloc|apply pw_below_drewN|apply below_drew1|refine below_set ?_ GE514.out)|exact HB.out)) hb);clear BK514;clear HB;have HO526:=n0_;have BK514:=n1_;have HB:=n2_;clear n0_ n1_ n2_;(try clear hb);(try clear hb2);(try clear hk);(try clear hi);(try clear ho0);have hcz35_0 : w34.cell? ⟨gb514,0,none⟩ = some (.int .i64 x515000_1):=(blk_cell BK514.out 0).trans rfl;have hcz35_1 : w34.cell? ⟨gb514,1,none⟩ = some (.int .i64 x515001_1):=(blk_cell BK514.out 1).trans rfl;have hcz35_2 : w34.cell? ⟨gb514,2,none⟩ = some (.slice none 0 0):=(blk_cell BK514.out 2).trans rfl;have hcz35_3 : w34.cell? ⟨gb514,3,none⟩ = some (.string x515003_1):=(blk_cell BK514.out 3).trans rfl;have hfz35_0:=blk_frozen BK514.out 0;have hfz35_1:=blk_frozen BK514.out 1;have hfz35_2:=blk_frozen BK514.out 2;have hfz35_3:=blk_frozen BK514.out 3;obtain ⟨Ao36,co36,eo36⟩:=Kd.R_slice HO526.out;subst eo36))
            repeat (go_quiet (first|(go_at_call 54;(with_reducible refine (racewayref25_fail.calls a1 t522 t523 t524 t527 _ A33.out).mono ?_);rintro e w34 ⟨v525,rfl,ho0,hb⟩;have n0_:=Aside0.mk (Kd.R_lower ho0 (below_size (by repeat (first|(with_reducible first|exact HB.out|apply below_alloc|apply pw_below_drewN|apply below_drew1|refine below_set ?_ GE514.out)|exact HB.out))));have n1_:=Aside0.mk (blk_below (g:=gb514) (o:=.cells #[.int .i64 x515000_1,.int .i64 x515001_1,.slice none 0 0,.string x515003_1] 67 (0,0)) (by (with_reducible repeat (first|refine blk_drewN ?_ _|refine blk_drew ?_|refine blk_alloc ?_ _));exact BK514.out) hb);have n2_:=Aside0.mk (below_step (by repeat (first|(with_reducible first|exact HB.out|apply below_alloc|apply pw_below_drewN|apply below_drew1|refine below_set ?_ GE514.out)|exact HB.out)) hb);clear BK514;clear HB;have HO526:=n0_;have BK514:=n1_;have HB:=n2_;clear n0_ n1_ n2_;(try clear hb);(try clear hb2);(try clear hk);(try clear hi);(try clear ho0);have hcz35_0 : w34.cell? ⟨gb514,0,none⟩ = some (.int .i64 x515000_1):=(blk_cell BK514.out 0).trans rfl;have hcz35_1 : w34.cell? ⟨gb514,1,none⟩ = some (.int .i64 x515001_1):=(blk_cell BK514.out 1).trans rfl;have hcz35_2 : w34.cell? ⟨gb514,2,none⟩ = some (.slice none 0 0):=(blk_cell BK514.out 2).trans rfl;have hcz35_3 : w34.cell? ⟨gb514,3,none⟩ = some (.string x515003_1):=(blk_cell BK514.out 3).trans rfl;have hfz35_0:=blk_frozen BK514.out 0;have hfz35_1:=blk_frozen BK514.out 1;have hfz35_2:=blk_frozen BK514.out 2;have hfz35_3:=blk_frozen BK514.out 3;obtain ⟨Ao36,co36,eo36⟩:=Kd.R_slice HO526.out;subst eo36));try go_wp2_with (first|(go_at_call 54;(with_reducible refine (racewayref25_fail.calls a1 t522 t523 t524 t527 _ A33.out).mono ?_);rintro e w34 ⟨v525,rfl,ho0,hb⟩;have n0_:=Aside0.mk (Kd.R_lower ho0 (below_size (by repeat (first|(with_reducible first|exact HB.out|apply below_alloc|apply pw_below_drewN|apply below_drew1|refine below_set ?_ GE514.out)|exact HB.out))));have n1_:=Aside0.mk (blk_below (g:=gb514) (o:=.cells #[.int .i64 x515000_1,.int .i64 x515001_1,.slice none 0 0,.string x515003_1] 67 (0,0)) (by (with_reducible repeat (first|refine blk_drewN ?_ _|refine blk_drew ?_|refine blk_alloc ?_ _));exact BK514.out) hb);have n2_:=Aside0.mk (below_step (by repeat (first|(with_reducible first|exact HB.out|apply below_alloc|apply pw_below_drewN|apply below_drew1|refine below_set ?_ GE514.out)|exact HB.out)) hb);clear BK514;clear HB;have HO526:=n0_;have BK514:=n1_;have HB:=n2_;clear n0_ n1_ n2_;(try clear hb);(try clear hb2);(try clear hk);(try clear hi);(try clear ho0);have hcz35_0 : w34.cell? ⟨gb514,0,none⟩ = some (.int .i64 x515000_1):=(blk_cell BK514.out 0).trans rfl;have hcz35_1 : w34.cell? ⟨gb514,1,none⟩ = some (.int .i64 x515001_1):=(blk_cell BK514.out 1).trans rfl;have hcz35_2 : w34.cell? ⟨gb514,2,none⟩ = some (.slice none 0 0):=(blk_cell BK514.out 2).trans rfl;have hcz35_3 : w34.cell? ⟨gb514,3,none⟩ = some (.string x515003_1):=(blk_cell BK514.out 3).trans rfl;have hfz35_0:=blk_frozen BK514.out 0;have hfz35_1:=blk_frozen BK514.out 1;have hfz35_2:=blk_frozen BK514.out 2;have hfz35_3:=blk_frozen BK514.out 3;obtain ⟨Ao36,co36,eo36⟩:=Kd.R_slice HO526.out;subst eo36)))
            refine bodyPost_ret (results_cell_row rfl _ _ gb514 67 #[.int .i64 t522,.int .i64 t523,.slice Ao36 t524.length co36,.string t527] (0,0) _ rfl (by (with_reducible repeat (first|refine blk_drewN ?_ _|refine blk_drew ?_|refine blk_alloc ?_ _));refine blk_put (cs:=#[.int .i64 t522,.int .i64 t523,.slice Ao36 t524.length co36,.string x515003_1]) ?_ 3 _ rfl;(with_reducible repeat (first|refine blk_drewN ?_ _|refine blk_drew ?_|refine blk_alloc ?_ _));refine blk_put (cs:=#[.int .i64 t522,.int .i64 t523,.slice none 0 0,.string x515003_1]) ?_ 2 _ rfl;(with_reducible repeat (first|refine blk_drewN ?_ _|refine blk_drew ?_|refine blk_alloc ?_ _));refine blk_put (cs:=#[.int .i64 t522,.int .i64 x515001_1,.slice none 0 0,.string x515003_1]) ?_ 1 _ rfl;(with_reducible repeat (first|refine blk_drewN ?_ _|refine blk_drew ?_|refine blk_alloc ?_ _));refine blk_put (cs:=#[.int .i64 x515000_1,.int .i64 x515001_1,.slice none 0 0,.string x515003_1]) ?_ 0 _ rfl;(with_reducible repeat (first|refine blk_drewN ?_ _|refine blk_drew ?_|refine blk_alloc ?_ _));exact BK514.out) Tryd.underlying67 rfl (by kernel_rfl)) rfl ?_
            exact ⟨_,by first|rfl|(simp [errW_none,errW_some] <;> rfl)|(simp only [← hji22];first|rfl|(simp [errW_none,errW_some] <;> rfl))|(simp [*,errW_none,errW_some] <;> rfl),by (with_reducible repeat (first|apply Kd.R_alloc|apply Kd.R_drewN|apply Kd.R_drew));exact Kd.R_mono (Kd.R_far (p:=⟨gb514,3,none⟩) (Kd.R_far (p:=⟨gb514,2,none⟩) (Kd.R_far (p:=⟨gb514,1,none⟩) (Kd.R_far (p:=⟨gb514,0,none⟩) (Kd.R_types HO526.out BK514.out (by decide)) (fun _ hk => hk.2) (.int .i64 t522)) (fun _ hk => hk.2) (.int .i64 t523)) (fun _ hk => hk.2) (.slice Ao36 t524.length co36)) (fun _ hk => hk.2) (.string t527)) (fun _ hk => trivial),by repeat (first|(with_reducible first|exact HB.out|apply below_alloc|apply pw_below_drewN|apply below_drew1|refine below_set ?_ GE514.out)|exact HB.out)⟩
           ·replace c32:=Bool.eq_false_iff.mpr c32
            subst c32
            have H1 : (if x6_25 < 55296 then (racewayref25_escape.j3 kj28 a0 a1 x6_25 true) else (racewayref25_escape.j3 kj28 a0 a1 x6_25 (decide (x6_25 > 57343)))) = some (r1,r2,r3,r4):=by rw [if_neg (show ¬ (false = true) by decide)] at H;exact H
            clear H
            have H:=H1
            clear H1
            have HC37:=Aside0.mk H
            clear H
            go_upto_region 13 with (fail)
            repeat (go_quiet (fail);go_upto_region 13 with (fail))
            go_cut [59] (fun v59 wc => ∃ (kq : Nat) (x59_36 : Bool),v59 = .bool x59_36 ∧ Aside0 (racewayref25_escape.j3 kq a0 a1 x6_25 x59_36 = some (r1,r2,r3,r4)) ∧ Aside0 (kq ≤ kj28) ∧ Aside0 (wc.heap[gb514]? = some (.cells #[.int .i64 x515000_1,.int .i64 x515001_1,(.slice none 0 0),.string x515003_1] 67 (0,0))) ∧ Aside0 (Below w.heap.size w wc))
            case first =>
             have H:=HC37.out
             clear HC37
             by_cases c38 : x6_25 < 55296
             ·rw [if_pos c38] at H
              have c38b0 : decide (x6_25 < 55296) = true:=decide_eq_true c38
              clear c38
              (first|rw [c38b0]|(simp only [i64_w,i32_w];rw [c38b0])|skip)
              have H':=Aside0.mk H
              clear H
              go_wp2
              repeat (go_quiet (fail);try go_wp2)
              go_meet
              case rel => exact ⟨_,(true),(by first|rfl|(simp;done)|(simp;decide +kernel)|(simp [*];done)),(by first|exact H'|(subst_vars;exact H')),⟨by have:=HK1.out;have:=HJ25.out;have:=HJ28.out;first|omega|exact Nat.le_refl _⟩,⟨by (with_reducible repeat (first|refine blk_drewN ?_ _|refine blk_drew ?_|refine blk_alloc ?_ _));exact BK514.out⟩,⟨by repeat (first|(with_reducible first|exact HB.out|apply below_alloc|apply pw_below_drewN|apply below_drew1|refine below_set ?_ GE514.out)|exact HB.out)⟩⟩
             ·rw [if_neg c38] at H
              have c38b0 : decide (x6_25 < 55296) = false:=decide_eq_false c38
              clear c38
              (first|rw [c38b0]|(simp only [i64_w,i32_w];rw [c38b0])|skip)
              have H':=Aside0.mk H
              clear H
              go_wp2
              repeat (go_quiet (fail);try go_wp2)
              go_meet
              case rel => exact ⟨_,(decide (x6_25 > 57343)),(by first|rfl|(simp;done)|(simp;decide +kernel)|(simp [*];done)),(by first|exact H'|(subst_vars;exact H')),⟨by have:=HK1.out;have:=HJ25.out;have:=HJ28.out;first|omega|exact Nat.le_refl _⟩,⟨by (with_reducible repeat (first|refine blk_drewN ?_ _|refine blk_drew ?_|refine blk_alloc ?_ _));exact BK514.out⟩,⟨by repeat (first|(with_reducible first|exact HB.out|apply below_alloc|apply pw_below_drewN|apply below_drew1|refine below_set ?_ GE514.out)|exact HB.out)⟩⟩
            case rest =>
             clear HC37
             try clear c1
             try clear p1
             try clear q1
             try clear hx1
             try clear c2
             try clear p2
             try clear q2
             try clear hx2
             try clear c3
             try clear c3b0
             try clear p6
             try clear c7
             try clear c10
             try clear c10b0
             try clear c12
             try clear c12b0
             try clear c13
             try clear c13b0
             try clear p14
             try clear q14
             try clear hx14
             try clear c15
             try clear c15b0
             try clear p16
             try clear q16
             try clear hx16
             try clear c17
             try clear c17b0
             try clear c17b1
             try clear c18
             try clear c18b0
             try clear c19
             try clear c19b0
             try clear c19b1
             try clear c20
             try clear c20b0
             try clear c20b1
             try clear c23
             try clear c23b0
             try clear c24
             try clear c24b0
             try clear p25
             try clear q25
             try clear hx25
             try clear c27
             try clear c27b0
             try clear c27b1
             try clear c30
             try clear c30b0
             try clear c31
             try clear c31b0
             try clear c32
             try clear c38
             try clear c38b0
             try clear hcz21_0
             try clear hcz21_1
             try clear hcz21_2
             try clear hcz21_3
             try clear hcz35_0
             try clear hcz35_1
             try clear hcz35_2
             try clear hcz35_3
             try clear hcz7_0
             try clear hcz7_1
             try clear hcz7_2
             try clear hcz7_3
             try clear hfz21_0
             try clear hfz21_1
             try clear hfz21_2
             try clear hfz21_3
             try clear hfz35_0
             try clear hfz35_1
             try clear hfz35_2
             try clear hfz35_3
             try clear hfz7_0
             try clear hfz7_1
             try clear hfz7_2
             try clear hfz7_3
             try clear p1
             try clear p14
             try clear p16
             try clear p2
             try clear p25
             try clear p6
             try clear q1
             try clear q14
             try clear q16
             try clear q2
             try clear q25
             obtain ⟨kq,x59_36,rfl,HA,HJ36,BK514,HB⟩:=hcut
             cases kq with
             | zero => exact absurd HA.out (by simp [racewayref25_escape.j3])
             | succ kj36 =>
              have H:=HA.out
              clear HA
              simp only [racewayref25_escape.j3] at H
              by_cases c39 : x59_36 = true
              ·subst c39
               have H1 : ((racewayref25_encode.f x6_25).bind fun t528 => (some (wrap64 (a1 + 6),0,([] : List (S46)),t528))) = some (r1,r2,r3,r4):=by rw [if_pos rfl] at H;exact H
               clear H
               have H:=H1
               clear H1
               replace H:=Option.bind_eq_some_iff.mp H
               obtain ⟨t528,A400,H⟩:=H
               replace H : (some (wrap64 (a1 + 6),0,([] : List (S46)),t528)) = some (r1,r2,r3,r4):=H
               have A40:=Aside0.mk A400
               clear A400
               simp only [Option.some.injEq,Prod.mk.injEq] at H
               obtain ⟨rfl,rfl,rfl,rfl⟩:=H
               go_wp2_with (first|(go_at_call 81;(with_reducible refine (racewayref25_encode.calls x6_25 t528 _ A40.out).mono ?_);rintro e w41 ⟨rfl,hb⟩;have n0_:=Aside0.mk (blk_below (g:=gb514) (o:=.cells #[.int .i64 x515000_1,.int .i64 x515001_1,.slice none 0 0,.string x515003_1] 67 (0,0)) (by (with_reducible repeat (first|refine blk_drewN ?_ _|refine blk_drew ?_|refine blk_alloc ?_ _));exact BK514.out) hb);have n1_:=Aside0.mk (below_step (by repeat (first|(with_reducible first|exact HB.out|apply below_alloc|apply pw_below_drewN|apply below_drew1|refine below_set ?_ GE514.out)|exact HB.out)) hb);clear BK514;clear HB;have BK514:=n0_;have HB:=n1_;clear n0_ n1_;(try clear hb);(try clear hb2);(try clear hk);(try clear hi);have hcz42_0 : w41.cell? ⟨gb514,0,none⟩ = some (.int .i64 x515000_1):=(blk_cell BK514.out 0).trans rfl;have hcz42_1 : w41.cell? ⟨gb514,1,none⟩ = some (.int .i64 x515001_1):=(blk_cell BK514.out 1).trans rfl;have hcz42_2 : w41.cell? ⟨gb514,2,none⟩ = some (.slice none 0 0):=(blk_cell BK514.out 2).trans rfl;have hcz42_3 : w41.cell? ⟨gb514,3,none⟩ = some (.string x515003_1):=(blk_cell BK514.out 3).trans rfl;have hfz42_0:=blk_frozen BK514.out 0;have hfz42_1:=blk_frozen BK514.out 1;have hfz42_2:=blk_frozen BK514.out 2;have hfz42_3:=blk_frozen BK514.out 3))
               repeat (go_quiet (first|(go_at_call 81;(with_reducible refine (racewayref25_encode.calls x6_25 t528 _ A40.out).mono ?_);rintro e w41 ⟨rfl,hb⟩;have n0_:=Aside0.mk (blk_below (g:=gb514) (o:=.cells #[.int .i64 x515000_1,.int .i64 x515001_1,.slice none 0 0,.string x515003_1] 67 (0,0)) (by (with_reducible repeat (first|refine blk_drewN ?_ _|refine blk_drew ?_|refine blk_alloc ?_ _));exact BK514.out) hb);have n1_:=Aside0.mk (below_step (by repeat (first|(with_reducible first|exact HB.out|apply below_alloc|apply pw_below_drewN|apply below_drew1|refine below_set ?_ GE514.out)|exact HB.out)) hb);clear BK514;clear HB;have BK514:=n0_;have HB:=n1_;clear n0_ n1_;(try clear hb);(try clear hb2);(try clear hk);(try clear hi);have hcz42_0 : w41.cell? ⟨gb514,0,none⟩ = some (.int .i64 x515000_1):=(blk_cell BK514.out 0).trans rfl;have hcz42_1 : w41.cell? ⟨gb514,1,none⟩ = some (.int .i64 x515001_1):=(blk_cell BK514.out 1).trans rfl;have hcz42_2 : w41.cell? ⟨gb514,2,none⟩ = some (.slice none 0 0):=(blk_cell BK514.out 2).trans rfl;have hcz42_3 : w41.cell? ⟨gb514,3,none⟩ = some (.string x515003_1):=(blk_cell BK514.out 3).trans rfl;have hfz42_0:=blk_frozen BK514.out 0;have hfz42_1:=blk_frozen BK514.out 1;have hfz42_2:=blk_frozen BK514.out 2;have hfz42_3:=blk_frozen BK514.out 3));try go_wp2_with (first|(go_at_call 81;(with_reducible refine (racewayref25_encode.calls x6_25 t528 _ A40.out).mono ?_);rintro e w41 ⟨rfl,hb⟩;have n0_:=Aside0.mk (blk_below (g:=gb514) (o:=.cells #[.int .i64 x515000_1,.int .i64 x515001_1,.slice none 0 0,.string x515003_1] 67 (0,0)) (by (with_reducible repeat (first|refine blk_drewN ?_ _|refine blk_drew ?_|refine blk_alloc ?_ _));exact BK514.out) hb);have n1_:=Aside0.mk (below_step (by repeat (first|(with_reducible first|exact HB.out|apply below_alloc|apply pw_below_drewN|apply below_drew1|refine below_set ?_ GE514.out)|exact HB.out)) hb);clear BK514;clear HB;have BK514:=n0_;have HB:=n1_;clear n0_ n1_;(try clear hb);(try clear hb2);(try clear hk);(try clear hi);have hcz42_0 : w41.cell? ⟨gb514,0,none⟩ = some (.int .i64 x515000_1):=(blk_cell BK514.out 0).trans rfl;have hcz42_1 : w41.cell? ⟨gb514,1,none⟩ = some (.int .i64 x515001_1):=(blk_cell BK514.out 1).trans rfl;have hcz42_2 : w41.cell? ⟨gb514,2,none⟩ = some (.slice none 0 0):=(blk_cell BK514.out 2).trans rfl;have hcz42_3 : w41.cell? ⟨gb514,3,none⟩ = some (.string x515003_1):=(blk_cell BK514.out 3).trans rfl;have hfz42_0:=blk_frozen BK514.out 0;have hfz42_1:=blk_frozen BK514.out 1;have hfz42_2:=blk_frozen BK514.out 2;have hfz42_3:=blk_frozen BK514.out 3)))
               refine bodyPost_ret (results_cell_row rfl _ _ gb514 67 #[.int .i64 (wrap64 (a1 + 6)),.int .i64 0,.slice none 0 0,.string t528] (0,0) _ rfl (by (with_reducible repeat (first|refine blk_drewN ?_ _|refine blk_drew ?_|refine blk_alloc ?_ _));refine blk_put (cs:=#[.int .i64 (wrap64 (a1 + 6)),.int .i64 0,.slice none 0 0,.string x515003_1]) ?_ 3 _ rfl;(with_reducible repeat (first|refine blk_drewN ?_ _|refine blk_drew ?_|refine blk_alloc ?_ _));refine blk_put (cs:=#[.int .i64 (wrap64 (a1 + 6)),.int .i64 0,.slice none 0 0,.string x515003_1]) ?_ 2 _ rfl;(with_reducible repeat (first|refine blk_drewN ?_ _|refine blk_drew ?_|refine blk_alloc ?_ _));refine blk_put (cs:=#[.int .i64 (wrap64 (a1 + 6)),.int .i64 x515001_1,.slice none 0 0,.string x515003_1]) ?_ 1 _ rfl;(with_reducible repeat (first|refine blk_drewN ?_ _|refine blk_drew ?_|refine blk_alloc ?_ _));refine blk_put (cs:=#[.int .i64 x515000_1,.int .i64 x515001_1,.slice none 0 0,.string x515003_1]) ?_ 0 _ rfl;(with_reducible repeat (first|refine blk_drewN ?_ _|refine blk_drew ?_|refine blk_alloc ?_ _));exact BK514.out) Tryd.underlying67 rfl (by kernel_rfl)) rfl ?_
               exact ⟨_,by first|rfl|(simp [errW_none,errW_some] <;> rfl)|(simp only [← hji22];first|rfl|(simp [errW_none,errW_some] <;> rfl))|(simp [*,errW_none,errW_some] <;> rfl),by first|exact Kd.R_nil _ _ _ _ _|exact Kd.N_nil _ _ _ _ _|exact Kd.V_nil _ _ _ _ _|exact Kd.Q_nil _ _ _ _ _|exact Kd.S_nil _ _ _ _ _,by repeat (first|(with_reducible first|exact HB.out|apply below_alloc|apply pw_below_drewN|apply below_drew1|refine below_set ?_ GE514.out)|exact HB.out)⟩
              ·replace c39:=Bool.eq_false_iff.mpr c39
               subst c39
               have H1 : ((racewayref25_is.f a0 (wrap64 (a1 + 6)) 92).bind fun t529 => (if t529 = true then ((racewayref25_is.f a0 (wrap64 (a1 + 7)) 117).bind fun t530 => (racewayref25_escape.j4 kj36 a0 a1 x6_25 (-1) t530)) else (racewayref25_escape.j4 kj36 a0 a1 x6_25 (-1) false))) = some (r1,r2,r3,r4):=by rw [if_neg (show ¬ (false = true) by decide)] at H;exact H
               clear H
               have H:=H1
               clear H1
               have HC43:=Aside0.mk H
               clear H
               go_upto_region 16 with (fail)
               repeat (go_quiet (fail);go_upto_region 16 with (fail))
               go_cut [74] (fun v74 wc => ∃ (kq : Nat) (x74_42 : Bool),v74 = .bool x74_42 ∧ Aside0 (racewayref25_escape.j4 kq a0 a1 x6_25 (-1) x74_42 = some (r1,r2,r3,r4)) ∧ Aside0 (kq ≤ kj36) ∧ Aside0 (wc.heap[gb514]? = some (.cells #[.int .i64 x515000_1,.int .i64 x515001_1,(.slice none 0 0),.string x515003_1] 67 (0,0))) ∧ Aside0 (Below w.heap.size w wc))
               case first =>
                have H:=HC43.out
                clear HC43
                replace H:=Option.bind_eq_some_iff.mp H
                obtain ⟨t529,A440,H⟩:=H
                replace H : (if t529 = true then ((racewayref25_is.f a0 (wrap64 (a1 + 7)) 117).bind fun t530 => (racewayref25_escape.j4 kj36 a0 a1 x6_25 (-1) t530)) else (racewayref25_escape.j4 kj36 a0 a1 x6_25 (-1) false)) = some (r1,r2,r3,r4):=H
                have A44:=Aside0.mk A440
                clear A440
                by_cases c45 : t529 = true
                ·subst c45
                 have H1 : ((racewayref25_is.f a0 (wrap64 (a1 + 7)) 117).bind fun t530 => (racewayref25_escape.j4 kj36 a0 a1 x6_25 (-1) t530)) = some (r1,r2,r3,r4):=by rw [if_pos rfl] at H;exact H
                 clear H
                 have H:=H1
                 clear H1
                 replace H:=Option.bind_eq_some_iff.mp H
                 obtain ⟨t530,A460,H⟩:=H
                 replace H : (racewayref25_escape.j4 kj36 a0 a1 x6_25 (-1) t530) = some (r1,r2,r3,r4):=H
                 have A46:=Aside0.mk A460
                 clear A460
                 have H':=Aside0.mk H
                 clear H
                 go_wp2_with (first|(go_at_call 70;(with_reducible refine (racewayref25_is.calls a0 (wrap64 (a1 + 6)) 92 true _ A44.out).mono ?_);rintro e w' ⟨rfl,⟨nd,rfl⟩⟩;(try first|exact ⟨rfl,_,World.drewN_drewN _ _ _⟩|exact ⟨rfl,_,Eq.trans (World.drewN_drewN _ _ _) (congrArg (World.drewN _) (Nat.add_assoc _ _ _))⟩))|(go_at_call 70;(with_reducible refine (racewayref25_is.calls a0 (wrap64 (a1 + 7)) 117 t530 _ A46.out).mono ?_);rintro e w' ⟨rfl,⟨nd,rfl⟩⟩;(try first|exact ⟨rfl,_,World.drewN_drewN _ _ _⟩|exact ⟨rfl,_,Eq.trans (World.drewN_drewN _ _ _) (congrArg (World.drewN _) (Nat.add_assoc _ _ _))⟩)))
                 repeat (go_quiet (first|(go_at_call 70;(with_reducible refine (racewayref25_is.calls a0 (wrap64 (a1 + 6)) 92 true _ A44.out).mono ?_);rintro e w' ⟨rfl,⟨nd,rfl⟩⟩;(try first|exact ⟨rfl,_,World.drewN_drewN _ _ _⟩|exact ⟨rfl,_,Eq.trans (World.drewN_drewN _ _ _) (congrArg (World.drewN _) (Nat.add_assoc _ _ _))⟩))|(go_at_call 70;(with_reducible refine (racewayref25_is.calls a0 (wrap64 (a1 + 7)) 117 t530 _ A46.out).mono ?_);rintro e w' ⟨rfl,⟨nd,rfl⟩⟩;(try first|exact ⟨rfl,_,World.drewN_drewN _ _ _⟩|exact ⟨rfl,_,Eq.trans (World.drewN_drewN _ _ _) (congrArg (World.drewN _) (Nat.add_assoc _ _ _))⟩)));try go_wp2_with (first|(go_at_call 70;(with_reducible refine (racewayref25_is.calls a0 (wrap64 (a1 + 6)) 92 true _ A44.out).mono ?_);rintro e w' ⟨rfl,⟨nd,rfl⟩⟩;(try first|exact ⟨rfl,_,World.drewN_drewN _ _ _⟩|exact ⟨rfl,_,Eq.trans (World.drewN_drewN _ _ _) (congrArg (World.drewN _) (Nat.add_assoc _ _ _))⟩))|(go_at_call 70;(with_reducible refine (racewayref25_is.calls a0 (wrap64 (a1 + 7)) 117 t530 _ A46.out).mono ?_);rintro e w' ⟨rfl,⟨nd,rfl⟩⟩;(try first|exact ⟨rfl,_,World.drewN_drewN _ _ _⟩|exact ⟨rfl,_,Eq.trans (World.drewN_drewN _ _ _) (congrArg (World.drewN _) (Nat.add_assoc _ _ _))⟩))))
                 go_meet
                 case rel => exact ⟨_,(t530),(by first|rfl|(simp;done)|(simp;decide +kernel)|(simp [*];done)),(by first|exact H'|(subst_vars;exact H')),⟨by have:=HK1.out;have:=HJ25.out;have:=HJ28.out;have:=HJ36.out;first|omega|exact Nat.le_refl _⟩,⟨by (with_reducible repeat (first|refine blk_drewN ?_ _|refine blk_drew ?_|refine blk_alloc ?_ _));exact BK514.out⟩,⟨by repeat (first|(with_reducible first|exact HB.out|apply below_alloc|apply pw_below_drewN|apply below_drew1|refine below_set ?_ GE514.out)|exact HB.out)⟩⟩
                ·replace c45:=Bool.eq_false_iff.mpr c45
                 subst c45
                 have H1 : (racewayref25_escape.j4 kj36 a0 a1 x6_25 (-1) false) = some (r1,r2,r3,r4):=by rw [if_neg (show ¬ (false = true) by decide)] at H;exact H
                 clear H
                 have H:=H1
                 clear H1
                 have H':=Aside0.mk H
                 clear H
                 go_wp2_with (first|(go_at_call 70;(with_reducible refine (racewayref25_is.calls a0 (wrap64 (a1 + 6)) 92 false _ A44.out).mono ?_);rintro e w' ⟨rfl,⟨nd,rfl⟩⟩;(try first|exact ⟨rfl,_,World.drewN_drewN _ _ _⟩|exact ⟨rfl,_,Eq.trans (World.drewN_drewN _ _ _) (congrArg (World.drewN _) (Nat.add_assoc _ _ _))⟩)))
                 repeat (go_quiet (first|(go_at_call 70;(with_reducible refine (racewayref25_is.calls a0 (wrap64 (a1 + 6)) 92 false _ A44.out).mono ?_);rintro e w' ⟨rfl,⟨nd,rfl⟩⟩;(try first|exact ⟨rfl,_,World.drewN_drewN _ _ _⟩|exact ⟨rfl,_,Eq.trans (World.drewN_drewN _ _ _) (congrArg (World.drewN _) (Nat.add_assoc _ _ _))⟩)));try go_wp2_with (first|(go_at_call 70;(with_reducible refine (racewayref25_is.calls a0 (wrap64 (a1 + 6)) 92 false _ A44.out).mono ?_);rintro e w' ⟨rfl,⟨nd,rfl⟩⟩;(try first|exact ⟨rfl,_,World.drewN_drewN _ _ _⟩|exact ⟨rfl,_,Eq.trans (World.drewN_drewN _ _ _) (congrArg (World.drewN _) (Nat.add_assoc _ _ _))⟩))))
                 go_meet
                 case rel => exact ⟨_,(false),(by first|rfl|(simp;done)|(simp;decide +kernel)|(simp [*];done)),(by first|exact H'|(subst_vars;exact H')),⟨by have:=HK1.out;have:=HJ25.out;have:=HJ28.out;have:=HJ36.out;first|omega|exact Nat.le_refl _⟩,⟨by (with_reducible repeat (first|refine blk_drewN ?_ _|refine blk_drew ?_|refine blk_alloc ?_ _));exact BK514.out⟩,⟨by repeat (first|(with_reducible first|exact HB.out|apply below_alloc|apply pw_below_drewN|apply below_drew1|refine below_set ?_ GE514.out)|exact HB.out)⟩⟩
               case rest =>
                clear HC43
                try clear c1
                try clear p1
                try clear q1
                try clear hx1
                try clear c2
                try clear p2
                try clear q2
                try clear hx2
                try clear c3
                try clear c3b0
                try clear c4
                try clear p6
                try clear c7
                try clear c10
                try clear c10b0
                try clear c12
                try clear c12b0
                try clear c13
                try clear c13b0
                try clear p14
                try clear q14
                try clear hx14
                try clear c15
                try clear c15b0
                try clear p16
                try clear q16
                try clear hx16
                try clear c17
                try clear c17b0
                try clear c17b1
                try clear c18
                try clear c18b0
                try clear c19
                try clear c19b0
                try clear c19b1
                try clear c20
                try clear c20b0
                try clear c20b1
                try clear c23
                try clear c23b0
                try clear c24
                try clear c24b0
                try clear p25
                try clear q25
                try clear hx25
                try clear c27
                try clear c27b0
                try clear c27b1
                try clear c30
                try clear c30b0
                try clear c31
                try clear c31b0
                try clear c32
                try clear c38
                try clear c38b0
                try clear c39
                try clear c45
                try clear hcz21_0
                try clear hcz21_1
                try clear hcz21_2
                try clear hcz21_3
                try clear hcz35_0
                try clear hcz35_1
                try clear hcz35_2
                try clear hcz35_3
                try clear hcz42_0
                try clear hcz42_1
                try clear hcz42_2
                try clear hcz42_3
                try clear hcz7_0
                try clear hcz7_1
                try clear hcz7_2
                try clear hcz7_3
                try clear hfz21_0
                try clear hfz21_1
                try clear hfz21_2
                try clear hfz21_3
                try clear hfz35_0
                try clear hfz35_1
                try clear hfz35_2
                try clear hfz35_3
                try clear hfz42_0
                try clear hfz42_1
                try clear hfz42_2
                try clear hfz42_3
                try clear hfz7_0
                try clear hfz7_1
                try clear hfz7_2
                try clear hfz7_3
                try clear p1
                try clear p14
                try clear p16
                try clear p2
                try clear p25
                try clear p6
                try clear q1
                try clear q14
                try clear q16
                try clear q2
                try clear q25
                obtain ⟨kq,x74_42,rfl,HA,HJ42,BK514,HB⟩:=hcut
                cases kq with
                | zero => exact absurd HA.out (by simp [racewayref25_escape.j4])
                | succ kj42 =>
                 have H:=HA.out
                 clear HA
                 simp only [racewayref25_escape.j4] at H
                 have HC47:=Aside0.mk H
                 clear H
                 go_upto_if 74 with (fail)
                 repeat (go_quiet (fail);go_upto_if 74 with (fail))
                 go_cut [7] (fun v7 wc => ∃ (kq : Nat) (x7_46 : Int),v7 = .int .i64 x7_46 ∧ Aside0 (racewayref25_escape.j5 kq a1 x6_25 x7_46 = some (r1,r2,r3,r4)) ∧ Aside0 (kq ≤ kj42) ∧ Aside0 (wc.heap[gb514]? = some (.cells #[.int .i64 x515000_1,.int .i64 x515001_1,(.slice none 0 0),.string x515003_1] 67 (0,0))) ∧ Aside0 (Below w.heap.size w wc))
                 case first =>
                  have H:=HC47.out
                  clear HC47
                  by_cases c48 : x74_42 = true
                  ·subst c48
                   have H1 : ((racewayref25_four.f kj42 a0 (wrap64 (a1 + 8))).bind fun t531 => (racewayref25_escape.j5 kj42 a1 x6_25 t531)) = some (r1,r2,r3,r4):=by rw [if_pos rfl] at H;exact H
                   clear H
                   have H:=H1
                   clear H1
                   replace H:=Option.bind_eq_some_iff.mp H
                   obtain ⟨t531,A490,H⟩:=H
                   replace H : (racewayref25_escape.j5 kj42 a1 x6_25 t531) = some (r1,r2,r3,r4):=H
                   have A49:=Aside0.mk A490
                   clear A490
                   have H':=Aside0.mk H
                   clear H
                   go_wp2_with (first|(go_at_call 80;(with_reducible refine (racewayref25_four.calls kj42 a0 (wrap64 (a1 + 8)) t531 _ A49.out).mono ?_);rintro e w' ⟨rfl,⟨nd,rfl⟩⟩;(try first|exact ⟨rfl,_,World.drewN_drewN _ _ _⟩|exact ⟨rfl,_,Eq.trans (World.drewN_drewN _ _ _) (congrArg (World.drewN _) (Nat.add_assoc _ _ _))⟩)))
                   repeat (go_quiet (first|(go_at_call 80;(with_reducible refine (racewayref25_four.calls kj42 a0 (wrap64 (a1 + 8)) t531 _ A49.out).mono ?_);rintro e w' ⟨rfl,⟨nd,rfl⟩⟩;(try first|exact ⟨rfl,_,World.drewN_drewN _ _ _⟩|exact ⟨rfl,_,Eq.trans (World.drewN_drewN _ _ _) (congrArg (World.drewN _) (Nat.add_assoc _ _ _))⟩)));try go_wp2_with (first|(go_at_call 80;(with_reducible refine (racewayref25_four.calls kj42 a0 (wrap64 (a1 + 8)) t531 _ A49.out).mono ?_);rintro e w' ⟨rfl,⟨nd,rfl⟩⟩;(try first|exact ⟨rfl,_,World.drewN_drewN _ _ _⟩|exact ⟨rfl,_,Eq.trans (World.drewN_drewN _ _ _) (congrArg (World.drewN _) (Nat.add_assoc _ _ _))⟩))))
                   go_meet
                   case rel => exact ⟨_,(t531),(by first|rfl|(simp;done)|(simp;decide +kernel)|(simp [*];done)),(by first|exact H'|(subst_vars;exact H')),⟨by have:=HK1.out;have:=HJ25.out;have:=HJ28.out;have:=HJ36.out;have:=HJ42.out;first|omega|exact Nat.le_refl _⟩,⟨by (with_reducible repeat (first|refine blk_drewN ?_ _|refine blk_drew ?_|refine blk_alloc ?_ _));exact BK514.out⟩,⟨by repeat (first|(with_reducible first|exact HB.out|apply below_alloc|apply pw_below_drewN|apply below_drew1|refine below_set ?_ GE514.out)|exact HB.out)⟩⟩
                  ·replace c48:=Bool.eq_false_iff.mpr c48
                   subst c48
                   have H1 : (racewayref25_escape.j5 kj42 a1 x6_25 (-1)) = some (r1,r2,r3,r4):=by rw [if_neg (show ¬ (false = true) by decide)] at H;exact H
                   clear H
                   have H:=H1
                   clear H1
                   have H':=Aside0.mk H
                   clear H
                   go_wp2
                   repeat (go_quiet (fail);try go_wp2)
                   go_meet
                   case rel => exact ⟨_,((-1)),(by first|rfl|(simp;done)|(simp;decide +kernel)|(simp [*];done)),(by first|exact H'|(subst_vars;exact H')),⟨by have:=HK1.out;have:=HJ25.out;have:=HJ28.out;have:=HJ36.out;have:=HJ42.out;first|omega|exact Nat.le_refl _⟩,⟨by (with_reducible repeat (first|refine blk_drewN ?_ _|refine blk_drew ?_|refine blk_alloc ?_ _));exact BK514.out⟩,⟨by repeat (first|(with_reducible first|exact HB.out|apply below_alloc|apply pw_below_drewN|apply below_drew1|refine below_set ?_ GE514.out)|exact HB.out)⟩⟩
                 case rest =>
                  clear HC47
                  try clear c1
                  try clear p1
                  try clear q1
                  try clear hx1
                  try clear c2
                  try clear p2
                  try clear q2
                  try clear hx2
                  try clear c3
                  try clear c3b0
                  try clear c4
                  try clear p6
                  try clear c7
                  try clear c10
                  try clear c10b0
                  try clear c12
                  try clear c12b0
                  try clear c13
                  try clear c13b0
                  try clear p14
                  try clear q14
                  try clear hx14
                  try clear c15
                  try clear c15b0
                  try clear p16
                  try clear q16
                  try clear hx16
                  try clear c17
                  try clear c17b0
                  try clear c17b1
                  try clear c18
                  try clear c18b0
                  try clear c19
                  try clear c19b0
                  try clear c19b1
                  try clear c20
                  try clear c20b0
                  try clear c20b1
                  try clear c23
                  try clear c23b0
                  try clear c24
                  try clear c24b0
                  try clear p25
                  try clear q25
                  try clear hx25
                  try clear c27
                  try clear c27b0
                  try clear c27b1
                  try clear c30
                  try clear c30b0
                  try clear c31
                  try clear c31b0
                  try clear c32
                  try clear c38
                  try clear c38b0
                  try clear c39
                  try clear c45
                  try clear c48
                  try clear hcz21_0
                  try clear hcz21_1
                  try clear hcz21_2
                  try clear hcz21_3
                  try clear hcz35_0
                  try clear hcz35_1
                  try clear hcz35_2
                  try clear hcz35_3
                  try clear hcz42_0
                  try clear hcz42_1
                  try clear hcz42_2
                  try clear hcz42_3
                  try clear hcz7_0
                  try clear hcz7_1
                  try clear hcz7_2
                  try clear hcz7_3
                  try clear hfz21_0
                  try clear hfz21_1
                  try clear hfz21_2
                  try clear hfz21_3
                  try clear hfz35_0
                  try clear hfz35_1
                  try clear hfz35_2
                  try clear hfz35_3
                  try clear hfz42_0
                  try clear hfz42_1
                  try clear hfz42_2
                  try clear hfz42_3
                  try clear hfz7_0
                  try clear hfz7_1
                  try clear hfz7_2
                  try clear hfz7_3
                  try clear p1
                  try clear p14
                  try clear p16
                  try clear p2
                  try clear p25
                  try clear p6
                  try clear q1
                  try clear q14
                  try clear q16
                  try clear q2
                  try clear q25
                  obtain ⟨kq,x7_46,rfl,HA,HJ46,BK514,HB⟩:=hcut
                  cases kq with
                  | zero => exact absurd HA.out (by simp [racewayref25_escape.j5])
                  | succ kj46 =>
                   have H:=HA.out
                   clear HA
                   simp only [racewayref25_escape.j5] at H
                   have HC50:=Aside0.mk H
                   clear H
                   go_upto_region 18 with (fail)
                   repeat (go_quiet (fail);go_upto_region 18 with (fail))
                   go_cut [84] (fun v84 wc => ∃ (kq : Nat) (x84_49 : Bool),v84 = .bool x84_49 ∧ Aside0 (racewayref25_escape.j6 kq a1 x6_25 x7_46 x84_49 = some (r1,r2,r3,r4)) ∧ Aside0 (kq ≤ kj46) ∧ Aside0 (wc.heap[gb514]? = some (.cells #[.int .i64 x515000_1,.int .i64 x515001_1,(.slice none 0 0),.string x515003_1] 67 (0,0))) ∧ Aside0 (Below w.heap.size w wc))
                   case first =>
                    have H:=HC50.out
                    clear HC50
                    by_cases c51 : x7_46 < 56320
                    ·rw [if_pos c51] at H
                     have c51b0 : decide (x7_46 < 56320) = true:=decide_eq_true c51
                     clear c51
                     (first|rw [c51b0]|(simp only [i64_w,i32_w];rw [c51b0])|skip)
                     have H':=Aside0.mk H
                     clear H
                     go_wp2
                     repeat (go_quiet (fail);try go_wp2)
                     go_meet
                     case rel => exact ⟨_,(true),(by first|rfl|(simp;done)|(simp;decide +kernel)|(simp [*];done)),(by first|exact H'|(subst_vars;exact H')),⟨by have:=HK1.out;have:=HJ25.out;have:=HJ28.out;have:=HJ36.out;have:=HJ42.out;have:=HJ46.out;first|omega|exact Nat.le_refl _⟩,⟨by (with_reducible repeat (first|refine blk_drewN ?_ _|refine blk_drew ?_|refine blk_alloc ?_ _));exact BK514.out⟩,⟨by repeat (first|(with_reducible first|exact HB.out|apply below_alloc|apply pw_below_drewN|apply below_drew1|refine below_set ?_ GE514.out)|exact HB.out)⟩⟩
                    ·rw [if_neg c51] at H
                     have c51b0 : decide (x7_46 < 56320) = false:=decide_eq_false c51
                     clear c51
                     (first|rw [c51b0]|(simp only [i64_w,i32_w];rw [c51b0])|skip)
                     have H':=Aside0.mk H
                     clear H
                     go_wp2
                     repeat (go_quiet (fail);try go_wp2)
                     go_meet
                     case rel => exact ⟨_,(decide (x7_46 > 57343)),(by first|rfl|(simp;done)|(simp;decide +kernel)|(simp [*];done)),(by first|exact H'|(subst_vars;exact H')),⟨by have:=HK1.out;have:=HJ25.out;have:=HJ28.out;have:=HJ36.out;have:=HJ42.out;have:=HJ46.out;first|omega|exact Nat.le_refl _⟩,⟨by (with_reducible repeat (first|refine blk_drewN ?_ _|refine blk_drew ?_|refine blk_alloc ?_ _));exact BK514.out⟩,⟨by repeat (first|(with_reducible first|exact HB.out|apply below_alloc|apply pw_below_drewN|apply below_drew1|refine below_set ?_ GE514.out)|exact HB.out)⟩⟩
                   case rest =>
                    clear HC50
                    try clear c1
                    try clear p1
                    try clear q1
                    try clear hx1
                    try clear c2
                    try clear p2
                    try clear q2
                    try clear hx2
                    try clear c3
                    try clear c3b0
                    try clear c4
                    try clear c5
                    try clear p6
                    try clear c7
                    try clear c10
                    try clear c10b0
                    try clear c12
                    try clear c12b0
                    try clear c13
                    try clear c13b0
                    try clear p14
                    try clear q14
                    try clear hx14
                    try clear c15
                    try clear c15b0
                    try clear p16
                    try clear q16
                    try clear hx16
                    try clear c17
                    try clear c17b0
                    try clear c17b1
                    try clear c18
                    try clear c18b0
                    try clear c19
                    try clear c19b0
                    try clear c19b1
                    try clear c20
                    try clear c20b0
                    try clear c20b1
                    try clear c23
                    try clear c23b0
                    try clear c24
                    try clear c24b0
                    try clear p25
                    try clear q25
                    try clear hx25
                    try clear c27
                    try clear c27b0
                    try clear c27b1
                    try clear c30
                    try clear c30b0
                    try clear c31
                    try clear c31b0
                    try clear c32
                    try clear c38
                    try clear c38b0
                    try clear c39
                    try clear c45
                    try clear c48
                    try clear c51
                    try clear c51b0
                    try clear hcz21_0
                    try clear hcz21_1
                    try clear hcz21_2
                    try clear hcz21_3
                    try clear hcz35_0
                    try clear hcz35_1
                    try clear hcz35_2
                    try clear hcz35_3
                    try clear hcz42_0
                    try clear hcz42_1
                    try clear hcz42_2
                    try clear hcz42_3
                    try clear hcz7_0
                    try clear hcz7_1
                    try clear hcz7_2
                    try clear hcz7_3
                    try clear hfz21_0
                    try clear hfz21_1
                    try clear hfz21_2
                    try clear hfz21_3
                    try clear hfz35_0
                    try clear hfz35_1
                    try clear hfz35_2
                    try clear hfz35_3
                    try clear hfz42_0
                    try clear hfz42_1
                    try clear hfz42_2
                    try clear hfz42_3
                    try clear hfz7_0
                    try clear hfz7_1
                    try clear hfz7_2
                    try clear hfz7_3
                    try clear p1
                    try clear p14
                    try clear p16
                    try clear p2
                    try clear p25
                    try clear p6
                    try clear q1
                    try clear q14
                    try clear q16
                    try clear q2
                    try clear q25
                    obtain ⟨kq,x84_49,rfl,HA,HJ49,BK514,HB⟩:=hcut
                    cases kq with
                    | zero => exact absurd HA.out (by simp [racewayref25_escape.j6])
                    | succ kj49 =>
                     have H:=HA.out
                     clear HA
                     simp only [racewayref25_escape.j6] at H
                     by_cases c52 : x84_49 = true
                     ·subst c52
                      have H1 : ((racewayref25_fail.f a1).bind fun bt532 => (some (bt532.1,bt532.2.1,bt532.2.2.1,bt532.2.2.2))) = some (r1,r2,r3,r4):=by rw [if_pos rfl] at H;exact H
                      clear H
                      have H:=H1
                      clear H1
                      replace H:=Option.bind_eq_some_iff.mp H
                      obtain ⟨⟨t532,t533,t534,t537⟩,A530,H⟩:=H
                      replace H : (some (t532,t533,t534,t537)) = some (r1,r2,r3,r4):=H
                      have A53:=Aside0.mk A530
                      clear A530
                      simp only [Option.some.injEq,Prod.mk.injEq] at H
                      obtain ⟨rfl,rfl,rfl,rfl⟩:=H
                      go_wp2_with (first|(go_at_call 54;(with_reducible refine (racewayref25_fail.calls a1 t532 t533 t534 t537 _ A53.out).mono ?_);rintro e w54 ⟨v535,rfl,ho0,hb⟩;have n0_:=Aside0.mk (Kd.R_lower ho0 (below_size (by repeat (first|(with_reducible first|exact HB.out|apply below_alloc|apply pw_below_drewN|apply below_drew1|refine below_set ?_ GE514.out)|exact HB.out))));have n1_:=Aside0.mk (blk_below (g:=gb514) (o:=.cells #[.int .i64 x515000_1,.int .i64 x515001_1,.slice none 0 0,.string x515003_1] 67 (0,0)) (by (with_reducible repeat (first|refine blk_drewN ?_ _|refine blk_drew ?_|refine blk_alloc ?_ _));exact BK514.out) hb);have n2_:=Aside0.mk (below_step (by repeat (first|(with_reducible first|exact HB.out|apply below_alloc|apply pw_below_drewN|apply below_drew1|refine below_set ?_ GE514.out)|exact HB.out)) hb);clear BK514;clear HB;have HO536:=n0_;have BK514:=n1_;have HB:=n2_;clear n0_ n1_ n2_;(try clear hb);(try clear hb2);(try clear hk);(try clear hi);(try clear ho0);have hcz55_0 : w54.cell? ⟨gb514,0,none⟩ = some (.int .i64 x515000_1):=(blk_cell BK514.out 0).trans rfl;have hcz55_1 : w54.cell? ⟨gb514,1,none⟩ = some (.int .i64 x515001_1):=(blk_cell BK514.out 1).trans rfl;have hcz55_2 : w54.cell? ⟨gb514,2,none⟩ = some (.slice none 0 0):=(blk_cell BK514.out 2).trans rfl;have hcz55_3 : w54.cell? ⟨gb514,3,none⟩ = some (.string x515003_1):=(blk_cell BK514.out 3).trans rfl;have hfz55_0:=blk_frozen BK514.out 0;have hfz55_1:=blk_frozen BK514.out 1;have hfz55_2:=blk_frozen BK514.out 2;have hfz55_3:=blk_frozen BK514.out 3;obtain ⟨Ao56,co56,eo56⟩:=Kd.R_slice HO536.out;subst eo56))
                      repeat (go_quiet (first|(go_at_call 54;(with_reducible refine (racewayref25_fail.calls a1 t532 t533 t534 t537 _ A53.out).mono ?_);rintro e w54 ⟨v535,rfl,ho0,hb⟩;have n0_:=Aside0.mk (Kd.R_lower ho0 (below_size (by repeat (first|(with_reducible first|exact HB.out|apply below_alloc|apply pw_below_drewN|apply below_drew1|refine below_set ?_ GE514.out)|exact HB.out))));have n1_:=Aside0.mk (blk_below (g:=gb514) (o:=.cells #[.int .i64 x515000_1,.int .i64 x515001_1,.slice none 0 0,.string x515003_1] 67 (0,0)) (by (with_reducible repeat (first|refine blk_drewN ?_ _|refine blk_drew ?_|refine blk_alloc ?_ _));exact BK514.out) hb);have n2_:=Aside0.mk (below_step (by repeat (first|(with_reducible first|exact HB.out|apply below_alloc|apply pw_below_drewN|apply below_drew1|refine below_set ?_ GE514.out)|exact HB.out)) hb);clear BK514;clear HB;have HO536:=n0_;have BK514:=n1_;have HB:=n2_;clear n0_ n1_ n2_;(try clear hb);(try clear hb2);(try clear hk);(try clear hi);(try clear ho0);have hcz55_0 : w54.cell? ⟨gb514,0,none⟩ = some (.int .i64 x515000_1):=(blk_cell BK514.out 0).trans rfl;have hcz55_1 : w54.cell? ⟨gb514,1,none⟩ = some (.int .i64 x515001_1):=(blk_cell BK514.out 1).trans rfl;have hcz55_2 : w54.cell? ⟨gb514,2,none⟩ = some (.slice none 0 0):=(blk_cell BK514.out 2).trans rfl;have hcz55_3 : w54.cell? ⟨gb514,3,none⟩ = some (.string x515003_1):=(blk_cell BK514.out 3).trans rfl;have hfz55_0:=blk_frozen BK514.out 0;have hfz55_1:=blk_frozen BK514.out 1;have hfz55_2:=blk_frozen BK514.out 2;have hfz55_3:=blk_frozen BK514.out 3;obtain ⟨Ao56,co56,eo56⟩:=Kd.R_slice HO536.out;subst eo56));try go_wp2_with (first|(go_at_call 54;(with_reducible refine (racewayref25_fail.calls a1 t532 t533 t534 t537 _ A53.out).mono ?_);rintro e w54 ⟨v535,rfl,ho0,hb⟩;have n0_:=Aside0.mk (Kd.R_lower ho0 (below_size (by repeat (first|(with_reducible first|exact HB.out|apply below_alloc|apply pw_below_drewN|apply below_drew1|refine below_set ?_ GE514.out)|exact HB.out))));have n1_:=Aside0.mk (blk_below (g:=gb514) (o:=.cells #[.int .i64 x515000_1,.int .i64 x515001_1,.slice none 0 0,.string x515003_1] 67 (0,0)) (by (with_reducible repeat (first|refine blk_drewN ?_ _|refine blk_drew ?_|refine blk_alloc ?_ _));exact BK514.out) hb);have n2_:=Aside0.mk (below_step (by repeat (first|(with_reducible first|exact HB.out|apply below_alloc|apply pw_below_drewN|apply below_drew1|refine below_set ?_ GE514.out)|exact HB.out)) hb);clear BK514;clear HB;have HO536:=n0_;have BK514:=n1_;have HB:=n2_;clear n0_ n1_ n2_;(try clear hb);(try clear hb2);(try clear hk);(try clear hi);(try clear ho0);have hcz55_0 : w54.cell? ⟨gb514,0,none⟩ = some (.int .i64 x515000_1):=(blk_cell BK514.out 0).trans rfl;have hcz55_1 : w54.cell? ⟨gb514,1,none⟩ = some (.int .i64 x515001_1):=(blk_cell BK514.out 1).trans rfl;have hcz55_2 : w54.cell? ⟨gb514,2,none⟩ = some (.slice none 0 0):=(blk_cell BK514.out 2).trans rfl;have hcz55_3 : w54.cell? ⟨gb514,3,none⟩ = some (.string x515003_1):=(blk_cell BK514.out 3).trans rfl;have hfz55_0:=blk_frozen BK514.out 0;have hfz55_1:=blk_frozen BK514.out 1;have hfz55_2:=blk_frozen BK514.out 2;have hfz55_3:=blk_frozen BK514.out 3;obtain ⟨Ao56,co56,eo56⟩:=Kd.R_slice HO536.out;subst eo56)))
                      refine bodyPost_ret (results_cell_row rfl _ _ gb514 67 #[.int .i64 t532,.int .i64 t533,.slice Ao56 t534.length co56,.string t537] (0,0) _ rfl (by (with_reducible repeat (first|refine blk_drewN ?_ _|refine blk_drew ?_|refine blk_alloc ?_ _));refine blk_put (cs:=#[.int .i64 t532,.int .i64 t533,.slice Ao56 t534.length co56,.string x515003_1]) ?_ 3 _ rfl;(with_reducible repeat (first|refine blk_drewN ?_ _|refine blk_drew ?_|refine blk_alloc ?_ _));refine blk_put (cs:=#[.int .i64 t532,.int .i64 t533,.slice none 0 0,.string x515003_1]) ?_ 2 _ rfl;(with_reducible repeat (first|refine blk_drewN ?_ _|refine blk_drew ?_|refine blk_alloc ?_ _));refine blk_put (cs:=#[.int .i64 t532,.int .i64 x515001_1,.slice none 0 0,.string x515003_1]) ?_ 1 _ rfl;(with_reducible repeat (first|refine blk_drewN ?_ _|refine blk_drew ?_|refine blk_alloc ?_ _));refine blk_put (cs:=#[.int .i64 x515000_1,.int .i64 x515001_1,.slice none 0 0,.string x515003_1]) ?_ 0 _ rfl;(with_reducible repeat (first|refine blk_drewN ?_ _|refine blk_drew ?_|refine blk_alloc ?_ _));exact BK514.out) Tryd.underlying67 rfl (by kernel_rfl)) rfl ?_
                      exact ⟨_,by first|rfl|(simp [errW_none,errW_some] <;> rfl)|(simp only [← hji22];first|rfl|(simp [errW_none,errW_some] <;> rfl))|(simp [*,errW_none,errW_some] <;> rfl),by (with_reducible repeat (first|apply Kd.R_alloc|apply Kd.R_drewN|apply Kd.R_drew));exact Kd.R_mono (Kd.R_far (p:=⟨gb514,3,none⟩) (Kd.R_far (p:=⟨gb514,2,none⟩) (Kd.R_far (p:=⟨gb514,1,none⟩) (Kd.R_far (p:=⟨gb514,0,none⟩) (Kd.R_types HO536.out BK514.out (by decide)) (fun _ hk => hk.2) (.int .i64 t532)) (fun _ hk => hk.2) (.int .i64 t533)) (fun _ hk => hk.2) (.slice Ao56 t534.length co56)) (fun _ hk => hk.2) (.string t537)) (fun _ hk => trivial),by repeat (first|(with_reducible first|exact HB.out|apply below_alloc|apply pw_below_drewN|apply below_drew1|refine below_set ?_ GE514.out)|exact HB.out)⟩
                     ·replace c52:=Bool.eq_false_iff.mpr c52
                      subst c52
                      have H1 : ((racewayref25_encode.f (wrap64 ((wrap64 ((wrap64 (65536 + (wrap64 ((wrap64 (x6_25 - 55296)) * 1024)))) + x7_46)) - 56320))).bind fun t538 => (some (wrap64 (a1 + 12),0,([] : List (S46)),t538))) = some (r1,r2,r3,r4):=by rw [if_neg (show ¬ (false = true) by decide)] at H;exact H
                      clear H
                      have H:=H1
                      clear H1
                      replace H:=Option.bind_eq_some_iff.mp H
                      obtain ⟨t538,A570,H⟩:=H
                      replace H : (some (wrap64 (a1 + 12),0,([] : List (S46)),t538)) = some (r1,r2,r3,r4):=H
                      have A57:=Aside0.mk A570
                      clear A570
                      simp only [Option.some.injEq,Prod.mk.injEq] at H
                      obtain ⟨rfl,rfl,rfl,rfl⟩:=H
                      go_wp2_with (first|(go_at_call 81;(with_reducible refine (racewayref25_encode.calls (wrap64 ((wrap64 ((wrap64 (65536 + (wrap64 ((wrap64 (x6_25 - 55296)) * 1024)))) + x7_46)) - 56320)) t538 _ A57.out).mono ?_);rintro e w58 ⟨rfl,hb⟩;have n0_:=Aside0.mk (blk_below (g:=gb514) (o:=.cells #[.int .i64 x515000_1,.int .i64 x515001_1,.slice none 0 0,.string x515003_1] 67 (0,0)) (by (with_reducible repeat (first|refine blk_drewN ?_ _|refine blk_drew ?_|refine blk_alloc ?_ _));exact BK514.out) hb);have n1_:=Aside0.mk (below_step (by repeat (first|(with_reducible first|exact HB.out|apply below_alloc|apply pw_below_drewN|apply below_drew1|refine below_set ?_ GE514.out)|exact HB.out)) hb);clear BK514;clear HB;have BK514:=n0_;have HB:=n1_;clear n0_ n1_;(try clear hb);(try clear hb2);(try clear hk);(try clear hi);have hcz59_0 : w58.cell? ⟨gb514,0,none⟩ = some (.int .i64 x515000_1):=(blk_cell BK514.out 0).trans rfl;have hcz59_1 : w58.cell? ⟨gb514,1,none⟩ = some (.int .i64 x515001_1):=(blk_cell BK514.out 1).trans rfl;have hcz59_2 : w58.cell? ⟨gb514,2,none⟩ = some (.slice none 0 0):=(blk_cell BK514.out 2).trans rfl;have hcz59_3 : w58.cell? ⟨gb514,3,none⟩ = some (.string x515003_1):=(blk_cell BK514.out 3).trans rfl;have hfz59_0:=blk_frozen BK514.out 0;have hfz59_1:=blk_frozen BK514.out 1;have hfz59_2:=blk_frozen BK514.out 2;have hfz59_3:=blk_frozen BK514.out 3))
                      repeat (go_quiet (first|(go_at_call 81;(with_reducible refine (racewayref25_encode.calls (wrap64 ((wrap64 ((wrap64 (65536 + (wrap64 ((wrap64 (x6_25 - 55296)) * 1024)))) + x7_46)) - 56320)) t538 _ A57.out).mono ?_);rintro e w58 ⟨rfl,hb⟩;have n0_:=Aside0.mk (blk_below (g:=gb514) (o:=.cells #[.int .i64 x515000_1,.int .i64 x515001_1,.slice none 0 0,.string x515003_1] 67 (0,0)) (by (with_reducible repeat (first|refine blk_drewN ?_ _|refine blk_drew ?_|refine blk_alloc ?_ _));exact BK514.out) hb);have n1_:=Aside0.mk (below_step (by repeat (first|(with_reducible first|exact HB.out|apply below_alloc|apply pw_below_drewN|apply below_drew1|refine below_set ?_ GE514.out)|exact HB.out)) hb);clear BK514;clear HB;have BK514:=n0_;have HB:=n1_;clear n0_ n1_;(try clear hb);(try clear hb2);(try clear hk);(try clear hi);have hcz59_0 : w58.cell? ⟨gb514,0,none⟩ = some (.int .i64 x515000_1):=(blk_cell BK514.out 0).trans rfl;have hcz59_1 : w58.cell? ⟨gb514,1,none⟩ = some (.int .i64 x515001_1):=(blk_cell BK514.out 1).trans rfl;have hcz59_2 : w58.cell? ⟨gb514,2,none⟩ = some (.slice none 0 0):=(blk_cell BK514.out 2).trans rfl;have hcz59_3 : w58.cell? ⟨gb514,3,none⟩ = some (.string x515003_1):=(blk_cell BK514.out 3).trans rfl;have hfz59_0:=blk_frozen BK514.out 0;have hfz59_1:=blk_frozen BK514.out 1;have hfz59_2:=blk_frozen BK514.out 2;have hfz59_3:=blk_frozen BK514.out 3));try go_wp2_with (first|(go_at_call 81;(with_reducible refine (racewayref25_encode.calls (wrap64 ((wrap64 ((wrap64 (65536 + (wrap64 ((wrap64 (x6_25 - 55296)) * 1024)))) + x7_46)) - 56320)) t538 _ A57.out).mono ?_);rintro e w58 ⟨rfl,hb⟩;have n0_:=Aside0.mk (blk_below (g:=gb514) (o:=.cells #[.int .i64 x515000_1,.int .i64 x515001_1,.slice none 0 0,.string x515003_1] 67 (0,0)) (by (with_reducible repeat (first|refine blk_drewN ?_ _|refine blk_drew ?_|refine blk_alloc ?_ _));exact BK514.out) hb);have n1_:=Aside0.mk (below_step (by repeat (first|(with_reducible first|exact HB.out|apply below_alloc|apply pw_below_drewN|apply below_drew1|refine below_set ?_ GE514.out)|exact HB.out)) hb);clear BK514;clear HB;have BK514:=n0_;have HB:=n1_;clear n0_ n1_;(try clear hb);(try clear hb2);(try clear hk);(try clear hi);have hcz59_0 : w58.cell? ⟨gb514,0,none⟩ = some (.int .i64 x515000_1):=(blk_cell BK514.out 0).trans rfl;have hcz59_1 : w58.cell? ⟨gb514,1,none⟩ = some (.int .i64 x515001_1):=(blk_cell BK514.out 1).trans rfl;have hcz59_2 : w58.cell? ⟨gb514,2,none⟩ = some (.slice none 0 0):=(blk_cell BK514.out 2).trans rfl;have hcz59_3 : w58.cell? ⟨gb514,3,none⟩ = some (.string x515003_1):=(blk_cell BK514.out 3).trans rfl;have hfz59_0:=blk_frozen BK514.out 0;have hfz59_1:=blk_frozen BK514.out 1;have hfz59_2:=blk_frozen BK514.out 2;have hfz59_3:=blk_frozen BK514.out 3)))
                      refine bodyPost_ret (results_cell_row rfl _ _ gb514 67 #[.int .i64 (wrap64 (a1 + 12)),.int .i64 0,.slice none 0 0,.string t538] (0,0) _ rfl (by (with_reducible repeat (first|refine blk_drewN ?_ _|refine blk_drew ?_|refine blk_alloc ?_ _));refine blk_put (cs:=#[.int .i64 (wrap64 (a1 + 12)),.int .i64 0,.slice none 0 0,.string x515003_1]) ?_ 3 _ rfl;(with_reducible repeat (first|refine blk_drewN ?_ _|refine blk_drew ?_|refine blk_alloc ?_ _));refine blk_put (cs:=#[.int .i64 (wrap64 (a1 + 12)),.int .i64 0,.slice none 0 0,.string x515003_1]) ?_ 2 _ rfl;(with_reducible repeat (first|refine blk_drewN ?_ _|refine blk_drew ?_|refine blk_alloc ?_ _));refine blk_put (cs:=#[.int .i64 (wrap64 (a1 + 12)),.int .i64 x515001_1,.slice none 0 0,.string x515003_1]) ?_ 1 _ rfl;(with_reducible repeat (first|refine blk_drewN ?_ _|refine blk_drew ?_|refine blk_alloc ?_ _));refine blk_put (cs:=#[.int .i64 x515000_1,.int .i64 x515001_1,.slice none 0 0,.string x515003_1]) ?_ 0 _ rfl;(with_reducible repeat (first|refine blk_drewN ?_ _|refine blk_drew ?_|refine blk_alloc ?_ _));exact BK514.out) Tryd.underlying67 rfl (by kernel_rfl)) rfl ?_
                      exact ⟨_,by first|rfl|(simp [errW_none,errW_some] <;> rfl)|(simp only [← hji22];first|rfl|(simp [errW_none,errW_some] <;> rfl))|(simp [*,errW_none,errW_some] <;> rfl),by first|exact Kd.R_nil _ _ _ _ _|exact Kd.N_nil _ _ _ _ _|exact Kd.V_nil _ _ _ _ _|exact Kd.Q_nil _ _ _ _ _|exact Kd.S_nil _ _ _ _ _,by repeat (first|(with_reducible first|exact HB.out|apply below_alloc|apply pw_below_drewN|apply below_drew1|refine below_set ?_ GE514.out)|exact HB.out)⟩
      ·rw [if_neg c24] at H
       exact absurd H (by simp)
     ·rw [if_neg c23] at H
      exact absurd H (by simp)
end Go.Proofs.YtadfkeipcebmfaaDoor.X
namespace Go.Proofs.YtadfkeipcebmfaaDoor.X
open Go.RowKit Go.Proofs.YtadfkeipcebmfaaDoorW.PrintWords Go.Proofs.YtadfkeipcebmfaaDoorW.PrintLast Go.Proofs.YtadfkeipcebmfaaDoorW.PrintMore
attribute [local go_sem] max2_int min2_int max_two min_two max_three min_three max_four min_four
set_option linter.unusedVariables false
set_option linter.unusedSimpArgs false
mutual
def racewayref25_text.l0 : Nat → ByteArray → Int → ByteArray → Option (Int × Int × (List (S46)) × ByteArray)
 | 0,_,_,_ => none
 | k + 1,x0,x1,x5 => if x1 < (x0.size : Int) then (if 0 ≤ x1 then (racewayref25_text.j1 k x0 x1 x5 ((bt x0 x1) != 34)) else (none)) else (racewayref25_text.j1 k x0 x1 x5 false)
def racewayref25_text.j1 : Nat → ByteArray → Int → ByteArray → Bool → Option (Int × Int × (List (S46)) × ByteArray)
 | 0,_,_,_,_ => none
 | k + 1,x0,x1,x5,x25 => if x25 = true then (if 0 ≤ x1 then (if x1 < (x0.size : Int) then (if (bt x0 x1) < 32 then ((racewayref25_fail.f x1).bind fun bt553 => (some (bt553.1,bt553.2.1,bt553.2.2.1,bt553.2.2.2))) else (if (bt x0 x1) = 92 then ((racewayref25_escape.f k x0 x1).bind fun bt559 => (if bt559.2.1 = 0 then (if x5.size + bt559.2.2.2.size ≤ 9223372036854775807 then (racewayref25_text.l0 k x0 bt559.1 (x5 ++ bt559.2.2.2)) else (none)) else (some (bt559.1,bt559.2.1,bt559.2.2.1,bt559.2.2.2)))) else ((racewayref25_Sign.f k x0 x1).bind fun t566 => (if t566 = 0 then ((racewayref25_fail.f x1).bind fun bt567 => (some (bt567.1,bt567.2.1,bt567.2.2.1,bt567.2.2.2))) else (if x1 ≤ (wrap64 (x1 + t566)) then (if (wrap64 (x1 + t566)) ≤ (x0.size : Int) then (if x5.size + (x0.extract (x1 : Int).toNat ((wrap64 (x1 + t566)) : Int).toNat).size ≤ 9223372036854775807 then (racewayref25_text.l0 k x0 (wrap64 (x1 + t566)) (x5 ++ (x0.extract (x1 : Int).toNat ((wrap64 (x1 + t566)) : Int).toNat))) else (none)) else (none)) else (none)))))) else (none)) else (none)) else (if x1 ≥ (x0.size : Int) then ((racewayref25_fail.f (x0.size : Int)).bind fun bt547 => (some (bt547.1,bt547.2.1,bt547.2.2.1,bt547.2.2.2))) else (some (wrap64 (x1 + 1),0,([] : List (S46)),x5)))
end
def racewayref25_text.f (k : Nat) (a0 : ByteArray) (a1 : Int) : Option (Int × Int × (List (S46)) × ByteArray):=(racewayref25_is.f a0 a1 34).bind fun t540 => (if t540 = true then (racewayref25_text.l0 k a0 (wrap64 (a1 + 1)) (⟨#[]⟩ : ByteArray)) else ((racewayref25_fail.f a1).bind fun bt541 => (some (bt541.1,bt541.2.1,bt541.2.2.1,bt541.2.2.2))))
set_option maxHeartbeats 8000000 in
set_option maxRecDepth 100000 in
theorem racewayref25_text.calls (k : Nat) (a0 : ByteArray) (a1 : Int) (r1 : Int) (r2 : Int) (r3 : List (S46)) (r4 : ByteArray) (w : World) (h : racewayref25_text.f k a0 a1 = some (r1,r2,r3,r4)) :
  Calls Tryd.prog 58 #[.string a0,.int .i64 a1] w fun e w' => ∃ v2_ : Value,e = .returned (.agg #[.int .i64 r1,.int .i64 r2,v2_,.string r4]) ∧ Kd.R k46 46 w' w.heap.size (fun _ => True) v2_ r3 ∧ Below w.heap.size w w':=by
 have hu67:=Tryd.underlying67
 have HB:=Aside0.mk (Below.refl w.heap.size w)
 have H : ((racewayref25_is.f a0 a1 34).bind fun t540 => (if t540 = true then (racewayref25_text.l0 k a0 (wrap64 (a1 + 1)) (⟨#[]⟩ : ByteArray)) else ((racewayref25_fail.f a1).bind fun bt541 => (some (bt541.1,bt541.2.1,bt541.2.2.1,bt541.2.2.2))))) = some (r1,r2,r3,r4):=h
 clear h
 replace H:=Option.bind_eq_some_iff.mp H
 obtain ⟨t540,A30,H⟩:=H
 replace H : (if t540 = true then (racewayref25_text.l0 k a0 (wrap64 (a1 + 1)) (⟨#[]⟩ : ByteArray)) else ((racewayref25_fail.f a1).bind fun bt541 => (some (bt541.1,bt541.2.1,bt541.2.2.1,bt541.2.2.2)))) = some (r1,r2,r3,r4):=H
 have A3:=Aside0.mk A30
 clear A30
 by_cases c4 : t540 = true
 ·subst c4
  have H1 : (racewayref25_text.l0 k a0 (wrap64 (a1 + 1)) (⟨#[]⟩ : ByteArray)) = some (r1,r2,r3,r4):=by rw [if_pos rfl] at H;exact H
  clear H
  have H:=H1
  clear H1
  have H':=Aside0.mk H
  clear H
  go_enter Tryd.func58,Tryd.ntmps58
  go_wp2_with (first|((with_reducible refine gate_dst (N:=4) rfl ?_);refine box_event ?hg (N:=4) ?hd (cs:=#[.int .i64 0,.int .i64 0,.slice none 0 0,.string (⟨#[]⟩ : ByteArray)]) (t:=67) ?hr ?_;(case hd => rfl);(case hg => rfl);(case hr => first|(go_simp;done)|(go_simp;rfl));intro gb539 hg w5 hbox hb;have n0_:=Aside0.mk (below_step (by repeat (first|(with_reducible first|exact HB.out|apply below_alloc|apply pw_below_drewN|apply below_drew1)|exact HB.out)) hb);have n1_:=Aside0.mk (hbox);have n2_:=Aside0.mk ((by rw [hg];exact (below_size (by repeat (first|(with_reducible first|exact HB.out|apply below_alloc|apply pw_below_drewN|apply below_drew1)|exact HB.out))) : w.heap.size ≤ gb539));have n3_:=Aside0.mk ((by rw [hg];exact (below_size (by repeat (first|(with_reducible first|exact HB.out|apply below_alloc|apply pw_below_drewN|apply below_drew1)|exact HB.out))) : w.heap.size ≤ gb539));clear HB;have HB:=n0_;have BK539:=n1_;have GW539:=n2_;have GE539:=n3_;clear n0_ n1_ n2_ n3_;clear hb hbox hg)|((with_reducible refine gate_callee (f:=70) rfl ?_);refine goesL_ (some 10) rfl rfl Tryd.func70 (by kernel_rfl) rfl #[.string a0,.int .i64 a1,.int .u8 34] rfl (by (try simp only [List.map_toArray,List.map_cons,List.map_nil]);first|done|rfl|(simp only [List.length_drop,List.length_take];rfl)) ?_;(with_reducible refine (racewayref25_is.calls a0 a1 34 true _ A3.out).mono ?_);rintro e w' ⟨rfl,⟨nd,rfl⟩⟩;refine ⟨_,rfl,?_⟩))
  go_loopg [1,5] k (fun kq v1 v5 w' => ∃ (x1_1 : Int) (x5_1 : ByteArray) (x540000_1 : Int) (x540001_1 : Int) (x540003_1 : ByteArray),v1 = .int .i64 x1_1 ∧ v5 = .string x5_1 ∧ Aside0 (racewayref25_text.l0 kq a0 x1_1 x5_1 = some (r1,r2,r3,r4)) ∧ Aside0 (kq ≤ k) ∧ Aside0 (w'.heap[gb539]? = some (.cells #[.int .i64 x540000_1,.int .i64 x540001_1,(.slice none 0 0),.string x540003_1] 67 (0,0))) ∧ Aside0 (Below w.heap.size w w'))
  case atStart => exact ⟨(wrap64 (a1 + 1)),((⟨#[]⟩ : ByteArray)),(0),(0),((⟨#[]⟩ : ByteArray)),(by first|rfl|(simp;done)|(simp;decide +kernel)|(simp [*];done)),(by first|rfl|(simp;done)|(simp;decide +kernel)|(simp [*];done)),(by first|exact H'|(subst_vars;exact H')),⟨Nat.le_refl _⟩,⟨by (with_reducible repeat (first|refine blk_drewN ?_ _|refine blk_drew ?_|refine blk_alloc ?_ _));exact BK539.out⟩,⟨by repeat (first|(with_reducible first|exact HB.out|apply below_alloc|apply pw_below_drewN|apply below_drew1|refine below_set ?_ GE539.out)|exact HB.out)⟩⟩
  case round =>
   clear H'
   try clear p2
   try clear c4
   try clear c5
   obtain ⟨x1_1,x5_1,x540000_1,x540001_1,x540003_1,rfl,rfl,HA,HK1,BK539,HB⟩:=hrel
   cases gk with
   | zero => exact absurd HA.out (by simp [racewayref25_text.l0])
   | succ k1 =>
    have H:=HA.out
    clear HA
    simp only [racewayref25_text.l0] at H
    have HC6:=Aside0.mk H
    clear H
    go_upto_region 5 with (fail)
    go_cut [25] (fun v25 wc => ∃ (kq : Nat) (x25_5 : Bool),v25 = .bool x25_5 ∧ Aside0 (racewayref25_text.j1 kq a0 x1_1 x5_1 x25_5 = some (r1,r2,r3,r4)) ∧ Aside0 (kq ≤ k1) ∧ Aside0 (wc.heap[gb539]? = some (.cells #[.int .i64 x540000_1,.int .i64 x540001_1,(.slice none 0 0),.string x540003_1] 67 (0,0))) ∧ Aside0 (Below w.heap.size w wc))
    case first =>
     have H:=HC6.out
     clear HC6
     by_cases c7 : x1_1 < (a0.size : Int)
     ·rw [if_pos c7] at H
      have c7b0 : decide (x1_1 < (a0.size : Int)) = true:=decide_eq_true c7
      clear c7
      (first|rw [c7b0]|(simp only [i64_w,i32_w];rw [c7b0])|skip)
      by_cases c8 : 0 ≤ x1_1
      ·rw [if_pos c8] at H
       have c8b0 : decide (0 ≤ x1_1) = true:=decide_eq_true c8
       clear c8
       have H':=Aside0.mk H
       clear H
       have p9 : 0 ≤ (x1_1 : Int):=of_decide_eq_true (by first|(with_reducible assumption)|assumption)
       have q9 : x1_1 < (a0.size : Int):=of_decide_eq_true (by first|(with_reducible assumption)|assumption)
       have hx9:=bt_at a0 x1_1
       replace p9:=eq_true p9
       replace q9:=eq_true q9
       go_wp2
       go_meet
       case rel => exact ⟨_,(((bt a0 x1_1) != 34)),(by first|rfl|(simp;done)|(simp;decide +kernel)|(simp [*];done)),(by first|exact H'|(subst_vars;exact H')),⟨by have:=HK1.out;first|omega|exact Nat.le_refl _⟩,⟨by (with_reducible repeat (first|refine blk_drewN ?_ _|refine blk_drew ?_|refine blk_alloc ?_ _));exact BK539.out⟩,⟨by repeat (first|(with_reducible first|exact HB.out|apply below_alloc|apply pw_below_drewN|apply below_drew1|refine below_set ?_ GE539.out)|exact HB.out)⟩⟩
      ·rw [if_neg c8] at H
       exact absurd H (by simp)
     ·rw [if_neg c7] at H
      have c7b0 : decide (x1_1 < (a0.size : Int)) = false:=decide_eq_false c7
      clear c7
      (first|rw [c7b0]|(simp only [i64_w,i32_w];rw [c7b0])|skip)
      have H':=Aside0.mk H
      clear H
      go_wp2
      go_meet
      case rel => exact ⟨_,(false),(by first|rfl|(simp;done)|(simp;decide +kernel)|(simp [*];done)),(by first|exact H'|(subst_vars;exact H')),⟨by have:=HK1.out;first|omega|exact Nat.le_refl _⟩,⟨by (with_reducible repeat (first|refine blk_drewN ?_ _|refine blk_drew ?_|refine blk_alloc ?_ _));exact BK539.out⟩,⟨by repeat (first|(with_reducible first|exact HB.out|apply below_alloc|apply pw_below_drewN|apply below_drew1|refine below_set ?_ GE539.out)|exact HB.out)⟩⟩
    case rest =>
     clear HC6
     try clear p2
     try clear c4
     try clear c5
     try clear p6
     try clear c7
     try clear c7b0
     try clear c8
     try clear c8b0
     try clear p9
     try clear q9
     try clear hx9
     try clear p2
     try clear p9
     try clear q9
     obtain ⟨kq,x25_5,rfl,HA,HJ5,BK539,HB⟩:=hcut
     cases kq with
     | zero => exact absurd HA.out (by simp [racewayref25_text.j1])
     | succ kj5 =>
      have H:=HA.out
      clear HA
      simp only [racewayref25_text.j1] at H
      by_cases c10 : x25_5 = true
      ·subst c10
       have H1 : (if 0 ≤ x1_1 then (if x1_1 < (a0.size : Int) then (if (bt a0 x1_1) < 32 then ((racewayref25_fail.f x1_1).bind fun bt553 => (some (bt553.1,bt553.2.1,bt553.2.2.1,bt553.2.2.2))) else (if (bt a0 x1_1) = 92 then ((racewayref25_escape.f kj5 a0 x1_1).bind fun bt559 => (if bt559.2.1 = 0 then (if x5_1.size + bt559.2.2.2.size ≤ 9223372036854775807 then (racewayref25_text.l0 kj5 a0 bt559.1 (x5_1 ++ bt559.2.2.2)) else (none)) else (some (bt559.1,bt559.2.1,bt559.2.2.1,bt559.2.2.2)))) else ((racewayref25_Sign.f kj5 a0 x1_1).bind fun t566 => (if t566 = 0 then ((racewayref25_fail.f x1_1).bind fun bt567 => (some (bt567.1,bt567.2.1,bt567.2.2.1,bt567.2.2.2))) else (if x1_1 ≤ (wrap64 (x1_1 + t566)) then (if (wrap64 (x1_1 + t566)) ≤ (a0.size : Int) then (if x5_1.size + (a0.extract (x1_1 : Int).toNat ((wrap64 (x1_1 + t566)) : Int).toNat).size ≤ 9223372036854775807 then (racewayref25_text.l0 kj5 a0 (wrap64 (x1_1 + t566)) (x5_1 ++ (a0.extract (x1_1 : Int).toNat ((wrap64 (x1_1 + t566)) : Int).toNat))) else (none)) else (none)) else (none)))))) else (none)) else (none)) = some (r1,r2,r3,r4):=by rw [if_pos rfl] at H;exact H
       clear H
       have H:=H1
       clear H1
       by_cases c11 : 0 ≤ x1_1
       ·rw [if_pos c11] at H
        have c11b0 : decide (0 ≤ x1_1) = true:=decide_eq_true c11
        clear c11
        by_cases c12 : x1_1 < (a0.size : Int)
        ·rw [if_pos c12] at H
         have c12b0 : decide (x1_1 < (a0.size : Int)) = true:=decide_eq_true c12
         clear c12
         by_cases c14 : (bt a0 x1_1) < 32
         ·rw [if_pos c14] at H
          have c14b0 : decide ((bt a0 x1_1) < 32) = true:=decide_eq_true c14
          clear c14
          replace H:=Option.bind_eq_some_iff.mp H
          obtain ⟨⟨t553,t554,t555,t558⟩,A150,H⟩:=H
          replace H : (some (t553,t554,t555,t558)) = some (r1,r2,r3,r4):=H
          have A15:=Aside0.mk A150
          clear A150
          simp only [Option.some.injEq,Prod.mk.injEq] at H
          obtain ⟨rfl,rfl,rfl,rfl⟩:=H
          have p13 : 0 ≤ (x1_1 : Int):=of_decide_eq_true (by first|(with_reducible assumption)|assumption)
          have q13 : x1_1 < (a0.size : Int):=of_decide_eq_true (by first|(with_reducible assumption)|assumption)
          have hx13:=bt_at a0 x1_1
          replace p13:=eq_true p13
          replace q13:=eq_true q13
          go_wp2_with (first|((with_reducible refine gate_callee (f:=54) rfl ?_);refine goesL_ (some 31) rfl rfl Tryd.func54 (by kernel_rfl) rfl #[.int .i64 x1_1] rfl (by (try simp only [List.map_toArray,List.map_cons,List.map_nil]);first|done|rfl|(simp only [List.length_drop,List.length_take];rfl)) ?_;(with_reducible refine (racewayref25_fail.calls x1_1 t553 t554 t555 t558 _ A15.out).mono ?_);rintro e w16 ⟨v556,rfl,ho0,hb⟩;refine ⟨_,rfl,?_⟩;have n0_:=Aside0.mk (Kd.R_lower ho0 (below_size (by repeat (first|(with_reducible first|exact HB.out|apply below_alloc|apply pw_below_drewN|apply below_drew1|refine below_set ?_ GE539.out)|exact HB.out))));have n1_:=Aside0.mk (blk_below (g:=gb539) (o:=.cells #[.int .i64 x540000_1,.int .i64 x540001_1,.slice none 0 0,.string x540003_1] 67 (0,0)) (by (with_reducible repeat (first|refine blk_drewN ?_ _|refine blk_drew ?_|refine blk_alloc ?_ _));exact BK539.out) hb);have n2_:=Aside0.mk (below_step (by repeat (first|(with_reducible first|exact HB.out|apply below_alloc|apply pw_below_drewN|apply below_drew1|refine below_set ?_ GE539.out)|exact HB.out)) hb);clear BK539;clear HB;have HO557:=n0_;have BK539:=n1_;have HB:=n2_;clear n0_ n1_ n2_;(try clear hb);(try clear hb2);(try clear hk);(try clear hi);(try clear ho0);have hcz17_0 : w16.cell? ⟨gb539,0,none⟩ = some (.int .i64 x540000_1):=(blk_cell BK539.out 0).trans rfl;have hcz17_1 : w16.cell? ⟨gb539,1,none⟩ = some (.int .i64 x540001_1):=(blk_cell BK539.out 1).trans rfl;have hcz17_2 : w16.cell? ⟨gb539,2,none⟩ = some (.slice none 0 0):=(blk_cell BK539.out 2).trans rfl;have hcz17_3 : w16.cell? ⟨gb539,3,none⟩ = some (.string x540003_1):=(blk_cell BK539.out 3).trans rfl;have hfz17_0:=blk_frozen BK539.out 0;have hfz17_1:=blk_frozen BK539.out 1;have hfz17_2:=blk_frozen BK539.out 2;have hfz17_3:=blk_frozen BK539.out 3;obtain ⟨Ao18,co18,eo18⟩:=Kd.R_slice HO557.out;subst eo18))
          refine bodyPost_ret (results_cell_row rfl _ _ gb539 67 #[.int .i64 t553,.int .i64 t554,.slice Ao18 t555.length co18,.string t558] (0,0) _ rfl (by (with_reducible repeat (first|refine blk_drewN ?_ _|refine blk_drew ?_|refine blk_alloc ?_ _));refine blk_put (cs:=#[.int .i64 t553,.int .i64 t554,.slice Ao18 t555.length co18,.string x540003_1]) ?_ 3 _ rfl;(with_reducible repeat (first|refine blk_drewN ?_ _|refine blk_drew ?_|refine blk_alloc ?_ _));refine blk_put (cs:=#[.int .i64 t553,.int .i64 t554,.slice none 0 0,.string x540003_1]) ?_ 2 _ rfl;(with_reducible repeat (first|refine blk_drewN ?_ _|refine blk_drew ?_|refine blk_alloc ?_ _));refine blk_put (cs:=#[.int .i64 t553,.int .i64 x540001_1,.slice none 0 0,.string x540003_1]) ?_ 1 _ rfl;(with_reducible repeat (first|refine blk_drewN ?_ _|refine blk_drew ?_|refine blk_alloc ?_ _));refine blk_put (cs:=#[.int .i64 x540000_1,.int .i64 x540001_1,.slice none 0 0,.string x540003_1]) ?_ 0 _ rfl;(with_reducible repeat (first|refine blk_drewN ?_ _|refine blk_drew ?_|refine blk_alloc ?_ _));exact BK539.out) Tryd.underlying67 rfl (by kernel_rfl)) rfl ?_
          exact ⟨_,by first|rfl|(simp [errW_none,errW_some] <;> rfl)|(simp [*,errW_none,errW_some] <;> rfl),by (with_reducible repeat (first|apply Kd.R_alloc|apply Kd.R_drewN|apply Kd.R_drew));exact Kd.R_mono (Kd.R_far (p:=⟨gb539,3,none⟩) (Kd.R_far (p:=⟨gb539,2,none⟩) (Kd.R_far (p:=⟨gb539,1,none⟩) (Kd.R_far (p:=⟨gb539,0,none⟩) (Kd.R_types HO557.out BK539.out (by decide)) (fun _ hk => hk.2) (.int .i64 t553)) (fun _ hk => hk.2) (.int .i64 t554)) (fun _ hk => hk.2) (.slice Ao18 t555.length co18)) (fun _ hk => hk.2) (.string t558)) (fun _ hk => trivial),by repeat (first|(with_reducible first|exact HB.out|apply below_alloc|apply pw_below_drewN|apply below_drew1|refine below_set ?_ GE539.out)|exact HB.out)⟩
         ·rw [if_neg c14] at H
          have c14b0 : decide ((bt a0 x1_1) < 32) = false:=decide_eq_false c14
          clear c14
          by_cases c20 : (bt a0 x1_1) = 92
          ·rw [if_pos c20] at H
           have c20b0 : ((bt a0 x1_1) == 92) = true:=beq_iff_eq.mpr c20
           have c20b1 : ((bt a0 x1_1) != 92) = false:=bne_eq_false_iff_eq.mpr c20
           clear c20
           replace H:=Option.bind_eq_some_iff.mp H
           obtain ⟨⟨t559,t560,t561,t564⟩,A210,H⟩:=H
           replace H : (if t560 = 0 then (if x5_1.size + t564.size ≤ 9223372036854775807 then (racewayref25_text.l0 kj5 a0 t559 (x5_1 ++ t564)) else (none)) else (some (t559,t560,t561,t564))) = some (r1,r2,r3,r4):=H
           have A21:=Aside0.mk A210
           clear A210
           by_cases c22 : t560 = 0
           ·rw [if_pos c22] at H
            have c22b0 : (t560 == 0) = true:=beq_iff_eq.mpr c22
            have c22b1 : (t560 != 0) = false:=bne_eq_false_iff_eq.mpr c22
            clear c22
            by_cases c23 : x5_1.size + t564.size ≤ 9223372036854775807
            ·rw [if_pos c23] at H
             have c23b0:=eq_true c23
             have c23b1 : decide (x5_1.size + t564.size ≤ 9223372036854775807) = true:=decide_eq_true c23
             try have c23b2 : (9223372036854775807 < x5_1.size + t564.size) = False:=eq_false (Nat.not_lt.2 c23)
             have H':=Aside0.mk H
             clear H
             have p13 : 0 ≤ (x1_1 : Int):=of_decide_eq_true (by first|(with_reducible assumption)|assumption)
             have q13 : x1_1 < (a0.size : Int):=of_decide_eq_true (by first|(with_reducible assumption)|assumption)
             have hx13:=bt_at a0 x1_1
             replace p13:=eq_true p13
             replace q13:=eq_true q13
             have p19 : 0 ≤ (x1_1 : Int):=of_decide_eq_true (by first|(with_reducible assumption)|assumption)
             have q19 : x1_1 < (a0.size : Int):=of_decide_eq_true (by first|(with_reducible assumption)|assumption)
             have hx19:=bt_at a0 x1_1
             replace p19:=eq_true p19
             replace q19:=eq_true q19
             go_wp2_with (first|((with_reducible refine gate_callee (f:=71) rfl ?_);refine goesL_ (some 38) rfl rfl Tryd.func71 (by kernel_rfl) rfl #[.string a0,.int .i64 x1_1] rfl (by (try simp only [List.map_toArray,List.map_cons,List.map_nil]);first|done|rfl|(simp only [List.length_drop,List.length_take];rfl)) ?_;(with_reducible refine (racewayref25_escape.calls kj5 a0 x1_1 t559 t560 t561 t564 _ A21.out).mono ?_);rintro e w24 ⟨v562,rfl,ho0,hb⟩;refine ⟨_,rfl,?_⟩;have n0_:=Aside0.mk (Kd.R_lower ho0 (below_size (by repeat (first|(with_reducible first|exact HB.out|apply below_alloc|apply pw_below_drewN|apply below_drew1|refine below_set ?_ GE539.out)|exact HB.out))));have n1_:=Aside0.mk (blk_below (g:=gb539) (o:=.cells #[.int .i64 x540000_1,.int .i64 x540001_1,.slice none 0 0,.string x540003_1] 67 (0,0)) (by (with_reducible repeat (first|refine blk_drewN ?_ _|refine blk_drew ?_|refine blk_alloc ?_ _));exact BK539.out) hb);have n2_:=Aside0.mk (below_step (by repeat (first|(with_reducible first|exact HB.out|apply below_alloc|apply pw_below_drewN|apply below_drew1|refine below_set ?_ GE539.out)|exact HB.out)) hb);clear BK539;clear HB;have HO563:=n0_;have BK539:=n1_;have HB:=n2_;clear n0_ n1_ n2_;(try clear hb);(try clear hb2);(try clear hk);(try clear hi);(try clear ho0))|((with_reducible refine gate_dst (N:=6) rfl ?_);refine box_event ?hg (N:=6) ?hd (cs:=#[.int .i64 0,.int .i64 0,.slice none 0 0,.string (⟨#[]⟩ : ByteArray)]) (t:=67) ?hr ?_;(case hd => rfl);(case hg => rfl);(case hr => first|(go_simp;done)|(go_simp;rfl));intro gb565 hg w25 hbox hb;have n0_:=Aside0.mk (Kd.R_below (by (with_reducible repeat (first|apply Kd.R_alloc|apply Kd.R_drewN|apply Kd.R_drew));exact HO563.out) hb);have n1_:=Aside0.mk (blk_below (g:=gb539) (o:=.cells #[.int .i64 x540000_1,.int .i64 x540001_1,.slice none 0 0,.string x540003_1] 67 (0,0)) (by (with_reducible repeat (first|refine blk_drewN ?_ _|refine blk_drew ?_|refine blk_alloc ?_ _));exact BK539.out) hb);have n2_:=Aside0.mk (below_step (by repeat (first|(with_reducible first|exact HB.out|apply below_alloc|apply pw_below_drewN|apply below_drew1|refine below_set ?_ GE539.out)|exact HB.out)) hb);have n3_:=Aside0.mk (hbox);have n4_:=Aside0.mk ((by rw [hg];exact (below_size (by repeat (first|(with_reducible first|exact HB.out|apply below_alloc|apply pw_below_drewN|apply below_drew1|refine below_set ?_ GE539.out)|exact HB.out))) : w.heap.size ≤ gb565));have n5_:=Aside0.mk ((by rw [hg];exact (below_size (by repeat (first|(with_reducible first|exact HB.out|apply below_alloc|apply pw_below_drewN|apply below_drew1|refine below_set ?_ GE539.out)|exact HB.out))) : w.heap.size ≤ gb565));have n6_:=Aside0.mk ((by rw [hg];exact Nat.ne_of_lt (blk_lt (g:=gb539) (o:=.cells #[.int .i64 x540000_1,.int .i64 x540001_1,.slice none 0 0,.string x540003_1] 67 (0,0)) (by (with_reducible repeat (first|refine blk_drewN ?_ _|refine blk_drew ?_|refine blk_alloc ?_ _));exact BK539.out)) : gb539 ≠ gb565));have n7_:=Aside0.mk ((by rw [hg];exact Nat.ne_of_gt (blk_lt (g:=gb539) (o:=.cells #[.int .i64 x540000_1,.int .i64 x540001_1,.slice none 0 0,.string x540003_1] 67 (0,0)) (by (with_reducible repeat (first|refine blk_drewN ?_ _|refine blk_drew ?_|refine blk_alloc ?_ _));exact BK539.out)) : gb565 ≠ gb539));clear HO563;clear BK539;clear HB;have HO563:=n0_;have BK539:=n1_;have HB:=n2_;have BK565:=n3_;have GW565:=n4_;have GE565:=n5_;have NB539_565:=n6_;have NB565_539:=n7_;clear n0_ n1_ n2_ n3_ n4_ n5_ n6_ n7_;clear hb hbox hg;have hnb26:=NB565_539.out;have hnc26:=NB539_565.out;have hcz27_0 : w25.cell? ⟨gb565,0,none⟩ = some (.int .i64 0):=(blk_cell BK565.out 0).trans rfl;have hcz27_1 : w25.cell? ⟨gb565,1,none⟩ = some (.int .i64 0):=(blk_cell BK565.out 1).trans rfl;have hcz27_2 : w25.cell? ⟨gb565,2,none⟩ = some (.slice none 0 0):=(blk_cell BK565.out 2).trans rfl;have hcz27_3 : w25.cell? ⟨gb565,3,none⟩ = some (.string (⟨#[]⟩ : ByteArray)):=(blk_cell BK565.out 3).trans rfl;have hfz27_0:=blk_frozen BK565.out 0;have hfz27_1:=blk_frozen BK565.out 1;have hfz27_2:=blk_frozen BK565.out 2;have hfz27_3:=blk_frozen BK565.out 3;obtain ⟨Ao28,co28,eo28⟩:=Kd.R_slice HO563.out;subst eo28))
             go_roundg kj5
             case measure => have:=HK1.out;have:=HJ5.out;omega
             case rel => exact ⟨(t559),(x5_1 ++ t564),(x540000_1),(x540001_1),(x540003_1),(by first|rfl|(simp;done)|(simp;decide +kernel)|(simp [*];done)),(by first|rfl|(simp;done)|(simp;decide +kernel)|(simp [*];done)),(by first|exact H'|(subst_vars;exact H')),⟨by have:=HK1.out;have:=HJ5.out;omega⟩,⟨by (with_reducible repeat (first|refine blk_drewN ?_ _|refine blk_drew ?_|refine blk_alloc ?_ _));refine blk_far ?_ NB539_565.out _;(with_reducible repeat (first|refine blk_drewN ?_ _|refine blk_drew ?_|refine blk_alloc ?_ _));refine blk_far ?_ NB539_565.out _;(with_reducible repeat (first|refine blk_drewN ?_ _|refine blk_drew ?_|refine blk_alloc ?_ _));refine blk_far ?_ NB539_565.out _;(with_reducible repeat (first|refine blk_drewN ?_ _|refine blk_drew ?_|refine blk_alloc ?_ _));refine blk_far ?_ NB539_565.out _;(with_reducible repeat (first|refine blk_drewN ?_ _|refine blk_drew ?_|refine blk_alloc ?_ _));exact BK539.out⟩,⟨by repeat (first|(with_reducible first|exact HB.out|apply below_alloc|apply pw_below_drewN|apply below_drew1|refine below_set ?_ GE539.out|refine below_set ?_ GE565.out)|exact HB.out)⟩⟩
            ·rw [if_neg c23] at H
             exact absurd H (by simp)
           ·rw [if_neg c22] at H
            have c22b0 : (t560 == 0) = false:=beq_eq_false_iff_ne.mpr c22
            have c22b1 : (t560 != 0) = true:=bne_iff_ne.mpr c22
            simp only [Option.some.injEq,Prod.mk.injEq] at H
            obtain ⟨rfl,rfl,rfl,rfl⟩:=H
            have p13 : 0 ≤ (x1_1 : Int):=of_decide_eq_true (by first|(with_reducible assumption)|assumption)
            have q13 : x1_1 < (a0.size : Int):=of_decide_eq_true (by first|(with_reducible assumption)|assumption)
            have hx13:=bt_at a0 x1_1
            replace p13:=eq_true p13
            replace q13:=eq_true q13
            have p19 : 0 ≤ (x1_1 : Int):=of_decide_eq_true (by first|(with_reducible assumption)|assumption)
            have q19 : x1_1 < (a0.size : Int):=of_decide_eq_true (by first|(with_reducible assumption)|assumption)
            have hx19:=bt_at a0 x1_1
            replace p19:=eq_true p19
            replace q19:=eq_true q19
            go_wp2_with (first|((with_reducible refine gate_callee (f:=71) rfl ?_);refine goesL_ (some 38) rfl rfl Tryd.func71 (by kernel_rfl) rfl #[.string a0,.int .i64 x1_1] rfl (by (try simp only [List.map_toArray,List.map_cons,List.map_nil]);first|done|rfl|(simp only [List.length_drop,List.length_take];rfl)) ?_;(with_reducible refine (racewayref25_escape.calls kj5 a0 x1_1 t559 t560 t561 t564 _ A21.out).mono ?_);rintro e w29 ⟨v562,rfl,ho0,hb⟩;refine ⟨_,rfl,?_⟩;have n0_:=Aside0.mk (Kd.R_lower ho0 (below_size (by repeat (first|(with_reducible first|exact HB.out|apply below_alloc|apply pw_below_drewN|apply below_drew1|refine below_set ?_ GE539.out)|exact HB.out))));have n1_:=Aside0.mk (blk_below (g:=gb539) (o:=.cells #[.int .i64 x540000_1,.int .i64 x540001_1,.slice none 0 0,.string x540003_1] 67 (0,0)) (by (with_reducible repeat (first|refine blk_drewN ?_ _|refine blk_drew ?_|refine blk_alloc ?_ _));exact BK539.out) hb);have n2_:=Aside0.mk (below_step (by repeat (first|(with_reducible first|exact HB.out|apply below_alloc|apply pw_below_drewN|apply below_drew1|refine below_set ?_ GE539.out)|exact HB.out)) hb);clear BK539;clear HB;have HO563:=n0_;have BK539:=n1_;have HB:=n2_;clear n0_ n1_ n2_;(try clear hb);(try clear hb2);(try clear hk);(try clear hi);(try clear ho0))|((with_reducible refine gate_dst (N:=6) rfl ?_);refine box_event ?hg (N:=6) ?hd (cs:=#[.int .i64 0,.int .i64 0,.slice none 0 0,.string (⟨#[]⟩ : ByteArray)]) (t:=67) ?hr ?_;(case hd => rfl);(case hg => rfl);(case hr => first|(go_simp;done)|(go_simp;rfl));intro gb565 hg w30 hbox hb;have n0_:=Aside0.mk (Kd.R_below (by (with_reducible repeat (first|apply Kd.R_alloc|apply Kd.R_drewN|apply Kd.R_drew));exact HO563.out) hb);have n1_:=Aside0.mk (blk_below (g:=gb539) (o:=.cells #[.int .i64 x540000_1,.int .i64 x540001_1,.slice none 0 0,.string x540003_1] 67 (0,0)) (by (with_reducible repeat (first|refine blk_drewN ?_ _|refine blk_drew ?_|refine blk_alloc ?_ _));exact BK539.out) hb);have n2_:=Aside0.mk (below_step (by repeat (first|(with_reducible first|exact HB.out|apply below_alloc|apply pw_below_drewN|apply below_drew1|refine below_set ?_ GE539.out)|exact HB.out)) hb);have n3_:=Aside0.mk (hbox);have n4_:=Aside0.mk ((by rw [hg];exact (below_size (by repeat (first|(with_reducible first|exact HB.out|apply below_alloc|apply pw_below_drewN|apply below_drew1|refine below_set ?_ GE539.out)|exact HB.out))) : w.heap.size ≤ gb565));have n5_:=Aside0.mk ((by rw [hg];exact (below_size (by repeat (first|(with_reducible first|exact HB.out|apply below_alloc|apply pw_below_drewN|apply below_drew1|refine below_set ?_ GE539.out)|exact HB.out))) : w.heap.size ≤ gb565));have n6_:=Aside0.mk ((by rw [hg];exact Nat.ne_of_lt (blk_lt (g:=gb539) (o:=.cells #[.int .i64 x540000_1,.int .i64 x540001_1,.slice none 0 0,.string x540003_1] 67 (0,0)) (by (with_reducible repeat (first|refine blk_drewN ?_ _|refine blk_drew ?_|refine blk_alloc ?_ _));exact BK539.out)) : gb539 ≠ gb565));have n7_:=Aside0.mk ((by rw [hg];exact Nat.ne_of_gt (blk_lt (g:=gb539) (o:=.cells #[.int .i64 x540000_1,.int .i64 x540001_1,.slice none 0 0,.string x540003_1] 67 (0,0)) (by (with_reducible repeat (first|refine blk_drewN ?_ _|refine blk_drew ?_|refine blk_alloc ?_ _));exact BK539.out)) : gb565 ≠ gb539));clear HO563;clear BK539;clear HB;have HO563:=n0_;have BK539:=n1_;have HB:=n2_;have BK565:=n3_;have GW565:=n4_;have GE565:=n5_;have NB539_565:=n6_;have NB565_539:=n7_;clear n0_ n1_ n2_ n3_ n4_ n5_ n6_ n7_;clear hb hbox hg;have hnb31:=NB565_539.out;have hnc31:=NB539_565.out;have hcz32_0 : w30.cell? ⟨gb565,0,none⟩ = some (.int .i64 0):=(blk_cell BK565.out 0).trans rfl;have hcz32_1 : w30.cell? ⟨gb565,1,none⟩ = some (.int .i64 0):=(blk_cell BK565.out 1).trans rfl;have hcz32_2 : w30.cell? ⟨gb565,2,none⟩ = some (.slice none 0 0):=(blk_cell BK565.out 2).trans rfl;have hcz32_3 : w30.cell? ⟨gb565,3,none⟩ = some (.string (⟨#[]⟩ : ByteArray)):=(blk_cell BK565.out 3).trans rfl;have hfz32_0:=blk_frozen BK565.out 0;have hfz32_1:=blk_frozen BK565.out 1;have hfz32_2:=blk_frozen BK565.out 2;have hfz32_3:=blk_frozen BK565.out 3;obtain ⟨Ao33,co33,eo33⟩:=Kd.R_slice HO563.out;subst eo33;have hcz34_0 : w30.cell? ⟨gb539,0,none⟩ = some (.int .i64 x540000_1):=(blk_cell BK539.out 0).trans rfl;have hcz34_1 : w30.cell? ⟨gb539,1,none⟩ = some (.int .i64 x540001_1):=(blk_cell BK539.out 1).trans rfl;have hcz34_2 : w30.cell? ⟨gb539,2,none⟩ = some (.slice none 0 0):=(blk_cell BK539.out 2).trans rfl;have hcz34_3 : w30.cell? ⟨gb539,3,none⟩ = some (.string x540003_1):=(blk_cell BK539.out 3).trans rfl;have hfz34_0:=blk_frozen BK539.out 0;have hfz34_1:=blk_frozen BK539.out 1;have hfz34_2:=blk_frozen BK539.out 2;have hfz34_3:=blk_frozen BK539.out 3))
            refine bodyPost_ret (results_cell_row rfl _ _ gb539 67 #[.int .i64 t559,.int .i64 t560,.slice Ao33 t561.length co33,.string t564] (0,0) _ rfl (by (with_reducible repeat (first|refine blk_drewN ?_ _|refine blk_drew ?_|refine blk_alloc ?_ _));refine blk_put (cs:=#[.int .i64 t559,.int .i64 t560,.slice Ao33 t561.length co33,.string x540003_1]) ?_ 3 _ rfl;(with_reducible repeat (first|refine blk_drewN ?_ _|refine blk_drew ?_|refine blk_alloc ?_ _));refine blk_put (cs:=#[.int .i64 t559,.int .i64 t560,.slice none 0 0,.string x540003_1]) ?_ 2 _ rfl;(with_reducible repeat (first|refine blk_drewN ?_ _|refine blk_drew ?_|refine blk_alloc ?_ _));refine blk_put (cs:=#[.int .i64 t559,.int .i64 x540001_1,.slice none 0 0,.string x540003_1]) ?_ 1 _ rfl;(with_reducible repeat (first|refine blk_drewN ?_ _|refine blk_drew ?_|refine blk_alloc ?_ _));refine blk_put (cs:=#[.int .i64 x540000_1,.int .i64 x540001_1,.slice none 0 0,.string x540003_1]) ?_ 0 _ rfl;(with_reducible repeat (first|refine blk_drewN ?_ _|refine blk_drew ?_|refine blk_alloc ?_ _));refine blk_far ?_ NB539_565.out _;(with_reducible repeat (first|refine blk_drewN ?_ _|refine blk_drew ?_|refine blk_alloc ?_ _));refine blk_far ?_ NB539_565.out _;(with_reducible repeat (first|refine blk_drewN ?_ _|refine blk_drew ?_|refine blk_alloc ?_ _));refine blk_far ?_ NB539_565.out _;(with_reducible repeat (first|refine blk_drewN ?_ _|refine blk_drew ?_|refine blk_alloc ?_ _));refine blk_far ?_ NB539_565.out _;(with_reducible repeat (first|refine blk_drewN ?_ _|refine blk_drew ?_|refine blk_alloc ?_ _));exact BK539.out) Tryd.underlying67 rfl (by kernel_rfl)) rfl ?_
            exact ⟨_,by first|rfl|(simp [errW_none,errW_some] <;> rfl)|(simp [*,errW_none,errW_some] <;> rfl),by (with_reducible repeat (first|apply Kd.R_alloc|apply Kd.R_drewN|apply Kd.R_drew));exact Kd.R_mono (Kd.R_far (p:=⟨gb539,3,none⟩) (Kd.R_far (p:=⟨gb539,2,none⟩) (Kd.R_far (p:=⟨gb539,1,none⟩) (Kd.R_far (p:=⟨gb539,0,none⟩) (Kd.R_far (p:=⟨gb565,3,none⟩) (Kd.R_far (p:=⟨gb565,2,none⟩) (Kd.R_far (p:=⟨gb565,1,none⟩) (Kd.R_far (p:=⟨gb565,0,none⟩) (Kd.R_types (Kd.R_types HO563.out BK565.out (by decide)) BK539.out (by decide)) (fun _ hk => hk.1.2) (.int .i64 t559)) (fun _ hk => hk.1.2) (.int .i64 t560)) (fun _ hk => hk.1.2) (.slice Ao33 t561.length co33)) (fun _ hk => hk.1.2) (.string t564)) (fun _ hk => hk.2) (.int .i64 t559)) (fun _ hk => hk.2) (.int .i64 t560)) (fun _ hk => hk.2) (.slice Ao33 t561.length co33)) (fun _ hk => hk.2) (.string t564)) (fun _ hk => trivial),by repeat (first|(with_reducible first|exact HB.out|apply below_alloc|apply pw_below_drewN|apply below_drew1|refine below_set ?_ GE539.out|refine below_set ?_ GE565.out)|exact HB.out)⟩
          ·rw [if_neg c20] at H
           have c20b0 : ((bt a0 x1_1) == 92) = false:=beq_eq_false_iff_ne.mpr c20
           have c20b1 : ((bt a0 x1_1) != 92) = true:=bne_iff_ne.mpr c20
           replace H:=Option.bind_eq_some_iff.mp H
           obtain ⟨t566,A350,H⟩:=H
           replace H : (if t566 = 0 then ((racewayref25_fail.f x1_1).bind fun bt567 => (some (bt567.1,bt567.2.1,bt567.2.2.1,bt567.2.2.2))) else (if x1_1 ≤ (wrap64 (x1_1 + t566)) then (if (wrap64 (x1_1 + t566)) ≤ (a0.size : Int) then (if x5_1.size + (a0.extract (x1_1 : Int).toNat ((wrap64 (x1_1 + t566)) : Int).toNat).size ≤ 9223372036854775807 then (racewayref25_text.l0 kj5 a0 (wrap64 (x1_1 + t566)) (x5_1 ++ (a0.extract (x1_1 : Int).toNat ((wrap64 (x1_1 + t566)) : Int).toNat))) else (none)) else (none)) else (none))) = some (r1,r2,r3,r4):=H
           have A35:=Aside0.mk A350
           clear A350
           by_cases c36 : t566 = 0
           ·rw [if_pos c36] at H
            have c36b0 : (t566 == 0) = true:=beq_iff_eq.mpr c36
            have c36b1 : (t566 != 0) = false:=bne_eq_false_iff_eq.mpr c36
            clear c36
            replace H:=Option.bind_eq_some_iff.mp H
            obtain ⟨⟨t567,t568,t569,t572⟩,A370,H⟩:=H
            replace H : (some (t567,t568,t569,t572)) = some (r1,r2,r3,r4):=H
            have A37:=Aside0.mk A370
            clear A370
            simp only [Option.some.injEq,Prod.mk.injEq] at H
            obtain ⟨rfl,rfl,rfl,rfl⟩:=H
            have p13 : 0 ≤ (x1_1 : Int):=of_decide_eq_true (by first|(with_reducible assumption)|assumption)
            have q13 : x1_1 < (a0.size : Int):=of_decide_eq_true (by first|(with_reducible assumption)|assumption)
            have hx13:=bt_at a0 x1_1
            replace p13:=eq_true p13
            replace q13:=eq_true q13
            have p19 : 0 ≤ (x1_1 : Int):=of_decide_eq_true (by first|(with_reducible assumption)|assumption)
            have q19 : x1_1 < (a0.size : Int):=of_decide_eq_true (by first|(with_reducible assumption)|assumption)
            have hx19:=bt_at a0 x1_1
            replace p19:=eq_true p19
            replace q19:=eq_true q19
            go_wp2_with (first|((with_reducible refine gate_callee (f:=44) rfl ?_);refine goesL_ (some 51) rfl rfl Tryd.func44 (by kernel_rfl) rfl #[.string a0,.int .i64 x1_1] rfl (by (try simp only [List.map_toArray,List.map_cons,List.map_nil]);first|done|rfl|(simp only [List.length_drop,List.length_take];rfl)) ?_;(with_reducible refine (racewayref25_Sign.calls kj5 a0 x1_1 t566 _ A35.out).mono ?_);rintro e w' ⟨rfl,⟨nd,rfl⟩⟩;refine ⟨_,rfl,?_⟩;(try (rw [drewN_self wc];generalize hq_ : World.drewN wc _ = wc;have n0_ : Aside0 (wc.heap[gb539]? = some (.cells #[.int .i64 x540000_1,.int .i64 x540001_1,.slice none 0 0,.string x540003_1] 67 (0,0))):=⟨by rw [← hq_];exact (by (with_reducible repeat (first|refine blk_drewN ?_ _|refine blk_drew ?_|refine blk_alloc ?_ _));exact BK539.out)⟩;have n1_ : Aside0 (Below w.heap.size w wc):=⟨by rw [← hq_];exact (by repeat (first|(with_reducible first|exact HB.out|apply below_alloc|apply pw_below_drewN|apply below_drew1|refine below_set ?_ GE539.out)|exact HB.out))⟩;clear BK539 HB hq_;have BK539:=n0_;have HB:=n1_;clear n0_ n1_)))|((with_reducible refine gate_callee (f:=54) rfl ?_);refine goesL_ (some 55) rfl rfl Tryd.func54 (by kernel_rfl) rfl #[.int .i64 x1_1] rfl (by (try simp only [List.map_toArray,List.map_cons,List.map_nil]);first|done|rfl|(simp only [List.length_drop,List.length_take];rfl)) ?_;(with_reducible refine (racewayref25_fail.calls x1_1 t567 t568 t569 t572 _ A37.out).mono ?_);rintro e w38 ⟨v570,rfl,ho0,hb⟩;refine ⟨_,rfl,?_⟩;have n0_:=Aside0.mk (Kd.R_lower ho0 (below_size (by repeat (first|(with_reducible first|exact HB.out|apply below_alloc|apply pw_below_drewN|apply below_drew1|refine below_set ?_ GE539.out)|exact HB.out))));have n1_:=Aside0.mk (blk_below (g:=gb539) (o:=.cells #[.int .i64 x540000_1,.int .i64 x540001_1,.slice none 0 0,.string x540003_1] 67 (0,0)) (by (with_reducible repeat (first|refine blk_drewN ?_ _|refine blk_drew ?_|refine blk_alloc ?_ _));exact BK539.out) hb);have n2_:=Aside0.mk (below_step (by repeat (first|(with_reducible first|exact HB.out|apply below_alloc|apply pw_below_drewN|apply below_drew1|refine below_set ?_ GE539.out)|exact HB.out)) hb);clear BK539;clear HB;have HO571:=n0_;have BK539:=n1_;have HB:=n2_;clear n0_ n1_ n2_;(try clear hb);(try clear hb2);(try clear hk);(try clear hi);(try clear ho0);have hcz39_0 : w38.cell? ⟨gb539,0,none⟩ = some (.int .i64 x540000_1):=(blk_cell BK539.out 0).trans rfl;have hcz39_1 : w38.cell? ⟨gb539,1,none⟩ = some (.int .i64 x540001_1):=(blk_cell BK539.out 1).trans rfl;have hcz39_2 : w38.cell? ⟨gb539,2,none⟩ = some (.slice none 0 0):=(blk_cell BK539.out 2).trans rfl;have hcz39_3 : w38.cell? ⟨gb539,3,none⟩ = some (.string x540003_1):=(blk_cell BK539.out 3).trans rfl;have hfz39_0:=blk_frozen BK539.out 0;have hfz39_1:=blk_frozen BK539.out 1;have hfz39_2:=blk_frozen BK539.out 2;have hfz39_3:=blk_frozen BK539.out 3;obtain ⟨Ao40,co40,eo40⟩:=Kd.R_slice HO571.out;subst eo40))
            refine bodyPost_ret (results_cell_row rfl _ _ gb539 67 #[.int .i64 t567,.int .i64 t568,.slice Ao40 t569.length co40,.string t572] (0,0) _ rfl (by (with_reducible repeat (first|refine blk_drewN ?_ _|refine blk_drew ?_|refine blk_alloc ?_ _));refine blk_put (cs:=#[.int .i64 t567,.int .i64 t568,.slice Ao40 t569.length co40,.string x540003_1]) ?_ 3 _ rfl;(with_reducible repeat (first|refine blk_drewN ?_ _|refine blk_drew ?_|refine blk_alloc ?_ _));refine blk_put (cs:=#[.int .i64 t567,.int .i64 t568,.slice none 0 0,.string x540003_1]) ?_ 2 _ rfl;(with_reducible repeat (first|refine blk_drewN ?_ _|refine blk_drew ?_|refine blk_alloc ?_ _));refine blk_put (cs:=#[.int .i64 t567,.int .i64 x540001_1,.slice none 0 0,.string x540003_1]) ?_ 1 _ rfl;(with_reducible repeat (first|refine blk_drewN ?_ _|refine blk_drew ?_|refine blk_alloc ?_ _));refine blk_put (cs:=#[.int .i64 x540000_1,.int .i64 x540001_1,.slice none 0 0,.string x540003_1]) ?_ 0 _ rfl;(with_reducible repeat (first|refine blk_drewN ?_ _|refine blk_drew ?_|refine blk_alloc ?_ _));exact BK539.out) Tryd.underlying67 rfl (by kernel_rfl)) rfl ?_
            exact ⟨_,by first|rfl|(simp [errW_none,errW_some] <;> rfl)|(simp [*,errW_none,errW_some] <;> rfl),by (with_reducible repeat (first|apply Kd.R_alloc|apply Kd.R_drewN|apply Kd.R_drew));exact Kd.R_mono (Kd.R_far (p:=⟨gb539,3,none⟩) (Kd.R_far (p:=⟨gb539,2,none⟩) (Kd.R_far (p:=⟨gb539,1,none⟩) (Kd.R_far (p:=⟨gb539,0,none⟩) (Kd.R_types HO571.out BK539.out (by decide)) (fun _ hk => hk.2) (.int .i64 t567)) (fun _ hk => hk.2) (.int .i64 t568)) (fun _ hk => hk.2) (.slice Ao40 t569.length co40)) (fun _ hk => hk.2) (.string t572)) (fun _ hk => trivial),by repeat (first|(with_reducible first|exact HB.out|apply below_alloc|apply pw_below_drewN|apply below_drew1|refine below_set ?_ GE539.out)|exact HB.out)⟩
           ·rw [if_neg c36] at H
            have c36b0 : (t566 == 0) = false:=beq_eq_false_iff_ne.mpr c36
            have c36b1 : (t566 != 0) = true:=bne_iff_ne.mpr c36
            have c41b0:=eq_true (of_decide_eq_true (by first|(with_reducible assumption)|assumption) : 0 ≤ x1_1)
            by_cases c42 : x1_1 ≤ (wrap64 (x1_1 + t566))
            ·rw [if_pos c42] at H
             have c42b0:=eq_true c42
             have c42b1 : decide (x1_1 ≤ (wrap64 (x1_1 + t566))) = true:=decide_eq_true c42
             by_cases c43 : (wrap64 (x1_1 + t566)) ≤ (a0.size : Int)
             ·rw [if_pos c43] at H
              have c43b0:=eq_true c43
              have c43b1 : decide ((wrap64 (x1_1 + t566)) ≤ (a0.size : Int)) = true:=decide_eq_true c43
              by_cases c44 : x5_1.size + (a0.extract (x1_1 : Int).toNat ((wrap64 (x1_1 + t566)) : Int).toNat).size ≤ 9223372036854775807
              ·rw [if_pos c44] at H
               have c44b0:=eq_true c44
               have c44b1 : decide (x5_1.size + (a0.extract (x1_1 : Int).toNat ((wrap64 (x1_1 + t566)) : Int).toNat).size ≤ 9223372036854775807) = true:=decide_eq_true c44
               try have c44b2 : (9223372036854775807 < x5_1.size + (a0.extract (x1_1 : Int).toNat ((wrap64 (x1_1 + t566)) : Int).toNat).size) = False:=eq_false (Nat.not_lt.2 c44)
               have H':=Aside0.mk H
               clear H
               have p13 : 0 ≤ (x1_1 : Int):=of_decide_eq_true (by first|(with_reducible assumption)|assumption)
               have q13 : x1_1 < (a0.size : Int):=of_decide_eq_true (by first|(with_reducible assumption)|assumption)
               have hx13:=bt_at a0 x1_1
               replace p13:=eq_true p13
               replace q13:=eq_true q13
               have p19 : 0 ≤ (x1_1 : Int):=of_decide_eq_true (by first|(with_reducible assumption)|assumption)
               have q19 : x1_1 < (a0.size : Int):=of_decide_eq_true (by first|(with_reducible assumption)|assumption)
               have hx19:=bt_at a0 x1_1
               replace p19:=eq_true p19
               replace q19:=eq_true q19
               go_wp2_with (first|((with_reducible refine gate_callee (f:=44) rfl ?_);refine goesL_ (some 51) rfl rfl Tryd.func44 (by kernel_rfl) rfl #[.string a0,.int .i64 x1_1] rfl (by (try simp only [List.map_toArray,List.map_cons,List.map_nil]);first|done|rfl|(simp only [List.length_drop,List.length_take];rfl)) ?_;(with_reducible refine (racewayref25_Sign.calls kj5 a0 x1_1 t566 _ A35.out).mono ?_);rintro e w' ⟨rfl,⟨nd,rfl⟩⟩;refine ⟨_,rfl,?_⟩))
               go_roundg kj5
               case measure => have:=HK1.out;have:=HJ5.out;omega
               case rel => exact ⟨(wrap64 (x1_1 + t566)),(x5_1 ++ (a0.extract (x1_1 : Int).toNat ((wrap64 (x1_1 + t566)) : Int).toNat)),(x540000_1),(x540001_1),(x540003_1),(by first|rfl|(simp;done)|(simp;decide +kernel)|(simp [*];done)),(by first|rfl|(simp;done)|(simp;decide +kernel)|(simp [*];done)),(by first|exact H'|(subst_vars;exact H')),⟨by have:=HK1.out;have:=HJ5.out;omega⟩,⟨by (with_reducible repeat (first|refine blk_drewN ?_ _|refine blk_drew ?_|refine blk_alloc ?_ _));exact BK539.out⟩,⟨by repeat (first|(with_reducible first|exact HB.out|apply below_alloc|apply pw_below_drewN|apply below_drew1|refine below_set ?_ GE539.out)|exact HB.out)⟩⟩
              ·rw [if_neg c44] at H
               exact absurd H (by simp)
             ·rw [if_neg c43] at H
              exact absurd H (by simp)
            ·rw [if_neg c42] at H
             exact absurd H (by simp)
        ·rw [if_neg c12] at H
         exact absurd H (by simp)
       ·rw [if_neg c11] at H
        exact absurd H (by simp)
      ·replace c10:=Bool.eq_false_iff.mpr c10
       subst c10
       have H1 : (if x1_1 ≥ (a0.size : Int) then ((racewayref25_fail.f (a0.size : Int)).bind fun bt547 => (some (bt547.1,bt547.2.1,bt547.2.2.1,bt547.2.2.2))) else (some (wrap64 (x1_1 + 1),0,([] : List (S46)),x5_1))) = some (r1,r2,r3,r4):=by rw [if_neg (show ¬ (false = true) by decide)] at H;exact H
       clear H
       have H:=H1
       clear H1
       by_cases c45 : x1_1 ≥ (a0.size : Int)
       ·rw [if_pos c45] at H
        have c45b0 : decide ((a0.size : Int) ≤ x1_1) = true:=decide_eq_true c45
        clear c45
        replace H:=Option.bind_eq_some_iff.mp H
        obtain ⟨⟨t547,t548,t549,t552⟩,A460,H⟩:=H
        replace H : (some (t547,t548,t549,t552)) = some (r1,r2,r3,r4):=H
        have A46:=Aside0.mk A460
        clear A460
        simp only [Option.some.injEq,Prod.mk.injEq] at H
        obtain ⟨rfl,rfl,rfl,rfl⟩:=H
        go_wp2_with (first|((with_reducible refine gate_callee (f:=54) rfl ?_);refine goesL_ (some 73) rfl rfl Tryd.func54 (by kernel_rfl) rfl #[.int .i64 (a0.size : Int)] rfl (by (try simp only [List.map_toArray,List.map_cons,List.map_nil]);first|done|rfl|(simp only [List.length_drop,List.length_take];rfl)) ?_;(with_reducible refine (racewayref25_fail.calls (a0.size : Int) t547 t548 t549 t552 _ A46.out).mono ?_);rintro e w47 ⟨v550,rfl,ho0,hb⟩;refine ⟨_,rfl,?_⟩;have n0_:=Aside0.mk (Kd.R_lower ho0 (below_size (by repeat (first|(with_reducible first|exact HB.out|apply below_alloc|apply pw_below_drewN|apply below_drew1|refine below_set ?_ GE539.out)|exact HB.out))));have n1_:=Aside0.mk (blk_below (g:=gb539) (o:=.cells #[.int .i64 x540000_1,.int .i64 x540001_1,.slice none 0 0,.string x540003_1] 67 (0,0)) (by (with_reducible repeat (first|refine blk_drewN ?_ _|refine blk_drew ?_|refine blk_alloc ?_ _));exact BK539.out) hb);have n2_:=Aside0.mk (below_step (by repeat (first|(with_reducible first|exact HB.out|apply below_alloc|apply pw_below_drewN|apply below_drew1|refine below_set ?_ GE539.out)|exact HB.out)) hb);clear BK539;clear HB;have HO551:=n0_;have BK539:=n1_;have HB:=n2_;clear n0_ n1_ n2_;(try clear hb);(try clear hb2);(try clear hk);(try clear hi);(try clear ho0);have hcz48_0 : w47.cell? ⟨gb539,0,none⟩ = some (.int .i64 x540000_1):=(blk_cell BK539.out 0).trans rfl;have hcz48_1 : w47.cell? ⟨gb539,1,none⟩ = some (.int .i64 x540001_1):=(blk_cell BK539.out 1).trans rfl;have hcz48_2 : w47.cell? ⟨gb539,2,none⟩ = some (.slice none 0 0):=(blk_cell BK539.out 2).trans rfl;have hcz48_3 : w47.cell? ⟨gb539,3,none⟩ = some (.string x540003_1):=(blk_cell BK539.out 3).trans rfl;have hfz48_0:=blk_frozen BK539.out 0;have hfz48_1:=blk_frozen BK539.out 1;have hfz48_2:=blk_frozen BK539.out 2;have hfz48_3:=blk_frozen BK539.out 3;obtain ⟨Ao49,co49,eo49⟩:=Kd.R_slice HO551.out;subst eo49))
        refine bodyPost_ret (results_cell_row rfl _ _ gb539 67 #[.int .i64 t547,.int .i64 t548,.slice Ao49 t549.length co49,.string t552] (0,0) _ rfl (by (with_reducible repeat (first|refine blk_drewN ?_ _|refine blk_drew ?_|refine blk_alloc ?_ _));refine blk_put (cs:=#[.int .i64 t547,.int .i64 t548,.slice Ao49 t549.length co49,.string x540003_1]) ?_ 3 _ rfl;(with_reducible repeat (first|refine blk_drewN ?_ _|refine blk_drew ?_|refine blk_alloc ?_ _));refine blk_put (cs:=#[.int .i64 t547,.int .i64 t548,.slice none 0 0,.string x540003_1]) ?_ 2 _ rfl;(with_reducible repeat (first|refine blk_drewN ?_ _|refine blk_drew ?_|refine blk_alloc ?_ _));refine blk_put (cs:=#[.int .i64 t547,.int .i64 x540001_1,.slice none 0 0,.string x540003_1]) ?_ 1 _ rfl;(with_reducible repeat (first|refine blk_drewN ?_ _|refine blk_drew ?_|refine blk_alloc ?_ _));refine blk_put (cs:=#[.int .i64 x540000_1,.int .i64 x540001_1,.slice none 0 0,.string x540003_1]) ?_ 0 _ rfl;(with_reducible repeat (first|refine blk_drewN ?_ _|refine blk_drew ?_|refine blk_alloc ?_ _));exact BK539.out) Tryd.underlying67 rfl (by kernel_rfl)) rfl ?_
        exact ⟨_,by first|rfl|(simp [errW_none,errW_some] <;> rfl)|(simp [*,errW_none,errW_some] <;> rfl),by (with_reducible repeat (first|apply Kd.R_alloc|apply Kd.R_drewN|apply Kd.R_drew));exact Kd.R_mono (Kd.R_far (p:=⟨gb539,3,none⟩) (Kd.R_far (p:=⟨gb539,2,none⟩) (Kd.R_far (p:=⟨gb539,1,none⟩) (Kd.R_far (p:=⟨gb539,0,none⟩) (Kd.R_types HO551.out BK539.out (by decide)) (fun _ hk => hk.2) (.int .i64 t547)) (fun _ hk => hk.2) (.int .i64 t548)) (fun _ hk => hk.2) (.slice Ao49 t549.length co49)) (fun _ hk => hk.2) (.string t552)) (fun _ hk => trivial),by repeat (first|(with_reducible first|exact HB.out|apply below_alloc|apply pw_below_drewN|apply below_drew1|refine below_set ?_ GE539.out)|exact HB.out)⟩
       ·rw [if_neg c45] at H
        have c45b0 : decide ((a0.size : Int) ≤ x1_1) = false:=decide_eq_false c45
        clear c45
        simp only [Option.some.injEq,Prod.mk.injEq] at H
        obtain ⟨rfl,rfl,rfl,rfl⟩:=H
        have hcz50_0 : wc.cell? ⟨gb539,0,none⟩ = some (.int .i64 x540000_1):=(blk_cell BK539.out 0).trans rfl
        have hcz50_1 : wc.cell? ⟨gb539,1,none⟩ = some (.int .i64 x540001_1):=(blk_cell BK539.out 1).trans rfl
        have hcz50_2 : wc.cell? ⟨gb539,2,none⟩ = some (.slice none 0 0):=(blk_cell BK539.out 2).trans rfl
        have hcz50_3 : wc.cell? ⟨gb539,3,none⟩ = some (.string x540003_1):=(blk_cell BK539.out 3).trans rfl
        have hfz50_0:=blk_frozen BK539.out 0
        have hfz50_1:=blk_frozen BK539.out 1
        have hfz50_2:=blk_frozen BK539.out 2
        have hfz50_3:=blk_frozen BK539.out 3
        go_wp2
        refine bodyPost_ret (results_cell_row rfl _ _ gb539 67 #[.int .i64 (wrap64 (x1_1 + 1)),.int .i64 0,.slice none 0 0,.string x5_1] (0,0) _ rfl (by (with_reducible repeat (first|refine blk_drewN ?_ _|refine blk_drew ?_|refine blk_alloc ?_ _));refine blk_put (cs:=#[.int .i64 (wrap64 (x1_1 + 1)),.int .i64 0,.slice none 0 0,.string x540003_1]) ?_ 3 _ rfl;(with_reducible repeat (first|refine blk_drewN ?_ _|refine blk_drew ?_|refine blk_alloc ?_ _));refine blk_put (cs:=#[.int .i64 (wrap64 (x1_1 + 1)),.int .i64 0,.slice none 0 0,.string x540003_1]) ?_ 2 _ rfl;(with_reducible repeat (first|refine blk_drewN ?_ _|refine blk_drew ?_|refine blk_alloc ?_ _));refine blk_put (cs:=#[.int .i64 (wrap64 (x1_1 + 1)),.int .i64 x540001_1,.slice none 0 0,.string x540003_1]) ?_ 1 _ rfl;(with_reducible repeat (first|refine blk_drewN ?_ _|refine blk_drew ?_|refine blk_alloc ?_ _));refine blk_put (cs:=#[.int .i64 x540000_1,.int .i64 x540001_1,.slice none 0 0,.string x540003_1]) ?_ 0 _ rfl;(with_reducible repeat (first|refine blk_drewN ?_ _|refine blk_drew ?_|refine blk_alloc ?_ _));exact BK539.out) Tryd.underlying67 rfl (by kernel_rfl)) rfl ?_
        exact ⟨_,by first|rfl|(simp [errW_none,errW_some] <;> rfl)|(simp [*,errW_none,errW_some] <;> rfl),by first|exact Kd.R_nil _ _ _ _ _|exact Kd.N_nil _ _ _ _ _|exact Kd.V_nil _ _ _ _ _|exact Kd.Q_nil _ _ _ _ _|exact Kd.S_nil _ _ _ _ _,by repeat (first|(with_reducible first|exact HB.out|apply below_alloc|apply pw_below_drewN|apply below_drew1|refine below_set ?_ GE539.out)|exact HB.out)⟩
 ·replace c4:=Bool.eq_false_iff.mpr c4
  subst c4
  have H1 : ((racewayref25_fail.f a1).bind fun bt541 => (some (bt541.1,bt541.2.1,bt541.2.2.1,bt541.2.2.2))) = some (r1,r2,r3,r4):=by rw [if_neg (show ¬ (false = true) by decide)] at H;exact H
  clear H
  have H:=H1
  clear H1
  replace H:=Option.bind_eq_some_iff.mp H
  obtain ⟨⟨t541,t542,t543,t546⟩,A510,H⟩:=H
  replace H : (some (t541,t542,t543,t546)) = some (r1,r2,r3,r4):=H
  have A51:=Aside0.mk A510
  clear A510
  simp only [Option.some.injEq,Prod.mk.injEq] at H
  obtain ⟨rfl,rfl,rfl,rfl⟩:=H
  go_enter Tryd.func58,Tryd.ntmps58
  go_wp2_with (first|((with_reducible refine gate_dst (N:=4) rfl ?_);refine box_event ?hg (N:=4) ?hd (cs:=#[.int .i64 0,.int .i64 0,.slice none 0 0,.string (⟨#[]⟩ : ByteArray)]) (t:=67) ?hr ?_;(case hd => rfl);(case hg => rfl);(case hr => first|(go_simp;done)|(go_simp;rfl));intro gb539 hg w52 hbox hb;have n0_:=Aside0.mk (below_step (by repeat (first|(with_reducible first|exact HB.out|apply below_alloc|apply pw_below_drewN|apply below_drew1)|exact HB.out)) hb);have n1_:=Aside0.mk (hbox);have n2_:=Aside0.mk ((by rw [hg];exact (below_size (by repeat (first|(with_reducible first|exact HB.out|apply below_alloc|apply pw_below_drewN|apply below_drew1)|exact HB.out))) : w.heap.size ≤ gb539));have n3_:=Aside0.mk ((by rw [hg];exact (below_size (by repeat (first|(with_reducible first|exact HB.out|apply below_alloc|apply pw_below_drewN|apply below_drew1)|exact HB.out))) : w.heap.size ≤ gb539));clear HB;have HB:=n0_;have BK539:=n1_;have GW539:=n2_;have GE539:=n3_;clear n0_ n1_ n2_ n3_;clear hb hbox hg)|((with_reducible refine gate_callee (f:=70) rfl ?_);refine goesL_ (some 10) rfl rfl Tryd.func70 (by kernel_rfl) rfl #[.string a0,.int .i64 a1,.int .u8 34] rfl (by (try simp only [List.map_toArray,List.map_cons,List.map_nil]);first|done|rfl|(simp only [List.length_drop,List.length_take];rfl)) ?_;(with_reducible refine (racewayref25_is.calls a0 a1 34 false _ A3.out).mono ?_);rintro e w' ⟨rfl,⟨nd,rfl⟩⟩;refine ⟨_,rfl,?_⟩;(try (rw [drewN_self w52];generalize hq_ : World.drewN w52 _ = w52;have n0_ : Aside0 (w52.heap[gb539]? = some (.cells #[.int .i64 0,.int .i64 0,.slice none 0 0,.string (⟨#[]⟩ : ByteArray)] 67 (0,0))):=⟨by rw [← hq_];exact (by (with_reducible repeat (first|refine blk_drewN ?_ _|refine blk_drew ?_|refine blk_alloc ?_ _));exact BK539.out)⟩;have n1_ : Aside0 (Below w.heap.size w w52):=⟨by rw [← hq_];exact (by repeat (first|(with_reducible first|exact HB.out|apply below_alloc|apply pw_below_drewN|apply below_drew1|refine below_set ?_ GE539.out)|exact HB.out))⟩;clear BK539 HB hq_;have BK539:=n0_;have HB:=n1_;clear n0_ n1_)))|((with_reducible refine gate_callee (f:=54) rfl ?_);refine goesL_ (some 13) rfl rfl Tryd.func54 (by kernel_rfl) rfl #[.int .i64 a1] rfl (by (try simp only [List.map_toArray,List.map_cons,List.map_nil]);first|done|rfl|(simp only [List.length_drop,List.length_take];rfl)) ?_;(with_reducible refine (racewayref25_fail.calls a1 t541 t542 t543 t546 _ A51.out).mono ?_);rintro e w53 ⟨v544,rfl,ho0,hb⟩;refine ⟨_,rfl,?_⟩;have n0_:=Aside0.mk (Kd.R_lower ho0 (below_size (by repeat (first|(with_reducible first|exact HB.out|apply below_alloc|apply pw_below_drewN|apply below_drew1|refine below_set ?_ GE539.out)|exact HB.out))));have n1_:=Aside0.mk (blk_below (g:=gb539) (o:=.cells #[.int .i64 0,.int .i64 0,.slice none 0 0,.string (⟨#[]⟩ : ByteArray)] 67 (0,0)) (by (with_reducible repeat (first|refine blk_drewN ?_ _|refine blk_drew ?_|refine blk_alloc ?_ _));exact BK539.out) hb);have n2_:=Aside0.mk (below_step (by repeat (first|(with_reducible first|exact HB.out|apply below_alloc|apply pw_below_drewN|apply below_drew1|refine below_set ?_ GE539.out)|exact HB.out)) hb);clear BK539;clear HB;have HO545:=n0_;have BK539:=n1_;have HB:=n2_;clear n0_ n1_ n2_;(try clear hb);(try clear hb2);(try clear hk);(try clear hi);(try clear ho0);have hcz54_0 : w53.cell? ⟨gb539,0,none⟩ = some (.int .i64 0):=(blk_cell BK539.out 0).trans rfl;have hcz54_1 : w53.cell? ⟨gb539,1,none⟩ = some (.int .i64 0):=(blk_cell BK539.out 1).trans rfl;have hcz54_2 : w53.cell? ⟨gb539,2,none⟩ = some (.slice none 0 0):=(blk_cell BK539.out 2).trans rfl;have hcz54_3 : w53.cell? ⟨gb539,3,none⟩ = some (.string (⟨#[]⟩ : ByteArray)):=(blk_cell BK539.out 3).trans rfl;have hfz54_0:=blk_frozen BK539.out 0;have hfz54_1:=blk_frozen BK539.out 1;have hfz54_2:=blk_frozen BK539.out 2;have hfz54_3:=blk_frozen BK539.out 3;obtain ⟨Ao55,co55,eo55⟩:=Kd.R_slice HO545.out;subst eo55))
  refine bodyPost_ret (results_cell_row rfl _ _ gb539 67 #[.int .i64 t541,.int .i64 t542,.slice Ao55 t543.length co55,.string t546] (0,0) _ rfl (by (with_reducible repeat (first|refine blk_drewN ?_ _|refine blk_drew ?_|refine blk_alloc ?_ _));refine blk_put (cs:=#[.int .i64 t541,.int .i64 t542,.slice Ao55 t543.length co55,.string (⟨#[]⟩ : ByteArray)]) ?_ 3 _ rfl;(with_reducible repeat (first|refine blk_drewN ?_ _|refine blk_drew ?_|refine blk_alloc ?_ _));refine blk_put (cs:=#[.int .i64 t541,.int .i64 t542,.slice none 0 0,.string (⟨#[]⟩ : ByteArray)]) ?_ 2 _ rfl;(with_reducible repeat (first|refine blk_drewN ?_ _|refine blk_drew ?_|refine blk_alloc ?_ _));refine blk_put (cs:=#[.int .i64 t541,.int .i64 0,.slice none 0 0,.string (⟨#[]⟩ : ByteArray)]) ?_ 1 _ rfl;(with_reducible repeat (first|refine blk_drewN ?_ _|refine blk_drew ?_|refine blk_alloc ?_ _));refine blk_put (cs:=#[.int .i64 0,.int .i64 0,.slice none 0 0,.string (⟨#[]⟩ : ByteArray)]) ?_ 0 _ rfl;(with_reducible repeat (first|refine blk_drewN ?_ _|refine blk_drew ?_|refine blk_alloc ?_ _));exact BK539.out) Tryd.underlying67 rfl (by kernel_rfl)) rfl ?_
  exact ⟨_,by first|rfl|(simp [errW_none,errW_some] <;> rfl)|(simp [*,errW_none,errW_some] <;> rfl),by (with_reducible repeat (first|apply Kd.R_alloc|apply Kd.R_drewN|apply Kd.R_drew));exact Kd.R_mono (Kd.R_far (p:=⟨gb539,3,none⟩) (Kd.R_far (p:=⟨gb539,2,none⟩) (Kd.R_far (p:=⟨gb539,1,none⟩) (Kd.R_far (p:=⟨gb539,0,none⟩) (Kd.R_types HO545.out BK539.out (by decide)) (fun _ hk => hk.2) (.int .i64 t541)) (fun _ hk => hk.2) (.int .i64 t542)) (fun _ hk => hk.2) (.slice Ao55 t543.length co55)) (fun _ hk => hk.2) (.string t546)) (fun _ hk => trivial),by repeat (first|(with_reducible first|exact HB.out|apply below_alloc|apply pw_below_drewN|apply below_drew1|refine below_set ?_ GE539.out)|exact HB.out)⟩
end Go.Proofs.YtadfkeipcebmfaaDoor.X
namespace Go.Proofs.YtadfkeipcebmfaaDoor.X
open Go.RowKit Go.Proofs.YtadfkeipcebmfaaDoorW.PrintWords Go.Proofs.YtadfkeipcebmfaaDoorW.PrintLast Go.Proofs.YtadfkeipcebmfaaDoorW.PrintMore
attribute [local go_sem] max2_int min2_int max_two min_two max_three min_three max_four min_four
set_option linter.unusedVariables false
set_option linter.unusedSimpArgs false
def racewayref25_word.l0 : Nat → ByteArray → Int → ByteArray → Int → Int → Option (Int × Int × (List (S46)) × ByteArray)
 | 0,_,_,_,_,_ => none
 | k + 1,x0,x1,x2,x3,x9 => if x9 < (x2.size : Int) then (if 0 ≤ x9 then ((racewayref25_is.f x0 (wrap64 (x1 + x9)) (bt x2 x9)).bind fun t577 => (if t577 = true then (racewayref25_word.l0 k x0 x1 x2 x3 (wrap64 (x9 + 1))) else ((racewayref25_fail.f (mn (wrap64 (x1 + x9)) (x0.size : Int))).bind fun bt578 => (some (bt578.1,bt578.2.1,bt578.2.2.1,bt578.2.2.2))))) else (none)) else (some (wrap64 (x1 + (x2.size : Int)),0,(([(⟨x3,1,0,(⟨#[]⟩ : ByteArray),(⟨#[]⟩ : ByteArray)⟩ : S46)] : List (S46))),(⟨#[]⟩ : ByteArray)))
def racewayref25_word.f (k : Nat) (a0 : ByteArray) (a1 : Int) (a2 : ByteArray) (a3 : Int) : Option (Int × Int × (List (S46)) × ByteArray):=racewayref25_word.l0 k a0 a1 a2 a3 0
set_option maxHeartbeats 8000000 in
set_option maxRecDepth 100000 in
theorem racewayref25_word.calls (k : Nat) (a0 : ByteArray) (a1 : Int) (a2 : ByteArray) (a3 : Int) (r1 : Int) (r2 : Int) (r3 : List (S46)) (r4 : ByteArray) (w : World) (h : racewayref25_word.f k a0 a1 a2 a3 = some (r1,r2,r3,r4)) :
  Calls Tryd.prog 57 #[.string a0,.int .i64 a1,.string a2,.int .i64 a3] w fun e w' => ∃ v2_ : Value,e = .returned (.agg #[.int .i64 r1,.int .i64 r2,v2_,.string r4]) ∧ Kd.R k46 46 w' w.heap.size (fun _ => True) v2_ r3 ∧ Below w.heap.size w w':=by
 have hu67:=Tryd.underlying67
 have hu46:=Tryd.underlying46
 have HB:=Aside0.mk (Below.refl w.heap.size w)
 have H : (racewayref25_word.l0 k a0 a1 a2 a3 0) = some (r1,r2,r3,r4):=h
 clear h
 have H':=Aside0.mk H
 clear H
 go_enter Tryd.func57,Tryd.ntmps57
 go_wp2_with (first|((with_reducible refine gate_dst (N:=8) rfl ?_);refine box_event ?hg (N:=8) ?hd (cs:=#[.int .i64 0,.int .i64 0,.slice none 0 0,.string (⟨#[]⟩ : ByteArray)]) (t:=67) ?hr ?_;(case hd => rfl);(case hg => rfl);(case hr => first|(go_simp;done)|(go_simp;rfl));intro gb573 hg w5 hbox hb;have n0_:=Aside0.mk (below_step (by repeat (first|(with_reducible first|exact HB.out|apply below_alloc|apply pw_below_drewN|apply below_drew1)|exact HB.out)) hb);have n1_:=Aside0.mk (hbox);have n2_:=Aside0.mk ((by rw [hg];exact (below_size (by repeat (first|(with_reducible first|exact HB.out|apply below_alloc|apply pw_below_drewN|apply below_drew1)|exact HB.out))) : w.heap.size ≤ gb573));have n3_:=Aside0.mk ((by rw [hg];exact (below_size (by repeat (first|(with_reducible first|exact HB.out|apply below_alloc|apply pw_below_drewN|apply below_drew1)|exact HB.out))) : w.heap.size ≤ gb573));clear HB;have HB:=n0_;have BK573:=n1_;have GW573:=n2_;have GE573:=n3_;clear n0_ n1_ n2_ n3_;clear hb hbox hg))
 go_loopg [9] k (fun kq v9 w' => ∃ (x9_1 : Int) (x574000_1 : Int) (x574001_1 : Int) (x574003_1 : ByteArray),v9 = .int .i64 x9_1 ∧ Aside0 (racewayref25_word.l0 kq a0 a1 a2 a3 x9_1 = some (r1,r2,r3,r4)) ∧ Aside0 (kq ≤ k) ∧ Aside0 (w'.heap[gb573]? = some (.cells #[.int .i64 x574000_1,.int .i64 x574001_1,(.slice none 0 0),.string x574003_1] 67 (0,0))) ∧ Aside0 (Below w.heap.size w w'))
 case atStart => exact ⟨(0),(0),(0),((⟨#[]⟩ : ByteArray)),(by first|rfl|(simp;done)|(simp;decide +kernel)|(simp [*];done)),(by first|exact H'|(subst_vars;exact H')),⟨Nat.le_refl _⟩,⟨by (with_reducible repeat (first|refine blk_drewN ?_ _|refine blk_drew ?_|refine blk_alloc ?_ _));exact BK573.out⟩,⟨by repeat (first|(with_reducible first|exact HB.out|apply below_alloc|apply pw_below_drewN|apply below_drew1|refine below_set ?_ GE573.out)|exact HB.out)⟩⟩
 case round =>
  clear H'
  try clear p2
  try clear c5
  obtain ⟨x9_1,x574000_1,x574001_1,x574003_1,rfl,HA,HK1,BK573,HB⟩:=hrel
  cases gk with
  | zero => exact absurd HA.out (by simp [racewayref25_word.l0])
  | succ k1 =>
   have H:=HA.out
   clear HA
   simp only [racewayref25_word.l0] at H
   by_cases c6 : x9_1 < (a2.size : Int)
   ·rw [if_pos c6] at H
    have c6b0 : decide (x9_1 < (a2.size : Int)) = true:=decide_eq_true c6
    clear c6
    by_cases c7 : 0 ≤ x9_1
    ·rw [if_pos c7] at H
     have c7b0 : decide (0 ≤ x9_1) = true:=decide_eq_true c7
     clear c7
     replace H:=Option.bind_eq_some_iff.mp H
     obtain ⟨t577,A90,H⟩:=H
     replace H : (if t577 = true then (racewayref25_word.l0 k1 a0 a1 a2 a3 (wrap64 (x9_1 + 1))) else ((racewayref25_fail.f (mn (wrap64 (a1 + x9_1)) (a0.size : Int))).bind fun bt578 => (some (bt578.1,bt578.2.1,bt578.2.2.1,bt578.2.2.2)))) = some (r1,r2,r3,r4):=H
     have A9:=Aside0.mk A90
     clear A90
     by_cases c10 : t577 = true
     ·subst c10
      have H1 : (racewayref25_word.l0 k1 a0 a1 a2 a3 (wrap64 (x9_1 + 1))) = some (r1,r2,r3,r4):=by rw [if_pos rfl] at H;exact H
      clear H
      have H:=H1
      clear H1
      have H':=Aside0.mk H
      clear H
      have p8 : 0 ≤ (x9_1 : Int):=of_decide_eq_true (by first|(with_reducible assumption)|assumption)
      have q8 : x9_1 < (a2.size : Int):=of_decide_eq_true (by first|(with_reducible assumption)|assumption)
      have hx8:=bt_at a2 x9_1
      replace p8:=eq_true p8
      replace q8:=eq_true q8
      go_wp2_with (first|((with_reducible refine gate_callee (f:=70) rfl ?_);refine goesL_ (some 23) rfl rfl Tryd.func70 (by kernel_rfl) rfl #[.string a0,.int .i64 (wrap64 (a1 + x9_1)),.int .u8 (bt a2 x9_1)] rfl (by (try simp only [List.map_toArray,List.map_cons,List.map_nil]);first|done|rfl|(simp only [List.length_drop,List.length_take];rfl)) ?_;(with_reducible refine (racewayref25_is.calls a0 (wrap64 (a1 + x9_1)) (bt a2 x9_1) true _ A9.out).mono ?_);rintro e w' ⟨rfl,⟨nd,rfl⟩⟩;refine ⟨_,rfl,?_⟩))
      go_roundg k1
      case measure => have:=HK1.out;omega
      case rel => exact ⟨(wrap64 (x9_1 + 1)),(x574000_1),(x574001_1),(x574003_1),(by first|rfl|(simp;done)|(simp;decide +kernel)|(simp [*];done)),(by first|exact H'|(subst_vars;exact H')),⟨by have:=HK1.out;omega⟩,⟨by (with_reducible repeat (first|refine blk_drewN ?_ _|refine blk_drew ?_|refine blk_alloc ?_ _));exact BK573.out⟩,⟨by repeat (first|(with_reducible first|exact HB.out|apply below_alloc|apply pw_below_drewN|apply below_drew1|refine below_set ?_ GE573.out)|exact HB.out)⟩⟩
     ·replace c10:=Bool.eq_false_iff.mpr c10
      subst c10
      have H1 : ((racewayref25_fail.f (mn (wrap64 (a1 + x9_1)) (a0.size : Int))).bind fun bt578 => (some (bt578.1,bt578.2.1,bt578.2.2.1,bt578.2.2.2))) = some (r1,r2,r3,r4):=by rw [if_neg (show ¬ (false = true) by decide)] at H;exact H
      clear H
      have H:=H1
      clear H1
      obtain ⟨ji11,hji11⟩ : ∃ j_ : Int,(mn (wrap64 (a1 + x9_1)) (a0.size : Int)) = j_:=⟨_,rfl⟩
      replace H : ((racewayref25_fail.f (ji11)).bind fun bt578 => (some (bt578.1,bt578.2.1,bt578.2.2.1,bt578.2.2.2))) = some (r1,r2,r3,r4):=by first|(rw [hji11] at H;exact H)|(simp only [hji11] at H ⊢;exact H)
      (try rw [hji11] at A9)
      have hji11_ : (if (a0.size : Int) < (wrap64 (a1 + x9_1)) then (a0.size : Int) else (wrap64 (a1 + x9_1))) = ji11:=hji11
      replace H:=Option.bind_eq_some_iff.mp H
      obtain ⟨⟨t578,t579,t580,t583⟩,A120,H⟩:=H
      replace H : (some (t578,t579,t580,t583)) = some (r1,r2,r3,r4):=H
      have A12:=Aside0.mk A120
      clear A120
      simp only [Option.some.injEq,Prod.mk.injEq] at H
      obtain ⟨rfl,rfl,rfl,rfl⟩:=H
      have p8 : 0 ≤ (x9_1 : Int):=of_decide_eq_true (by first|(with_reducible assumption)|assumption)
      have q8 : x9_1 < (a2.size : Int):=of_decide_eq_true (by first|(with_reducible assumption)|assumption)
      have hx8:=bt_at a2 x9_1
      replace p8:=eq_true p8
      replace q8:=eq_true q8
      go_wp2_with (first|((with_reducible refine gate_callee (f:=70) rfl ?_);refine goesL_ (some 23) rfl rfl Tryd.func70 (by kernel_rfl) rfl #[.string a0,.int .i64 (wrap64 (a1 + x9_1)),.int .u8 (bt a2 x9_1)] rfl (by (try simp only [List.map_toArray,List.map_cons,List.map_nil]);first|done|rfl|(simp only [List.length_drop,List.length_take];rfl)) ?_;(with_reducible refine (racewayref25_is.calls a0 (wrap64 (a1 + x9_1)) (bt a2 x9_1) false _ A9.out).mono ?_);rintro e w' ⟨rfl,⟨nd,rfl⟩⟩;refine ⟨_,rfl,?_⟩;(try (rw [drewN_self wr];generalize hq_ : World.drewN wr _ = wr;have n0_ : Aside0 (wr.heap[gb573]? = some (.cells #[.int .i64 x574000_1,.int .i64 x574001_1,.slice none 0 0,.string x574003_1] 67 (0,0))):=⟨by rw [← hq_];exact (by (with_reducible repeat (first|refine blk_drewN ?_ _|refine blk_drew ?_|refine blk_alloc ?_ _));exact BK573.out)⟩;have n1_ : Aside0 (Below w.heap.size w wr):=⟨by rw [← hq_];exact (by repeat (first|(with_reducible first|exact HB.out|apply below_alloc|apply pw_below_drewN|apply below_drew1|refine below_set ?_ GE573.out)|exact HB.out))⟩;clear BK573 HB hq_;have BK573:=n0_;have HB:=n1_;clear n0_ n1_)))|((with_reducible refine gate_callee (f:=54) rfl ?_);refine goesL_ (some 31) rfl rfl Tryd.func54 (by kernel_rfl) rfl #[.int .i64 ji11] rfl (by (try simp only [List.map_toArray,List.map_cons,List.map_nil]);first|done|(simp only [hji11];rfl)|rfl|(simp only [List.length_drop,List.length_take];rfl)) ?_;(with_reducible refine (racewayref25_fail.calls ji11 t578 t579 t580 t583 _ A12.out).mono ?_);rintro e w13 ⟨v581,rfl,ho0,hb⟩;refine ⟨_,rfl,?_⟩;have n0_:=Aside0.mk (Kd.R_lower ho0 (below_size (by repeat (first|(with_reducible first|exact HB.out|apply below_alloc|apply pw_below_drewN|apply below_drew1|refine below_set ?_ GE573.out)|exact HB.out))));have n1_:=Aside0.mk (blk_below (g:=gb573) (o:=.cells #[.int .i64 x574000_1,.int .i64 x574001_1,.slice none 0 0,.string x574003_1] 67 (0,0)) (by (with_reducible repeat (first|refine blk_drewN ?_ _|refine blk_drew ?_|refine blk_alloc ?_ _));exact BK573.out) hb);have n2_:=Aside0.mk (below_step (by repeat (first|(with_reducible first|exact HB.out|apply below_alloc|apply pw_below_drewN|apply below_drew1|refine below_set ?_ GE573.out)|exact HB.out)) hb);clear BK573;clear HB;have HO582:=n0_;have BK573:=n1_;have HB:=n2_;clear n0_ n1_ n2_;(try clear hb);(try clear hb2);(try clear hk);(try clear hi);(try clear ho0);have hcz14_0 : w13.cell? ⟨gb573,0,none⟩ = some (.int .i64 x574000_1):=(blk_cell BK573.out 0).trans rfl;have hcz14_1 : w13.cell? ⟨gb573,1,none⟩ = some (.int .i64 x574001_1):=(blk_cell BK573.out 1).trans rfl;have hcz14_2 : w13.cell? ⟨gb573,2,none⟩ = some (.slice none 0 0):=(blk_cell BK573.out 2).trans rfl;have hcz14_3 : w13.cell? ⟨gb573,3,none⟩ = some (.string x574003_1):=(blk_cell BK573.out 3).trans rfl;have hfz14_0:=blk_frozen BK573.out 0;have hfz14_1:=blk_frozen BK573.out 1;have hfz14_2:=blk_frozen BK573.out 2;have hfz14_3:=blk_frozen BK573.out 3;obtain ⟨Ao15,co15,eo15⟩:=Kd.R_slice HO582.out;subst eo15))
      refine bodyPost_ret (results_cell_row rfl _ _ gb573 67 #[.int .i64 t578,.int .i64 t579,.slice Ao15 t580.length co15,.string t583] (0,0) _ rfl (by (with_reducible repeat (first|refine blk_drewN ?_ _|refine blk_drew ?_|refine blk_alloc ?_ _));refine blk_put (cs:=#[.int .i64 t578,.int .i64 t579,.slice Ao15 t580.length co15,.string x574003_1]) ?_ 3 _ rfl;(with_reducible repeat (first|refine blk_drewN ?_ _|refine blk_drew ?_|refine blk_alloc ?_ _));refine blk_put (cs:=#[.int .i64 t578,.int .i64 t579,.slice none 0 0,.string x574003_1]) ?_ 2 _ rfl;(with_reducible repeat (first|refine blk_drewN ?_ _|refine blk_drew ?_|refine blk_alloc ?_ _));refine blk_put (cs:=#[.int .i64 t578,.int .i64 x574001_1,.slice none 0 0,.string x574003_1]) ?_ 1 _ rfl;(with_reducible repeat (first|refine blk_drewN ?_ _|refine blk_drew ?_|refine blk_alloc ?_ _));refine blk_put (cs:=#[.int .i64 x574000_1,.int .i64 x574001_1,.slice none 0 0,.string x574003_1]) ?_ 0 _ rfl;(with_reducible repeat (first|refine blk_drewN ?_ _|refine blk_drew ?_|refine blk_alloc ?_ _));exact BK573.out) Tryd.underlying67 rfl (by kernel_rfl)) rfl ?_
      exact ⟨_,by first|rfl|(simp [errW_none,errW_some] <;> rfl)|(simp only [← hji11];first|rfl|(simp [errW_none,errW_some] <;> rfl))|(simp [*,errW_none,errW_some] <;> rfl),by (with_reducible repeat (first|apply Kd.R_alloc|apply Kd.R_drewN|apply Kd.R_drew));exact Kd.R_mono (Kd.R_far (p:=⟨gb573,3,none⟩) (Kd.R_far (p:=⟨gb573,2,none⟩) (Kd.R_far (p:=⟨gb573,1,none⟩) (Kd.R_far (p:=⟨gb573,0,none⟩) (Kd.R_types HO582.out BK573.out (by decide)) (fun _ hk => hk.2) (.int .i64 t578)) (fun _ hk => hk.2) (.int .i64 t579)) (fun _ hk => hk.2) (.slice Ao15 t580.length co15)) (fun _ hk => hk.2) (.string t583)) (fun _ hk => trivial),by repeat (first|(with_reducible first|exact HB.out|apply below_alloc|apply pw_below_drewN|apply below_drew1|refine below_set ?_ GE573.out)|exact HB.out)⟩
    ·rw [if_neg c7] at H
     exact absurd H (by simp)
   ·rw [if_neg c6] at H
    have c6b0 : decide (x9_1 < (a2.size : Int)) = false:=decide_eq_false c6
    clear c6
    obtain ⟨y574,hy574⟩ : ∃ y_ : List (S46),y_ = (([(⟨a3,1,0,(⟨#[]⟩ : ByteArray),(⟨#[]⟩ : ByteArray)⟩ : S46)] : List (S46))):=⟨_,rfl⟩
    replace H : (some (wrap64 (a1 + (a2.size : Int)),0,y574,(⟨#[]⟩ : ByteArray))) = some (r1,r2,r3,r4):=by first|(rw [hy574];with_reducible exact H)|(have H2_:=(Option.bind_some _ _).symm.trans H;rw [hy574];with_reducible exact H2_)|(have H2_:=(Option.bind_some _ _).symm.trans H;with_reducible exact H2_)|with_reducible exact H|(rw [hy574];exact H)|exact H
    have Ny574:=Aside0.mk hy574
    clear hy574
    simp only [Option.some.injEq,Prod.mk.injEq] at H
    obtain ⟨rfl,rfl,rfl,rfl⟩:=H
    go_wp2_with (first|((with_reducible refine gate_dst (N:=38) rfl ?_);refine Kd.R_lit k46 _ 46 ?hg (N:=38) ?hd (xs:=([(⟨a3,1,0,(⟨#[]⟩ : ByteArray),(⟨#[]⟩ : ByteArray)⟩ : S46)] : List (S46))) (inner:=[.int .i64 a3,.int .i64 1,.int .i64 0,.string (⟨#[]⟩ : ByteArray),.string (⟨#[]⟩ : ByteArray)]) (ok:=fun _ => True) (okp:=fun _ => True) ?hr ?hp (fun _ hk => hk) trivial (Below.refl _ _) (Nat.le_refl _) (by simp) ?_;(case hd => rfl);(case hg => rfl);(case hr => first|(go_simp;done)|(go_simp;rfl));(case hp => exact (Reps.c5 (show Kd.M k46 _ _ _ (⟨a3,1,0,(⟨#[]⟩ : ByteArray),(⟨#[]⟩ : ByteArray)⟩ : S46) [.int .i64 a3,.int .i64 1,.int .i64 0,.string (⟨#[]⟩ : ByteArray),.string (⟨#[]⟩ : ByteArray)] from (k46_mkM _ _ _ (⟨a3,1,0,(⟨#[]⟩ : ByteArray),(⟨#[]⟩ : ByteArray)⟩ : S46) )) (Reps.none _ _)));intro v575 w16 ho17 hb hg_ hnew_;clear hg_ hnew_;(first|rw [← Ny574.out] at ho17|(simp only [Int.reduceToNat] at ho17;rw [← Ny574.out] at ho17));have n0_:=Aside0.mk (Kd.R_lower ho17 (below_size (by repeat (first|(with_reducible first|exact HB.out|apply below_alloc|apply pw_below_drewN|apply below_drew1|refine below_set ?_ GE573.out)|exact HB.out))));have n1_:=Aside0.mk (blk_below (g:=gb573) (o:=.cells #[.int .i64 x574000_1,.int .i64 x574001_1,.slice none 0 0,.string x574003_1] 67 (0,0)) (by (with_reducible repeat (first|refine blk_drewN ?_ _|refine blk_drew ?_|refine blk_alloc ?_ _));exact BK573.out) hb);have n2_:=Aside0.mk (below_step (by repeat (first|(with_reducible first|exact HB.out|apply below_alloc|apply pw_below_drewN|apply below_drew1|refine below_set ?_ GE573.out)|exact HB.out)) hb);clear BK573;clear HB;have HO576:=n0_;have BK573:=n1_;have HB:=n2_;clear n0_ n1_ n2_;clear hb ho17;obtain ⟨Ao18,co18,eo18⟩:=Kd.R_slice HO576.out;subst eo18;have hcz19_0 : w16.cell? ⟨gb573,0,none⟩ = some (.int .i64 x574000_1):=(blk_cell BK573.out 0).trans rfl;have hcz19_1 : w16.cell? ⟨gb573,1,none⟩ = some (.int .i64 x574001_1):=(blk_cell BK573.out 1).trans rfl;have hcz19_2 : w16.cell? ⟨gb573,2,none⟩ = some (.slice none 0 0):=(blk_cell BK573.out 2).trans rfl;have hcz19_3 : w16.cell? ⟨gb573,3,none⟩ = some (.string x574003_1):=(blk_cell BK573.out 3).trans rfl;have hfz19_0:=blk_frozen BK573.out 0;have hfz19_1:=blk_frozen BK573.out 1;have hfz19_2:=blk_frozen BK573.out 2;have hfz19_3:=blk_frozen BK573.out 3))
    refine bodyPost_ret (results_cell_row rfl _ _ gb573 67 #[.int .i64 (wrap64 (a1 + (a2.size : Int))),.int .i64 0,.slice Ao18 y574.length co18,.string (⟨#[]⟩ : ByteArray)] (0,0) _ rfl (by (with_reducible repeat (first|refine blk_drewN ?_ _|refine blk_drew ?_|refine blk_alloc ?_ _));refine blk_put (cs:=#[.int .i64 (wrap64 (a1 + (a2.size : Int))),.int .i64 0,.slice Ao18 y574.length co18,.string x574003_1]) ?_ 3 _ rfl;(with_reducible repeat (first|refine blk_drewN ?_ _|refine blk_drew ?_|refine blk_alloc ?_ _));refine blk_put (cs:=#[.int .i64 (wrap64 (a1 + (a2.size : Int))),.int .i64 0,.slice none 0 0,.string x574003_1]) ?_ 2 _ rfl;(with_reducible repeat (first|refine blk_drewN ?_ _|refine blk_drew ?_|refine blk_alloc ?_ _));refine blk_put (cs:=#[.int .i64 (wrap64 (a1 + (a2.size : Int))),.int .i64 x574001_1,.slice none 0 0,.string x574003_1]) ?_ 1 _ rfl;(with_reducible repeat (first|refine blk_drewN ?_ _|refine blk_drew ?_|refine blk_alloc ?_ _));refine blk_put (cs:=#[.int .i64 x574000_1,.int .i64 x574001_1,.slice none 0 0,.string x574003_1]) ?_ 0 _ rfl;(with_reducible repeat (first|refine blk_drewN ?_ _|refine blk_drew ?_|refine blk_alloc ?_ _));exact BK573.out) Tryd.underlying67 rfl (by kernel_rfl)) rfl ?_
    exact ⟨_,by first|rfl|(simp [errW_none,errW_some] <;> rfl)|(simp [*,errW_none,errW_some] <;> rfl),by (with_reducible repeat (first|apply Kd.R_alloc|apply Kd.R_drewN|apply Kd.R_drew));exact Kd.R_mono (Kd.R_far (p:=⟨gb573,3,none⟩) (Kd.R_far (p:=⟨gb573,2,none⟩) (Kd.R_far (p:=⟨gb573,1,none⟩) (Kd.R_far (p:=⟨gb573,0,none⟩) (Kd.R_types HO576.out BK573.out (by decide)) (fun _ hk => hk.2) (.int .i64 (wrap64 (a1 + (a2.size : Int))))) (fun _ hk => hk.2) (.int .i64 0)) (fun _ hk => hk.2) (.slice Ao18 y574.length co18)) (fun _ hk => hk.2) (.string (⟨#[]⟩ : ByteArray))) (fun _ hk => trivial),by repeat (first|(with_reducible first|exact HB.out|apply below_alloc|apply pw_below_drewN|apply below_drew1|refine below_set ?_ GE573.out)|exact HB.out)⟩
end Go.Proofs.YtadfkeipcebmfaaDoor.X
