/-
  What the claim's law rests on, part 6 of 7: printed walks, externals, plain lemmas; conditions: none of its own.
-/
import Derived.Test.YtedfgkjimnjdpaaDoorTh5
namespace Go.Proofs.YtedfgkjimnjdpaaDoor.X
open Go.RowKit Go.Proofs.YtedfgkjimnjdpaaDoorW.PrintWords Go.Proofs.YtedfgkjimnjdpaaDoorW.PrintLast Go.Proofs.YtedfgkjimnjdpaaDoorW.PrintMore
attribute [local go_sem] max2_int min2_int max_two min_two max_three min_three max_four min_four
set_option linter.unusedVariables false
set_option linter.unusedSimpArgs false
attribute [local go_sem high] eqA39
def racewaylaw27_TicketHandles.f (k : Nat) (a0_0 : Int) (a0_1 : ByteArray) (a0_2 : Int) (a0_3 : Int) (a1 : ByteArray) : Option (Bool):=(racewaylaw27_few.f a0_0 a0_1 a0_2 a0_3).bind fun bt275 => (if 0 ≤ (mn (a1.size : Int) 300) then (if (mn (a1.size : Int) 300) ≤ (a1.size : Int) then ((ticket_Handle.f k bt275.1 bt275.2.1 bt275.2.2.1 bt275.2.2.2).bind fun bt279 => ((racewayref27_Handle.f k bt275.1 bt275.2.1 bt275.2.2.1 bt275.2.2.2).bind fun bt281 => ((ticket_Open.f (a1.extract 0 ((mn (a1.size : Int) 300) : Int).toNat)).bind fun bt283 => ((racewayref27_Open.f k (a1.extract 0 ((mn (a1.size : Int) 300) : Int).toNat)).bind fun bt289 => (if bt279.1.toList = bt281.1.toList then (if bt279.2 = bt281.2 then (if (bt283.1 == bt289.1 && (bt283.2.1.toList == bt289.2.1.toList && (bt283.2.2.1 == bt289.2.2.1 && (bt283.2.2.2.1 == bt289.2.2.2.1)))) = true then (if bt283.2.2.2.2 = bt289.2.2.2.2 then ((racewaylaw27_works.f k).bind fun t295 => (some t295)) else (some false)) else (some false)) else (some false)) else (some false)))))) else (none)) else (none))
def racewaylaw27_TicketHandles.T1 : Bool × List (List Nat × List Nat):=(true,[([],[]),([0],[0]),([],[]),([],[]),([3],[3]),([4],[4]),([2,5],[2,5]),([1,1,0,1],[1]),([6,7,0,1,2,3,4,5,6,7],[2,3,6])])
def racewaylaw27_TicketHandles.B1 : List Nat:=[0,1,0,0,8,24,60,3,255]
theorem racewaylaw27_TicketHandles.tab1 : rtab .any (opsOf Tryd.f6 1) = racewaylaw27_TicketHandles.T1:=by kernel_rfl
theorem racewaylaw27_TicketHandles.bits1 : waitsOk racewaylaw27_TicketHandles.T1.2 racewaylaw27_TicketHandles.B1 = true:=by kernel_rfl
set_option maxHeartbeats 8000000 in
set_option maxRecDepth 100000 in
theorem racewaylaw27_TicketHandles.calls (k : Nat) (a0_0 : Int) (a0_1 : ByteArray) (a0_2 : Int) (a0_3 : Int) (a1 : ByteArray) (r : Bool) (w : World) (hGCr : GlobCr w) (h : racewaylaw27_TicketHandles.f k a0_0 a0_1 a0_2 a0_3 a1 = some r) :
  Calls Tryd.prog 6 #[.agg #[.int .i64 a0_0,.string a0_1,.int .i64 a0_2,.int .i64 a0_3],.string a1] w fun e w' => e = .returned (.bool r) ∧ Below w.heap.size w w':=by
 have hu39:=Tryd.underlying39
 have HGCr:=Aside0.mk hGCr
 clear hGCr
 have HB:=Aside0.mk (Below.refl w.heap.size w)
 have H : ((racewaylaw27_few.f a0_0 a0_1 a0_2 a0_3).bind fun bt275 => (if 0 ≤ (mn (a1.size : Int) 300) then (if (mn (a1.size : Int) 300) ≤ (a1.size : Int) then ((ticket_Handle.f k bt275.1 bt275.2.1 bt275.2.2.1 bt275.2.2.2).bind fun bt279 => ((racewayref27_Handle.f k bt275.1 bt275.2.1 bt275.2.2.1 bt275.2.2.2).bind fun bt281 => ((ticket_Open.f (a1.extract 0 ((mn (a1.size : Int) 300) : Int).toNat)).bind fun bt283 => ((racewayref27_Open.f k (a1.extract 0 ((mn (a1.size : Int) 300) : Int).toNat)).bind fun bt289 => (if bt279.1.toList = bt281.1.toList then (if bt279.2 = bt281.2 then (if (bt283.1 == bt289.1 && (bt283.2.1.toList == bt289.2.1.toList && (bt283.2.2.1 == bt289.2.2.1 && (bt283.2.2.2.1 == bt289.2.2.2.1)))) = true then (if bt283.2.2.2.2 = bt289.2.2.2.2 then ((racewaylaw27_works.f k).bind fun t295 => (some t295)) else (some false)) else (some false)) else (some false)) else (some false)))))) else (none)) else (none))) = some r:=h
 clear h
 replace H:=Option.bind_eq_some_iff.mp H
 obtain ⟨⟨t275,t276,t277,t278⟩,A30,H⟩:=H
 replace H : (if 0 ≤ (mn (a1.size : Int) 300) then (if (mn (a1.size : Int) 300) ≤ (a1.size : Int) then ((ticket_Handle.f k t275 t276 t277 t278).bind fun bt279 => ((racewayref27_Handle.f k t275 t276 t277 t278).bind fun bt281 => ((ticket_Open.f (a1.extract 0 ((mn (a1.size : Int) 300) : Int).toNat)).bind fun bt283 => ((racewayref27_Open.f k (a1.extract 0 ((mn (a1.size : Int) 300) : Int).toNat)).bind fun bt289 => (if bt279.1.toList = bt281.1.toList then (if bt279.2 = bt281.2 then (if (bt283.1 == bt289.1 && (bt283.2.1.toList == bt289.2.1.toList && (bt283.2.2.1 == bt289.2.2.1 && (bt283.2.2.2.1 == bt289.2.2.2.1)))) = true then (if bt283.2.2.2.2 = bt289.2.2.2.2 then ((racewaylaw27_works.f k).bind fun t295 => (some t295)) else (some false)) else (some false)) else (some false)) else (some false)))))) else (none)) else (none)) = some r:=H
 have A3:=Aside0.mk A30
 clear A30
 obtain ⟨ji4,hji4⟩ : ∃ j_ : Int,(mn (a1.size : Int) 300) = j_:=⟨_,rfl⟩
 replace H : (if 0 ≤ (ji4) then (if (ji4) ≤ (a1.size : Int) then ((ticket_Handle.f k t275 t276 t277 t278).bind fun bt279 => ((racewayref27_Handle.f k t275 t276 t277 t278).bind fun bt281 => ((ticket_Open.f (a1.extract 0 ((ji4) : Int).toNat)).bind fun bt283 => ((racewayref27_Open.f k (a1.extract 0 ((ji4) : Int).toNat)).bind fun bt289 => (if bt279.1.toList = bt281.1.toList then (if bt279.2 = bt281.2 then (if (bt283.1 == bt289.1 && (bt283.2.1.toList == bt289.2.1.toList && (bt283.2.2.1 == bt289.2.2.1 && (bt283.2.2.2.1 == bt289.2.2.2.1)))) = true then (if bt283.2.2.2.2 = bt289.2.2.2.2 then ((racewaylaw27_works.f k).bind fun t295 => (some t295)) else (some false)) else (some false)) else (some false)) else (some false)))))) else (none)) else (none)) = some r:=by first|(rw [hji4] at H;exact H)|(simp only [hji4] at H ⊢;exact H)
 (try rw [hji4] at A3)
 (try (have hji4h : ji4 ≤ 300:=by (rw [← hji4];unfold mn;(repeat' split) <;> omega)))
 (try (have hji4g : ji4 ≤ 64:=by omega))
 (try (have hji4l : 0 ≤ ji4:=by (rw [← hji4];unfold mn;(repeat' split) <;> omega)))
 (try (have hji4m : 0 ≤ ji4:=by omega))
 have hji4_ : (if 300 < (a1.size : Int) then 300 else (a1.size : Int)) = ji4:=hji4
 by_cases c5 : 0 ≤ (ji4)
 ·rw [if_pos c5] at H
  have c5b0:=eq_true c5
  have c5b1 : decide (0 ≤ (ji4)) = true:=decide_eq_true c5
  clear c5
  by_cases c6 : (ji4) ≤ (a1.size : Int)
  ·rw [if_pos c6] at H
   have c6b0:=eq_true c6
   have c6b1 : decide ((ji4) ≤ (a1.size : Int)) = true:=decide_eq_true c6
   clear c6
   replace H:=Option.bind_eq_some_iff.mp H
   obtain ⟨⟨t279,t280⟩,A70,H⟩:=H
   replace H : ((racewayref27_Handle.f k t275 t276 t277 t278).bind fun bt281 => ((ticket_Open.f (a1.extract 0 ((ji4) : Int).toNat)).bind fun bt283 => ((racewayref27_Open.f k (a1.extract 0 ((ji4) : Int).toNat)).bind fun bt289 => (if t279.toList = bt281.1.toList then (if t280 = bt281.2 then (if (bt283.1 == bt289.1 && (bt283.2.1.toList == bt289.2.1.toList && (bt283.2.2.1 == bt289.2.2.1 && (bt283.2.2.2.1 == bt289.2.2.2.1)))) = true then (if bt283.2.2.2.2 = bt289.2.2.2.2 then ((racewaylaw27_works.f k).bind fun t295 => (some t295)) else (some false)) else (some false)) else (some false)) else (some false))))) = some r:=H
   have A7:=Aside0.mk A70
   clear A70
   replace H:=Option.bind_eq_some_iff.mp H
   obtain ⟨⟨t281,t282⟩,A80,H⟩:=H
   replace H : ((ticket_Open.f (a1.extract 0 ((ji4) : Int).toNat)).bind fun bt283 => ((racewayref27_Open.f k (a1.extract 0 ((ji4) : Int).toNat)).bind fun bt289 => (if t279.toList = t281.toList then (if t280 = t282 then (if (bt283.1 == bt289.1 && (bt283.2.1.toList == bt289.2.1.toList && (bt283.2.2.1 == bt289.2.2.1 && (bt283.2.2.2.1 == bt289.2.2.2.1)))) = true then (if bt283.2.2.2.2 = bt289.2.2.2.2 then ((racewaylaw27_works.f k).bind fun t295 => (some t295)) else (some false)) else (some false)) else (some false)) else (some false)))) = some r:=H
   have A8:=Aside0.mk A80
   clear A80
   replace H:=Option.bind_eq_some_iff.mp H
   obtain ⟨⟨t283,t284,t285,t286,t287⟩,A90,H⟩:=H
   replace H : ((racewayref27_Open.f k (a1.extract 0 ((ji4) : Int).toNat)).bind fun bt289 => (if t279.toList = t281.toList then (if t280 = t282 then (if (t283 == bt289.1 && (t284.toList == bt289.2.1.toList && (t285 == bt289.2.2.1 && (t286 == bt289.2.2.2.1)))) = true then (if t287 = bt289.2.2.2.2 then ((racewaylaw27_works.f k).bind fun t295 => (some t295)) else (some false)) else (some false)) else (some false)) else (some false))) = some r:=H
   have A9:=Aside0.mk A90
   clear A90
   replace H:=Option.bind_eq_some_iff.mp H
   obtain ⟨⟨t289,t290,t291,t292,t293⟩,A100,H⟩:=H
   replace H : (if t279.toList = t281.toList then (if t280 = t282 then (if (t283 == t289 && (t284.toList == t290.toList && (t285 == t291 && (t286 == t292)))) = true then (if t287 = t293 then ((racewaylaw27_works.f k).bind fun t295 => (some t295)) else (some false)) else (some false)) else (some false)) else (some false)) = some r:=H
   have A10:=Aside0.mk A100
   clear A100
   by_cases c11 : t279.toList = t281.toList
   ·rw [if_pos c11] at H
    have c11b0 : (t279.toList == t281.toList) = true:=beq_iff_eq.mpr c11
    have c11b1 : (t279.toList != t281.toList) = false:=bne_eq_false_iff_eq.mpr c11
    clear c11
    by_cases c12 : t280 = t282
    ·rw [if_pos c12] at H
     have c12b0 : (t280 == t282) = true:=beq_iff_eq.mpr c12
     have c12b1 : (t280 != t282) = false:=bne_eq_false_iff_eq.mpr c12
     clear c12
     by_cases c13 : (t283 == t289 && (t284.toList == t290.toList && (t285 == t291 && (t286 == t292)))) = true
     ·rw [if_pos c13] at H
      have c13b0 : (t283 == t289 && (t284.toList == t290.toList && (t285 == t291 && (t286 == t292)))) = true:=c13
      (try (have c13b1 : decide (t283 = t289 && (t284.toList == t290.toList && (t285 == t291 && (t286 == t292)))) = true:=by simpa using c13))
      (try (have c13b2 : (t283 == t289 && (t284.toList == t290.toList && (t285 == t291 && (t286 == t292)))) = true:=by simpa using c13))
      clear c13
      by_cases c14 : t287 = t293
      ·rw [if_pos c14] at H
       have c14b0 : (t287 == t293) = true:=beq_iff_eq.mpr c14
       have c14b1 : (t287 != t293) = false:=bne_eq_false_iff_eq.mpr c14
       clear c14
       replace H:=Option.bind_eq_some_iff.mp H
       obtain ⟨t295,A150,H⟩:=H
       replace H : (some t295) = some r:=H
       have A15:=Aside0.mk A150
       clear A150
       obtain rfl:=Option.some.inj H
       go_enter Tryd.func6,Tryd.ntmps6
       try go_wp2_with (first|((with_reducible refine gate_dst (N:=2) rfl ?_);refine box_event ?hg (N:=2) ?hd (cs:=#[.int .i64 a0_0,.string a0_1,.int .i64 a0_2,.int .i64 a0_3]) (t:=39) ?hr ?_;(case hd => rfl);(case hg => rfl);(case hr => first|(go_simp;done)|(go_simp;rfl));intro gb274 hg w16 hbox hb;have n0_:=Aside0.mk (below_step (by repeat (first|(with_reducible first|exact HB.out|apply below_alloc|apply pw_below_drewN|apply below_drew1)|exact HB.out)) hb);have n1_:=Aside0.mk (hbox);have n2_:=Aside0.mk ((by rw [hg];exact (below_size (by repeat (first|(with_reducible first|exact HB.out|apply below_alloc|apply pw_below_drewN|apply below_drew1)|exact HB.out))) : w.heap.size ≤ gb274));have n3_:=Aside0.mk ((by rw [hg];exact (below_size (by repeat (first|(with_reducible first|exact HB.out|apply below_alloc|apply pw_below_drewN|apply below_drew1)|exact HB.out))) : w.heap.size ≤ gb274));clear HB;have HB:=n0_;have BK274:=n1_;have GW274:=n2_;have GE274:=n3_;clear n0_ n1_ n2_ n3_;clear hb hbox hg))
       have n0_:=Aside0.mk (blk_drew BK274.out)
       have n1_:=Aside0.mk (below_drew1 HB.out)
       clear BK274
       clear HB
       have BK274:=n0_
       have HB:=n1_
       clear n0_ n1_
       refine start_ (n:=9) (S:=fun w' => w'.cell? ⟨gb274,0,none⟩ = some (.int .i64 a0_0) ∧ w'.cell? ⟨gb274,1,none⟩ = some (.string a0_1) ∧ w'.cell? ⟨gb274,2,none⟩ = some (.int .i64 a0_2) ∧ w'.cell? ⟨gb274,3,none⟩ = some (.int .i64 a0_3)) (ds:=[7]) #[false,false,false,false,false,false,false,false,false] (by kernel_rfl) rfl rfl ⟨(blk_cell BK274.out 0).trans rfl,(blk_cell BK274.out 1).trans rfl,(blk_cell BK274.out 2).trans rfl,(blk_cell BK274.out 3).trans rfl⟩ (fun hHeld => ?_);refine with_tabW racewaylaw27_TicketHandles.tab1 racewaylaw27_TicketHandles.bits1 (fun HT_ HW_ => ?_)
       generalize w16.drew = w17 at BK274 HB hHeld ⊢
       refine pure_ (i:=2) (N:=some 15) (v:=?_) (a':=?_) #[false,false,true,false,false,false,false,false,false] rfl rfl (any_of HT_.out (by kernel_rfl)) (fun _ _ _ h => h) (Or.inl ⟨by rfl,?_⟩) ?_ ?_
       rotate_left
       ·intro w'
        go_simp
        with_reducible rfl
       rotate_left
       ·simp only [Act.put,List.setIfInBounds_toArray,List.set_cons_zero,List.set_cons_succ,i64_w,i32_w]
        rfl
       refine pure_ (i:=3) (N:=some 16) (v:=?_) (a':=?_) #[false,false,true,true,false,false,false,false,false] rfl rfl (any_of HT_.out (by kernel_rfl)) (fun _ _ _ h => h) (Or.inl ⟨by rfl,?_⟩) ?_ ?_
       rotate_left
       ·intro w'
        go_simp
        with_reducible rfl
       rotate_left
       ·simp only [Act.put,List.setIfInBounds_toArray,List.set_cons_zero,List.set_cons_succ,i64_w,i32_w]
        rfl
       refine pure_ (i:=4) (N:=some 17) (v:=?_) (a':=?_) #[false,false,true,true,true,false,false,false,false] rfl rfl (any_of HT_.out (by kernel_rfl)) (fun _ _ _ h => h) (Or.inl ⟨by rfl,?_⟩) ?_ ?_
       rotate_left
       ·intro w'
        go_simp
        with_reducible rfl
       rotate_left
       ·simp only [Act.put,List.setIfInBounds_toArray,List.set_cons_zero,List.set_cons_succ,i64_w,i32_w]
        rfl
       refine pure_ (i:=5) (N:=some 18) (v:=?_) (a':=?_) #[false,false,true,true,true,true,false,false,false] rfl rfl (any_of HT_.out (by kernel_rfl)) (fun _ _ _ h => h) (Or.inl ⟨by rfl,?_⟩) ?_ ?_
       rotate_left
       ·intro w'
        go_simp
        with_reducible rfl
       rotate_left
       ·simp only [Act.put,List.setIfInBounds_toArray,List.set_cons_zero,List.set_cons_succ,i64_w,i32_w]
        rfl
       refine pure_ (i:=6) (N:=some 19) (v:=?_) (a':=?_) #[false,false,true,true,true,true,true,false,false] rfl rfl (any_of HT_.out (by kernel_rfl)) (fun _ _ _ h => h) (Or.inl ⟨by rfl,?_⟩) ?_ ?_
       rotate_left
       ·intro w'
        go_simp
        with_reducible rfl
       rotate_left
       ·simp only [Act.put,List.setIfInBounds_toArray,List.set_cons_zero,List.set_cons_succ,i64_w,i32_w]
        rfl
       refine take_ (i:=0) (N:=some 13) (v:=?_) (a':=?_) #[true,false,true,true,true,true,true,false,false] rfl rfl (take_ofW HT_.out HW_.out (by kernel_rfl)) (fun _ _ _ h => h) (Or.inl ⟨by rfl,?_⟩) hHeld ?_ ?_
       rotate_left
       ·rintro w' ⟨s0,s1,s2,s3⟩
        go_simp
        with_reducible rfl
       rotate_left
       ·simp only [Act.put,List.setIfInBounds_toArray,List.set_cons_zero,List.set_cons_succ,i64_w,i32_w]
        rfl
       refine one_ (i:=1) (N:=some 14) #[true,true,true,true,true,true,true,false,false] rfl rfl (one_of HT_.out (by kernel_rfl)) (by decide) (fun K hK => ?_)
       refine goes_ Tryd.func19 (by kernel_rfl) rfl #[.agg #[.int .i64 a0_0,.string a0_1,.int .i64 a0_2,.int .i64 a0_3]] (by rfl) rfl rfl (by (try simp only [List.map_toArray,List.map_cons,List.map_nil]);first|done|rfl|(simp only [List.length_drop,List.length_take];rfl)) ?_
       with_reducible refine (racewaylaw27_few.calls a0_0 a0_1 a0_2 a0_3 t275 t276 t277 t278 _ A3.out).mono ?_
       rintro e w18 ⟨rfl,hb⟩
       refine ⟨_,rfl,?_⟩
       have n0_:=Aside0.mk (blk_below (g:=gb274) (o:=.cells #[.int .i64 a0_0,.string a0_1,.int .i64 a0_2,.int .i64 a0_3] 39 (0,0)) (by (with_reducible repeat (first|refine blk_drewN ?_ _|refine blk_drew ?_|refine blk_alloc ?_ _));exact BK274.out) hb)
       have n1_:=Aside0.mk (below_step (by repeat (first|(with_reducible first|exact HB.out|apply below_alloc|apply pw_below_drewN|apply below_drew1|refine below_set ?_ GE274.out)|exact HB.out)) hb)
       clear BK274
       clear HB
       have BK274:=n0_
       have HB:=n1_
       clear n0_ n1_
       (try clear hb)
       (try clear hb2)
       (try clear hk)
       (try clear hi)
       refine hK.out _ _ ⟨(blk_cell BK274.out 0).trans rfl,(blk_cell BK274.out 1).trans rfl,(blk_cell BK274.out 2).trans rfl,(blk_cell BK274.out 3).trans rfl⟩ (fun hHeld => ?_)
       clear hK K
       refine norm_ (a':=?_) ?_ ?_
       rotate_left
       ·show Act.put _ (some 14) _ = _
        simp only [Act.put,List.setIfInBounds_toArray,List.set_cons_zero,List.set_cons_succ,i64_w,i32_w]
        rfl
       refine last_ (i:=7) (N:=none) #[true,true,true,true,true,true,true,true,false] rfl rfl (one_of HT_.out (by kernel_rfl)) (by decide) (fun K hK => ?_)
       have hs19 : w18.cell? ⟨gb274,0,none⟩ = some (.int .i64 a0_0):=(blk_cell BK274.out 0).trans rfl
       have hfs19:=blk_frozen BK274.out 0
       have hs20 : w18.cell? ⟨gb274,1,none⟩ = some (.string a0_1):=(blk_cell BK274.out 1).trans rfl
       have hfs20:=blk_frozen BK274.out 1
       have hs21 : w18.cell? ⟨gb274,2,none⟩ = some (.int .i64 a0_2):=(blk_cell BK274.out 2).trans rfl
       have hfs21:=blk_frozen BK274.out 2
       have hs22 : w18.cell? ⟨gb274,3,none⟩ = some (.int .i64 a0_3):=(blk_cell BK274.out 3).trans rfl
       have hfs22:=blk_frozen BK274.out 3
       refine skip_ (w1:=?_) (by rfl) rfl ?_ ?_
       rotate_left
       ·go_simp
        rfl
       refine hK.out _ _ ?_
       clear hK K
       refine pure_ (i:=8) (N:=some 1) (v:=?_) (a':=?_) #[true,true,true,true,true,true,true,true,true] rfl rfl (any_of HT_.out (by kernel_rfl)) (fun _ _ _ h => h) (Or.inl ⟨by rfl,?_⟩) ?_ ?_
       rotate_left
       ·intro w'
        go_simp
        with_reducible rfl
       rotate_left
       ·simp only [Act.put,List.setIfInBounds_toArray,List.set_cons_zero,List.set_cons_succ,i64_w,i32_w]
        rfl
       refine done_ (done_of HT_.out (by kernel_rfl)) ?_
       have hcz23_0 : w18.cell? ⟨gb274,0,none⟩ = some (.int .i64 a0_0):=(blk_cell BK274.out 0).trans rfl
       have hcz23_1 : w18.cell? ⟨gb274,1,none⟩ = some (.string a0_1):=(blk_cell BK274.out 1).trans rfl
       have hcz23_2 : w18.cell? ⟨gb274,2,none⟩ = some (.int .i64 a0_2):=(blk_cell BK274.out 2).trans rfl
       have hcz23_3 : w18.cell? ⟨gb274,3,none⟩ = some (.int .i64 a0_3):=(blk_cell BK274.out 3).trans rfl
       have hfz23_0:=blk_frozen BK274.out 0
       have hfz23_1:=blk_frozen BK274.out 1
       have hfz23_2:=blk_frozen BK274.out 2
       have hfz23_3:=blk_frozen BK274.out 3
       try go_wp2_with (first|((with_reducible refine gate_callee (f:=20) rfl ?_);refine goesL_ (some 22) rfl rfl Tryd.func20 (by kernel_rfl) rfl #[.agg #[.int .i64 t275,.string t276,.int .i64 t277,.int .i64 t278]] rfl (by (try simp only [List.map_toArray,List.map_cons,List.map_nil]);first|done|rfl|(simp only [List.length_drop,List.length_take];rfl)) ?_;(with_reducible refine (ticket_Handle.calls k t275 t276 t277 t278 t279 t280 _ ?side1 A7.out).mono ?_);(case side1 => first|exact HGCr.out|exact GlobCr.below HGCr.out (by repeat (first|(with_reducible first|exact HB.out|apply below_alloc|apply pw_below_drewN|apply below_drew1|refine below_set ?_ GE274.out)|exact HB.out))|exact GlobCr.drawn HGCr.out (by repeat (first|exact Drawn0.refl _|apply Drawn0.step)));rintro e w24 ⟨rfl,hb⟩;refine ⟨_,rfl,?_⟩;have n0_:=Aside0.mk (blk_below (g:=gb274) (o:=.cells #[.int .i64 t275,.string t276,.int .i64 t277,.int .i64 t278] 39 (0,0)) (by (with_reducible repeat (first|refine blk_drewN ?_ _|refine blk_drew ?_|refine blk_alloc ?_ _));refine blk_put (cs:=#[.int .i64 t275,.string t276,.int .i64 t277,.int .i64 a0_3]) ?_ 3 _ rfl;(with_reducible repeat (first|refine blk_drewN ?_ _|refine blk_drew ?_|refine blk_alloc ?_ _));refine blk_put (cs:=#[.int .i64 t275,.string t276,.int .i64 a0_2,.int .i64 a0_3]) ?_ 2 _ rfl;(with_reducible repeat (first|refine blk_drewN ?_ _|refine blk_drew ?_|refine blk_alloc ?_ _));refine blk_put (cs:=#[.int .i64 t275,.string a0_1,.int .i64 a0_2,.int .i64 a0_3]) ?_ 1 _ rfl;(with_reducible repeat (first|refine blk_drewN ?_ _|refine blk_drew ?_|refine blk_alloc ?_ _));refine blk_put (cs:=#[.int .i64 a0_0,.string a0_1,.int .i64 a0_2,.int .i64 a0_3]) ?_ 0 _ rfl;(with_reducible repeat (first|refine blk_drewN ?_ _|refine blk_drew ?_|refine blk_alloc ?_ _));exact BK274.out) hb);have n1_:=Aside0.mk (below_step (by repeat (first|(with_reducible first|exact HB.out|apply below_alloc|apply pw_below_drewN|apply below_drew1|refine below_set ?_ GE274.out)|exact HB.out)) hb);clear BK274;clear HB;have BK274:=n0_;have HB:=n1_;clear n0_ n1_;(try clear hb);(try clear hb2);(try clear hk);(try clear hi);have hcz25_0 : w24.cell? ⟨gb274,0,none⟩ = some (.int .i64 t275):=(blk_cell BK274.out 0).trans rfl;have hcz25_1 : w24.cell? ⟨gb274,1,none⟩ = some (.string t276):=(blk_cell BK274.out 1).trans rfl;have hcz25_2 : w24.cell? ⟨gb274,2,none⟩ = some (.int .i64 t277):=(blk_cell BK274.out 2).trans rfl;have hcz25_3 : w24.cell? ⟨gb274,3,none⟩ = some (.int .i64 t278):=(blk_cell BK274.out 3).trans rfl;have hfz25_0:=blk_frozen BK274.out 0;have hfz25_1:=blk_frozen BK274.out 1;have hfz25_2:=blk_frozen BK274.out 2;have hfz25_3:=blk_frozen BK274.out 3)|((with_reducible refine gate_callee (f:=21) rfl ?_);refine goesL_ (some 27) rfl rfl Tryd.func21 (by kernel_rfl) rfl #[.agg #[.int .i64 t275,.string t276,.int .i64 t277,.int .i64 t278]] rfl (by (try simp only [List.map_toArray,List.map_cons,List.map_nil]);first|done|rfl|(simp only [List.length_drop,List.length_take];rfl)) ?_;(with_reducible refine (racewayref27_Handle.calls k t275 t276 t277 t278 t281 t282 _ A8.out).mono ?_);rintro e w26 ⟨rfl,hb⟩;refine ⟨_,rfl,?_⟩;have n0_:=Aside0.mk (blk_below (g:=gb274) (o:=.cells #[.int .i64 t275,.string t276,.int .i64 t277,.int .i64 t278] 39 (0,0)) (by (with_reducible repeat (first|refine blk_drewN ?_ _|refine blk_drew ?_|refine blk_alloc ?_ _));exact BK274.out) hb);have n1_:=Aside0.mk (below_step (by repeat (first|(with_reducible first|exact HB.out|apply below_alloc|apply pw_below_drewN|apply below_drew1|refine below_set ?_ GE274.out)|exact HB.out)) hb);clear BK274;clear HB;have BK274:=n0_;have HB:=n1_;clear n0_ n1_;(try clear hb);(try clear hb2);(try clear hk);(try clear hi))|((with_reducible refine gate_callee (f:=22) rfl ?_);refine goesL_ (some 32) rfl rfl Tryd.func22 (by kernel_rfl) rfl #[.string (a1.extract 0 ((ji4) : Int).toNat)] rfl (by (try simp only [List.map_toArray,List.map_cons,List.map_nil]);first|done|(simp only [hji4];rfl)|rfl|(simp only [List.length_drop,List.length_take];rfl)) ?_;(with_reducible refine (ticket_Open.calls (a1.extract 0 ((ji4) : Int).toNat) t283 t284 t285 t286 t287 _ ?side1 A9.out).mono ?_);(case side1 => first|exact HGCr.out|exact GlobCr.below HGCr.out (by repeat (first|(with_reducible first|exact HB.out|apply below_alloc|apply pw_below_drewN|apply below_drew1|refine below_set ?_ GE274.out)|exact HB.out))|exact GlobCr.drawn HGCr.out (by repeat (first|exact Drawn0.refl _|apply Drawn0.step)));rintro e w27 ⟨rfl,hb⟩;refine ⟨_,rfl,?_⟩;have n0_:=Aside0.mk (blk_below (g:=gb274) (o:=.cells #[.int .i64 t275,.string t276,.int .i64 t277,.int .i64 t278] 39 (0,0)) (by (with_reducible repeat (first|refine blk_drewN ?_ _|refine blk_drew ?_|refine blk_alloc ?_ _));exact BK274.out) hb);have n1_:=Aside0.mk (below_step (by repeat (first|(with_reducible first|exact HB.out|apply below_alloc|apply pw_below_drewN|apply below_drew1|refine below_set ?_ GE274.out)|exact HB.out)) hb);clear BK274;clear HB;have BK274:=n0_;have HB:=n1_;clear n0_ n1_;(try clear hb);(try clear hb2);(try clear hk);(try clear hi))|((with_reducible refine gate_dst (N:=9) rfl ?_);refine box_event ?hg (N:=9) ?hd (cs:=#[.int .i64 0,.string (⟨#[]⟩ : ByteArray),.int .i64 0,.int .i64 0]) (t:=39) ?hr ?_;(case hd => rfl);(case hg => rfl);(case hr => first|(go_simp;done)|(go_simp;rfl));intro gb288 hg w28 hbox hb;have n0_:=Aside0.mk (blk_below (g:=gb274) (o:=.cells #[.int .i64 t275,.string t276,.int .i64 t277,.int .i64 t278] 39 (0,0)) (by (with_reducible repeat (first|refine blk_drewN ?_ _|refine blk_drew ?_|refine blk_alloc ?_ _));exact BK274.out) hb);have n1_:=Aside0.mk (below_step (by repeat (first|(with_reducible first|exact HB.out|apply below_alloc|apply pw_below_drewN|apply below_drew1|refine below_set ?_ GE274.out)|exact HB.out)) hb);have n2_:=Aside0.mk (hbox);have n3_:=Aside0.mk ((by rw [hg];exact (below_size (by repeat (first|(with_reducible first|exact HB.out|apply below_alloc|apply pw_below_drewN|apply below_drew1|refine below_set ?_ GE274.out)|exact HB.out))) : w.heap.size ≤ gb288));have n4_:=Aside0.mk ((by rw [hg];exact (below_size (by repeat (first|(with_reducible first|exact HB.out|apply below_alloc|apply pw_below_drewN|apply below_drew1|refine below_set ?_ GE274.out)|exact HB.out))) : w.heap.size ≤ gb288));have n5_:=Aside0.mk ((by rw [hg];exact Nat.ne_of_lt (blk_lt (g:=gb274) (o:=.cells #[.int .i64 t275,.string t276,.int .i64 t277,.int .i64 t278] 39 (0,0)) (by (with_reducible repeat (first|refine blk_drewN ?_ _|refine blk_drew ?_|refine blk_alloc ?_ _));exact BK274.out)) : gb274 ≠ gb288));have n6_:=Aside0.mk ((by rw [hg];exact Nat.ne_of_gt (blk_lt (g:=gb274) (o:=.cells #[.int .i64 t275,.string t276,.int .i64 t277,.int .i64 t278] 39 (0,0)) (by (with_reducible repeat (first|refine blk_drewN ?_ _|refine blk_drew ?_|refine blk_alloc ?_ _));exact BK274.out)) : gb288 ≠ gb274));clear BK274;clear HB;have BK274:=n0_;have HB:=n1_;have BK288:=n2_;have GW288:=n3_;have GE288:=n4_;have NB274_288:=n5_;have NB288_274:=n6_;clear n0_ n1_ n2_ n3_ n4_ n5_ n6_;clear hb hbox hg;have hnb29:=NB288_274.out;have hnc29:=NB274_288.out;have hcz30_0 : w28.cell? ⟨gb288,0,none⟩ = some (.int .i64 0):=(blk_cell BK288.out 0).trans rfl;have hcz30_1 : w28.cell? ⟨gb288,1,none⟩ = some (.string (⟨#[]⟩ : ByteArray)):=(blk_cell BK288.out 1).trans rfl;have hcz30_2 : w28.cell? ⟨gb288,2,none⟩ = some (.int .i64 0):=(blk_cell BK288.out 2).trans rfl;have hcz30_3 : w28.cell? ⟨gb288,3,none⟩ = some (.int .i64 0):=(blk_cell BK288.out 3).trans rfl;have hfz30_0:=blk_frozen BK288.out 0;have hfz30_1:=blk_frozen BK288.out 1;have hfz30_2:=blk_frozen BK288.out 2;have hfz30_3:=blk_frozen BK288.out 3)|((with_reducible refine gate_callee (f:=23) rfl ?_);refine goesL_ (some 37) rfl rfl Tryd.func23 (by kernel_rfl) rfl #[.string (a1.extract 0 ((ji4) : Int).toNat)] rfl (by (try simp only [List.map_toArray,List.map_cons,List.map_nil]);first|done|(simp only [hji4];rfl)|rfl|(simp only [List.length_drop,List.length_take];rfl)) ?_;(with_reducible refine (racewayref27_Open.calls k (a1.extract 0 ((ji4) : Int).toNat) t289 t290 t291 t292 t293 _ A10.out).mono ?_);rintro e w31 ⟨rfl,hb⟩;refine ⟨_,rfl,?_⟩;have n0_:=Aside0.mk (blk_below (g:=gb274) (o:=.cells #[.int .i64 t275,.string t276,.int .i64 t277,.int .i64 t278] 39 (0,0)) (by (with_reducible repeat (first|refine blk_drewN ?_ _|refine blk_drew ?_|refine blk_alloc ?_ _));refine blk_far ?_ NB274_288.out _;(with_reducible repeat (first|refine blk_drewN ?_ _|refine blk_drew ?_|refine blk_alloc ?_ _));refine blk_far ?_ NB274_288.out _;(with_reducible repeat (first|refine blk_drewN ?_ _|refine blk_drew ?_|refine blk_alloc ?_ _));refine blk_far ?_ NB274_288.out _;(with_reducible repeat (first|refine blk_drewN ?_ _|refine blk_drew ?_|refine blk_alloc ?_ _));refine blk_far ?_ NB274_288.out _;(with_reducible repeat (first|refine blk_drewN ?_ _|refine blk_drew ?_|refine blk_alloc ?_ _));exact BK274.out) hb);have n1_:=Aside0.mk (blk_below (g:=gb288) (o:=.cells #[.int .i64 t283,.string t284,.int .i64 t285,.int .i64 t286] 39 (0,0)) (by (with_reducible repeat (first|refine blk_drewN ?_ _|refine blk_drew ?_|refine blk_alloc ?_ _));refine blk_put (cs:=#[.int .i64 t283,.string t284,.int .i64 t285,.int .i64 0]) ?_ 3 _ rfl;(with_reducible repeat (first|refine blk_drewN ?_ _|refine blk_drew ?_|refine blk_alloc ?_ _));refine blk_put (cs:=#[.int .i64 t283,.string t284,.int .i64 0,.int .i64 0]) ?_ 2 _ rfl;(with_reducible repeat (first|refine blk_drewN ?_ _|refine blk_drew ?_|refine blk_alloc ?_ _));refine blk_put (cs:=#[.int .i64 t283,.string (⟨#[]⟩ : ByteArray),.int .i64 0,.int .i64 0]) ?_ 1 _ rfl;(with_reducible repeat (first|refine blk_drewN ?_ _|refine blk_drew ?_|refine blk_alloc ?_ _));refine blk_put (cs:=#[.int .i64 0,.string (⟨#[]⟩ : ByteArray),.int .i64 0,.int .i64 0]) ?_ 0 _ rfl;(with_reducible repeat (first|refine blk_drewN ?_ _|refine blk_drew ?_|refine blk_alloc ?_ _));exact BK288.out) hb);have n2_:=Aside0.mk (below_step (by repeat (first|(with_reducible first|exact HB.out|apply below_alloc|apply pw_below_drewN|apply below_drew1|refine below_set ?_ GE274.out|refine below_set ?_ GE288.out)|exact HB.out)) hb);clear BK274;clear BK288;clear HB;have BK274:=n0_;have BK288:=n1_;have HB:=n2_;clear n0_ n1_ n2_;(try clear hb);(try clear hb2);(try clear hk);(try clear hi))|((with_reducible refine gate_dst (N:=11) rfl ?_);refine box_event ?hg (N:=11) ?hd (cs:=#[.int .i64 0,.string (⟨#[]⟩ : ByteArray),.int .i64 0,.int .i64 0]) (t:=39) ?hr ?_;(case hd => rfl);(case hg => rfl);(case hr => first|(go_simp;done)|(go_simp;rfl));intro gb294 hg w32 hbox hb;have n0_:=Aside0.mk (blk_below (g:=gb274) (o:=.cells #[.int .i64 t275,.string t276,.int .i64 t277,.int .i64 t278] 39 (0,0)) (by (with_reducible repeat (first|refine blk_drewN ?_ _|refine blk_drew ?_|refine blk_alloc ?_ _));exact BK274.out) hb);have n1_:=Aside0.mk (blk_below (g:=gb288) (o:=.cells #[.int .i64 t283,.string t284,.int .i64 t285,.int .i64 t286] 39 (0,0)) (by (with_reducible repeat (first|refine blk_drewN ?_ _|refine blk_drew ?_|refine blk_alloc ?_ _));exact BK288.out) hb);have n2_:=Aside0.mk (below_step (by repeat (first|(with_reducible first|exact HB.out|apply below_alloc|apply pw_below_drewN|apply below_drew1|refine below_set ?_ GE274.out|refine below_set ?_ GE288.out)|exact HB.out)) hb);have n3_:=Aside0.mk (hbox);have n4_:=Aside0.mk ((by rw [hg];exact (below_size (by repeat (first|(with_reducible first|exact HB.out|apply below_alloc|apply pw_below_drewN|apply below_drew1|refine below_set ?_ GE274.out|refine below_set ?_ GE288.out)|exact HB.out))) : w.heap.size ≤ gb294));have n5_:=Aside0.mk ((by rw [hg];exact (below_size (by repeat (first|(with_reducible first|exact HB.out|apply below_alloc|apply pw_below_drewN|apply below_drew1|refine below_set ?_ GE274.out|refine below_set ?_ GE288.out)|exact HB.out))) : w.heap.size ≤ gb294));have n6_:=Aside0.mk ((by rw [hg];exact Nat.ne_of_lt (blk_lt (g:=gb274) (o:=.cells #[.int .i64 t275,.string t276,.int .i64 t277,.int .i64 t278] 39 (0,0)) (by (with_reducible repeat (first|refine blk_drewN ?_ _|refine blk_drew ?_|refine blk_alloc ?_ _));exact BK274.out)) : gb274 ≠ gb294));have n7_:=Aside0.mk ((by rw [hg];exact Nat.ne_of_gt (blk_lt (g:=gb274) (o:=.cells #[.int .i64 t275,.string t276,.int .i64 t277,.int .i64 t278] 39 (0,0)) (by (with_reducible repeat (first|refine blk_drewN ?_ _|refine blk_drew ?_|refine blk_alloc ?_ _));exact BK274.out)) : gb294 ≠ gb274));have n8_:=Aside0.mk ((by rw [hg];exact Nat.ne_of_lt (blk_lt (g:=gb288) (o:=.cells #[.int .i64 t283,.string t284,.int .i64 t285,.int .i64 t286] 39 (0,0)) (by (with_reducible repeat (first|refine blk_drewN ?_ _|refine blk_drew ?_|refine blk_alloc ?_ _));exact BK288.out)) : gb288 ≠ gb294));have n9_:=Aside0.mk ((by rw [hg];exact Nat.ne_of_gt (blk_lt (g:=gb288) (o:=.cells #[.int .i64 t283,.string t284,.int .i64 t285,.int .i64 t286] 39 (0,0)) (by (with_reducible repeat (first|refine blk_drewN ?_ _|refine blk_drew ?_|refine blk_alloc ?_ _));exact BK288.out)) : gb294 ≠ gb288));clear BK274;clear BK288;clear HB;have BK274:=n0_;have BK288:=n1_;have HB:=n2_;have BK294:=n3_;have GW294:=n4_;have GE294:=n5_;have NB274_294:=n6_;have NB294_274:=n7_;have NB288_294:=n8_;have NB294_288:=n9_;clear n0_ n1_ n2_ n3_ n4_ n5_ n6_ n7_ n8_ n9_;clear hb hbox hg;have hnb33:=NB294_274.out;have hnc33:=NB274_294.out;have hnb34:=NB294_288.out;have hnc34:=NB288_294.out;have hcz35_0 : w32.cell? ⟨gb294,0,none⟩ = some (.int .i64 0):=(blk_cell BK294.out 0).trans rfl;have hcz35_1 : w32.cell? ⟨gb294,1,none⟩ = some (.string (⟨#[]⟩ : ByteArray)):=(blk_cell BK294.out 1).trans rfl;have hcz35_2 : w32.cell? ⟨gb294,2,none⟩ = some (.int .i64 0):=(blk_cell BK294.out 2).trans rfl;have hcz35_3 : w32.cell? ⟨gb294,3,none⟩ = some (.int .i64 0):=(blk_cell BK294.out 3).trans rfl;have hfz35_0:=blk_frozen BK294.out 0;have hfz35_1:=blk_frozen BK294.out 1;have hfz35_2:=blk_frozen BK294.out 2;have hfz35_3:=blk_frozen BK294.out 3;have hcz36_0 : w32.cell? ⟨gb288,0,none⟩ = some (.int .i64 t283):=(blk_cell BK288.out 0).trans rfl;have hcz36_1 : w32.cell? ⟨gb288,1,none⟩ = some (.string t284):=(blk_cell BK288.out 1).trans rfl;have hcz36_2 : w32.cell? ⟨gb288,2,none⟩ = some (.int .i64 t285):=(blk_cell BK288.out 2).trans rfl;have hcz36_3 : w32.cell? ⟨gb288,3,none⟩ = some (.int .i64 t286):=(blk_cell BK288.out 3).trans rfl;have hfz36_0:=blk_frozen BK288.out 0;have hfz36_1:=blk_frozen BK288.out 1;have hfz36_2:=blk_frozen BK288.out 2;have hfz36_3:=blk_frozen BK288.out 3)|(go_at_call 11;(with_reducible refine (racewaylaw27_works.calls k  t295 _ A15.out).mono ?_);rintro e w37 ⟨rfl,hb⟩;have n0_:=Aside0.mk (blk_below (g:=gb274) (o:=.cells #[.int .i64 t275,.string t276,.int .i64 t277,.int .i64 t278] 39 (0,0)) (by (with_reducible repeat (first|refine blk_drewN ?_ _|refine blk_drew ?_|refine blk_alloc ?_ _));refine blk_far ?_ NB274_294.out _;(with_reducible repeat (first|refine blk_drewN ?_ _|refine blk_drew ?_|refine blk_alloc ?_ _));refine blk_far ?_ NB274_294.out _;(with_reducible repeat (first|refine blk_drewN ?_ _|refine blk_drew ?_|refine blk_alloc ?_ _));refine blk_far ?_ NB274_294.out _;(with_reducible repeat (first|refine blk_drewN ?_ _|refine blk_drew ?_|refine blk_alloc ?_ _));refine blk_far ?_ NB274_294.out _;(with_reducible repeat (first|refine blk_drewN ?_ _|refine blk_drew ?_|refine blk_alloc ?_ _));exact BK274.out) hb);have n1_:=Aside0.mk (blk_below (g:=gb288) (o:=.cells #[.int .i64 t283,.string t284,.int .i64 t285,.int .i64 t286] 39 (0,0)) (by (with_reducible repeat (first|refine blk_drewN ?_ _|refine blk_drew ?_|refine blk_alloc ?_ _));refine blk_far ?_ NB288_294.out _;(with_reducible repeat (first|refine blk_drewN ?_ _|refine blk_drew ?_|refine blk_alloc ?_ _));refine blk_far ?_ NB288_294.out _;(with_reducible repeat (first|refine blk_drewN ?_ _|refine blk_drew ?_|refine blk_alloc ?_ _));refine blk_far ?_ NB288_294.out _;(with_reducible repeat (first|refine blk_drewN ?_ _|refine blk_drew ?_|refine blk_alloc ?_ _));refine blk_far ?_ NB288_294.out _;(with_reducible repeat (first|refine blk_drewN ?_ _|refine blk_drew ?_|refine blk_alloc ?_ _));exact BK288.out) hb);have n2_:=Aside0.mk (blk_below (g:=gb294) (o:=.cells #[.int .i64 t289,.string t290,.int .i64 t291,.int .i64 t292] 39 (0,0)) (by (with_reducible repeat (first|refine blk_drewN ?_ _|refine blk_drew ?_|refine blk_alloc ?_ _));refine blk_put (cs:=#[.int .i64 t289,.string t290,.int .i64 t291,.int .i64 0]) ?_ 3 _ rfl;(with_reducible repeat (first|refine blk_drewN ?_ _|refine blk_drew ?_|refine blk_alloc ?_ _));refine blk_put (cs:=#[.int .i64 t289,.string t290,.int .i64 0,.int .i64 0]) ?_ 2 _ rfl;(with_reducible repeat (first|refine blk_drewN ?_ _|refine blk_drew ?_|refine blk_alloc ?_ _));refine blk_put (cs:=#[.int .i64 t289,.string (⟨#[]⟩ : ByteArray),.int .i64 0,.int .i64 0]) ?_ 1 _ rfl;(with_reducible repeat (first|refine blk_drewN ?_ _|refine blk_drew ?_|refine blk_alloc ?_ _));refine blk_put (cs:=#[.int .i64 0,.string (⟨#[]⟩ : ByteArray),.int .i64 0,.int .i64 0]) ?_ 0 _ rfl;(with_reducible repeat (first|refine blk_drewN ?_ _|refine blk_drew ?_|refine blk_alloc ?_ _));exact BK294.out) hb);have n3_:=Aside0.mk (below_step (by repeat (first|(with_reducible first|exact HB.out|apply below_alloc|apply pw_below_drewN|apply below_drew1|refine below_set ?_ GE274.out|refine below_set ?_ GE288.out|refine below_set ?_ GE294.out)|exact HB.out)) hb);clear BK274;clear BK288;clear BK294;clear HB;have BK274:=n0_;have BK288:=n1_;have BK294:=n2_;have HB:=n3_;clear n0_ n1_ n2_ n3_;(try clear hb);(try clear hb2);(try clear hk);(try clear hi)))
       go_ret
       exact ⟨by first|rfl|(simp [errW_none,errW_some] <;> rfl)|(simp only [← hji4];first|rfl|(simp [errW_none,errW_some] <;> rfl))|(simp [*,errW_none,errW_some] <;> rfl),by repeat (first|(with_reducible first|exact HB.out|apply below_alloc|apply pw_below_drewN|apply below_drew1|refine below_set ?_ GE274.out|refine below_set ?_ GE288.out|refine below_set ?_ GE294.out)|exact HB.out)⟩
      ·rw [if_neg c14] at H
       have c14b0 : (t287 == t293) = false:=beq_eq_false_iff_ne.mpr c14
       have c14b1 : (t287 != t293) = true:=bne_iff_ne.mpr c14
       obtain rfl:=Option.some.inj H
       go_enter Tryd.func6,Tryd.ntmps6
       try go_wp2_with (first|((with_reducible refine gate_dst (N:=2) rfl ?_);refine box_event ?hg (N:=2) ?hd (cs:=#[.int .i64 a0_0,.string a0_1,.int .i64 a0_2,.int .i64 a0_3]) (t:=39) ?hr ?_;(case hd => rfl);(case hg => rfl);(case hr => first|(go_simp;done)|(go_simp;rfl));intro gb274 hg w38 hbox hb;have n0_:=Aside0.mk (below_step (by repeat (first|(with_reducible first|exact HB.out|apply below_alloc|apply pw_below_drewN|apply below_drew1)|exact HB.out)) hb);have n1_:=Aside0.mk (hbox);have n2_:=Aside0.mk ((by rw [hg];exact (below_size (by repeat (first|(with_reducible first|exact HB.out|apply below_alloc|apply pw_below_drewN|apply below_drew1)|exact HB.out))) : w.heap.size ≤ gb274));have n3_:=Aside0.mk ((by rw [hg];exact (below_size (by repeat (first|(with_reducible first|exact HB.out|apply below_alloc|apply pw_below_drewN|apply below_drew1)|exact HB.out))) : w.heap.size ≤ gb274));clear HB;have HB:=n0_;have BK274:=n1_;have GW274:=n2_;have GE274:=n3_;clear n0_ n1_ n2_ n3_;clear hb hbox hg))
       have n0_:=Aside0.mk (blk_drew BK274.out)
       have n1_:=Aside0.mk (below_drew1 HB.out)
       clear BK274
       clear HB
       have BK274:=n0_
       have HB:=n1_
       clear n0_ n1_
       refine start_ (n:=9) (S:=fun w' => w'.cell? ⟨gb274,0,none⟩ = some (.int .i64 a0_0) ∧ w'.cell? ⟨gb274,1,none⟩ = some (.string a0_1) ∧ w'.cell? ⟨gb274,2,none⟩ = some (.int .i64 a0_2) ∧ w'.cell? ⟨gb274,3,none⟩ = some (.int .i64 a0_3)) (ds:=[7]) #[false,false,false,false,false,false,false,false,false] (by kernel_rfl) rfl rfl ⟨(blk_cell BK274.out 0).trans rfl,(blk_cell BK274.out 1).trans rfl,(blk_cell BK274.out 2).trans rfl,(blk_cell BK274.out 3).trans rfl⟩ (fun hHeld => ?_);refine with_tabW racewaylaw27_TicketHandles.tab1 racewaylaw27_TicketHandles.bits1 (fun HT_ HW_ => ?_)
       generalize w38.drew = w39 at BK274 HB hHeld ⊢
       refine pure_ (i:=2) (N:=some 15) (v:=?_) (a':=?_) #[false,false,true,false,false,false,false,false,false] rfl rfl (any_of HT_.out (by kernel_rfl)) (fun _ _ _ h => h) (Or.inl ⟨by rfl,?_⟩) ?_ ?_
       rotate_left
       ·intro w'
        go_simp
        with_reducible rfl
       rotate_left
       ·simp only [Act.put,List.setIfInBounds_toArray,List.set_cons_zero,List.set_cons_succ,i64_w,i32_w]
        rfl
       refine pure_ (i:=3) (N:=some 16) (v:=?_) (a':=?_) #[false,false,true,true,false,false,false,false,false] rfl rfl (any_of HT_.out (by kernel_rfl)) (fun _ _ _ h => h) (Or.inl ⟨by rfl,?_⟩) ?_ ?_
       rotate_left
       ·intro w'
        go_simp
        with_reducible rfl
       rotate_left
       ·simp only [Act.put,List.setIfInBounds_toArray,List.set_cons_zero,List.set_cons_succ,i64_w,i32_w]
        rfl
       refine pure_ (i:=4) (N:=some 17) (v:=?_) (a':=?_) #[false,false,true,true,true,false,false,false,false] rfl rfl (any_of HT_.out (by kernel_rfl)) (fun _ _ _ h => h) (Or.inl ⟨by rfl,?_⟩) ?_ ?_
       rotate_left
       ·intro w'
        go_simp
        with_reducible rfl
       rotate_left
       ·simp only [Act.put,List.setIfInBounds_toArray,List.set_cons_zero,List.set_cons_succ,i64_w,i32_w]
        rfl
       refine pure_ (i:=5) (N:=some 18) (v:=?_) (a':=?_) #[false,false,true,true,true,true,false,false,false] rfl rfl (any_of HT_.out (by kernel_rfl)) (fun _ _ _ h => h) (Or.inl ⟨by rfl,?_⟩) ?_ ?_
       rotate_left
       ·intro w'
        go_simp
        with_reducible rfl
       rotate_left
       ·simp only [Act.put,List.setIfInBounds_toArray,List.set_cons_zero,List.set_cons_succ,i64_w,i32_w]
        rfl
       refine pure_ (i:=6) (N:=some 19) (v:=?_) (a':=?_) #[false,false,true,true,true,true,true,false,false] rfl rfl (any_of HT_.out (by kernel_rfl)) (fun _ _ _ h => h) (Or.inl ⟨by rfl,?_⟩) ?_ ?_
       rotate_left
       ·intro w'
        go_simp
        with_reducible rfl
       rotate_left
       ·simp only [Act.put,List.setIfInBounds_toArray,List.set_cons_zero,List.set_cons_succ,i64_w,i32_w]
        rfl
       refine take_ (i:=0) (N:=some 13) (v:=?_) (a':=?_) #[true,false,true,true,true,true,true,false,false] rfl rfl (take_ofW HT_.out HW_.out (by kernel_rfl)) (fun _ _ _ h => h) (Or.inl ⟨by rfl,?_⟩) hHeld ?_ ?_
       rotate_left
       ·rintro w' ⟨s0,s1,s2,s3⟩
        go_simp
        with_reducible rfl
       rotate_left
       ·simp only [Act.put,List.setIfInBounds_toArray,List.set_cons_zero,List.set_cons_succ,i64_w,i32_w]
        rfl
       refine one_ (i:=1) (N:=some 14) #[true,true,true,true,true,true,true,false,false] rfl rfl (one_of HT_.out (by kernel_rfl)) (by decide) (fun K hK => ?_)
       refine goes_ Tryd.func19 (by kernel_rfl) rfl #[.agg #[.int .i64 a0_0,.string a0_1,.int .i64 a0_2,.int .i64 a0_3]] (by rfl) rfl rfl (by (try simp only [List.map_toArray,List.map_cons,List.map_nil]);first|done|rfl|(simp only [List.length_drop,List.length_take];rfl)) ?_
       with_reducible refine (racewaylaw27_few.calls a0_0 a0_1 a0_2 a0_3 t275 t276 t277 t278 _ A3.out).mono ?_
       rintro e w40 ⟨rfl,hb⟩
       refine ⟨_,rfl,?_⟩
       have n0_:=Aside0.mk (blk_below (g:=gb274) (o:=.cells #[.int .i64 a0_0,.string a0_1,.int .i64 a0_2,.int .i64 a0_3] 39 (0,0)) (by (with_reducible repeat (first|refine blk_drewN ?_ _|refine blk_drew ?_|refine blk_alloc ?_ _));exact BK274.out) hb)
       have n1_:=Aside0.mk (below_step (by repeat (first|(with_reducible first|exact HB.out|apply below_alloc|apply pw_below_drewN|apply below_drew1|refine below_set ?_ GE274.out)|exact HB.out)) hb)
       clear BK274
       clear HB
       have BK274:=n0_
       have HB:=n1_
       clear n0_ n1_
       (try clear hb)
       (try clear hb2)
       (try clear hk)
       (try clear hi)
       refine hK.out _ _ ⟨(blk_cell BK274.out 0).trans rfl,(blk_cell BK274.out 1).trans rfl,(blk_cell BK274.out 2).trans rfl,(blk_cell BK274.out 3).trans rfl⟩ (fun hHeld => ?_)
       clear hK K
       refine norm_ (a':=?_) ?_ ?_
       rotate_left
       ·show Act.put _ (some 14) _ = _
        simp only [Act.put,List.setIfInBounds_toArray,List.set_cons_zero,List.set_cons_succ,i64_w,i32_w]
        rfl
       refine last_ (i:=7) (N:=none) #[true,true,true,true,true,true,true,true,false] rfl rfl (one_of HT_.out (by kernel_rfl)) (by decide) (fun K hK => ?_)
       have hs41 : w40.cell? ⟨gb274,0,none⟩ = some (.int .i64 a0_0):=(blk_cell BK274.out 0).trans rfl
       have hfs41:=blk_frozen BK274.out 0
       have hs42 : w40.cell? ⟨gb274,1,none⟩ = some (.string a0_1):=(blk_cell BK274.out 1).trans rfl
       have hfs42:=blk_frozen BK274.out 1
       have hs43 : w40.cell? ⟨gb274,2,none⟩ = some (.int .i64 a0_2):=(blk_cell BK274.out 2).trans rfl
       have hfs43:=blk_frozen BK274.out 2
       have hs44 : w40.cell? ⟨gb274,3,none⟩ = some (.int .i64 a0_3):=(blk_cell BK274.out 3).trans rfl
       have hfs44:=blk_frozen BK274.out 3
       refine skip_ (w1:=?_) (by rfl) rfl ?_ ?_
       rotate_left
       ·go_simp
        rfl
       refine hK.out _ _ ?_
       clear hK K
       refine pure_ (i:=8) (N:=some 1) (v:=?_) (a':=?_) #[true,true,true,true,true,true,true,true,true] rfl rfl (any_of HT_.out (by kernel_rfl)) (fun _ _ _ h => h) (Or.inl ⟨by rfl,?_⟩) ?_ ?_
       rotate_left
       ·intro w'
        go_simp
        with_reducible rfl
       rotate_left
       ·simp only [Act.put,List.setIfInBounds_toArray,List.set_cons_zero,List.set_cons_succ,i64_w,i32_w]
        rfl
       refine done_ (done_of HT_.out (by kernel_rfl)) ?_
       have hcz45_0 : w40.cell? ⟨gb274,0,none⟩ = some (.int .i64 a0_0):=(blk_cell BK274.out 0).trans rfl
       have hcz45_1 : w40.cell? ⟨gb274,1,none⟩ = some (.string a0_1):=(blk_cell BK274.out 1).trans rfl
       have hcz45_2 : w40.cell? ⟨gb274,2,none⟩ = some (.int .i64 a0_2):=(blk_cell BK274.out 2).trans rfl
       have hcz45_3 : w40.cell? ⟨gb274,3,none⟩ = some (.int .i64 a0_3):=(blk_cell BK274.out 3).trans rfl
       have hfz45_0:=blk_frozen BK274.out 0
       have hfz45_1:=blk_frozen BK274.out 1
       have hfz45_2:=blk_frozen BK274.out 2
       have hfz45_3:=blk_frozen BK274.out 3
       try go_wp2_with (first|((with_reducible refine gate_callee (f:=20) rfl ?_);refine goesL_ (some 22) rfl rfl Tryd.func20 (by kernel_rfl) rfl #[.agg #[.int .i64 t275,.string t276,.int .i64 t277,.int .i64 t278]] rfl (by (try simp only [List.map_toArray,List.map_cons,List.map_nil]);first|done|rfl|(simp only [List.length_drop,List.length_take];rfl)) ?_;(with_reducible refine (ticket_Handle.calls k t275 t276 t277 t278 t279 t280 _ ?side1 A7.out).mono ?_);(case side1 => first|exact HGCr.out|exact GlobCr.below HGCr.out (by repeat (first|(with_reducible first|exact HB.out|apply below_alloc|apply pw_below_drewN|apply below_drew1|refine below_set ?_ GE274.out)|exact HB.out))|exact GlobCr.drawn HGCr.out (by repeat (first|exact Drawn0.refl _|apply Drawn0.step)));rintro e w46 ⟨rfl,hb⟩;refine ⟨_,rfl,?_⟩;have n0_:=Aside0.mk (blk_below (g:=gb274) (o:=.cells #[.int .i64 t275,.string t276,.int .i64 t277,.int .i64 t278] 39 (0,0)) (by (with_reducible repeat (first|refine blk_drewN ?_ _|refine blk_drew ?_|refine blk_alloc ?_ _));refine blk_put (cs:=#[.int .i64 t275,.string t276,.int .i64 t277,.int .i64 a0_3]) ?_ 3 _ rfl;(with_reducible repeat (first|refine blk_drewN ?_ _|refine blk_drew ?_|refine blk_alloc ?_ _));refine blk_put (cs:=#[.int .i64 t275,.string t276,.int .i64 a0_2,.int .i64 a0_3]) ?_ 2 _ rfl;(with_reducible repeat (first|refine blk_drewN ?_ _|refine blk_drew ?_|refine blk_alloc ?_ _));refine blk_put (cs:=#[.int .i64 t275,.string a0_1,.int .i64 a0_2,.int .i64 a0_3]) ?_ 1 _ rfl;(with_reducible repeat (first|refine blk_drewN ?_ _|refine blk_drew ?_|refine blk_alloc ?_ _));refine blk_put (cs:=#[.int .i64 a0_0,.string a0_1,.int .i64 a0_2,.int .i64 a0_3]) ?_ 0 _ rfl;(with_reducible repeat (first|refine blk_drewN ?_ _|refine blk_drew ?_|refine blk_alloc ?_ _));exact BK274.out) hb);have n1_:=Aside0.mk (below_step (by repeat (first|(with_reducible first|exact HB.out|apply below_alloc|apply pw_below_drewN|apply below_drew1|refine below_set ?_ GE274.out)|exact HB.out)) hb);clear BK274;clear HB;have BK274:=n0_;have HB:=n1_;clear n0_ n1_;(try clear hb);(try clear hb2);(try clear hk);(try clear hi);have hcz47_0 : w46.cell? ⟨gb274,0,none⟩ = some (.int .i64 t275):=(blk_cell BK274.out 0).trans rfl;have hcz47_1 : w46.cell? ⟨gb274,1,none⟩ = some (.string t276):=(blk_cell BK274.out 1).trans rfl;have hcz47_2 : w46.cell? ⟨gb274,2,none⟩ = some (.int .i64 t277):=(blk_cell BK274.out 2).trans rfl;have hcz47_3 : w46.cell? ⟨gb274,3,none⟩ = some (.int .i64 t278):=(blk_cell BK274.out 3).trans rfl;have hfz47_0:=blk_frozen BK274.out 0;have hfz47_1:=blk_frozen BK274.out 1;have hfz47_2:=blk_frozen BK274.out 2;have hfz47_3:=blk_frozen BK274.out 3)|((with_reducible refine gate_callee (f:=21) rfl ?_);refine goesL_ (some 27) rfl rfl Tryd.func21 (by kernel_rfl) rfl #[.agg #[.int .i64 t275,.string t276,.int .i64 t277,.int .i64 t278]] rfl (by (try simp only [List.map_toArray,List.map_cons,List.map_nil]);first|done|rfl|(simp only [List.length_drop,List.length_take];rfl)) ?_;(with_reducible refine (racewayref27_Handle.calls k t275 t276 t277 t278 t281 t282 _ A8.out).mono ?_);rintro e w48 ⟨rfl,hb⟩;refine ⟨_,rfl,?_⟩;have n0_:=Aside0.mk (blk_below (g:=gb274) (o:=.cells #[.int .i64 t275,.string t276,.int .i64 t277,.int .i64 t278] 39 (0,0)) (by (with_reducible repeat (first|refine blk_drewN ?_ _|refine blk_drew ?_|refine blk_alloc ?_ _));exact BK274.out) hb);have n1_:=Aside0.mk (below_step (by repeat (first|(with_reducible first|exact HB.out|apply below_alloc|apply pw_below_drewN|apply below_drew1|refine below_set ?_ GE274.out)|exact HB.out)) hb);clear BK274;clear HB;have BK274:=n0_;have HB:=n1_;clear n0_ n1_;(try clear hb);(try clear hb2);(try clear hk);(try clear hi))|((with_reducible refine gate_callee (f:=22) rfl ?_);refine goesL_ (some 32) rfl rfl Tryd.func22 (by kernel_rfl) rfl #[.string (a1.extract 0 ((ji4) : Int).toNat)] rfl (by (try simp only [List.map_toArray,List.map_cons,List.map_nil]);first|done|(simp only [hji4];rfl)|rfl|(simp only [List.length_drop,List.length_take];rfl)) ?_;(with_reducible refine (ticket_Open.calls (a1.extract 0 ((ji4) : Int).toNat) t283 t284 t285 t286 t287 _ ?side1 A9.out).mono ?_);(case side1 => first|exact HGCr.out|exact GlobCr.below HGCr.out (by repeat (first|(with_reducible first|exact HB.out|apply below_alloc|apply pw_below_drewN|apply below_drew1|refine below_set ?_ GE274.out)|exact HB.out))|exact GlobCr.drawn HGCr.out (by repeat (first|exact Drawn0.refl _|apply Drawn0.step)));rintro e w49 ⟨rfl,hb⟩;refine ⟨_,rfl,?_⟩;have n0_:=Aside0.mk (blk_below (g:=gb274) (o:=.cells #[.int .i64 t275,.string t276,.int .i64 t277,.int .i64 t278] 39 (0,0)) (by (with_reducible repeat (first|refine blk_drewN ?_ _|refine blk_drew ?_|refine blk_alloc ?_ _));exact BK274.out) hb);have n1_:=Aside0.mk (below_step (by repeat (first|(with_reducible first|exact HB.out|apply below_alloc|apply pw_below_drewN|apply below_drew1|refine below_set ?_ GE274.out)|exact HB.out)) hb);clear BK274;clear HB;have BK274:=n0_;have HB:=n1_;clear n0_ n1_;(try clear hb);(try clear hb2);(try clear hk);(try clear hi))|((with_reducible refine gate_dst (N:=9) rfl ?_);refine box_event ?hg (N:=9) ?hd (cs:=#[.int .i64 0,.string (⟨#[]⟩ : ByteArray),.int .i64 0,.int .i64 0]) (t:=39) ?hr ?_;(case hd => rfl);(case hg => rfl);(case hr => first|(go_simp;done)|(go_simp;rfl));intro gb288 hg w50 hbox hb;have n0_:=Aside0.mk (blk_below (g:=gb274) (o:=.cells #[.int .i64 t275,.string t276,.int .i64 t277,.int .i64 t278] 39 (0,0)) (by (with_reducible repeat (first|refine blk_drewN ?_ _|refine blk_drew ?_|refine blk_alloc ?_ _));exact BK274.out) hb);have n1_:=Aside0.mk (below_step (by repeat (first|(with_reducible first|exact HB.out|apply below_alloc|apply pw_below_drewN|apply below_drew1|refine below_set ?_ GE274.out)|exact HB.out)) hb);have n2_:=Aside0.mk (hbox);have n3_:=Aside0.mk ((by rw [hg];exact (below_size (by repeat (first|(with_reducible first|exact HB.out|apply below_alloc|apply pw_below_drewN|apply below_drew1|refine below_set ?_ GE274.out)|exact HB.out))) : w.heap.size ≤ gb288));have n4_:=Aside0.mk ((by rw [hg];exact (below_size (by repeat (first|(with_reducible first|exact HB.out|apply below_alloc|apply pw_below_drewN|apply below_drew1|refine below_set ?_ GE274.out)|exact HB.out))) : w.heap.size ≤ gb288));have n5_:=Aside0.mk ((by rw [hg];exact Nat.ne_of_lt (blk_lt (g:=gb274) (o:=.cells #[.int .i64 t275,.string t276,.int .i64 t277,.int .i64 t278] 39 (0,0)) (by (with_reducible repeat (first|refine blk_drewN ?_ _|refine blk_drew ?_|refine blk_alloc ?_ _));exact BK274.out)) : gb274 ≠ gb288));have n6_:=Aside0.mk ((by rw [hg];exact Nat.ne_of_gt (blk_lt (g:=gb274) (o:=.cells #[.int .i64 t275,.string t276,.int .i64 t277,.int .i64 t278] 39 (0,0)) (by (with_reducible repeat (first|refine blk_drewN ?_ _|refine blk_drew ?_|refine blk_alloc ?_ _));exact BK274.out)) : gb288 ≠ gb274));clear BK274;clear HB;have BK274:=n0_;have HB:=n1_;have BK288:=n2_;have GW288:=n3_;have GE288:=n4_;have NB274_288:=n5_;have NB288_274:=n6_;clear n0_ n1_ n2_ n3_ n4_ n5_ n6_;clear hb hbox hg;have hnb51:=NB288_274.out;have hnc51:=NB274_288.out;have hcz52_0 : w50.cell? ⟨gb288,0,none⟩ = some (.int .i64 0):=(blk_cell BK288.out 0).trans rfl;have hcz52_1 : w50.cell? ⟨gb288,1,none⟩ = some (.string (⟨#[]⟩ : ByteArray)):=(blk_cell BK288.out 1).trans rfl;have hcz52_2 : w50.cell? ⟨gb288,2,none⟩ = some (.int .i64 0):=(blk_cell BK288.out 2).trans rfl;have hcz52_3 : w50.cell? ⟨gb288,3,none⟩ = some (.int .i64 0):=(blk_cell BK288.out 3).trans rfl;have hfz52_0:=blk_frozen BK288.out 0;have hfz52_1:=blk_frozen BK288.out 1;have hfz52_2:=blk_frozen BK288.out 2;have hfz52_3:=blk_frozen BK288.out 3)|((with_reducible refine gate_callee (f:=23) rfl ?_);refine goesL_ (some 37) rfl rfl Tryd.func23 (by kernel_rfl) rfl #[.string (a1.extract 0 ((ji4) : Int).toNat)] rfl (by (try simp only [List.map_toArray,List.map_cons,List.map_nil]);first|done|(simp only [hji4];rfl)|rfl|(simp only [List.length_drop,List.length_take];rfl)) ?_;(with_reducible refine (racewayref27_Open.calls k (a1.extract 0 ((ji4) : Int).toNat) t289 t290 t291 t292 t293 _ A10.out).mono ?_);rintro e w53 ⟨rfl,hb⟩;refine ⟨_,rfl,?_⟩;have n0_:=Aside0.mk (blk_below (g:=gb274) (o:=.cells #[.int .i64 t275,.string t276,.int .i64 t277,.int .i64 t278] 39 (0,0)) (by (with_reducible repeat (first|refine blk_drewN ?_ _|refine blk_drew ?_|refine blk_alloc ?_ _));refine blk_far ?_ NB274_288.out _;(with_reducible repeat (first|refine blk_drewN ?_ _|refine blk_drew ?_|refine blk_alloc ?_ _));refine blk_far ?_ NB274_288.out _;(with_reducible repeat (first|refine blk_drewN ?_ _|refine blk_drew ?_|refine blk_alloc ?_ _));refine blk_far ?_ NB274_288.out _;(with_reducible repeat (first|refine blk_drewN ?_ _|refine blk_drew ?_|refine blk_alloc ?_ _));refine blk_far ?_ NB274_288.out _;(with_reducible repeat (first|refine blk_drewN ?_ _|refine blk_drew ?_|refine blk_alloc ?_ _));exact BK274.out) hb);have n1_:=Aside0.mk (blk_below (g:=gb288) (o:=.cells #[.int .i64 t283,.string t284,.int .i64 t285,.int .i64 t286] 39 (0,0)) (by (with_reducible repeat (first|refine blk_drewN ?_ _|refine blk_drew ?_|refine blk_alloc ?_ _));refine blk_put (cs:=#[.int .i64 t283,.string t284,.int .i64 t285,.int .i64 0]) ?_ 3 _ rfl;(with_reducible repeat (first|refine blk_drewN ?_ _|refine blk_drew ?_|refine blk_alloc ?_ _));refine blk_put (cs:=#[.int .i64 t283,.string t284,.int .i64 0,.int .i64 0]) ?_ 2 _ rfl;(with_reducible repeat (first|refine blk_drewN ?_ _|refine blk_drew ?_|refine blk_alloc ?_ _));refine blk_put (cs:=#[.int .i64 t283,.string (⟨#[]⟩ : ByteArray),.int .i64 0,.int .i64 0]) ?_ 1 _ rfl;(with_reducible repeat (first|refine blk_drewN ?_ _|refine blk_drew ?_|refine blk_alloc ?_ _));refine blk_put (cs:=#[.int .i64 0,.string (⟨#[]⟩ : ByteArray),.int .i64 0,.int .i64 0]) ?_ 0 _ rfl;(with_reducible repeat (first|refine blk_drewN ?_ _|refine blk_drew ?_|refine blk_alloc ?_ _));exact BK288.out) hb);have n2_:=Aside0.mk (below_step (by repeat (first|(with_reducible first|exact HB.out|apply below_alloc|apply pw_below_drewN|apply below_drew1|refine below_set ?_ GE274.out|refine below_set ?_ GE288.out)|exact HB.out)) hb);clear BK274;clear BK288;clear HB;have BK274:=n0_;have BK288:=n1_;have HB:=n2_;clear n0_ n1_ n2_;(try clear hb);(try clear hb2);(try clear hk);(try clear hi))|((with_reducible refine gate_dst (N:=11) rfl ?_);refine box_event ?hg (N:=11) ?hd (cs:=#[.int .i64 0,.string (⟨#[]⟩ : ByteArray),.int .i64 0,.int .i64 0]) (t:=39) ?hr ?_;(case hd => rfl);(case hg => rfl);(case hr => first|(go_simp;done)|(go_simp;rfl));intro gb294 hg w54 hbox hb;have n0_:=Aside0.mk (blk_below (g:=gb274) (o:=.cells #[.int .i64 t275,.string t276,.int .i64 t277,.int .i64 t278] 39 (0,0)) (by (with_reducible repeat (first|refine blk_drewN ?_ _|refine blk_drew ?_|refine blk_alloc ?_ _));exact BK274.out) hb);have n1_:=Aside0.mk (blk_below (g:=gb288) (o:=.cells #[.int .i64 t283,.string t284,.int .i64 t285,.int .i64 t286] 39 (0,0)) (by (with_reducible repeat (first|refine blk_drewN ?_ _|refine blk_drew ?_|refine blk_alloc ?_ _));exact BK288.out) hb);have n2_:=Aside0.mk (below_step (by repeat (first|(with_reducible first|exact HB.out|apply below_alloc|apply pw_below_drewN|apply below_drew1|refine below_set ?_ GE274.out|refine below_set ?_ GE288.out)|exact HB.out)) hb);have n3_:=Aside0.mk (hbox);have n4_:=Aside0.mk ((by rw [hg];exact (below_size (by repeat (first|(with_reducible first|exact HB.out|apply below_alloc|apply pw_below_drewN|apply below_drew1|refine below_set ?_ GE274.out|refine below_set ?_ GE288.out)|exact HB.out))) : w.heap.size ≤ gb294));have n5_:=Aside0.mk ((by rw [hg];exact (below_size (by repeat (first|(with_reducible first|exact HB.out|apply below_alloc|apply pw_below_drewN|apply below_drew1|refine below_set ?_ GE274.out|refine below_set ?_ GE288.out)|exact HB.out))) : w.heap.size ≤ gb294));have n6_:=Aside0.mk ((by rw [hg];exact Nat.ne_of_lt (blk_lt (g:=gb274) (o:=.cells #[.int .i64 t275,.string t276,.int .i64 t277,.int .i64 t278] 39 (0,0)) (by (with_reducible repeat (first|refine blk_drewN ?_ _|refine blk_drew ?_|refine blk_alloc ?_ _));exact BK274.out)) : gb274 ≠ gb294));have n7_:=Aside0.mk ((by rw [hg];exact Nat.ne_of_gt (blk_lt (g:=gb274) (o:=.cells #[.int .i64 t275,.string t276,.int .i64 t277,.int .i64 t278] 39 (0,0)) (by (with_reducible repeat (first|refine blk_drewN ?_ _|refine blk_drew ?_|refine blk_alloc ?_ _));exact BK274.out)) : gb294 ≠ gb274));have n8_:=Aside0.mk ((by rw [hg];exact Nat.ne_of_lt (blk_lt (g:=gb288) (o:=.cells #[.int .i64 t283,.string t284,.int .i64 t285,.int .i64 t286] 39 (0,0)) (by (with_reducible repeat (first|refine blk_drewN ?_ _|refine blk_drew ?_|refine blk_alloc ?_ _));exact BK288.out)) : gb288 ≠ gb294));have n9_:=Aside0.mk ((by rw [hg];exact Nat.ne_of_gt (blk_lt (g:=gb288) (o:=.cells #[.int .i64 t283,.string t284,.int .i64 t285,.int .i64 t286] 39 (0,0)) (by (with_reducible repeat (first|refine blk_drewN ?_ _|refine blk_drew ?_|refine blk_alloc ?_ _));exact BK288.out)) : gb294 ≠ gb288));clear BK274;clear BK288;clear HB;have BK274:=n0_;have BK288:=n1_;have HB:=n2_;have BK294:=n3_;have GW294:=n4_;have GE294:=n5_;have NB274_294:=n6_;have NB294_274:=n7_;have NB288_294:=n8_;have NB294_288:=n9_;clear n0_ n1_ n2_ n3_ n4_ n5_ n6_ n7_ n8_ n9_;clear hb hbox hg;have hnb55:=NB294_274.out;have hnc55:=NB274_294.out;have hnb56:=NB294_288.out;have hnc56:=NB288_294.out;have hcz57_0 : w54.cell? ⟨gb294,0,none⟩ = some (.int .i64 0):=(blk_cell BK294.out 0).trans rfl;have hcz57_1 : w54.cell? ⟨gb294,1,none⟩ = some (.string (⟨#[]⟩ : ByteArray)):=(blk_cell BK294.out 1).trans rfl;have hcz57_2 : w54.cell? ⟨gb294,2,none⟩ = some (.int .i64 0):=(blk_cell BK294.out 2).trans rfl;have hcz57_3 : w54.cell? ⟨gb294,3,none⟩ = some (.int .i64 0):=(blk_cell BK294.out 3).trans rfl;have hfz57_0:=blk_frozen BK294.out 0;have hfz57_1:=blk_frozen BK294.out 1;have hfz57_2:=blk_frozen BK294.out 2;have hfz57_3:=blk_frozen BK294.out 3;have hcz58_0 : w54.cell? ⟨gb288,0,none⟩ = some (.int .i64 t283):=(blk_cell BK288.out 0).trans rfl;have hcz58_1 : w54.cell? ⟨gb288,1,none⟩ = some (.string t284):=(blk_cell BK288.out 1).trans rfl;have hcz58_2 : w54.cell? ⟨gb288,2,none⟩ = some (.int .i64 t285):=(blk_cell BK288.out 2).trans rfl;have hcz58_3 : w54.cell? ⟨gb288,3,none⟩ = some (.int .i64 t286):=(blk_cell BK288.out 3).trans rfl;have hfz58_0:=blk_frozen BK288.out 0;have hfz58_1:=blk_frozen BK288.out 1;have hfz58_2:=blk_frozen BK288.out 2;have hfz58_3:=blk_frozen BK288.out 3))
       go_ret
       exact ⟨by first|rfl|(simp [errW_none,errW_some] <;> rfl)|(simp only [← hji4];first|rfl|(simp [errW_none,errW_some] <;> rfl))|(simp [*,errW_none,errW_some] <;> rfl),by repeat (first|(with_reducible first|exact HB.out|apply below_alloc|apply pw_below_drewN|apply below_drew1|refine below_set ?_ GE274.out|refine below_set ?_ GE288.out|refine below_set ?_ GE294.out)|exact HB.out)⟩
     ·rw [if_neg c13] at H
      have c13b0 : (t283 == t289 && (t284.toList == t290.toList && (t285 == t291 && (t286 == t292)))) = false:=by simpa using c13
      (try (have c13b1 : decide (t283 = t289 && (t284.toList == t290.toList && (t285 == t291 && (t286 == t292)))) = false:=by simpa using c13))
      (try (have c13b2 : (t283 == t289 && (t284.toList == t290.toList && (t285 == t291 && (t286 == t292)))) = false:=by simpa using c13))
      (try (have c13b3 : ¬ (t283 = t289 && (t284.toList == t290.toList && (t285 == t291 && (t286 == t292)))):=by simpa using c13))
      clear c13
      obtain rfl:=Option.some.inj H
      go_enter Tryd.func6,Tryd.ntmps6
      try go_wp2_with (first|((with_reducible refine gate_dst (N:=2) rfl ?_);refine box_event ?hg (N:=2) ?hd (cs:=#[.int .i64 a0_0,.string a0_1,.int .i64 a0_2,.int .i64 a0_3]) (t:=39) ?hr ?_;(case hd => rfl);(case hg => rfl);(case hr => first|(go_simp;done)|(go_simp;rfl));intro gb274 hg w59 hbox hb;have n0_:=Aside0.mk (below_step (by repeat (first|(with_reducible first|exact HB.out|apply below_alloc|apply pw_below_drewN|apply below_drew1)|exact HB.out)) hb);have n1_:=Aside0.mk (hbox);have n2_:=Aside0.mk ((by rw [hg];exact (below_size (by repeat (first|(with_reducible first|exact HB.out|apply below_alloc|apply pw_below_drewN|apply below_drew1)|exact HB.out))) : w.heap.size ≤ gb274));have n3_:=Aside0.mk ((by rw [hg];exact (below_size (by repeat (first|(with_reducible first|exact HB.out|apply below_alloc|apply pw_below_drewN|apply below_drew1)|exact HB.out))) : w.heap.size ≤ gb274));clear HB;have HB:=n0_;have BK274:=n1_;have GW274:=n2_;have GE274:=n3_;clear n0_ n1_ n2_ n3_;clear hb hbox hg))
      have n0_:=Aside0.mk (blk_drew BK274.out)
      have n1_:=Aside0.mk (below_drew1 HB.out)
      clear BK274
      clear HB
      have BK274:=n0_
      have HB:=n1_
      clear n0_ n1_
      refine start_ (n:=9) (S:=fun w' => w'.cell? ⟨gb274,0,none⟩ = some (.int .i64 a0_0) ∧ w'.cell? ⟨gb274,1,none⟩ = some (.string a0_1) ∧ w'.cell? ⟨gb274,2,none⟩ = some (.int .i64 a0_2) ∧ w'.cell? ⟨gb274,3,none⟩ = some (.int .i64 a0_3)) (ds:=[7]) #[false,false,false,false,false,false,false,false,false] (by kernel_rfl) rfl rfl ⟨(blk_cell BK274.out 0).trans rfl,(blk_cell BK274.out 1).trans rfl,(blk_cell BK274.out 2).trans rfl,(blk_cell BK274.out 3).trans rfl⟩ (fun hHeld => ?_);refine with_tabW racewaylaw27_TicketHandles.tab1 racewaylaw27_TicketHandles.bits1 (fun HT_ HW_ => ?_)
      generalize w59.drew = w60 at BK274 HB hHeld ⊢
      refine pure_ (i:=2) (N:=some 15) (v:=?_) (a':=?_) #[false,false,true,false,false,false,false,false,false] rfl rfl (any_of HT_.out (by kernel_rfl)) (fun _ _ _ h => h) (Or.inl ⟨by rfl,?_⟩) ?_ ?_
      rotate_left
      ·intro w'
       go_simp
       with_reducible rfl
      rotate_left
      ·simp only [Act.put,List.setIfInBounds_toArray,List.set_cons_zero,List.set_cons_succ,i64_w,i32_w]
       rfl
      refine pure_ (i:=3) (N:=some 16) (v:=?_) (a':=?_) #[false,false,true,true,false,false,false,false,false] rfl rfl (any_of HT_.out (by kernel_rfl)) (fun _ _ _ h => h) (Or.inl ⟨by rfl,?_⟩) ?_ ?_
      rotate_left
      ·intro w'
       go_simp
       with_reducible rfl
      rotate_left
      ·simp only [Act.put,List.setIfInBounds_toArray,List.set_cons_zero,List.set_cons_succ,i64_w,i32_w]
       rfl
      refine pure_ (i:=4) (N:=some 17) (v:=?_) (a':=?_) #[false,false,true,true,true,false,false,false,false] rfl rfl (any_of HT_.out (by kernel_rfl)) (fun _ _ _ h => h) (Or.inl ⟨by rfl,?_⟩) ?_ ?_
      rotate_left
      ·intro w'
       go_simp
       with_reducible rfl
      rotate_left
      ·simp only [Act.put,List.setIfInBounds_toArray,List.set_cons_zero,List.set_cons_succ,i64_w,i32_w]
       rfl
      refine pure_ (i:=5) (N:=some 18) (v:=?_) (a':=?_) #[false,false,true,true,true,true,false,false,false] rfl rfl (any_of HT_.out (by kernel_rfl)) (fun _ _ _ h => h) (Or.inl ⟨by rfl,?_⟩) ?_ ?_
      rotate_left
      ·intro w'
       go_simp
       with_reducible rfl
      rotate_left
      ·simp only [Act.put,List.setIfInBounds_toArray,List.set_cons_zero,List.set_cons_succ,i64_w,i32_w]
       rfl
      refine pure_ (i:=6) (N:=some 19) (v:=?_) (a':=?_) #[false,false,true,true,true,true,true,false,false] rfl rfl (any_of HT_.out (by kernel_rfl)) (fun _ _ _ h => h) (Or.inl ⟨by rfl,?_⟩) ?_ ?_
      rotate_left
      ·intro w'
       go_simp
       with_reducible rfl
      rotate_left
      ·simp only [Act.put,List.setIfInBounds_toArray,List.set_cons_zero,List.set_cons_succ,i64_w,i32_w]
       rfl
      refine take_ (i:=0) (N:=some 13) (v:=?_) (a':=?_) #[true,false,true,true,true,true,true,false,false] rfl rfl (take_ofW HT_.out HW_.out (by kernel_rfl)) (fun _ _ _ h => h) (Or.inl ⟨by rfl,?_⟩) hHeld ?_ ?_
      rotate_left
      ·rintro w' ⟨s0,s1,s2,s3⟩
       go_simp
       with_reducible rfl
      rotate_left
      ·simp only [Act.put,List.setIfInBounds_toArray,List.set_cons_zero,List.set_cons_succ,i64_w,i32_w]
       rfl
      refine one_ (i:=1) (N:=some 14) #[true,true,true,true,true,true,true,false,false] rfl rfl (one_of HT_.out (by kernel_rfl)) (by decide) (fun K hK => ?_)
      refine goes_ Tryd.func19 (by kernel_rfl) rfl #[.agg #[.int .i64 a0_0,.string a0_1,.int .i64 a0_2,.int .i64 a0_3]] (by rfl) rfl rfl (by (try simp only [List.map_toArray,List.map_cons,List.map_nil]);first|done|rfl|(simp only [List.length_drop,List.length_take];rfl)) ?_
      with_reducible refine (racewaylaw27_few.calls a0_0 a0_1 a0_2 a0_3 t275 t276 t277 t278 _ A3.out).mono ?_
      rintro e w61 ⟨rfl,hb⟩
      refine ⟨_,rfl,?_⟩
      have n0_:=Aside0.mk (blk_below (g:=gb274) (o:=.cells #[.int .i64 a0_0,.string a0_1,.int .i64 a0_2,.int .i64 a0_3] 39 (0,0)) (by (with_reducible repeat (first|refine blk_drewN ?_ _|refine blk_drew ?_|refine blk_alloc ?_ _));exact BK274.out) hb)
      have n1_:=Aside0.mk (below_step (by repeat (first|(with_reducible first|exact HB.out|apply below_alloc|apply pw_below_drewN|apply below_drew1|refine below_set ?_ GE274.out)|exact HB.out)) hb)
      clear BK274
      clear HB
      have BK274:=n0_
      have HB:=n1_
      clear n0_ n1_
      (try clear hb)
      (try clear hb2)
      (try clear hk)
      (try clear hi)
      refine hK.out _ _ ⟨(blk_cell BK274.out 0).trans rfl,(blk_cell BK274.out 1).trans rfl,(blk_cell BK274.out 2).trans rfl,(blk_cell BK274.out 3).trans rfl⟩ (fun hHeld => ?_)
      clear hK K
      refine norm_ (a':=?_) ?_ ?_
      rotate_left
      ·show Act.put _ (some 14) _ = _
       simp only [Act.put,List.setIfInBounds_toArray,List.set_cons_zero,List.set_cons_succ,i64_w,i32_w]
       rfl
      refine last_ (i:=7) (N:=none) #[true,true,true,true,true,true,true,true,false] rfl rfl (one_of HT_.out (by kernel_rfl)) (by decide) (fun K hK => ?_)
      have hs62 : w61.cell? ⟨gb274,0,none⟩ = some (.int .i64 a0_0):=(blk_cell BK274.out 0).trans rfl
      have hfs62:=blk_frozen BK274.out 0
      have hs63 : w61.cell? ⟨gb274,1,none⟩ = some (.string a0_1):=(blk_cell BK274.out 1).trans rfl
      have hfs63:=blk_frozen BK274.out 1
      have hs64 : w61.cell? ⟨gb274,2,none⟩ = some (.int .i64 a0_2):=(blk_cell BK274.out 2).trans rfl
      have hfs64:=blk_frozen BK274.out 2
      have hs65 : w61.cell? ⟨gb274,3,none⟩ = some (.int .i64 a0_3):=(blk_cell BK274.out 3).trans rfl
      have hfs65:=blk_frozen BK274.out 3
      refine skip_ (w1:=?_) (by rfl) rfl ?_ ?_
      rotate_left
      ·go_simp
       rfl
      refine hK.out _ _ ?_
      clear hK K
      refine pure_ (i:=8) (N:=some 1) (v:=?_) (a':=?_) #[true,true,true,true,true,true,true,true,true] rfl rfl (any_of HT_.out (by kernel_rfl)) (fun _ _ _ h => h) (Or.inl ⟨by rfl,?_⟩) ?_ ?_
      rotate_left
      ·intro w'
       go_simp
       with_reducible rfl
      rotate_left
      ·simp only [Act.put,List.setIfInBounds_toArray,List.set_cons_zero,List.set_cons_succ,i64_w,i32_w]
       rfl
      refine done_ (done_of HT_.out (by kernel_rfl)) ?_
      have hcz66_0 : w61.cell? ⟨gb274,0,none⟩ = some (.int .i64 a0_0):=(blk_cell BK274.out 0).trans rfl
      have hcz66_1 : w61.cell? ⟨gb274,1,none⟩ = some (.string a0_1):=(blk_cell BK274.out 1).trans rfl
      have hcz66_2 : w61.cell? ⟨gb274,2,none⟩ = some (.int .i64 a0_2):=(blk_cell BK274.out 2).trans rfl
      have hcz66_3 : w61.cell? ⟨gb274,3,none⟩ = some (.int .i64 a0_3):=(blk_cell BK274.out 3).trans rfl
      have hfz66_0:=blk_frozen BK274.out 0
      have hfz66_1:=blk_frozen BK274.out 1
      have hfz66_2:=blk_frozen BK274.out 2
      have hfz66_3:=blk_frozen BK274.out 3
      try go_wp2_with (first|((with_reducible refine gate_callee (f:=20) rfl ?_);refine goesL_ (some 22) rfl rfl Tryd.func20 (by kernel_rfl) rfl #[.agg #[.int .i64 t275,.string t276,.int .i64 t277,.int .i64 t278]] rfl (by (try simp only [List.map_toArray,List.map_cons,List.map_nil]);first|done|rfl|(simp only [List.length_drop,List.length_take];rfl)) ?_;(with_reducible refine (ticket_Handle.calls k t275 t276 t277 t278 t279 t280 _ ?side1 A7.out).mono ?_);(case side1 => first|exact HGCr.out|exact GlobCr.below HGCr.out (by repeat (first|(with_reducible first|exact HB.out|apply below_alloc|apply pw_below_drewN|apply below_drew1|refine below_set ?_ GE274.out)|exact HB.out))|exact GlobCr.drawn HGCr.out (by repeat (first|exact Drawn0.refl _|apply Drawn0.step)));rintro e w67 ⟨rfl,hb⟩;refine ⟨_,rfl,?_⟩;have n0_:=Aside0.mk (blk_below (g:=gb274) (o:=.cells #[.int .i64 t275,.string t276,.int .i64 t277,.int .i64 t278] 39 (0,0)) (by (with_reducible repeat (first|refine blk_drewN ?_ _|refine blk_drew ?_|refine blk_alloc ?_ _));refine blk_put (cs:=#[.int .i64 t275,.string t276,.int .i64 t277,.int .i64 a0_3]) ?_ 3 _ rfl;(with_reducible repeat (first|refine blk_drewN ?_ _|refine blk_drew ?_|refine blk_alloc ?_ _));refine blk_put (cs:=#[.int .i64 t275,.string t276,.int .i64 a0_2,.int .i64 a0_3]) ?_ 2 _ rfl;(with_reducible repeat (first|refine blk_drewN ?_ _|refine blk_drew ?_|refine blk_alloc ?_ _));refine blk_put (cs:=#[.int .i64 t275,.string a0_1,.int .i64 a0_2,.int .i64 a0_3]) ?_ 1 _ rfl;(with_reducible repeat (first|refine blk_drewN ?_ _|refine blk_drew ?_|refine blk_alloc ?_ _));refine blk_put (cs:=#[.int .i64 a0_0,.string a0_1,.int .i64 a0_2,.int .i64 a0_3]) ?_ 0 _ rfl;(with_reducible repeat (first|refine blk_drewN ?_ _|refine blk_drew ?_|refine blk_alloc ?_ _));exact BK274.out) hb);have n1_:=Aside0.mk (below_step (by repeat (first|(with_reducible first|exact HB.out|apply below_alloc|apply pw_below_drewN|apply below_drew1|refine below_set ?_ GE274.out)|exact HB.out)) hb);clear BK274;clear HB;have BK274:=n0_;have HB:=n1_;clear n0_ n1_;(try clear hb);(try clear hb2);(try clear hk);(try clear hi);have hcz68_0 : w67.cell? ⟨gb274,0,none⟩ = some (.int .i64 t275):=(blk_cell BK274.out 0).trans rfl;have hcz68_1 : w67.cell? ⟨gb274,1,none⟩ = some (.string t276):=(blk_cell BK274.out 1).trans rfl;have hcz68_2 : w67.cell? ⟨gb274,2,none⟩ = some (.int .i64 t277):=(blk_cell BK274.out 2).trans rfl;have hcz68_3 : w67.cell? ⟨gb274,3,none⟩ = some (.int .i64 t278):=(blk_cell BK274.out 3).trans rfl;have hfz68_0:=blk_frozen BK274.out 0;have hfz68_1:=blk_frozen BK274.out 1;have hfz68_2:=blk_frozen BK274.out 2;have hfz68_3:=blk_frozen BK274.out 3)|((with_reducible refine gate_callee (f:=21) rfl ?_);refine goesL_ (some 27) rfl rfl Tryd.func21 (by kernel_rfl) rfl #[.agg #[.int .i64 t275,.string t276,.int .i64 t277,.int .i64 t278]] rfl (by (try simp only [List.map_toArray,List.map_cons,List.map_nil]);first|done|rfl|(simp only [List.length_drop,List.length_take];rfl)) ?_;(with_reducible refine (racewayref27_Handle.calls k t275 t276 t277 t278 t281 t282 _ A8.out).mono ?_);rintro e w69 ⟨rfl,hb⟩;refine ⟨_,rfl,?_⟩;have n0_:=Aside0.mk (blk_below (g:=gb274) (o:=.cells #[.int .i64 t275,.string t276,.int .i64 t277,.int .i64 t278] 39 (0,0)) (by (with_reducible repeat (first|refine blk_drewN ?_ _|refine blk_drew ?_|refine blk_alloc ?_ _));exact BK274.out) hb);have n1_:=Aside0.mk (below_step (by repeat (first|(with_reducible first|exact HB.out|apply below_alloc|apply pw_below_drewN|apply below_drew1|refine below_set ?_ GE274.out)|exact HB.out)) hb);clear BK274;clear HB;have BK274:=n0_;have HB:=n1_;clear n0_ n1_;(try clear hb);(try clear hb2);(try clear hk);(try clear hi))|((with_reducible refine gate_callee (f:=22) rfl ?_);refine goesL_ (some 32) rfl rfl Tryd.func22 (by kernel_rfl) rfl #[.string (a1.extract 0 ((ji4) : Int).toNat)] rfl (by (try simp only [List.map_toArray,List.map_cons,List.map_nil]);first|done|(simp only [hji4];rfl)|rfl|(simp only [List.length_drop,List.length_take];rfl)) ?_;(with_reducible refine (ticket_Open.calls (a1.extract 0 ((ji4) : Int).toNat) t283 t284 t285 t286 t287 _ ?side1 A9.out).mono ?_);(case side1 => first|exact HGCr.out|exact GlobCr.below HGCr.out (by repeat (first|(with_reducible first|exact HB.out|apply below_alloc|apply pw_below_drewN|apply below_drew1|refine below_set ?_ GE274.out)|exact HB.out))|exact GlobCr.drawn HGCr.out (by repeat (first|exact Drawn0.refl _|apply Drawn0.step)));rintro e w70 ⟨rfl,hb⟩;refine ⟨_,rfl,?_⟩;have n0_:=Aside0.mk (blk_below (g:=gb274) (o:=.cells #[.int .i64 t275,.string t276,.int .i64 t277,.int .i64 t278] 39 (0,0)) (by (with_reducible repeat (first|refine blk_drewN ?_ _|refine blk_drew ?_|refine blk_alloc ?_ _));exact BK274.out) hb);have n1_:=Aside0.mk (below_step (by repeat (first|(with_reducible first|exact HB.out|apply below_alloc|apply pw_below_drewN|apply below_drew1|refine below_set ?_ GE274.out)|exact HB.out)) hb);clear BK274;clear HB;have BK274:=n0_;have HB:=n1_;clear n0_ n1_;(try clear hb);(try clear hb2);(try clear hk);(try clear hi))|((with_reducible refine gate_dst (N:=9) rfl ?_);refine box_event ?hg (N:=9) ?hd (cs:=#[.int .i64 0,.string (⟨#[]⟩ : ByteArray),.int .i64 0,.int .i64 0]) (t:=39) ?hr ?_;(case hd => rfl);(case hg => rfl);(case hr => first|(go_simp;done)|(go_simp;rfl));intro gb288 hg w71 hbox hb;have n0_:=Aside0.mk (blk_below (g:=gb274) (o:=.cells #[.int .i64 t275,.string t276,.int .i64 t277,.int .i64 t278] 39 (0,0)) (by (with_reducible repeat (first|refine blk_drewN ?_ _|refine blk_drew ?_|refine blk_alloc ?_ _));exact BK274.out) hb);have n1_:=Aside0.mk (below_step (by repeat (first|(with_reducible first|exact HB.out|apply below_alloc|apply pw_below_drewN|apply below_drew1|refine below_set ?_ GE274.out)|exact HB.out)) hb);have n2_:=Aside0.mk (hbox);have n3_:=Aside0.mk ((by rw [hg];exact (below_size (by repeat (first|(with_reducible first|exact HB.out|apply below_alloc|apply pw_below_drewN|apply below_drew1|refine below_set ?_ GE274.out)|exact HB.out))) : w.heap.size ≤ gb288));have n4_:=Aside0.mk ((by rw [hg];exact (below_size (by repeat (first|(with_reducible first|exact HB.out|apply below_alloc|apply pw_below_drewN|apply below_drew1|refine below_set ?_ GE274.out)|exact HB.out))) : w.heap.size ≤ gb288));have n5_:=Aside0.mk ((by rw [hg];exact Nat.ne_of_lt (blk_lt (g:=gb274) (o:=.cells #[.int .i64 t275,.string t276,.int .i64 t277,.int .i64 t278] 39 (0,0)) (by (with_reducible repeat (first|refine blk_drewN ?_ _|refine blk_drew ?_|refine blk_alloc ?_ _));exact BK274.out)) : gb274 ≠ gb288));have n6_:=Aside0.mk ((by rw [hg];exact Nat.ne_of_gt (blk_lt (g:=gb274) (o:=.cells #[.int .i64 t275,.string t276,.int .i64 t277,.int .i64 t278] 39 (0,0)) (by (with_reducible repeat (first|refine blk_drewN ?_ _|refine blk_drew ?_|refine blk_alloc ?_ _));exact BK274.out)) : gb288 ≠ gb274));clear BK274;clear HB;have BK274:=n0_;have HB:=n1_;have BK288:=n2_;have GW288:=n3_;have GE288:=n4_;have NB274_288:=n5_;have NB288_274:=n6_;clear n0_ n1_ n2_ n3_ n4_ n5_ n6_;clear hb hbox hg;have hnb72:=NB288_274.out;have hnc72:=NB274_288.out;have hcz73_0 : w71.cell? ⟨gb288,0,none⟩ = some (.int .i64 0):=(blk_cell BK288.out 0).trans rfl;have hcz73_1 : w71.cell? ⟨gb288,1,none⟩ = some (.string (⟨#[]⟩ : ByteArray)):=(blk_cell BK288.out 1).trans rfl;have hcz73_2 : w71.cell? ⟨gb288,2,none⟩ = some (.int .i64 0):=(blk_cell BK288.out 2).trans rfl;have hcz73_3 : w71.cell? ⟨gb288,3,none⟩ = some (.int .i64 0):=(blk_cell BK288.out 3).trans rfl;have hfz73_0:=blk_frozen BK288.out 0;have hfz73_1:=blk_frozen BK288.out 1;have hfz73_2:=blk_frozen BK288.out 2;have hfz73_3:=blk_frozen BK288.out 3)|((with_reducible refine gate_callee (f:=23) rfl ?_);refine goesL_ (some 37) rfl rfl Tryd.func23 (by kernel_rfl) rfl #[.string (a1.extract 0 ((ji4) : Int).toNat)] rfl (by (try simp only [List.map_toArray,List.map_cons,List.map_nil]);first|done|(simp only [hji4];rfl)|rfl|(simp only [List.length_drop,List.length_take];rfl)) ?_;(with_reducible refine (racewayref27_Open.calls k (a1.extract 0 ((ji4) : Int).toNat) t289 t290 t291 t292 t293 _ A10.out).mono ?_);rintro e w74 ⟨rfl,hb⟩;refine ⟨_,rfl,?_⟩;have n0_:=Aside0.mk (blk_below (g:=gb274) (o:=.cells #[.int .i64 t275,.string t276,.int .i64 t277,.int .i64 t278] 39 (0,0)) (by (with_reducible repeat (first|refine blk_drewN ?_ _|refine blk_drew ?_|refine blk_alloc ?_ _));refine blk_far ?_ NB274_288.out _;(with_reducible repeat (first|refine blk_drewN ?_ _|refine blk_drew ?_|refine blk_alloc ?_ _));refine blk_far ?_ NB274_288.out _;(with_reducible repeat (first|refine blk_drewN ?_ _|refine blk_drew ?_|refine blk_alloc ?_ _));refine blk_far ?_ NB274_288.out _;(with_reducible repeat (first|refine blk_drewN ?_ _|refine blk_drew ?_|refine blk_alloc ?_ _));refine blk_far ?_ NB274_288.out _;(with_reducible repeat (first|refine blk_drewN ?_ _|refine blk_drew ?_|refine blk_alloc ?_ _));exact BK274.out) hb);have n1_:=Aside0.mk (blk_below (g:=gb288) (o:=.cells #[.int .i64 t283,.string t284,.int .i64 t285,.int .i64 t286] 39 (0,0)) (by (with_reducible repeat (first|refine blk_drewN ?_ _|refine blk_drew ?_|refine blk_alloc ?_ _));refine blk_put (cs:=#[.int .i64 t283,.string t284,.int .i64 t285,.int .i64 0]) ?_ 3 _ rfl;(with_reducible repeat (first|refine blk_drewN ?_ _|refine blk_drew ?_|refine blk_alloc ?_ _));refine blk_put (cs:=#[.int .i64 t283,.string t284,.int .i64 0,.int .i64 0]) ?_ 2 _ rfl;(with_reducible repeat (first|refine blk_drewN ?_ _|refine blk_drew ?_|refine blk_alloc ?_ _));refine blk_put (cs:=#[.int .i64 t283,.string (⟨#[]⟩ : ByteArray),.int .i64 0,.int .i64 0]) ?_ 1 _ rfl;(with_reducible repeat (first|refine blk_drewN ?_ _|refine blk_drew ?_|refine blk_alloc ?_ _));refine blk_put (cs:=#[.int .i64 0,.string (⟨#[]⟩ : ByteArray),.int .i64 0,.int .i64 0]) ?_ 0 _ rfl;(with_reducible repeat (first|refine blk_drewN ?_ _|refine blk_drew ?_|refine blk_alloc ?_ _));exact BK288.out) hb);have n2_:=Aside0.mk (below_step (by repeat (first|(with_reducible first|exact HB.out|apply below_alloc|apply pw_below_drewN|apply below_drew1|refine below_set ?_ GE274.out|refine below_set ?_ GE288.out)|exact HB.out)) hb);clear BK274;clear BK288;clear HB;have BK274:=n0_;have BK288:=n1_;have HB:=n2_;clear n0_ n1_ n2_;(try clear hb);(try clear hb2);(try clear hk);(try clear hi))|((with_reducible refine gate_dst (N:=11) rfl ?_);refine box_event ?hg (N:=11) ?hd (cs:=#[.int .i64 0,.string (⟨#[]⟩ : ByteArray),.int .i64 0,.int .i64 0]) (t:=39) ?hr ?_;(case hd => rfl);(case hg => rfl);(case hr => first|(go_simp;done)|(go_simp;rfl));intro gb294 hg w75 hbox hb;have n0_:=Aside0.mk (blk_below (g:=gb274) (o:=.cells #[.int .i64 t275,.string t276,.int .i64 t277,.int .i64 t278] 39 (0,0)) (by (with_reducible repeat (first|refine blk_drewN ?_ _|refine blk_drew ?_|refine blk_alloc ?_ _));exact BK274.out) hb);have n1_:=Aside0.mk (blk_below (g:=gb288) (o:=.cells #[.int .i64 t283,.string t284,.int .i64 t285,.int .i64 t286] 39 (0,0)) (by (with_reducible repeat (first|refine blk_drewN ?_ _|refine blk_drew ?_|refine blk_alloc ?_ _));exact BK288.out) hb);have n2_:=Aside0.mk (below_step (by repeat (first|(with_reducible first|exact HB.out|apply below_alloc|apply pw_below_drewN|apply below_drew1|refine below_set ?_ GE274.out|refine below_set ?_ GE288.out)|exact HB.out)) hb);have n3_:=Aside0.mk (hbox);have n4_:=Aside0.mk ((by rw [hg];exact (below_size (by repeat (first|(with_reducible first|exact HB.out|apply below_alloc|apply pw_below_drewN|apply below_drew1|refine below_set ?_ GE274.out|refine below_set ?_ GE288.out)|exact HB.out))) : w.heap.size ≤ gb294));have n5_:=Aside0.mk ((by rw [hg];exact (below_size (by repeat (first|(with_reducible first|exact HB.out|apply below_alloc|apply pw_below_drewN|apply below_drew1|refine below_set ?_ GE274.out|refine below_set ?_ GE288.out)|exact HB.out))) : w.heap.size ≤ gb294));have n6_:=Aside0.mk ((by rw [hg];exact Nat.ne_of_lt (blk_lt (g:=gb274) (o:=.cells #[.int .i64 t275,.string t276,.int .i64 t277,.int .i64 t278] 39 (0,0)) (by (with_reducible repeat (first|refine blk_drewN ?_ _|refine blk_drew ?_|refine blk_alloc ?_ _));exact BK274.out)) : gb274 ≠ gb294));have n7_:=Aside0.mk ((by rw [hg];exact Nat.ne_of_gt (blk_lt (g:=gb274) (o:=.cells #[.int .i64 t275,.string t276,.int .i64 t277,.int .i64 t278] 39 (0,0)) (by (with_reducible repeat (first|refine blk_drewN ?_ _|refine blk_drew ?_|refine blk_alloc ?_ _));exact BK274.out)) : gb294 ≠ gb274));have n8_:=Aside0.mk ((by rw [hg];exact Nat.ne_of_lt (blk_lt (g:=gb288) (o:=.cells #[.int .i64 t283,.string t284,.int .i64 t285,.int .i64 t286] 39 (0,0)) (by (with_reducible repeat (first|refine blk_drewN ?_ _|refine blk_drew ?_|refine blk_alloc ?_ _));exact BK288.out)) : gb288 ≠ gb294));have n9_:=Aside0.mk ((by rw [hg];exact Nat.ne_of_gt (blk_lt (g:=gb288) (o:=.cells #[.int .i64 t283,.string t284,.int .i64 t285,.int .i64 t286] 39 (0,0)) (by (with_reducible repeat (first|refine blk_drewN ?_ _|refine blk_drew ?_|refine blk_alloc ?_ _));exact BK288.out)) : gb294 ≠ gb288));clear BK274;clear BK288;clear HB;have BK274:=n0_;have BK288:=n1_;have HB:=n2_;have BK294:=n3_;have GW294:=n4_;have GE294:=n5_;have NB274_294:=n6_;have NB294_274:=n7_;have NB288_294:=n8_;have NB294_288:=n9_;clear n0_ n1_ n2_ n3_ n4_ n5_ n6_ n7_ n8_ n9_;clear hb hbox hg;have hnb76:=NB294_274.out;have hnc76:=NB274_294.out;have hnb77:=NB294_288.out;have hnc77:=NB288_294.out;have hcz78_0 : w75.cell? ⟨gb294,0,none⟩ = some (.int .i64 0):=(blk_cell BK294.out 0).trans rfl;have hcz78_1 : w75.cell? ⟨gb294,1,none⟩ = some (.string (⟨#[]⟩ : ByteArray)):=(blk_cell BK294.out 1).trans rfl;have hcz78_2 : w75.cell? ⟨gb294,2,none⟩ = some (.int .i64 0):=(blk_cell BK294.out 2).trans rfl;have hcz78_3 : w75.cell? ⟨gb294,3,none⟩ = some (.int .i64 0):=(blk_cell BK294.out 3).trans rfl;have hfz78_0:=blk_frozen BK294.out 0;have hfz78_1:=blk_frozen BK294.out 1;have hfz78_2:=blk_frozen BK294.out 2;have hfz78_3:=blk_frozen BK294.out 3;have hcz79_0 : w75.cell? ⟨gb288,0,none⟩ = some (.int .i64 t283):=(blk_cell BK288.out 0).trans rfl;have hcz79_1 : w75.cell? ⟨gb288,1,none⟩ = some (.string t284):=(blk_cell BK288.out 1).trans rfl;have hcz79_2 : w75.cell? ⟨gb288,2,none⟩ = some (.int .i64 t285):=(blk_cell BK288.out 2).trans rfl;have hcz79_3 : w75.cell? ⟨gb288,3,none⟩ = some (.int .i64 t286):=(blk_cell BK288.out 3).trans rfl;have hfz79_0:=blk_frozen BK288.out 0;have hfz79_1:=blk_frozen BK288.out 1;have hfz79_2:=blk_frozen BK288.out 2;have hfz79_3:=blk_frozen BK288.out 3))
      go_ret
      exact ⟨by first|rfl|(simp [errW_none,errW_some] <;> rfl)|(simp only [← hji4];first|rfl|(simp [errW_none,errW_some] <;> rfl))|(simp [*,errW_none,errW_some] <;> rfl),by repeat (first|(with_reducible first|exact HB.out|apply below_alloc|apply pw_below_drewN|apply below_drew1|refine below_set ?_ GE274.out|refine below_set ?_ GE288.out|refine below_set ?_ GE294.out)|exact HB.out)⟩
    ·rw [if_neg c12] at H
     have c12b0 : (t280 == t282) = false:=beq_eq_false_iff_ne.mpr c12
     have c12b1 : (t280 != t282) = true:=bne_iff_ne.mpr c12
     obtain rfl:=Option.some.inj H
     go_enter Tryd.func6,Tryd.ntmps6
     try go_wp2_with (first|((with_reducible refine gate_dst (N:=2) rfl ?_);refine box_event ?hg (N:=2) ?hd (cs:=#[.int .i64 a0_0,.string a0_1,.int .i64 a0_2,.int .i64 a0_3]) (t:=39) ?hr ?_;(case hd => rfl);(case hg => rfl);(case hr => first|(go_simp;done)|(go_simp;rfl));intro gb274 hg w80 hbox hb;have n0_:=Aside0.mk (below_step (by repeat (first|(with_reducible first|exact HB.out|apply below_alloc|apply pw_below_drewN|apply below_drew1)|exact HB.out)) hb);have n1_:=Aside0.mk (hbox);have n2_:=Aside0.mk ((by rw [hg];exact (below_size (by repeat (first|(with_reducible first|exact HB.out|apply below_alloc|apply pw_below_drewN|apply below_drew1)|exact HB.out))) : w.heap.size ≤ gb274));have n3_:=Aside0.mk ((by rw [hg];exact (below_size (by repeat (first|(with_reducible first|exact HB.out|apply below_alloc|apply pw_below_drewN|apply below_drew1)|exact HB.out))) : w.heap.size ≤ gb274));clear HB;have HB:=n0_;have BK274:=n1_;have GW274:=n2_;have GE274:=n3_;clear n0_ n1_ n2_ n3_;clear hb hbox hg))
     have n0_:=Aside0.mk (blk_drew BK274.out)
     have n1_:=Aside0.mk (below_drew1 HB.out)
     clear BK274
     clear HB
     have BK274:=n0_
     have HB:=n1_
     clear n0_ n1_
     refine start_ (n:=9) (S:=fun w' => w'.cell? ⟨gb274,0,none⟩ = some (.int .i64 a0_0) ∧ w'.cell? ⟨gb274,1,none⟩ = some (.string a0_1) ∧ w'.cell? ⟨gb274,2,none⟩ = some (.int .i64 a0_2) ∧ w'.cell? ⟨gb274,3,none⟩ = some (.int .i64 a0_3)) (ds:=[7]) #[false,false,false,false,false,false,false,false,false] (by kernel_rfl) rfl rfl ⟨(blk_cell BK274.out 0).trans rfl,(blk_cell BK274.out 1).trans rfl,(blk_cell BK274.out 2).trans rfl,(blk_cell BK274.out 3).trans rfl⟩ (fun hHeld => ?_);refine with_tabW racewaylaw27_TicketHandles.tab1 racewaylaw27_TicketHandles.bits1 (fun HT_ HW_ => ?_)
     generalize w80.drew = w81 at BK274 HB hHeld ⊢
     refine pure_ (i:=2) (N:=some 15) (v:=?_) (a':=?_) #[false,false,true,false,false,false,false,false,false] rfl rfl (any_of HT_.out (by kernel_rfl)) (fun _ _ _ h => h) (Or.inl ⟨by rfl,?_⟩) ?_ ?_
     rotate_left
     ·intro w'
      go_simp
      with_reducible rfl
     rotate_left
     ·simp only [Act.put,List.setIfInBounds_toArray,List.set_cons_zero,List.set_cons_succ,i64_w,i32_w]
      rfl
     refine pure_ (i:=3) (N:=some 16) (v:=?_) (a':=?_) #[false,false,true,true,false,false,false,false,false] rfl rfl (any_of HT_.out (by kernel_rfl)) (fun _ _ _ h => h) (Or.inl ⟨by rfl,?_⟩) ?_ ?_
     rotate_left
     ·intro w'
      go_simp
      with_reducible rfl
     rotate_left
     ·simp only [Act.put,List.setIfInBounds_toArray,List.set_cons_zero,List.set_cons_succ,i64_w,i32_w]
      rfl
     refine pure_ (i:=4) (N:=some 17) (v:=?_) (a':=?_) #[false,false,true,true,true,false,false,false,false] rfl rfl (any_of HT_.out (by kernel_rfl)) (fun _ _ _ h => h) (Or.inl ⟨by rfl,?_⟩) ?_ ?_
     rotate_left
     ·intro w'
      go_simp
      with_reducible rfl
     rotate_left
     ·simp only [Act.put,List.setIfInBounds_toArray,List.set_cons_zero,List.set_cons_succ,i64_w,i32_w]
      rfl
     refine pure_ (i:=5) (N:=some 18) (v:=?_) (a':=?_) #[false,false,true,true,true,true,false,false,false] rfl rfl (any_of HT_.out (by kernel_rfl)) (fun _ _ _ h => h) (Or.inl ⟨by rfl,?_⟩) ?_ ?_
     rotate_left
     ·intro w'
      go_simp
      with_reducible rfl
     rotate_left
     ·simp only [Act.put,List.setIfInBounds_toArray,List.set_cons_zero,List.set_cons_succ,i64_w,i32_w]
      rfl
     refine pure_ (i:=6) (N:=some 19) (v:=?_) (a':=?_) #[false,false,true,true,true,true,true,false,false] rfl rfl (any_of HT_.out (by kernel_rfl)) (fun _ _ _ h => h) (Or.inl ⟨by rfl,?_⟩) ?_ ?_
     rotate_left
     ·intro w'
      go_simp
      with_reducible rfl
     rotate_left
     ·simp only [Act.put,List.setIfInBounds_toArray,List.set_cons_zero,List.set_cons_succ,i64_w,i32_w]
      rfl
     refine take_ (i:=0) (N:=some 13) (v:=?_) (a':=?_) #[true,false,true,true,true,true,true,false,false] rfl rfl (take_ofW HT_.out HW_.out (by kernel_rfl)) (fun _ _ _ h => h) (Or.inl ⟨by rfl,?_⟩) hHeld ?_ ?_
     rotate_left
     ·rintro w' ⟨s0,s1,s2,s3⟩
      go_simp
      with_reducible rfl
     rotate_left
     ·simp only [Act.put,List.setIfInBounds_toArray,List.set_cons_zero,List.set_cons_succ,i64_w,i32_w]
      rfl
     refine one_ (i:=1) (N:=some 14) #[true,true,true,true,true,true,true,false,false] rfl rfl (one_of HT_.out (by kernel_rfl)) (by decide) (fun K hK => ?_)
     refine goes_ Tryd.func19 (by kernel_rfl) rfl #[.agg #[.int .i64 a0_0,.string a0_1,.int .i64 a0_2,.int .i64 a0_3]] (by rfl) rfl rfl (by (try simp only [List.map_toArray,List.map_cons,List.map_nil]);first|done|rfl|(simp only [List.length_drop,List.length_take];rfl)) ?_
     with_reducible refine (racewaylaw27_few.calls a0_0 a0_1 a0_2 a0_3 t275 t276 t277 t278 _ A3.out).mono ?_
     rintro e w82 ⟨rfl,hb⟩
     refine ⟨_,rfl,?_⟩
     have n0_:=Aside0.mk (blk_below (g:=gb274) (o:=.cells #[.int .i64 a0_0,.string a0_1,.int .i64 a0_2,.int .i64 a0_3] 39 (0,0)) (by (with_reducible repeat (first|refine blk_drewN ?_ _|refine blk_drew ?_|refine blk_alloc ?_ _));exact BK274.out) hb)
     have n1_:=Aside0.mk (below_step (by repeat (first|(with_reducible first|exact HB.out|apply below_alloc|apply pw_below_drewN|apply below_drew1|refine below_set ?_ GE274.out)|exact HB.out)) hb)
     clear BK274
     clear HB
     have BK274:=n0_
     have HB:=n1_
     clear n0_ n1_
     (try clear hb)
     (try clear hb2)
     (try clear hk)
     (try clear hi)
     refine hK.out _ _ ⟨(blk_cell BK274.out 0).trans rfl,(blk_cell BK274.out 1).trans rfl,(blk_cell BK274.out 2).trans rfl,(blk_cell BK274.out 3).trans rfl⟩ (fun hHeld => ?_)
     clear hK K
     refine norm_ (a':=?_) ?_ ?_
     rotate_left
     ·show Act.put _ (some 14) _ = _
      simp only [Act.put,List.setIfInBounds_toArray,List.set_cons_zero,List.set_cons_succ,i64_w,i32_w]
      rfl
     refine last_ (i:=7) (N:=none) #[true,true,true,true,true,true,true,true,false] rfl rfl (one_of HT_.out (by kernel_rfl)) (by decide) (fun K hK => ?_)
     have hs83 : w82.cell? ⟨gb274,0,none⟩ = some (.int .i64 a0_0):=(blk_cell BK274.out 0).trans rfl
     have hfs83:=blk_frozen BK274.out 0
     have hs84 : w82.cell? ⟨gb274,1,none⟩ = some (.string a0_1):=(blk_cell BK274.out 1).trans rfl
     have hfs84:=blk_frozen BK274.out 1
     have hs85 : w82.cell? ⟨gb274,2,none⟩ = some (.int .i64 a0_2):=(blk_cell BK274.out 2).trans rfl
     have hfs85:=blk_frozen BK274.out 2
     have hs86 : w82.cell? ⟨gb274,3,none⟩ = some (.int .i64 a0_3):=(blk_cell BK274.out 3).trans rfl
     have hfs86:=blk_frozen BK274.out 3
     refine skip_ (w1:=?_) (by rfl) rfl ?_ ?_
     rotate_left
     ·go_simp
      rfl
     refine hK.out _ _ ?_
     clear hK K
     refine pure_ (i:=8) (N:=some 1) (v:=?_) (a':=?_) #[true,true,true,true,true,true,true,true,true] rfl rfl (any_of HT_.out (by kernel_rfl)) (fun _ _ _ h => h) (Or.inl ⟨by rfl,?_⟩) ?_ ?_
     rotate_left
     ·intro w'
      go_simp
      with_reducible rfl
     rotate_left
     ·simp only [Act.put,List.setIfInBounds_toArray,List.set_cons_zero,List.set_cons_succ,i64_w,i32_w]
      rfl
     refine done_ (done_of HT_.out (by kernel_rfl)) ?_
     have hcz87_0 : w82.cell? ⟨gb274,0,none⟩ = some (.int .i64 a0_0):=(blk_cell BK274.out 0).trans rfl
     have hcz87_1 : w82.cell? ⟨gb274,1,none⟩ = some (.string a0_1):=(blk_cell BK274.out 1).trans rfl
     have hcz87_2 : w82.cell? ⟨gb274,2,none⟩ = some (.int .i64 a0_2):=(blk_cell BK274.out 2).trans rfl
     have hcz87_3 : w82.cell? ⟨gb274,3,none⟩ = some (.int .i64 a0_3):=(blk_cell BK274.out 3).trans rfl
     have hfz87_0:=blk_frozen BK274.out 0
     have hfz87_1:=blk_frozen BK274.out 1
     have hfz87_2:=blk_frozen BK274.out 2
     have hfz87_3:=blk_frozen BK274.out 3
     try go_wp2_with (first|((with_reducible refine gate_callee (f:=20) rfl ?_);refine goesL_ (some 22) rfl rfl Tryd.func20 (by kernel_rfl) rfl #[.agg #[.int .i64 t275,.string t276,.int .i64 t277,.int .i64 t278]] rfl (by (try simp only [List.map_toArray,List.map_cons,List.map_nil]);first|done|rfl|(simp only [List.length_drop,List.length_take];rfl)) ?_;(with_reducible refine (ticket_Handle.calls k t275 t276 t277 t278 t279 t280 _ ?side1 A7.out).mono ?_);(case side1 => first|exact HGCr.out|exact GlobCr.below HGCr.out (by repeat (first|(with_reducible first|exact HB.out|apply below_alloc|apply pw_below_drewN|apply below_drew1|refine below_set ?_ GE274.out)|exact HB.out))|exact GlobCr.drawn HGCr.out (by repeat (first|exact Drawn0.refl _|apply Drawn0.step)));rintro e w88 ⟨rfl,hb⟩;refine ⟨_,rfl,?_⟩;have n0_:=Aside0.mk (blk_below (g:=gb274) (o:=.cells #[.int .i64 t275,.string t276,.int .i64 t277,.int .i64 t278] 39 (0,0)) (by (with_reducible repeat (first|refine blk_drewN ?_ _|refine blk_drew ?_|refine blk_alloc ?_ _));refine blk_put (cs:=#[.int .i64 t275,.string t276,.int .i64 t277,.int .i64 a0_3]) ?_ 3 _ rfl;(with_reducible repeat (first|refine blk_drewN ?_ _|refine blk_drew ?_|refine blk_alloc ?_ _));refine blk_put (cs:=#[.int .i64 t275,.string t276,.int .i64 a0_2,.int .i64 a0_3]) ?_ 2 _ rfl;(with_reducible repeat (first|refine blk_drewN ?_ _|refine blk_drew ?_|refine blk_alloc ?_ _));refine blk_put (cs:=#[.int .i64 t275,.string a0_1,.int .i64 a0_2,.int .i64 a0_3]) ?_ 1 _ rfl;(with_reducible repeat (first|refine blk_drewN ?_ _|refine blk_drew ?_|refine blk_alloc ?_ _));refine blk_put (cs:=#[.int .i64 a0_0,.string a0_1,.int .i64 a0_2,.int .i64 a0_3]) ?_ 0 _ rfl;(with_reducible repeat (first|refine blk_drewN ?_ _|refine blk_drew ?_|refine blk_alloc ?_ _));exact BK274.out) hb);have n1_:=Aside0.mk (below_step (by repeat (first|(with_reducible first|exact HB.out|apply below_alloc|apply pw_below_drewN|apply below_drew1|refine below_set ?_ GE274.out)|exact HB.out)) hb);clear BK274;clear HB;have BK274:=n0_;have HB:=n1_;clear n0_ n1_;(try clear hb);(try clear hb2);(try clear hk);(try clear hi);have hcz89_0 : w88.cell? ⟨gb274,0,none⟩ = some (.int .i64 t275):=(blk_cell BK274.out 0).trans rfl;have hcz89_1 : w88.cell? ⟨gb274,1,none⟩ = some (.string t276):=(blk_cell BK274.out 1).trans rfl;have hcz89_2 : w88.cell? ⟨gb274,2,none⟩ = some (.int .i64 t277):=(blk_cell BK274.out 2).trans rfl;have hcz89_3 : w88.cell? ⟨gb274,3,none⟩ = some (.int .i64 t278):=(blk_cell BK274.out 3).trans rfl;have hfz89_0:=blk_frozen BK274.out 0;have hfz89_1:=blk_frozen BK274.out 1;have hfz89_2:=blk_frozen BK274.out 2;have hfz89_3:=blk_frozen BK274.out 3)|((with_reducible refine gate_callee (f:=21) rfl ?_);refine goesL_ (some 27) rfl rfl Tryd.func21 (by kernel_rfl) rfl #[.agg #[.int .i64 t275,.string t276,.int .i64 t277,.int .i64 t278]] rfl (by (try simp only [List.map_toArray,List.map_cons,List.map_nil]);first|done|rfl|(simp only [List.length_drop,List.length_take];rfl)) ?_;(with_reducible refine (racewayref27_Handle.calls k t275 t276 t277 t278 t281 t282 _ A8.out).mono ?_);rintro e w90 ⟨rfl,hb⟩;refine ⟨_,rfl,?_⟩;have n0_:=Aside0.mk (blk_below (g:=gb274) (o:=.cells #[.int .i64 t275,.string t276,.int .i64 t277,.int .i64 t278] 39 (0,0)) (by (with_reducible repeat (first|refine blk_drewN ?_ _|refine blk_drew ?_|refine blk_alloc ?_ _));exact BK274.out) hb);have n1_:=Aside0.mk (below_step (by repeat (first|(with_reducible first|exact HB.out|apply below_alloc|apply pw_below_drewN|apply below_drew1|refine below_set ?_ GE274.out)|exact HB.out)) hb);clear BK274;clear HB;have BK274:=n0_;have HB:=n1_;clear n0_ n1_;(try clear hb);(try clear hb2);(try clear hk);(try clear hi))|((with_reducible refine gate_callee (f:=22) rfl ?_);refine goesL_ (some 32) rfl rfl Tryd.func22 (by kernel_rfl) rfl #[.string (a1.extract 0 ((ji4) : Int).toNat)] rfl (by (try simp only [List.map_toArray,List.map_cons,List.map_nil]);first|done|(simp only [hji4];rfl)|rfl|(simp only [List.length_drop,List.length_take];rfl)) ?_;(with_reducible refine (ticket_Open.calls (a1.extract 0 ((ji4) : Int).toNat) t283 t284 t285 t286 t287 _ ?side1 A9.out).mono ?_);(case side1 => first|exact HGCr.out|exact GlobCr.below HGCr.out (by repeat (first|(with_reducible first|exact HB.out|apply below_alloc|apply pw_below_drewN|apply below_drew1|refine below_set ?_ GE274.out)|exact HB.out))|exact GlobCr.drawn HGCr.out (by repeat (first|exact Drawn0.refl _|apply Drawn0.step)));rintro e w91 ⟨rfl,hb⟩;refine ⟨_,rfl,?_⟩;have n0_:=Aside0.mk (blk_below (g:=gb274) (o:=.cells #[.int .i64 t275,.string t276,.int .i64 t277,.int .i64 t278] 39 (0,0)) (by (with_reducible repeat (first|refine blk_drewN ?_ _|refine blk_drew ?_|refine blk_alloc ?_ _));exact BK274.out) hb);have n1_:=Aside0.mk (below_step (by repeat (first|(with_reducible first|exact HB.out|apply below_alloc|apply pw_below_drewN|apply below_drew1|refine below_set ?_ GE274.out)|exact HB.out)) hb);clear BK274;clear HB;have BK274:=n0_;have HB:=n1_;clear n0_ n1_;(try clear hb);(try clear hb2);(try clear hk);(try clear hi))|((with_reducible refine gate_dst (N:=9) rfl ?_);refine box_event ?hg (N:=9) ?hd (cs:=#[.int .i64 0,.string (⟨#[]⟩ : ByteArray),.int .i64 0,.int .i64 0]) (t:=39) ?hr ?_;(case hd => rfl);(case hg => rfl);(case hr => first|(go_simp;done)|(go_simp;rfl));intro gb288 hg w92 hbox hb;have n0_:=Aside0.mk (blk_below (g:=gb274) (o:=.cells #[.int .i64 t275,.string t276,.int .i64 t277,.int .i64 t278] 39 (0,0)) (by (with_reducible repeat (first|refine blk_drewN ?_ _|refine blk_drew ?_|refine blk_alloc ?_ _));exact BK274.out) hb);have n1_:=Aside0.mk (below_step (by repeat (first|(with_reducible first|exact HB.out|apply below_alloc|apply pw_below_drewN|apply below_drew1|refine below_set ?_ GE274.out)|exact HB.out)) hb);have n2_:=Aside0.mk (hbox);have n3_:=Aside0.mk ((by rw [hg];exact (below_size (by repeat (first|(with_reducible first|exact HB.out|apply below_alloc|apply pw_below_drewN|apply below_drew1|refine below_set ?_ GE274.out)|exact HB.out))) : w.heap.size ≤ gb288));have n4_:=Aside0.mk ((by rw [hg];exact (below_size (by repeat (first|(with_reducible first|exact HB.out|apply below_alloc|apply pw_below_drewN|apply below_drew1|refine below_set ?_ GE274.out)|exact HB.out))) : w.heap.size ≤ gb288));have n5_:=Aside0.mk ((by rw [hg];exact Nat.ne_of_lt (blk_lt (g:=gb274) (o:=.cells #[.int .i64 t275,.string t276,.int .i64 t277,.int .i64 t278] 39 (0,0)) (by (with_reducible repeat (first|refine blk_drewN ?_ _|refine blk_drew ?_|refine blk_alloc ?_ _));exact BK274.out)) : gb274 ≠ gb288));have n6_:=Aside0.mk ((by rw [hg];exact Nat.ne_of_gt (blk_lt (g:=gb274) (o:=.cells #[.int .i64 t275,.string t276,.int .i64 t277,.int .i64 t278] 39 (0,0)) (by (with_reducible repeat (first|refine blk_drewN ?_ _|refine blk_drew ?_|refine blk_alloc ?_ _));exact BK274.out)) : gb288 ≠ gb274));clear BK274;clear HB;have BK274:=n0_;have HB:=n1_;have BK288:=n2_;have GW288:=n3_;have GE288:=n4_;have NB274_288:=n5_;have NB288_274:=n6_;clear n0_ n1_ n2_ n3_ n4_ n5_ n6_;clear hb hbox hg;have hnb93:=NB288_274.out;have hnc93:=NB274_288.out;have hcz94_0 : w92.cell? ⟨gb288,0,none⟩ = some (.int .i64 0):=(blk_cell BK288.out 0).trans rfl;have hcz94_1 : w92.cell? ⟨gb288,1,none⟩ = some (.string (⟨#[]⟩ : ByteArray)):=(blk_cell BK288.out 1).trans rfl;have hcz94_2 : w92.cell? ⟨gb288,2,none⟩ = some (.int .i64 0):=(blk_cell BK288.out 2).trans rfl;have hcz94_3 : w92.cell? ⟨gb288,3,none⟩ = some (.int .i64 0):=(blk_cell BK288.out 3).trans rfl;have hfz94_0:=blk_frozen BK288.out 0;have hfz94_1:=blk_frozen BK288.out 1;have hfz94_2:=blk_frozen BK288.out 2;have hfz94_3:=blk_frozen BK288.out 3)|((with_reducible refine gate_callee (f:=23) rfl ?_);refine goesL_ (some 37) rfl rfl Tryd.func23 (by kernel_rfl) rfl #[.string (a1.extract 0 ((ji4) : Int).toNat)] rfl (by (try simp only [List.map_toArray,List.map_cons,List.map_nil]);first|done|(simp only [hji4];rfl)|rfl|(simp only [List.length_drop,List.length_take];rfl)) ?_;(with_reducible refine (racewayref27_Open.calls k (a1.extract 0 ((ji4) : Int).toNat) t289 t290 t291 t292 t293 _ A10.out).mono ?_);rintro e w95 ⟨rfl,hb⟩;refine ⟨_,rfl,?_⟩;have n0_:=Aside0.mk (blk_below (g:=gb274) (o:=.cells #[.int .i64 t275,.string t276,.int .i64 t277,.int .i64 t278] 39 (0,0)) (by (with_reducible repeat (first|refine blk_drewN ?_ _|refine blk_drew ?_|refine blk_alloc ?_ _));refine blk_far ?_ NB274_288.out _;(with_reducible repeat (first|refine blk_drewN ?_ _|refine blk_drew ?_|refine blk_alloc ?_ _));refine blk_far ?_ NB274_288.out _;(with_reducible repeat (first|refine blk_drewN ?_ _|refine blk_drew ?_|refine blk_alloc ?_ _));refine blk_far ?_ NB274_288.out _;(with_reducible repeat (first|refine blk_drewN ?_ _|refine blk_drew ?_|refine blk_alloc ?_ _));refine blk_far ?_ NB274_288.out _;(with_reducible repeat (first|refine blk_drewN ?_ _|refine blk_drew ?_|refine blk_alloc ?_ _));exact BK274.out) hb);have n1_:=Aside0.mk (blk_below (g:=gb288) (o:=.cells #[.int .i64 t283,.string t284,.int .i64 t285,.int .i64 t286] 39 (0,0)) (by (with_reducible repeat (first|refine blk_drewN ?_ _|refine blk_drew ?_|refine blk_alloc ?_ _));refine blk_put (cs:=#[.int .i64 t283,.string t284,.int .i64 t285,.int .i64 0]) ?_ 3 _ rfl;(with_reducible repeat (first|refine blk_drewN ?_ _|refine blk_drew ?_|refine blk_alloc ?_ _));refine blk_put (cs:=#[.int .i64 t283,.string t284,.int .i64 0,.int .i64 0]) ?_ 2 _ rfl;(with_reducible repeat (first|refine blk_drewN ?_ _|refine blk_drew ?_|refine blk_alloc ?_ _));refine blk_put (cs:=#[.int .i64 t283,.string (⟨#[]⟩ : ByteArray),.int .i64 0,.int .i64 0]) ?_ 1 _ rfl;(with_reducible repeat (first|refine blk_drewN ?_ _|refine blk_drew ?_|refine blk_alloc ?_ _));refine blk_put (cs:=#[.int .i64 0,.string (⟨#[]⟩ : ByteArray),.int .i64 0,.int .i64 0]) ?_ 0 _ rfl;(with_reducible repeat (first|refine blk_drewN ?_ _|refine blk_drew ?_|refine blk_alloc ?_ _));exact BK288.out) hb);have n2_:=Aside0.mk (below_step (by repeat (first|(with_reducible first|exact HB.out|apply below_alloc|apply pw_below_drewN|apply below_drew1|refine below_set ?_ GE274.out|refine below_set ?_ GE288.out)|exact HB.out)) hb);clear BK274;clear BK288;clear HB;have BK274:=n0_;have BK288:=n1_;have HB:=n2_;clear n0_ n1_ n2_;(try clear hb);(try clear hb2);(try clear hk);(try clear hi))|((with_reducible refine gate_dst (N:=11) rfl ?_);refine box_event ?hg (N:=11) ?hd (cs:=#[.int .i64 0,.string (⟨#[]⟩ : ByteArray),.int .i64 0,.int .i64 0]) (t:=39) ?hr ?_;(case hd => rfl);(case hg => rfl);(case hr => first|(go_simp;done)|(go_simp;rfl));intro gb294 hg w96 hbox hb;have n0_:=Aside0.mk (blk_below (g:=gb274) (o:=.cells #[.int .i64 t275,.string t276,.int .i64 t277,.int .i64 t278] 39 (0,0)) (by (with_reducible repeat (first|refine blk_drewN ?_ _|refine blk_drew ?_|refine blk_alloc ?_ _));exact BK274.out) hb);have n1_:=Aside0.mk (blk_below (g:=gb288) (o:=.cells #[.int .i64 t283,.string t284,.int .i64 t285,.int .i64 t286] 39 (0,0)) (by (with_reducible repeat (first|refine blk_drewN ?_ _|refine blk_drew ?_|refine blk_alloc ?_ _));exact BK288.out) hb);have n2_:=Aside0.mk (below_step (by repeat (first|(with_reducible first|exact HB.out|apply below_alloc|apply pw_below_drewN|apply below_drew1|refine below_set ?_ GE274.out|refine below_set ?_ GE288.out)|exact HB.out)) hb);have n3_:=Aside0.mk (hbox);have n4_:=Aside0.mk ((by rw [hg];exact (below_size (by repeat (first|(with_reducible first|exact HB.out|apply below_alloc|apply pw_below_drewN|apply below_drew1|refine below_set ?_ GE274.out|refine below_set ?_ GE288.out)|exact HB.out))) : w.heap.size ≤ gb294));have n5_:=Aside0.mk ((by rw [hg];exact (below_size (by repeat (first|(with_reducible first|exact HB.out|apply below_alloc|apply pw_below_drewN|apply below_drew1|refine below_set ?_ GE274.out|refine below_set ?_ GE288.out)|exact HB.out))) : w.heap.size ≤ gb294));have n6_:=Aside0.mk ((by rw [hg];exact Nat.ne_of_lt (blk_lt (g:=gb274) (o:=.cells #[.int .i64 t275,.string t276,.int .i64 t277,.int .i64 t278] 39 (0,0)) (by (with_reducible repeat (first|refine blk_drewN ?_ _|refine blk_drew ?_|refine blk_alloc ?_ _));exact BK274.out)) : gb274 ≠ gb294));have n7_:=Aside0.mk ((by rw [hg];exact Nat.ne_of_gt (blk_lt (g:=gb274) (o:=.cells #[.int .i64 t275,.string t276,.int .i64 t277,.int .i64 t278] 39 (0,0)) (by (with_reducible repeat (first|refine blk_drewN ?_ _|refine blk_drew ?_|refine blk_alloc ?_ _));exact BK274.out)) : gb294 ≠ gb274));have n8_:=Aside0.mk ((by rw [hg];exact Nat.ne_of_lt (blk_lt (g:=gb288) (o:=.cells #[.int .i64 t283,.string t284,.int .i64 t285,.int .i64 t286] 39 (0,0)) (by (with_reducible repeat (first|refine blk_drewN ?_ _|refine blk_drew ?_|refine blk_alloc ?_ _));exact BK288.out)) : gb288 ≠ gb294));have n9_:=Aside0.mk ((by rw [hg];exact Nat.ne_of_gt (blk_lt (g:=gb288) (o:=.cells #[.int .i64 t283,.string t284,.int .i64 t285,.int .i64 t286] 39 (0,0)) (by (with_reducible repeat (first|refine blk_drewN ?_ _|refine blk_drew ?_|refine blk_alloc ?_ _));exact BK288.out)) : gb294 ≠ gb288));clear BK274;clear BK288;clear HB;have BK274:=n0_;have BK288:=n1_;have HB:=n2_;have BK294:=n3_;have GW294:=n4_;have GE294:=n5_;have NB274_294:=n6_;have NB294_274:=n7_;have NB288_294:=n8_;have NB294_288:=n9_;clear n0_ n1_ n2_ n3_ n4_ n5_ n6_ n7_ n8_ n9_;clear hb hbox hg;have hnb97:=NB294_274.out;have hnc97:=NB274_294.out;have hnb98:=NB294_288.out;have hnc98:=NB288_294.out;have hcz99_0 : w96.cell? ⟨gb294,0,none⟩ = some (.int .i64 0):=(blk_cell BK294.out 0).trans rfl;have hcz99_1 : w96.cell? ⟨gb294,1,none⟩ = some (.string (⟨#[]⟩ : ByteArray)):=(blk_cell BK294.out 1).trans rfl;have hcz99_2 : w96.cell? ⟨gb294,2,none⟩ = some (.int .i64 0):=(blk_cell BK294.out 2).trans rfl;have hcz99_3 : w96.cell? ⟨gb294,3,none⟩ = some (.int .i64 0):=(blk_cell BK294.out 3).trans rfl;have hfz99_0:=blk_frozen BK294.out 0;have hfz99_1:=blk_frozen BK294.out 1;have hfz99_2:=blk_frozen BK294.out 2;have hfz99_3:=blk_frozen BK294.out 3))
     go_ret
     exact ⟨by first|rfl|(simp [errW_none,errW_some] <;> rfl)|(simp only [← hji4];first|rfl|(simp [errW_none,errW_some] <;> rfl))|(simp [*,errW_none,errW_some] <;> rfl),by repeat (first|(with_reducible first|exact HB.out|apply below_alloc|apply pw_below_drewN|apply below_drew1|refine below_set ?_ GE274.out|refine below_set ?_ GE288.out|refine below_set ?_ GE294.out)|exact HB.out)⟩
   ·rw [if_neg c11] at H
    have c11b0 : (t279.toList == t281.toList) = false:=beq_eq_false_iff_ne.mpr c11
    have c11b1 : (t279.toList != t281.toList) = true:=bne_iff_ne.mpr c11
    obtain rfl:=Option.some.inj H
    go_enter Tryd.func6,Tryd.ntmps6
    try go_wp2_with (first|((with_reducible refine gate_dst (N:=2) rfl ?_);refine box_event ?hg (N:=2) ?hd (cs:=#[.int .i64 a0_0,.string a0_1,.int .i64 a0_2,.int .i64 a0_3]) (t:=39) ?hr ?_;(case hd => rfl);(case hg => rfl);(case hr => first|(go_simp;done)|(go_simp;rfl));intro gb274 hg w100 hbox hb;have n0_:=Aside0.mk (below_step (by repeat (first|(with_reducible first|exact HB.out|apply below_alloc|apply pw_below_drewN|apply below_drew1)|exact HB.out)) hb);have n1_:=Aside0.mk (hbox);have n2_:=Aside0.mk ((by rw [hg];exact (below_size (by repeat (first|(with_reducible first|exact HB.out|apply below_alloc|apply pw_below_drewN|apply below_drew1)|exact HB.out))) : w.heap.size ≤ gb274));have n3_:=Aside0.mk ((by rw [hg];exact (below_size (by repeat (first|(with_reducible first|exact HB.out|apply below_alloc|apply pw_below_drewN|apply below_drew1)|exact HB.out))) : w.heap.size ≤ gb274));clear HB;have HB:=n0_;have BK274:=n1_;have GW274:=n2_;have GE274:=n3_;clear n0_ n1_ n2_ n3_;clear hb hbox hg))
    have n0_:=Aside0.mk (blk_drew BK274.out)
    have n1_:=Aside0.mk (below_drew1 HB.out)
    clear BK274
    clear HB
    have BK274:=n0_
    have HB:=n1_
    clear n0_ n1_
    refine start_ (n:=9) (S:=fun w' => w'.cell? ⟨gb274,0,none⟩ = some (.int .i64 a0_0) ∧ w'.cell? ⟨gb274,1,none⟩ = some (.string a0_1) ∧ w'.cell? ⟨gb274,2,none⟩ = some (.int .i64 a0_2) ∧ w'.cell? ⟨gb274,3,none⟩ = some (.int .i64 a0_3)) (ds:=[7]) #[false,false,false,false,false,false,false,false,false] (by kernel_rfl) rfl rfl ⟨(blk_cell BK274.out 0).trans rfl,(blk_cell BK274.out 1).trans rfl,(blk_cell BK274.out 2).trans rfl,(blk_cell BK274.out 3).trans rfl⟩ (fun hHeld => ?_);refine with_tabW racewaylaw27_TicketHandles.tab1 racewaylaw27_TicketHandles.bits1 (fun HT_ HW_ => ?_)
    generalize w100.drew = w101 at BK274 HB hHeld ⊢
    refine pure_ (i:=2) (N:=some 15) (v:=?_) (a':=?_) #[false,false,true,false,false,false,false,false,false] rfl rfl (any_of HT_.out (by kernel_rfl)) (fun _ _ _ h => h) (Or.inl ⟨by rfl,?_⟩) ?_ ?_
    rotate_left
    ·intro w'
     go_simp
     with_reducible rfl
    rotate_left
    ·simp only [Act.put,List.setIfInBounds_toArray,List.set_cons_zero,List.set_cons_succ,i64_w,i32_w]
     rfl
    refine pure_ (i:=3) (N:=some 16) (v:=?_) (a':=?_) #[false,false,true,true,false,false,false,false,false] rfl rfl (any_of HT_.out (by kernel_rfl)) (fun _ _ _ h => h) (Or.inl ⟨by rfl,?_⟩) ?_ ?_
    rotate_left
    ·intro w'
     go_simp
     with_reducible rfl
    rotate_left
    ·simp only [Act.put,List.setIfInBounds_toArray,List.set_cons_zero,List.set_cons_succ,i64_w,i32_w]
     rfl
    refine pure_ (i:=4) (N:=some 17) (v:=?_) (a':=?_) #[false,false,true,true,true,false,false,false,false] rfl rfl (any_of HT_.out (by kernel_rfl)) (fun _ _ _ h => h) (Or.inl ⟨by rfl,?_⟩) ?_ ?_
    rotate_left
    ·intro w'
     go_simp
     with_reducible rfl
    rotate_left
    ·simp only [Act.put,List.setIfInBounds_toArray,List.set_cons_zero,List.set_cons_succ,i64_w,i32_w]
     rfl
    refine pure_ (i:=5) (N:=some 18) (v:=?_) (a':=?_) #[false,false,true,true,true,true,false,false,false] rfl rfl (any_of HT_.out (by kernel_rfl)) (fun _ _ _ h => h) (Or.inl ⟨by rfl,?_⟩) ?_ ?_
    rotate_left
    ·intro w'
     go_simp
     with_reducible rfl
    rotate_left
    ·simp only [Act.put,List.setIfInBounds_toArray,List.set_cons_zero,List.set_cons_succ,i64_w,i32_w]
     rfl
    refine pure_ (i:=6) (N:=some 19) (v:=?_) (a':=?_) #[false,false,true,true,true,true,true,false,false] rfl rfl (any_of HT_.out (by kernel_rfl)) (fun _ _ _ h => h) (Or.inl ⟨by rfl,?_⟩) ?_ ?_
    rotate_left
    ·intro w'
     go_simp
     with_reducible rfl
    rotate_left
    ·simp only [Act.put,List.setIfInBounds_toArray,List.set_cons_zero,List.set_cons_succ,i64_w,i32_w]
     rfl
    refine take_ (i:=0) (N:=some 13) (v:=?_) (a':=?_) #[true,false,true,true,true,true,true,false,false] rfl rfl (take_ofW HT_.out HW_.out (by kernel_rfl)) (fun _ _ _ h => h) (Or.inl ⟨by rfl,?_⟩) hHeld ?_ ?_
    rotate_left
    ·rintro w' ⟨s0,s1,s2,s3⟩
     go_simp
     with_reducible rfl
    rotate_left
    ·simp only [Act.put,List.setIfInBounds_toArray,List.set_cons_zero,List.set_cons_succ,i64_w,i32_w]
     rfl
    refine one_ (i:=1) (N:=some 14) #[true,true,true,true,true,true,true,false,false] rfl rfl (one_of HT_.out (by kernel_rfl)) (by decide) (fun K hK => ?_)
    refine goes_ Tryd.func19 (by kernel_rfl) rfl #[.agg #[.int .i64 a0_0,.string a0_1,.int .i64 a0_2,.int .i64 a0_3]] (by rfl) rfl rfl (by (try simp only [List.map_toArray,List.map_cons,List.map_nil]);first|done|rfl|(simp only [List.length_drop,List.length_take];rfl)) ?_
    with_reducible refine (racewaylaw27_few.calls a0_0 a0_1 a0_2 a0_3 t275 t276 t277 t278 _ A3.out).mono ?_
    rintro e w102 ⟨rfl,hb⟩
    refine ⟨_,rfl,?_⟩
    have n0_:=Aside0.mk (blk_below (g:=gb274) (o:=.cells #[.int .i64 a0_0,.string a0_1,.int .i64 a0_2,.int .i64 a0_3] 39 (0,0)) (by (with_reducible repeat (first|refine blk_drewN ?_ _|refine blk_drew ?_|refine blk_alloc ?_ _));exact BK274.out) hb)
    have n1_:=Aside0.mk (below_step (by repeat (first|(with_reducible first|exact HB.out|apply below_alloc|apply pw_below_drewN|apply below_drew1|refine below_set ?_ GE274.out)|exact HB.out)) hb)
    clear BK274
    clear HB
    have BK274:=n0_
    have HB:=n1_
    clear n0_ n1_
    (try clear hb)
    (try clear hb2)
    (try clear hk)
    (try clear hi)
    refine hK.out _ _ ⟨(blk_cell BK274.out 0).trans rfl,(blk_cell BK274.out 1).trans rfl,(blk_cell BK274.out 2).trans rfl,(blk_cell BK274.out 3).trans rfl⟩ (fun hHeld => ?_)
    clear hK K
    refine norm_ (a':=?_) ?_ ?_
    rotate_left
    ·show Act.put _ (some 14) _ = _
     simp only [Act.put,List.setIfInBounds_toArray,List.set_cons_zero,List.set_cons_succ,i64_w,i32_w]
     rfl
    refine last_ (i:=7) (N:=none) #[true,true,true,true,true,true,true,true,false] rfl rfl (one_of HT_.out (by kernel_rfl)) (by decide) (fun K hK => ?_)
    have hs103 : w102.cell? ⟨gb274,0,none⟩ = some (.int .i64 a0_0):=(blk_cell BK274.out 0).trans rfl
    have hfs103:=blk_frozen BK274.out 0
    have hs104 : w102.cell? ⟨gb274,1,none⟩ = some (.string a0_1):=(blk_cell BK274.out 1).trans rfl
    have hfs104:=blk_frozen BK274.out 1
    have hs105 : w102.cell? ⟨gb274,2,none⟩ = some (.int .i64 a0_2):=(blk_cell BK274.out 2).trans rfl
    have hfs105:=blk_frozen BK274.out 2
    have hs106 : w102.cell? ⟨gb274,3,none⟩ = some (.int .i64 a0_3):=(blk_cell BK274.out 3).trans rfl
    have hfs106:=blk_frozen BK274.out 3
    refine skip_ (w1:=?_) (by rfl) rfl ?_ ?_
    rotate_left
    ·go_simp
     rfl
    refine hK.out _ _ ?_
    clear hK K
    refine pure_ (i:=8) (N:=some 1) (v:=?_) (a':=?_) #[true,true,true,true,true,true,true,true,true] rfl rfl (any_of HT_.out (by kernel_rfl)) (fun _ _ _ h => h) (Or.inl ⟨by rfl,?_⟩) ?_ ?_
    rotate_left
    ·intro w'
     go_simp
     with_reducible rfl
    rotate_left
    ·simp only [Act.put,List.setIfInBounds_toArray,List.set_cons_zero,List.set_cons_succ,i64_w,i32_w]
     rfl
    refine done_ (done_of HT_.out (by kernel_rfl)) ?_
    have hcz107_0 : w102.cell? ⟨gb274,0,none⟩ = some (.int .i64 a0_0):=(blk_cell BK274.out 0).trans rfl
    have hcz107_1 : w102.cell? ⟨gb274,1,none⟩ = some (.string a0_1):=(blk_cell BK274.out 1).trans rfl
    have hcz107_2 : w102.cell? ⟨gb274,2,none⟩ = some (.int .i64 a0_2):=(blk_cell BK274.out 2).trans rfl
    have hcz107_3 : w102.cell? ⟨gb274,3,none⟩ = some (.int .i64 a0_3):=(blk_cell BK274.out 3).trans rfl
    have hfz107_0:=blk_frozen BK274.out 0
    have hfz107_1:=blk_frozen BK274.out 1
    have hfz107_2:=blk_frozen BK274.out 2
    have hfz107_3:=blk_frozen BK274.out 3
    try go_wp2_with (first|((with_reducible refine gate_callee (f:=20) rfl ?_);refine goesL_ (some 22) rfl rfl Tryd.func20 (by kernel_rfl) rfl #[.agg #[.int .i64 t275,.string t276,.int .i64 t277,.int .i64 t278]] rfl (by (try simp only [List.map_toArray,List.map_cons,List.map_nil]);first|done|rfl|(simp only [List.length_drop,List.length_take];rfl)) ?_;(with_reducible refine (ticket_Handle.calls k t275 t276 t277 t278 t279 t280 _ ?side1 A7.out).mono ?_);(case side1 => first|exact HGCr.out|exact GlobCr.below HGCr.out (by repeat (first|(with_reducible first|exact HB.out|apply below_alloc|apply pw_below_drewN|apply below_drew1|refine below_set ?_ GE274.out)|exact HB.out))|exact GlobCr.drawn HGCr.out (by repeat (first|exact Drawn0.refl _|apply Drawn0.step)));rintro e w108 ⟨rfl,hb⟩;refine ⟨_,rfl,?_⟩;have n0_:=Aside0.mk (blk_below (g:=gb274) (o:=.cells #[.int .i64 t275,.string t276,.int .i64 t277,.int .i64 t278] 39 (0,0)) (by (with_reducible repeat (first|refine blk_drewN ?_ _|refine blk_drew ?_|refine blk_alloc ?_ _));refine blk_put (cs:=#[.int .i64 t275,.string t276,.int .i64 t277,.int .i64 a0_3]) ?_ 3 _ rfl;(with_reducible repeat (first|refine blk_drewN ?_ _|refine blk_drew ?_|refine blk_alloc ?_ _));refine blk_put (cs:=#[.int .i64 t275,.string t276,.int .i64 a0_2,.int .i64 a0_3]) ?_ 2 _ rfl;(with_reducible repeat (first|refine blk_drewN ?_ _|refine blk_drew ?_|refine blk_alloc ?_ _));refine blk_put (cs:=#[.int .i64 t275,.string a0_1,.int .i64 a0_2,.int .i64 a0_3]) ?_ 1 _ rfl;(with_reducible repeat (first|refine blk_drewN ?_ _|refine blk_drew ?_|refine blk_alloc ?_ _));refine blk_put (cs:=#[.int .i64 a0_0,.string a0_1,.int .i64 a0_2,.int .i64 a0_3]) ?_ 0 _ rfl;(with_reducible repeat (first|refine blk_drewN ?_ _|refine blk_drew ?_|refine blk_alloc ?_ _));exact BK274.out) hb);have n1_:=Aside0.mk (below_step (by repeat (first|(with_reducible first|exact HB.out|apply below_alloc|apply pw_below_drewN|apply below_drew1|refine below_set ?_ GE274.out)|exact HB.out)) hb);clear BK274;clear HB;have BK274:=n0_;have HB:=n1_;clear n0_ n1_;(try clear hb);(try clear hb2);(try clear hk);(try clear hi);have hcz109_0 : w108.cell? ⟨gb274,0,none⟩ = some (.int .i64 t275):=(blk_cell BK274.out 0).trans rfl;have hcz109_1 : w108.cell? ⟨gb274,1,none⟩ = some (.string t276):=(blk_cell BK274.out 1).trans rfl;have hcz109_2 : w108.cell? ⟨gb274,2,none⟩ = some (.int .i64 t277):=(blk_cell BK274.out 2).trans rfl;have hcz109_3 : w108.cell? ⟨gb274,3,none⟩ = some (.int .i64 t278):=(blk_cell BK274.out 3).trans rfl;have hfz109_0:=blk_frozen BK274.out 0;have hfz109_1:=blk_frozen BK274.out 1;have hfz109_2:=blk_frozen BK274.out 2;have hfz109_3:=blk_frozen BK274.out 3)|((with_reducible refine gate_callee (f:=21) rfl ?_);refine goesL_ (some 27) rfl rfl Tryd.func21 (by kernel_rfl) rfl #[.agg #[.int .i64 t275,.string t276,.int .i64 t277,.int .i64 t278]] rfl (by (try simp only [List.map_toArray,List.map_cons,List.map_nil]);first|done|rfl|(simp only [List.length_drop,List.length_take];rfl)) ?_;(with_reducible refine (racewayref27_Handle.calls k t275 t276 t277 t278 t281 t282 _ A8.out).mono ?_);rintro e w110 ⟨rfl,hb⟩;refine ⟨_,rfl,?_⟩;have n0_:=Aside0.mk (blk_below (g:=gb274) (o:=.cells #[.int .i64 t275,.string t276,.int .i64 t277,.int .i64 t278] 39 (0,0)) (by (with_reducible repeat (first|refine blk_drewN ?_ _|refine blk_drew ?_|refine blk_alloc ?_ _));exact BK274.out) hb);have n1_:=Aside0.mk (below_step (by repeat (first|(with_reducible first|exact HB.out|apply below_alloc|apply pw_below_drewN|apply below_drew1|refine below_set ?_ GE274.out)|exact HB.out)) hb);clear BK274;clear HB;have BK274:=n0_;have HB:=n1_;clear n0_ n1_;(try clear hb);(try clear hb2);(try clear hk);(try clear hi))|((with_reducible refine gate_callee (f:=22) rfl ?_);refine goesL_ (some 32) rfl rfl Tryd.func22 (by kernel_rfl) rfl #[.string (a1.extract 0 ((ji4) : Int).toNat)] rfl (by (try simp only [List.map_toArray,List.map_cons,List.map_nil]);first|done|(simp only [hji4];rfl)|rfl|(simp only [List.length_drop,List.length_take];rfl)) ?_;(with_reducible refine (ticket_Open.calls (a1.extract 0 ((ji4) : Int).toNat) t283 t284 t285 t286 t287 _ ?side1 A9.out).mono ?_);(case side1 => first|exact HGCr.out|exact GlobCr.below HGCr.out (by repeat (first|(with_reducible first|exact HB.out|apply below_alloc|apply pw_below_drewN|apply below_drew1|refine below_set ?_ GE274.out)|exact HB.out))|exact GlobCr.drawn HGCr.out (by repeat (first|exact Drawn0.refl _|apply Drawn0.step)));rintro e w111 ⟨rfl,hb⟩;refine ⟨_,rfl,?_⟩;have n0_:=Aside0.mk (blk_below (g:=gb274) (o:=.cells #[.int .i64 t275,.string t276,.int .i64 t277,.int .i64 t278] 39 (0,0)) (by (with_reducible repeat (first|refine blk_drewN ?_ _|refine blk_drew ?_|refine blk_alloc ?_ _));exact BK274.out) hb);have n1_:=Aside0.mk (below_step (by repeat (first|(with_reducible first|exact HB.out|apply below_alloc|apply pw_below_drewN|apply below_drew1|refine below_set ?_ GE274.out)|exact HB.out)) hb);clear BK274;clear HB;have BK274:=n0_;have HB:=n1_;clear n0_ n1_;(try clear hb);(try clear hb2);(try clear hk);(try clear hi))|((with_reducible refine gate_dst (N:=9) rfl ?_);refine box_event ?hg (N:=9) ?hd (cs:=#[.int .i64 0,.string (⟨#[]⟩ : ByteArray),.int .i64 0,.int .i64 0]) (t:=39) ?hr ?_;(case hd => rfl);(case hg => rfl);(case hr => first|(go_simp;done)|(go_simp;rfl));intro gb288 hg w112 hbox hb;have n0_:=Aside0.mk (blk_below (g:=gb274) (o:=.cells #[.int .i64 t275,.string t276,.int .i64 t277,.int .i64 t278] 39 (0,0)) (by (with_reducible repeat (first|refine blk_drewN ?_ _|refine blk_drew ?_|refine blk_alloc ?_ _));exact BK274.out) hb);have n1_:=Aside0.mk (below_step (by repeat (first|(with_reducible first|exact HB.out|apply below_alloc|apply pw_below_drewN|apply below_drew1|refine below_set ?_ GE274.out)|exact HB.out)) hb);have n2_:=Aside0.mk (hbox);have n3_:=Aside0.mk ((by rw [hg];exact (below_size (by repeat (first|(with_reducible first|exact HB.out|apply below_alloc|apply pw_below_drewN|apply below_drew1|refine below_set ?_ GE274.out)|exact HB.out))) : w.heap.size ≤ gb288));have n4_:=Aside0.mk ((by rw [hg];exact (below_size (by repeat (first|(with_reducible first|exact HB.out|apply below_alloc|apply pw_below_drewN|apply below_drew1|refine below_set ?_ GE274.out)|exact HB.out))) : w.heap.size ≤ gb288));have n5_:=Aside0.mk ((by rw [hg];exact Nat.ne_of_lt (blk_lt (g:=gb274) (o:=.cells #[.int .i64 t275,.string t276,.int .i64 t277,.int .i64 t278] 39 (0,0)) (by (with_reducible repeat (first|refine blk_drewN ?_ _|refine blk_drew ?_|refine blk_alloc ?_ _));exact BK274.out)) : gb274 ≠ gb288));have n6_:=Aside0.mk ((by rw [hg];exact Nat.ne_of_gt (blk_lt (g:=gb274) (o:=.cells #[.int .i64 t275,.string t276,.int .i64 t277,.int .i64 t278] 39 (0,0)) (by (with_reducible repeat (first|refine blk_drewN ?_ _|refine blk_drew ?_|refine blk_alloc ?_ _));exact BK274.out)) : gb288 ≠ gb274));clear BK274;clear HB;have BK274:=n0_;have HB:=n1_;have BK288:=n2_;have GW288:=n3_;have GE288:=n4_;have NB274_288:=n5_;have NB288_274:=n6_;clear n0_ n1_ n2_ n3_ n4_ n5_ n6_;clear hb hbox hg;have hnb113:=NB288_274.out;have hnc113:=NB274_288.out;have hcz114_0 : w112.cell? ⟨gb288,0,none⟩ = some (.int .i64 0):=(blk_cell BK288.out 0).trans rfl;have hcz114_1 : w112.cell? ⟨gb288,1,none⟩ = some (.string (⟨#[]⟩ : ByteArray)):=(blk_cell BK288.out 1).trans rfl;have hcz114_2 : w112.cell? ⟨gb288,2,none⟩ = some (.int .i64 0):=(blk_cell BK288.out 2).trans rfl;have hcz114_3 : w112.cell? ⟨gb288,3,none⟩ = some (.int .i64 0):=(blk_cell BK288.out 3).trans rfl;have hfz114_0:=blk_frozen BK288.out 0;have hfz114_1:=blk_frozen BK288.out 1;have hfz114_2:=blk_frozen BK288.out 2;have hfz114_3:=blk_frozen BK288.out 3)|((with_reducible refine gate_callee (f:=23) rfl ?_);refine goesL_ (some 37) rfl rfl Tryd.func23 (by kernel_rfl) rfl #[.string (a1.extract 0 ((ji4) : Int).toNat)] rfl (by (try simp only [List.map_toArray,List.map_cons,List.map_nil]);first|done|(simp only [hji4];rfl)|rfl|(simp only [List.length_drop,List.length_take];rfl)) ?_;(with_reducible refine (racewayref27_Open.calls k (a1.extract 0 ((ji4) : Int).toNat) t289 t290 t291 t292 t293 _ A10.out).mono ?_);rintro e w115 ⟨rfl,hb⟩;refine ⟨_,rfl,?_⟩;have n0_:=Aside0.mk (blk_below (g:=gb274) (o:=.cells #[.int .i64 t275,.string t276,.int .i64 t277,.int .i64 t278] 39 (0,0)) (by (with_reducible repeat (first|refine blk_drewN ?_ _|refine blk_drew ?_|refine blk_alloc ?_ _));refine blk_far ?_ NB274_288.out _;(with_reducible repeat (first|refine blk_drewN ?_ _|refine blk_drew ?_|refine blk_alloc ?_ _));refine blk_far ?_ NB274_288.out _;(with_reducible repeat (first|refine blk_drewN ?_ _|refine blk_drew ?_|refine blk_alloc ?_ _));refine blk_far ?_ NB274_288.out _;(with_reducible repeat (first|refine blk_drewN ?_ _|refine blk_drew ?_|refine blk_alloc ?_ _));refine blk_far ?_ NB274_288.out _;(with_reducible repeat (first|refine blk_drewN ?_ _|refine blk_drew ?_|refine blk_alloc ?_ _));exact BK274.out) hb);have n1_:=Aside0.mk (blk_below (g:=gb288) (o:=.cells #[.int .i64 t283,.string t284,.int .i64 t285,.int .i64 t286] 39 (0,0)) (by (with_reducible repeat (first|refine blk_drewN ?_ _|refine blk_drew ?_|refine blk_alloc ?_ _));refine blk_put (cs:=#[.int .i64 t283,.string t284,.int .i64 t285,.int .i64 0]) ?_ 3 _ rfl;(with_reducible repeat (first|refine blk_drewN ?_ _|refine blk_drew ?_|refine blk_alloc ?_ _));refine blk_put (cs:=#[.int .i64 t283,.string t284,.int .i64 0,.int .i64 0]) ?_ 2 _ rfl;(with_reducible repeat (first|refine blk_drewN ?_ _|refine blk_drew ?_|refine blk_alloc ?_ _));refine blk_put (cs:=#[.int .i64 t283,.string (⟨#[]⟩ : ByteArray),.int .i64 0,.int .i64 0]) ?_ 1 _ rfl;(with_reducible repeat (first|refine blk_drewN ?_ _|refine blk_drew ?_|refine blk_alloc ?_ _));refine blk_put (cs:=#[.int .i64 0,.string (⟨#[]⟩ : ByteArray),.int .i64 0,.int .i64 0]) ?_ 0 _ rfl;(with_reducible repeat (first|refine blk_drewN ?_ _|refine blk_drew ?_|refine blk_alloc ?_ _));exact BK288.out) hb);have n2_:=Aside0.mk (below_step (by repeat (first|(with_reducible first|exact HB.out|apply below_alloc|apply pw_below_drewN|apply below_drew1|refine below_set ?_ GE274.out|refine below_set ?_ GE288.out)|exact HB.out)) hb);clear BK274;clear BK288;clear HB;have BK274:=n0_;have BK288:=n1_;have HB:=n2_;clear n0_ n1_ n2_;(try clear hb);(try clear hb2);(try clear hk);(try clear hi))|((with_reducible refine gate_dst (N:=11) rfl ?_);refine box_event ?hg (N:=11) ?hd (cs:=#[.int .i64 0,.string (⟨#[]⟩ : ByteArray),.int .i64 0,.int .i64 0]) (t:=39) ?hr ?_;(case hd => rfl);(case hg => rfl);(case hr => first|(go_simp;done)|(go_simp;rfl));intro gb294 hg w116 hbox hb;have n0_:=Aside0.mk (blk_below (g:=gb274) (o:=.cells #[.int .i64 t275,.string t276,.int .i64 t277,.int .i64 t278] 39 (0,0)) (by (with_reducible repeat (first|refine blk_drewN ?_ _|refine blk_drew ?_|refine blk_alloc ?_ _));exact BK274.out) hb);have n1_:=Aside0.mk (blk_below (g:=gb288) (o:=.cells #[.int .i64 t283,.string t284,.int .i64 t285,.int .i64 t286] 39 (0,0)) (by (with_reducible repeat (first|refine blk_drewN ?_ _|refine blk_drew ?_|refine blk_alloc ?_ _));exact BK288.out) hb);have n2_:=Aside0.mk (below_step (by repeat (first|(with_reducible first|exact HB.out|apply below_alloc|apply pw_below_drewN|apply below_drew1|refine below_set ?_ GE274.out|refine below_set ?_ GE288.out)|exact HB.out)) hb);have n3_:=Aside0.mk (hbox);have n4_:=Aside0.mk ((by rw [hg];exact (below_size (by repeat (first|(with_reducible first|exact HB.out|apply below_alloc|apply pw_below_drewN|apply below_drew1|refine below_set ?_ GE274.out|refine below_set ?_ GE288.out)|exact HB.out))) : w.heap.size ≤ gb294));have n5_:=Aside0.mk ((by rw [hg];exact (below_size (by repeat (first|(with_reducible first|exact HB.out|apply below_alloc|apply pw_below_drewN|apply below_drew1|refine below_set ?_ GE274.out|refine below_set ?_ GE288.out)|exact HB.out))) : w.heap.size ≤ gb294));have n6_:=Aside0.mk ((by rw [hg];exact Nat.ne_of_lt (blk_lt (g:=gb274) (o:=.cells #[.int .i64 t275,.string t276,.int .i64 t277,.int .i64 t278] 39 (0,0)) (by (with_reducible repeat (first|refine blk_drewN ?_ _|refine blk_drew ?_|refine blk_alloc ?_ _));exact BK274.out)) : gb274 ≠ gb294));have n7_:=Aside0.mk ((by rw [hg];exact Nat.ne_of_gt (blk_lt (g:=gb274) (o:=.cells #[.int .i64 t275,.string t276,.int .i64 t277,.int .i64 t278] 39 (0,0)) (by (with_reducible repeat (first|refine blk_drewN ?_ _|refine blk_drew ?_|refine blk_alloc ?_ _));exact BK274.out)) : gb294 ≠ gb274));have n8_:=Aside0.mk ((by rw [hg];exact Nat.ne_of_lt (blk_lt (g:=gb288) (o:=.cells #[.int .i64 t283,.string t284,.int .i64 t285,.int .i64 t286] 39 (0,0)) (by (with_reducible repeat (first|refine blk_drewN ?_ _|refine blk_drew ?_|refine blk_alloc ?_ _));exact BK288.out)) : gb288 ≠ gb294));have n9_:=Aside0.mk ((by rw [hg];exact Nat.ne_of_gt (blk_lt (g:=gb288) (o:=.cells #[.int .i64 t283,.string t284,.int .i64 t285,.int .i64 t286] 39 (0,0)) (by (with_reducible repeat (first|refine blk_drewN ?_ _|refine blk_drew ?_|refine blk_alloc ?_ _));exact BK288.out)) : gb294 ≠ gb288));clear BK274;clear BK288;clear HB;have BK274:=n0_;have BK288:=n1_;have HB:=n2_;have BK294:=n3_;have GW294:=n4_;have GE294:=n5_;have NB274_294:=n6_;have NB294_274:=n7_;have NB288_294:=n8_;have NB294_288:=n9_;clear n0_ n1_ n2_ n3_ n4_ n5_ n6_ n7_ n8_ n9_;clear hb hbox hg;have hnb117:=NB294_274.out;have hnc117:=NB274_294.out;have hnb118:=NB294_288.out;have hnc118:=NB288_294.out;have hcz119_0 : w116.cell? ⟨gb294,0,none⟩ = some (.int .i64 0):=(blk_cell BK294.out 0).trans rfl;have hcz119_1 : w116.cell? ⟨gb294,1,none⟩ = some (.string (⟨#[]⟩ : ByteArray)):=(blk_cell BK294.out 1).trans rfl;have hcz119_2 : w116.cell? ⟨gb294,2,none⟩ = some (.int .i64 0):=(blk_cell BK294.out 2).trans rfl;have hcz119_3 : w116.cell? ⟨gb294,3,none⟩ = some (.int .i64 0):=(blk_cell BK294.out 3).trans rfl;have hfz119_0:=blk_frozen BK294.out 0;have hfz119_1:=blk_frozen BK294.out 1;have hfz119_2:=blk_frozen BK294.out 2;have hfz119_3:=blk_frozen BK294.out 3))
    go_ret
    exact ⟨by first|rfl|(simp [errW_none,errW_some] <;> rfl)|(simp only [← hji4];first|rfl|(simp [errW_none,errW_some] <;> rfl))|(simp [*,errW_none,errW_some] <;> rfl),by repeat (first|(with_reducible first|exact HB.out|apply below_alloc|apply pw_below_drewN|apply below_drew1|refine below_set ?_ GE274.out|refine below_set ?_ GE288.out|refine below_set ?_ GE294.out)|exact HB.out)⟩
  ·rw [if_neg c6] at H
   exact absurd H (by simp)
 ·rw [if_neg c5] at H
  exact absurd H (by simp)
end Go.Proofs.YtedfgkjimnjdpaaDoor.X
namespace Go.Proofs.YtedfgkjimnjdpaaDoor.X
open Go.RowKit Go.Proofs.YtedfgkjimnjdpaaDoorW.PrintWords Go.Proofs.YtedfgkjimnjdpaaDoorW.PrintLast Go.Proofs.YtedfgkjimnjdpaaDoorW.PrintMore
set_option linter.unusedVariables false
set_option linter.unusedSimpArgs false
theorem tdivr (x : Int) (c : Int) (h : 0 ≤ x) : Int.tdiv x c = x / c:=Int.tdiv_eq_ediv_of_nonneg h
theorem tmodr (x : Int) (c : Int) (h : 0 ≤ x) : Int.tmod x c = x % c:=Int.tmod_eq_emod_of_nonneg h
theorem rnum_l0 : ∀ (n : Nat) (l : List Int) (k : Nat),n ≤ 4611686018427387904 → (numB n).length ≤ k → l.length + (numB n).length ≤ 100000000 → racewayref01_Num.l0 k (n : Int) l = some (l ++ numB n,0):=by
 intro n
 induction n using Nat.strongRecOn with
 | ind n ih =>
  intro l k hn hk hl
  by_cases h1 : n < 128
  ·rw [numB_lt h1] at hk hl ⊢
   simp only [List.length_singleton] at hk hl
   cases k with
   | zero => omega
   | succ k =>
    rw [racewayref01_Num.l0,if_neg (by omega),if_pos (by omega)]
    have e : (n : Int) % 256 = n:=by omega
    rw [e]
  ·rw [numB_ge (n:=n) (by omega)] at hk hl ⊢
   simp only [List.length_cons] at hk hl
   cases k with
   | zero => omega
   | succ k =>
    have e : wrap64 (Int.tdiv (n : Int) 128) = ((n / 128 : Nat) : Int):=by rw [tdivr _ _ (by omega),w64 (by omega) (by omega)];omega
    have e2 : wrap64 (Int.tmod (n : Int) 128 + 128) % 256 = ((n % 128 + 128 : Nat) : Int):=by rw [tmodr _ _ (by omega),w64 (by omega) (by omega)];omega
    rw [racewayref01_Num.l0,if_pos (by omega),if_pos (by omega),e,e2,ih (n / 128) (by omega) _ k (by omega) (by omega) (by simp;omega),List.append_assoc]
    rfl
theorem rNum_is (l : List Int) (hl : l.length ≤ 1000000) (n : Nat) (h : n ≤ 4611686018427387904) (k : Nat) (hk : 20 < k) : racewayref01_Num.f k l (n : Int) = some (l ++ numB n,0):=by
 have h10:=numB_10 n h
 obtain ⟨k,rfl⟩ : ∃ j,k = j + 1:=⟨k - 1,by omega⟩
 rw [racewayref01_Num.f,if_neg (by omega),show (decide ((n : Int) > 4611686018427387904)) = false from decide_eq_false (by omega),racewayref01_Num.j0,if_neg (by decide),Option.bind_some,if_pos (by simp;omega),List.nil_append,rnum_l0 n l k h (by omega) (by omega)]
theorem rText_is (l : List Int) (hl : l.length ≤ 1000000) (s : ByteArray) (h : s.size ≤ 4096) (k : Nat) (hk : 20 < k) : racewayref01_Text.f k l s = some (l ++ numB s.size ++ bytesOf s,0):=by
 have h10:=numB_10 s.size (by omega)
 rw [racewayref01_Text.f,if_neg (by omega),rNum_is l hl s.size (by omega) k hk,Option.bind_some]
 simp only
 rw [if_pos (by simp;omega)]
theorem rput_is (l : List Int) (hl : l.length ≤ 1000000) (n : Int) (h0 : 0 ≤ n) (h1 : n < 4294967296) (k : Nat) (hk : 10 < k) : racewayref02_put.f k l n = some (l ++ le4 n):=by
 obtain ⟨k,rfl⟩ : ∃ j,k = j + 1 + 1 + 1 + 1 + 1:=⟨k - 5,by omega⟩
 have w1 : wrap64 ((0 : Int) + 1) = 1:=w64 (by omega) (by omega)
 have w2 : wrap64 ((1 : Int) + 1) = 2:=w64 (by omega) (by omega)
 have w3 : wrap64 ((2 : Int) + 1) = 3:=w64 (by omega) (by omega)
 have w4 : wrap64 ((3 : Int) + 1) = 4:=w64 (by omega) (by omega)
 rw [racewayref02_put.f,racewayref02_put.l0,if_pos (by omega),if_pos (by omega),w1,tmodr _ _ h0,tdivr _ _ h0,show n / 256 % 4294967296 = n / 256 by omega]
 rw [racewayref02_put.l0,if_pos (by omega),if_pos (by simp;omega),w2,tmodr _ _ (by omega),tdivr _ _ (by omega),show n / 256 / 256 % 4294967296 = n / 65536 by omega]
 rw [racewayref02_put.l0,if_pos (by omega),if_pos (by simp;omega),w3,tmodr _ _ (by omega),tdivr _ _ (by omega),show n / 65536 / 256 % 4294967296 = n / 16777216 by omega]
 rw [racewayref02_put.l0,if_pos (by omega),if_pos (by simp;omega),w4,tmodr _ _ (by omega),racewayref02_put.l0,if_neg (by omega)]
 congr 1
 simp only [List.append_assoc,List.singleton_append,List.cons_append,List.nil_append,le4]
 congr 2
 ·omega
 ·congr 1
  ·omega
  ·congr 1
   ·omega
   ·congr 1
    omega
def Tb (s : Nat) : Nat:=s / 2 ^^^ (if s % 2 = 1 then 3988292384 else 0)
theorem Tb_xor (a b : Nat) : Tb (a ^^^ b) = Tb a ^^^ Tb b:=by
 unfold Tb
 rw [Nat.xor_div_two]
 have h:=@Nat.xor_mod_two_eq_one a b
 by_cases ha : a % 2 = 1
 ·by_cases hb : b % 2 = 1
  ·rw [if_neg (by rw [h];simp [ha,hb]),if_pos ha,if_pos hb]
   rw [Nat.xor_assoc,Nat.xor_assoc,Nat.xor_comm 3988292384 (b / 2 ^^^ 3988292384),Nat.xor_assoc,Nat.xor_self]
  ·rw [if_pos (by rw [h];simp [ha,hb]),if_pos ha,if_neg hb]
   rw [Nat.xor_zero,Nat.xor_assoc,Nat.xor_assoc,Nat.xor_comm (b / 2)]
 ·by_cases hb : b % 2 = 1
  ·rw [if_pos (by rw [h];simp [ha,hb]),if_neg ha,if_pos hb,Nat.xor_zero,Nat.xor_assoc]
  ·rw [if_neg (by rw [h];simp [ha,hb]),if_neg ha,if_neg hb,Nat.xor_zero,Nat.xor_zero,Nat.xor_zero]
theorem Tb_two (v : Nat) : Tb (2 * v) = v:=by unfold Tb;rw [if_neg (by omega)];simp
theorem Tb_lt (s : Nat) (h : s < 4294967296) : Tb s < 4294967296:=by
 unfold Tb
 exact Nat.xor_lt_two_pow (n:=32) (by omega) (by split <;> omega)
theorem Tb4 (s : Nat) : Tb (Tb (Tb (Tb s))) = s / 16 ^^^ Tb (Tb (Tb (Tb (s % 16)))):=by
 have e : s = (s / 16 * 16) ^^^ (s % 16):=by
  have h:=Nat.two_pow_add_eq_or_of_lt (i:=4) (b:=s % 16) (by omega) (s / 16)
  have h2 : 2 ^ 4 * (s / 16) ^^^ s % 16 = 2 ^ 4 * (s / 16) + s % 16:=by
   apply Nat.eq_of_testBit_eq
   intro j
   rw [h,Nat.testBit_xor,Nat.testBit_or]
   rw [show 2 ^ 4 * (s / 16) = (s / 16) * 2 ^ 4 by rw [Nat.mul_comm],Nat.testBit_mul_two_pow]
   by_cases hj : 4 ≤ j
   ·have : (s % 16).testBit j = false:=Nat.testBit_lt_two_pow (Nat.lt_of_lt_of_le (Nat.mod_lt _ (by decide)) (Nat.pow_le_pow_right (n:=2) (by decide) hj))
    rw [this]
    simp
   ·simp [hj]
  rw [show s / 16 * 16 = 2 ^ 4 * (s / 16) by omega,h2]
  omega
 conv => lhs;rw [e]
 rw [Tb_xor,Tb_xor,Tb_xor,Tb_xor]
 congr 1
 rw [show s / 16 * 16 = 2 * (2 * (2 * (2 * (s / 16)))) by omega,Tb_two,Tb_two,Tb_two,Tb_two]
theorem xor_u32 (a b : Nat) (ha : a < 4294967296) (hb : b < 4294967296) : bits .xor .u32 (a : Int) (b : Int) = ((a ^^^ b : Nat) : Int):=by
 have hx : a ^^^ b < 4294967296:=Nat.xor_lt_two_pow (n:=32) ha hb
 have ha' : a % 2 ^ IntKind.u32.bits = a:=Nat.mod_eq_of_lt ha
 have hb' : b % 2 ^ IntKind.u32.bits = b:=Nat.mod_eq_of_lt hb
 simp only [bits,BitVec.ofInt_natCast,BitVec.toNat_xor,BitVec.toNat_ofNat,ha',hb']
 rw [IntKind.wrap_u32]
 omega
theorem half_T : ∀ v : Fin 16,halfL.getD v.val 0 = ((Tb (Tb (Tb (Tb v.val))) : Nat) : Int):=by decide +kernel
theorem crcH_T (s : Nat) (h : s < 4294967296) : crcH (s : Int) = ((Tb (Tb (Tb (Tb s))) : Nat) : Int):=by
 unfold crcH
 have e1 : (s : Int) / 16 = ((s / 16 : Nat) : Int):=by omega
 have e2 : ((s : Int) % 16).toNat = s % 16:=by omega
 have hv:=half_T ⟨s % 16,by omega⟩
 simp only at hv
 rw [e1,e2,hv,xor_u32 _ _ (by omega) (Tb_lt _ (Tb_lt _ (Tb_lt _ (Tb_lt _ (by omega))))),Tb4 s]
theorem and1_u32 (x : Nat) (h : x < 4294967296) : bits .and .u32 (x : Int) 1 = ((x % 2 : Nat) : Int):=by
 have:=bits_mask .u32 32 (by decide) (fun n h0 h1 => by rw [IntKind.wrap_u32];omega) 1 (by decide) (x : Int) (by omega) (by omega)
 rw [show ((2 : Int) ^ 1 - 1) = 1 from rfl,show ((2 : Int) ^ 1) = 2 from rfl] at this
 rw [this]
 omega
theorem rstep (r x : Nat) (j : Nat) (hr : r < 4294967296) (hx : x < 256) (hj : j < 8) :
  (if bits .and .u32 (bits .xor .u32 (r : Int) (shr .u32 ((x : Int) % 4294967296) (j : Int))) 1 = 1 then bits .xor .u32 ((r : Int) / 2) 3988292384 else (r : Int) / 2) = ((Tb (r ^^^ x / 2 ^ j) ^^^ x / 2 ^ (j + 1) : Nat) : Int):=by
 have hs : shr .u32 ((x : Int) % 4294967296) (j : Int) = ((x / 2 ^ j : Nat) : Int):=by
  unfold shr
  rw [show (x : Int) % 4294967296 = (x : Int) by omega,Int.toNat_natCast,show min j IntKind.u32.bits = j by simp [IntKind.bits];omega]
  simp
 have hxj : x / 2 ^ j < 4294967296:=Nat.lt_of_le_of_lt (Nat.div_le_self _ _) (by omega)
 have hd : x / 2 ^ (j + 1) = x / 2 ^ j / 2:=by rw [Nat.pow_succ,Nat.div_div_eq_div_mul]
 have e2 : (r : Int) / 2 = ((r / 2 : Nat) : Int):=by omega
 rw [hs,xor_u32 r _ hr hxj,and1_u32 _ (Nat.xor_lt_two_pow (n:=32) (by omega) (by omega)),e2,hd]
 generalize x / 2 ^ j = y at *
 unfold Tb
 rw [Nat.xor_div_two]
 by_cases hc : (r ^^^ y) % 2 = 1
 ·rw [if_pos (by omega),if_pos hc,show (3988292384 : Int) = ((3988292384 : Nat) : Int) from rfl,xor_u32 _ _ (by omega) (by omega)]
  congr 1
  rw [Nat.xor_assoc,Nat.xor_assoc,Nat.xor_comm 3988292384,← Nat.xor_assoc (y / 2),Nat.xor_self,Nat.zero_xor]
 ·rw [if_neg (by omega),if_neg hc,Nat.xor_zero,Nat.xor_assoc,Nat.xor_self,Nat.xor_zero]
def Tn : Nat → Nat → Nat
 | 0,s => s
 | n + 1,s => Tb (Tn n s)
theorem Tn_lt : ∀ (n s : Nat),s < 4294967296 → Tn n s < 4294967296
 | 0,_,h => h
 | n + 1,s,h => Tb_lt _ (Tn_lt n s h)
theorem rsum_l1 (l : List Int) (hl : l.length ≤ 1000000) (i : Nat) (hi : i < l.length) (x : Nat) (hx : rd l (i : Int) = (x : Int)) (h256 : x < 256) (s : Nat) (hs : s < 4294967296) : ∀ (d j k : Nat),j + d = 8 →
  racewayref02_Sum.l1 (k + d + 1) l ((Tn j s ^^^ x / 2 ^ j : Nat) : Int) (i : Int) (j : Int) = racewayref02_Sum.l0 k l ((Tn 8 s : Nat) : Int) ((i + 1 : Nat) : Int):=by
 intro d
 induction d with
 | zero =>
  intro j k hj
  obtain rfl : j = 8:=by omega
  rw [Nat.add_zero,racewayref02_Sum.l1,if_neg (by omega),show wrap64 ((i : Int) + 1) = ((i + 1 : Nat) : Int) by rw [w64 (by omega) (by omega)];omega,show x / 2 ^ 8 = 0 from Nat.div_eq_of_lt h256,Nat.xor_zero]
 | succ d ih =>
  intro j k hj
  have c1 : (j : Int) < 8:=by omega
  have c2 : (0 : Int) ≤ (i : Int):=by omega
  have c3 : (i : Int) < (l.length : Int):=by omega
  have c4 : (0 : Int) ≤ (j : Int):=by omega
  have c5 : j + 1 + d = 8:=by omega
  have c6 : j < 8:=by omega
  have hT:=Tn_lt j s hs
  have hr : Tn j s ^^^ x / 2 ^ j < 4294967296:=Nat.xor_lt_two_pow (n:=32) (by omega) (Nat.lt_of_le_of_lt (Nat.div_le_self _ _) (by omega))
  have hst:=rstep (Tn j s ^^^ x / 2 ^ j) x j hr h256 c6
  rw [Nat.xor_assoc,Nat.xor_self,Nat.xor_zero] at hst
  have e1 : wrap64 ((j : Int) + 1) = ((j + 1 : Nat) : Int):=by clear hst;rw [w64 (by omega) (by omega)];omega
  rw [racewayref02_Sum.l1,if_pos c1,if_pos c2,if_pos c3,if_pos c4,hx,e1]
  have hih:=ih (j + 1) k c5
  change racewayref02_Sum.l1 (k + d + 1) l ((Tb (Tn j s) ^^^ x / 2 ^ (j + 1) : Nat) : Int) (i : Int) ((j + 1 : Nat) : Int) = _ at hih
  rw [← hst] at hih
  rw [← hih]
  rw [show k + (d + 1) = k + d + 1 by omega]
  split <;> rfl
theorem crcB_T (r x : Nat) (hr : r < 4294967296) (hx : x < 256) : crcB (r : Int) (x : Int) = ((Tn 8 (r ^^^ x) : Nat) : Int):=by
 have hlt : r ^^^ x < 4294967296:=Nat.xor_lt_two_pow (n:=32) (by omega) (by omega)
 unfold crcB
 rw [show (x : Int) % 4294967296 = (x : Int) by omega,xor_u32 r x hr (by omega),crcH_T _ hlt,crcH_T _ (Tb_lt _ (Tb_lt _ (Tb_lt _ (Tb_lt _ hlt))))]
 rfl
theorem rsum_l0 (l : List Int) (hb : byteL l) (hl : l.length ≤ 1000000) : ∀ (d i r k : Nat),i + d = l.length → r < 4294967296 →
  racewayref02_Sum.l0 (k + 10 * d + 1) l (r : Int) (i : Int) = some (bits .xor .u32 (crcL (r : Int) (l.drop i)) 4294967295):=by
 intro d
 induction d with
 | zero =>
  intro i r k hi hr
  rw [show k + 10 * 0 + 1 = k + 1 by omega,racewayref02_Sum.l0,if_neg (by omega),List.drop_eq_nil_of_le (by omega)]
  rfl
 | succ d ih =>
  intro i r k hi hr
  have hlt : i < l.length:=by omega
  have hx:=hb l[i] (List.getElem_mem hlt)
  obtain ⟨x,hxe⟩:=Int.eq_ofNat_of_zero_le hx.1
  have hrd : rd l (i : Int) = (x : Int):=by rw [← hxe];simp [rd,List.getD_eq_getElem?_getD,List.getElem?_eq_getElem hlt]
  have h256 : x < 256:=by omega
  have hrx : r ^^^ x < 4294967296:=Nat.xor_lt_two_pow (n:=32) (by omega) (by omega)
  have h1:=rsum_l1 l hl i hlt x hrd h256 (r ^^^ x) hrx 8 0 (k + 10 * d + 1) (by omega)
  have e0 : Tn 0 (r ^^^ x) ^^^ x / 2 ^ 0 = r:=by
   show (r ^^^ x) ^^^ x / 1 = r
   rw [Nat.div_one,Nat.xor_assoc,Nat.xor_self,Nat.xor_zero]
  rw [e0] at h1
  rw [show k + 10 * (d + 1) + 1 = (k + 10 * d + 1 + 8 + 1) + 1 by omega,racewayref02_Sum.l0,if_pos (by omega)]
  rw [show ((0 : Int)) = ((0 : Nat) : Int) from rfl,h1,ih (i + 1) (Tn 8 (r ^^^ x)) k (by omega) (Tn_lt _ _ hrx),List.drop_eq_getElem_cons hlt,hxe]
  show _ = some (bits .xor .u32 (crcL (crcB (r : Int) (x : Int)) (l.drop (i + 1))) 4294967295)
  rw [crcB_T r x hr h256]
theorem xor_comm32 (a b : Int) : bits .xor .u32 a b = bits .xor .u32 b a:=by
 unfold bits
 simp only
 rw [BitVec.xor_comm]
theorem rSum_is (l : List Int) (hb : byteL l) (hl : l.length ≤ 1000000) (k : Nat) (hk : 10 * l.length + 2 < k) : racewayref02_Sum.f k l = some (crc1 l):=by
 have:=rsum_l0 l hb hl l.length 0 4294967295 (k - 10 * l.length - 1) (by omega) (by omega)
 rw [show k - 10 * l.length - 1 + 10 * l.length + 1 = k by omega,List.drop_zero] at this
 rw [racewayref02_Sum.f]
 refine this.trans ?_
 rw [xor_comm32]
 rfl
theorem rFrame_is (l : List Int) (hb : byteL l) (h : l.length ≤ 65536) (k : Nat) (hk : 10 * l.length + 60 < k) : racewayref02_Frame.f k l = some (frameB l,0):=by
 have hr1:=crc1_range (le4 (l.length : Int))
 have hr2:=crc1_range l
 rw [racewayref02_Frame.f,if_neg (by omega),show (l.length : Int) % 4294967296 = (l.length : Int) by omega,rput_is [] (by simp) _ (by omega) (by omega) k (by omega),Option.bind_some,List.nil_append,
  rSum_is _ (le4_byte _) (by rw [le4_len];omega) k (by rw [le4_len];omega),Option.bind_some,rput_is _ (by rw [le4_len];omega) _ hr1.1 hr1.2 k (by omega),Option.bind_some,rSum_is l hb (by omega) k (by omega),Option.bind_some,
  rput_is _ (by rw [List.length_append,le4_len,le4_len];omega) _ hr2.1 hr2.2 k (by omega),Option.bind_some,if_pos (by rw [List.length_append,List.length_append,le4_len,le4_len,le4_len];omega)]
 unfold frameB
 rw [List.append_assoc,List.append_assoc]
end Go.Proofs.YtedfgkjimnjdpaaDoor.X
namespace Go.Proofs.YtedfgkjimnjdpaaDoor.X
open Go.RowKit Go.Proofs.YtedfgkjimnjdpaaDoorW.PrintWords Go.Proofs.YtedfgkjimnjdpaaDoorW.PrintLast Go.Proofs.YtedfgkjimnjdpaaDoorW.PrintMore
set_option linter.unusedVariables false
set_option linter.unusedSimpArgs false
theorem rw128 (i n : Nat) (d : Int) (hi : i ≤ 8) (hn : n < 128 ^ i) (hd0 : 0 ≤ d) (hd : d < 128) : wrap64 ((n : Int) + wrap64 (d * ((128 ^ i : Nat) : Int))) = ((n + d.toNat * 128 ^ i : Nat) : Int):=by
 obtain ⟨m,rfl⟩:=Int.eq_ofNat_of_zero_le hd0
 have hm : m < 128:=by omega
 have hp : 2 ^ (7 * i) ≤ 2 ^ 56:=Nat.pow_le_pow_right (by decide) (by omega)
 rw [pow128] at hn ⊢
 have hle : m * 2 ^ (7 * i) ≤ 127 * 2 ^ (7 * i):=Nat.mul_le_mul_right _ (by omega)
 have e : ((m : Nat) : Int) * ((2 ^ (7 * i) : Nat) : Int) = ((m * 2 ^ (7 * i) : Nat) : Int):=by simp
 rw [e]
 rw [Int.toNat_natCast]
 generalize m * 2 ^ (7 * i) = z at *
 generalize 2 ^ (7 * i) = p at *
 have h1 : z + n < 9223372036854775808:=by omega
 rw [w64 (x:=(z : Int)) (by omega) (by omega),w64 (by omega) (by omega)]
 omega
theorem over_iff (i n : Nat) (y : Int) (hi : i ≤ 8) (hn : n < 128 ^ i) (h0 : 0 ≤ y) (h1 : y < 128) : (4611686018427387904 < n + y.toNat * 128 ^ i) ↔ (i = 8 ∧ (64 < y ∨ y = 64 ∧ 0 < n)):=by
 obtain ⟨m,rfl⟩:=Int.eq_ofNat_of_zero_le h0
 have hm : m < 128:=by omega
 rw [Int.toNat_natCast]
 clear h0 h1
 by_cases h8 : i = 8
 ·subst h8
  have e : 128 ^ 8 = 72057594037927936:=by decide
  rw [e] at hn ⊢
  constructor
  ·intro h;exact ⟨rfl,by omega⟩
  ·rintro ⟨_,h⟩;omega
 ·have hp : 128 ^ i ≤ 128 ^ 7:=Nat.pow_le_pow_right (by decide) (by omega)
  have e : 128 ^ 7 = 562949953421312:=by decide
  rw [e] at hp
  have hle : m * 128 ^ i ≤ 127 * 128 ^ i:=Nat.mul_le_mul_right _ (by omega)
  constructor
  ·intro h
   exfalso
   generalize m * 128 ^ i = q at *
   generalize 128 ^ i = p at *
   omega
  ·rintro ⟨h,_⟩;exact absurd h h8
theorem wt_next (i : Nat) (h : i < 8) : wrap64 (((128 ^ i : Nat) : Int) * 128) = ((128 ^ (i + 1) : Nat) : Int):=by
 have hp : 128 ^ i ≤ 128 ^ 7:=Nat.pow_le_pow_right (by decide) (by omega)
 have e : 128 ^ 7 = 562949953421312:=by decide
 rw [e] at hp
 rw [Nat.pow_succ]
 generalize 128 ^ i = p at *
 rw [w64 (by omega) (by omega)]
 omega
def rdGo (l : List Int) (i n : Nat) (x : Int) : Int × Int × Int:=if x < 128 then (((n + (x % 128).toNat * 128 ^ i : Nat) : Int),(i : Int) + 1,0) else rdT (i + 1) (n + (x % 128).toNat * 128 ^ i) (l.drop (i + 1))
theorem rn_j2 (l : List Int) (i n : Nat) (wt : Int) (x : Int) (z : Nat) (hi : i ≤ 8) (hlt : i < l.length) (hl : l.length ≤ 100000000) (hrd : rd l (i : Int) = x) (hx : 0 ≤ x ∧ x < 256) (hn : n < 128 ^ i) (hwt : wt = ((128 ^ i : Nat) : Int))
  (ih : ∀ (wt' : Int) (k : Nat),(i + 1 ≤ 8 → wt' = ((128 ^ (i + 1) : Nat) : Int)) → z ≤ k → racewayref01_ReadNum.l0 k l ((n + (x % 128).toNat * 128 ^ i : Nat) : Int) wt' ((i + 1 : Nat) : Int) = some (rdT (i + 1) (n + (x % 128).toNat * 128 ^ i) (l.drop (i + 1)))) (j : Nat) (hj : z ≤ j) :
  racewayref01_ReadNum.j2 (j + 1) l (n : Int) wt (i : Int) (x % 128) false = some (rdGo l i n x) ∧ racewayref01_ReadNum.j2 (j + 1) l (n : Int) wt (i : Int) (x % 128) true = some (0,0,5):=by
 have c1 : (i : Int) < (l.length : Int):=by omega
 have c2 : (0 : Int) ≤ (i : Int):=by omega
 have c3 : 0 ≤ x % 128:=by omega
 have c4 : x % 128 < 128:=by omega
 have e1 : wrap64 ((i : Int) + 1) = ((i + 1 : Nat) : Int):=by rw [w64 (by omega) (by omega)];omega
 have hval:=rw128 i n (x % 128) hi hn c3 c4
 refine ⟨?_,by rw [racewayref01_ReadNum.j2,if_pos rfl]⟩
 rw [racewayref01_ReadNum.j2,if_neg (by decide),if_pos c2,if_pos c1,hrd,hwt,hval,rdGo,e1]
 by_cases hx8 : x < 128
 ·rw [if_pos hx8,if_pos hx8];rfl
 ·rw [if_neg hx8,if_neg hx8]
  by_cases h8 : (i : Int) < 8
  ·have h8' : i < 8:=by clear hval e1;omega
   rw [if_pos h8,ih _ j (fun _ => wt_next i h8') hj]
  ·have h8' : ¬ i + 1 ≤ 8:=by clear hval e1;omega
   rw [if_neg h8,ih _ j (fun h => absurd h h8') hj]
theorem rn_j1 (l : List Int) (i n : Nat) (wt : Int) (x : Int) (z : Nat) (hi : i ≤ 8) (hlt : i < l.length) (hl : l.length ≤ 100000000) (hrd : rd l (i : Int) = x) (hx : 0 ≤ x ∧ x < 256) (hn : n < 128 ^ i) (hwt : wt = ((128 ^ i : Nat) : Int))
  (ih : ∀ (wt' : Int) (k : Nat),(i + 1 ≤ 8 → wt' = ((128 ^ (i + 1) : Nat) : Int)) → z ≤ k → racewayref01_ReadNum.l0 k l ((n + (x % 128).toNat * 128 ^ i : Nat) : Int) wt' ((i + 1 : Nat) : Int) = some (rdT (i + 1) (n + (x % 128).toNat * 128 ^ i) (l.drop (i + 1)))) (j : Nat) (hj : z ≤ j) :
  racewayref01_ReadNum.j1 (j + 1 + 1) l (n : Int) wt (i : Int) false = some (if 4611686018427387904 < n + (x % 128).toNat * 128 ^ i then (0,0,5) else rdGo l i n x) ∧ racewayref01_ReadNum.j1 (j + 1 + 1) l (n : Int) wt (i : Int) true = some (0,0,5):=by
 have c1 : (i : Int) < (l.length : Int):=by omega
 have c2 : (0 : Int) ≤ (i : Int):=by omega
 have c3 : 0 ≤ x % 128:=by omega
 have c4 : x % 128 < 128:=by omega
 have ed : wrap64 (Int.tmod x 128) = x % 128:=by rw [tmodr _ _ hx.1];exact w64 (by omega) (by omega)
 obtain ⟨hF,hT⟩:=rn_j2 l i n wt x z hi hlt hl hrd hx hn hwt ih j hj
 have hover:=over_iff i n (x % 128) hi hn c3 c4
 refine ⟨?_,by rw [racewayref01_ReadNum.j1,if_pos rfl]⟩
 rw [racewayref01_ReadNum.j1,if_neg (by decide),if_pos c2,if_pos c1,hrd,ed]
 clear ih hwt ed
 generalize x % 128 = y at *
 by_cases ha : y > 0
 ·rw [if_pos ha]
  by_cases h8 : (i : Int) = 8
  ·have h8' : i = 8:=by clear hover;omega
   rw [if_pos h8]
   by_cases h64 : y > 64
   ·rw [if_pos h64,hT,if_pos (hover.2 ⟨h8',.inl h64⟩)]
   ·rw [if_neg h64]
    by_cases he : y = 64
    ·rw [if_pos he]
     by_cases hn0 : 0 < n
     ·rw [show decide ((n : Int) > 0) = true from decide_eq_true (by clear hover;omega),hT,if_pos (hover.2 ⟨h8',.inr ⟨he,hn0⟩⟩)]
     ·rw [show decide ((n : Int) > 0) = false from decide_eq_false (by clear hover;omega),hF,if_neg (fun h => (hover.1 h).2.elim (fun h => h64 h) (fun h => hn0 h.2))]
    ·rw [if_neg he,hF,if_neg (fun h => (hover.1 h).2.elim (fun h => h64 h) (fun h => he h.1))]
  ·rw [if_neg h8,hF,if_neg (fun h => h8 (by rw [(hover.1 h).1];rfl))]
 ·rw [if_neg ha,hF,if_neg (fun h => ha ((hover.1 h).2.elim (fun h => Int.lt_trans (by decide) h) (fun h => by rw [h.1];decide)))]
theorem rreadNum_l0 (l : List Int) (hb : byteL l) (hl : l.length ≤ 100000000) : ∀ (d i n k : Nat) (wt : Int),i + d = l.length → i ≤ 9 → n < 128 ^ i → (i ≤ 8 → wt = ((128 ^ i : Nat) : Int)) → 3 * (9 - i) + 4 ≤ k → racewayref01_ReadNum.l0 k l (n : Int) wt (i : Int) = some (rdT i n (l.drop i)):=by
 intro d
 induction d with
 | zero =>
  intro i n k wt hd hi hn hw hk
  obtain ⟨k,rfl⟩ : ∃ j,k = j + 1:=⟨k - 1,by omega⟩
  rw [racewayref01_ReadNum.l0,if_neg (by omega),List.drop_eq_nil_of_le (by omega),rdT]
 | succ d ih =>
  intro i n k wt hd hi hn hw hk
  obtain ⟨k,rfl⟩ : ∃ j,k = j + 1 + 1 + 1:=⟨k - 3,by omega⟩
  have hlt : i < l.length:=by omega
  have hx:=hb l[i] (List.getElem_mem hlt)
  have c1 : (i : Int) < (l.length : Int):=by omega
  have c2 : (0 : Int) ≤ (i : Int):=by omega
  have hd1 : i + 1 + d = l.length:=by omega
  rw [racewayref01_ReadNum.l0,if_pos c1,List.drop_eq_getElem_cons hlt,rdT]
  have hrd : rd l (i : Int) = l[i]:=by simp [rd,List.getD_eq_getElem?_getD,List.getElem?_eq_getElem hlt]
  rw [hrd]
  generalize l[i] = x at *
  by_cases h9 : i = 9
  ·rw [if_pos (by omega),racewayref01_ReadNum.j1,if_pos rfl,if_pos (show i = 9 ∨ x = 0 ∧ 0 < i from .inl h9)]
  ·have hi9 : i + 1 ≤ 9:=by omega
   have hi8 : i ≤ 8:=by omega
   have hz : 3 * (9 - (i + 1)) + 4 ≤ k:=by omega
   have h9' : ¬(i : Int) = 9:=by omega
   have hnx:=rn_next n i (x % 128).toNat hn (by omega)
   obtain ⟨hF,hT⟩:=rn_j1 l i n wt x (3 * (9 - (i + 1)) + 4) hi8 hlt hl hrd hx hn (hw hi8) (fun wt' k' h1 h2 => ih (i + 1) _ k' wt' hd1 hi9 hnx h1 h2) k hz
   rw [if_neg h9']
   clear ih hnx hw hz
   by_cases hi0 : (i : Int) > 0
   ·have hi0' : 0 < i:=by omega
    rw [if_pos hi0,if_pos c2]
    by_cases hx0 : x = 0
    ·rw [show (x == 0) = true by rw [hx0];rfl,hT,if_pos (show i = 9 ∨ x = 0 ∧ 0 < i from .inr ⟨hx0,hi0'⟩)]
    ·rw [show (x == 0) = false from by simpa using hx0,hF,if_neg (show ¬(i = 9 ∨ x = 0 ∧ 0 < i) from fun h => h.elim h9 (fun h => hx0 h.1))]
     rfl
   ·have hi0' : ¬ 0 < i:=by omega
    rw [if_neg hi0,hF,if_neg (show ¬(i = 9 ∨ x = 0 ∧ 0 < i) from fun h => h.elim h9 (fun h => hi0' h.2))]
    rfl
theorem rReadNum_is (l : List Int) (hb : byteL l) (hl : l.length ≤ 100000000) (k : Nat) (hk : 40 < k) : racewayref01_ReadNum.f k l = some (rdN l):=by
 rw [racewayref01_ReadNum.f]
 exact rreadNum_l0 l hb hl l.length 0 0 k 1 (by omega) (by omega) (by decide) (fun _ => rfl) (by omega)
theorem rReadText_is (l : List Int) (hb : byteL l) (hl : l.length ≤ 100000000) (k : Nat) (hk : 40 < k) : racewayref01_ReadText.f k l = some (rdX l):=by
 rw [racewayref01_ReadText.f,rReadNum_is l hb hl k hk,Option.bind_some,rdX]
 have hr:=rdT_range l 0 0
 change 0 ≤ (rdN l).1 ∧ 0 ≤ (rdN l).2.1 ∧ (rdN l).2.1 ≤ ((0 : Nat) : Int) + (l.length : Int) ∧ (rdN l).1 ≤ 4611686018427387904 at hr
 generalize rdN l = q at hr
 obtain ⟨v,z,e⟩:=q
 simp only at hr ⊢
 by_cases he : e = 0
 ·rw [if_pos he,if_pos he]
  by_cases h4 : v > 4096
  ·rw [if_pos h4,if_pos h4]
  ·rw [if_neg h4,if_neg h4,w64 (by omega) (by omega)]
   by_cases h5 : v > (l.length : Int) - z
   ·rw [if_pos (by omega),if_pos h5]
   ·rw [if_neg (by omega),if_neg h5,w64 (by omega) (by omega),if_pos (by omega),if_pos (by omega),if_pos (by omega)]
    congr 2
    rw [List.drop_take]
    congr 2
    omega
 ·rw [if_neg he,if_neg he]
theorem str_eq {a b : List Int} (ha : byteL a) (hb : byteL b) : (strOfNums a).toList = (strOfNums b).toList ↔ a = b:=by
 constructor
 ·intro h
  rw [toL,toL] at h
  have h2 : strOfNums a = strOfNums b:=by
   cases hsa : strOfNums a;cases hsb : strOfNums b
   rw [hsa,hsb] at h
   congr 1
   exact Array.ext' h
  rw [← bytesOf_str a ha,← bytesOf_str b hb,h2]
 ·rintro rfl;rfl
theorem le4_eq (n : Int) (h0 : 0 ≤ n) (h1 : n < 4294967296) (l : List Int) (hb : byteL l) (hl : 4 ≤ l.length) : le4 n = l.take 4 ↔ n = num4 l:=by
 obtain ⟨q1,q2,q3⟩:=le4_num4 l hb hl
 constructor
 ·intro h
  have:=congrArg num4 h
  have e1:=num4_le4 n h0 h1 []
  have e2:=num4_le4 (num4 l) q2 q3 []
  rw [List.append_nil] at e1 e2
  rw [e1,← q1,e2] at this
  exact this
 ·rintro rfl;exact q1
end Go.Proofs.YtedfgkjimnjdpaaDoor.X
namespace Go.Proofs.YtedfgkjimnjdpaaDoor.X
open Go.RowKit Go.Proofs.YtedfgkjimnjdpaaDoorW.PrintWords Go.Proofs.YtedfgkjimnjdpaaDoorW.PrintLast Go.Proofs.YtedfgkjimnjdpaaDoorW.PrintMore
set_option linter.unusedVariables false
set_option linter.unusedSimpArgs false
theorem wsm (x : Int) (h0 : 0 ≤ x) (h1 : x < 10000000000) : wrap64 x = x:=w64 (by omega) (by omega)
theorem rnext_key (l : List Int) (a b c d : Int) (h0 : rd l 0 = a) (h1 : rd l 1 = b) (h2 : rd l 2 = c) (h3 : rd l 3 = d) (ha : 0 ≤ a ∧ a < 256) (hb : 0 ≤ b ∧ b < 256) (hc : 0 ≤ c ∧ c < 256) (hd : 0 ≤ d ∧ d < 256) (hl : 12 ≤ (l.length : Int)) (k : Nat) :
  racewayref02_Next.l0 (k + 5) l 0 0 1 0 = racewayref02_Next.l0 (k + 1) l 0 (a + b * 256 + c * 65536 + d * 16777216) 4294967296 4:=by
 have e0 : wrap64 (0 + 0) = 0:=wsm 0 (by omega) (by omega)
 have e1 : wrap64 (0 + 1) = 1:=wsm 1 (by omega) (by omega)
 have e2 : wrap64 (1 + 1) = 2:=wsm 2 (by omega) (by omega)
 have e3 : wrap64 (0 + 2) = 2:=wsm 2 (by omega) (by omega)
 have e4 : wrap64 (2 + 1) = 3:=wsm 3 (by omega) (by omega)
 have e5 : wrap64 (0 + 3) = 3:=wsm 3 (by omega) (by omega)
 have e6 : wrap64 (3 + 1) = 4:=wsm 4 (by omega) (by omega)
 have m1 : wrap64 (1 * 256) = 256:=wsm 256 (by omega) (by omega)
 have m2 : wrap64 (256 * 256) = 65536:=wsm 65536 (by omega) (by omega)
 have m3 : wrap64 (65536 * 256) = 16777216:=wsm 16777216 (by omega) (by omega)
 have m4 : wrap64 (16777216 * 256) = 4294967296:=wsm 4294967296 (by omega) (by omega)
 have s1 : wrap64 (0 + wrap64 (wrap64 a * 1)) = a:=by rw [wsm a ha.1 (by omega),Int.mul_one,wsm a ha.1 (by omega),Int.zero_add,wsm a ha.1 (by omega)]
 have s2 : wrap64 (a + wrap64 (wrap64 b * 256)) = a + b * 256:=by rw [wsm b hb.1 (by omega),wsm (b * 256) (by omega) (by omega),wsm _ (by omega) (by omega)]
 have s3 : wrap64 (a + b * 256 + wrap64 (wrap64 c * 65536)) = a + b * 256 + c * 65536:=by rw [wsm c hc.1 (by omega),wsm (c * 65536) (by omega) (by omega),wsm _ (by omega) (by omega)]
 have s4 : wrap64 (a + b * 256 + c * 65536 + wrap64 (wrap64 d * 16777216)) = a + b * 256 + c * 65536 + d * 16777216:=by rw [wsm d hd.1 (by omega),wsm (d * 16777216) (by omega) (by omega),wsm _ (by omega) (by omega)]
 have c0 : (0 : Int) < (l.length : Int):=by omega
 have c1 : (1 : Int) < (l.length : Int):=by omega
 have c2 : (2 : Int) < (l.length : Int):=by omega
 have c3 : (3 : Int) < (l.length : Int):=by omega
 rw [racewayref02_Next.l0,if_pos (by decide),e0,if_pos (by decide),if_pos c0,h0,s1,m1,e1]
 rw [racewayref02_Next.l0,if_pos (by decide),e1,if_pos (by decide),if_pos c1,h1,s2,m2,e2]
 rw [racewayref02_Next.l0,if_pos (by decide),e3,if_pos (by decide),if_pos c2,h2,s3,m3,e4]
 rw [racewayref02_Next.l0,if_pos (by decide),e5,if_pos (by decide),if_pos c3,h3,s4,m4,e6]
theorem rd_byte (l : List Int) (hb : byteL l) (i : Nat) (h : i < l.length) : 0 ≤ rd l (i : Int) ∧ rd l (i : Int) < 256:=by
 have : rd l (i : Int) = l[i]:=by simp [rd,List.getD_eq_getElem?_getD,List.getElem?_eq_getElem h]
 rw [this]
 exact hb _ (List.getElem_mem h)
theorem rnext_end (l : List Int) (hb : byteL l) (h12 : 12 ≤ l.length) (hl : l.length ≤ 100000) (k : Nat) (hk : 10 * l.length + 100 < k) (W : Int) :
  racewayref02_Next.l0 (k + 1) l 0 (num4 l) W 4 = some (if crc1 (l.take 4) ≠ num4 (l.drop 4) then ([],0,6) else
   if num4 l > 65536 then ([],0,3) else if num4 l > (l.length : Int) - 12 then ([],0,4) else
   if crc1 ((l.drop 12).take (num4 l).toNat) ≠ num4 (l.drop 8) then ([],0,6) else ((l.drop 12).take (num4 l).toNat,12 + num4 l,0)):=by
 have hn0:=(le4_num4 l hb (by omega)).2
 have b1 : (l.take 4).length ≤ 1000000:=by rw [List.length_take];omega
 have b2 : 10 * (l.take 4).length + 2 < k:=by rw [List.length_take];omega
 have b3 : 10 < k:=by omega
 have b4 : 4 ≤ (l.drop 4).length:=by rw [List.length_drop];omega
 have b8 : 4 ≤ (l.drop 8).length:=by rw [List.length_drop];omega
 have q4 : (4 : Int) ≤ (l.length : Int):=by omega
 have q8 : (8 : Int) ≤ (l.length : Int):=by omega
 have q12 : (12 : Int) ≤ (l.length : Int):=by omega
 have d4 : (l.take ((4 : Int)).toNat).drop ((0 : Int)).toNat = l.take 4:=rfl
 have d8 : (l.take ((8 : Int)).toNat).drop ((4 : Int)).toNat = (l.drop 4).take 4:=by show (l.take 8).drop 4 = _;rw [List.drop_take]
 have d12 : (l.take ((12 : Int)).toNat).drop ((8 : Int)).toNat = (l.drop 8).take 4:=by show (l.take 12).drop 8 = _;rw [List.drop_take]
 have hr1:=crc1_range (l.take 4)
 have hcmp1 : ((strOfNums (le4 (crc1 (l.take 4)))).toList = (strOfNums ((l.drop 4).take 4)).toList) ↔ crc1 (l.take 4) = num4 (l.drop 4):=by
  rw [str_eq (le4_byte _) ((hb.drop 4).take 4),le4_eq _ hr1.1 hr1.2 _ (hb.drop 4) b4]
 rw [racewayref02_Next.l0,if_neg (by decide),show wrap64 (0 + 4) = 4 from wsm 4 (by decide) (by decide),show wrap64 (0 + 8) = 8 from wsm 8 (by decide) (by decide),show wrap64 (0 + 12) = 12 from wsm 12 (by decide) (by decide),if_pos (by decide),if_pos (by decide),if_pos q4,d4,rSum_is _ (hb.take 4) b1 k b2,Option.bind_some,
  rput_is [] (by simp) _ hr1.1 hr1.2 k b3,Option.bind_some,List.nil_append,if_pos (by decide),if_pos (by decide),if_pos q8,d8]
 by_cases h1 : crc1 (l.take 4) = num4 (l.drop 4)
 ·rw [if_pos (hcmp1.2 h1),if_neg (show ¬(crc1 (l.take 4) ≠ num4 (l.drop 4)) from fun h => h h1)]
  clear hcmp1 hr1
  by_cases h2 : num4 l > 65536
  ·rw [if_pos h2,if_pos h2]
  ·rw [if_neg h2,if_neg h2]
   rw [show wrap64 (wrap64 ((l.length : Int) - 0) - 12) = (l.length : Int) - 12 by rw [Int.sub_zero,wsm (l.length : Int) (by omega) (by omega),wsm _ (by omega) (by omega)]]
   by_cases h3 : num4 l > (l.length : Int) - 12
   ·rw [if_pos h3,if_pos h3]
   ·rw [if_neg h3,if_neg h3,Option.bind_some]
    obtain ⟨n,hn⟩ : ∃ n : Nat,num4 l = (n : Int):=⟨(num4 l).toNat,by omega⟩
    rw [hn] at h2 h3 hn0 ⊢
    have q13 : (12 : Int) ≤ ((12 + n : Nat) : Int):=by omega
    have q14 : ((12 + n : Nat) : Int) ≤ (l.length : Int):=by omega
    have e14 : ((12 + n : Nat) : Int) = 12 + (n : Int):=by omega
    have hlen : ((l.drop 12).take n).length ≤ l.length:=by rw [List.length_take,List.length_drop];omega
    have b5 : ([] : List Int).length + ((l.drop 12).take n).length < 140737488355328:=by simp only [List.length_nil];omega
    have b6 : ((l.drop 12).take n).length ≤ 1000000:=by omega
    have b7 : 10 * ((l.drop 12).take n).length + 2 < k:=by omega
    have d13 : (l.take (((12 + n : Nat) : Int)).toNat).drop ((12 : Int)).toNat = (l.drop 12).take n:=by
     rw [Int.toNat_natCast]
     show (l.take (12 + n)).drop 12 = _
     rw [List.drop_take,Nat.add_sub_cancel_left]
    have e13 : wrap64 (12 + (n : Int)) = ((12 + n : Nat) : Int):=by rw [← e14];exact wsm _ (by omega) (by omega)
    rw [e13,if_pos (by decide),if_pos q13,if_pos q14,d13,Int.toNat_natCast,if_pos b5,List.nil_append,Option.bind_some]
    clear e13
    have hby : byteL ((l.drop 12).take n):=(hb.drop 12).take n
    have hr2:=crc1_range ((l.drop 12).take n)
    have hcmp2 : ((strOfNums (le4 (crc1 ((l.drop 12).take n)))).toList = (strOfNums ((l.drop 8).take 4)).toList) ↔ crc1 ((l.drop 12).take n) = num4 (l.drop 8):=by
     rw [str_eq (le4_byte _) ((hb.drop 8).take 4),le4_eq _ hr2.1 hr2.2 _ (hb.drop 8) b8]
    rw [rSum_is _ hby b6 k b7,Option.bind_some,rput_is [] (by simp) _ hr2.1 hr2.2 k b3,Option.bind_some,List.nil_append,if_pos (by decide),if_pos (by decide),if_pos q12,d12]
    by_cases h4 : crc1 ((l.drop 12).take n) = num4 (l.drop 8)
    ·rw [if_pos (hcmp2.2 h4),if_neg (show ¬(crc1 ((l.drop 12).take n) ≠ num4 (l.drop 8)) from fun h => h h4),e14]
    ·rw [if_neg (fun h => h4 (hcmp2.1 h)),if_pos (show crc1 ((l.drop 12).take n) ≠ num4 (l.drop 8) from h4)]
 ·rw [if_neg (fun h => h1 (hcmp1.1 h)),if_pos (show crc1 (l.take 4) ≠ num4 (l.drop 4) from h1)]
theorem rNext_is (l : List Int) (hb : byteL l) (hl : l.length ≤ 100000) (k : Nat) (hk : 10 * l.length + 200 < k) : racewayref02_Next.f k l 0 = some (nextB l):=by
 obtain ⟨k,rfl⟩ : ∃ j,k = j + 5 + 1:=⟨k - 6,by omega⟩
 have hw0 : wrap64 ((l.length : Int) - 0) = l.length:=by rw [Int.sub_zero];exact wsm _ (by omega) (by omega)
 rw [racewayref02_Next.f,if_neg (by decide),show (decide ((0 : Int) > (l.length : Int))) = false from decide_eq_false (by omega),racewayref02_Next.j0,if_neg (by decide),hw0]
 unfold nextB
 by_cases h12 : l.length < 12
 ·rw [if_pos (by omega),if_pos h12]
 ·have h0:=rd_byte l hb 0 (by omega)
  have h1:=rd_byte l hb 1 (by omega)
  have h2:=rd_byte l hb 2 (by omega)
  have h3:=rd_byte l hb 3 (by omega)
  rw [if_neg (by omega),if_neg h12,rnext_key l _ _ _ _ rfl rfl rfl rfl h0 h1 h2 h3 (by omega) k]
  exact rnext_end l hb (by omega) hl k (by omega) 4294967296
end Go.Proofs.YtedfgkjimnjdpaaDoor.X
namespace Go.Proofs.YtedfgkjimnjdpaaDoor.X
open Go.RowKit Go.Proofs.YtedfgkjimnjdpaaDoorW.PrintWords Go.Proofs.YtedfgkjimnjdpaaDoorW.PrintLast Go.Proofs.YtedfgkjimnjdpaaDoorW.PrintMore
set_option linter.unusedVariables false
set_option linter.unusedSimpArgs false
def bits8 (x : Int) : List Int:=[x / 128 % 2,x / 64 % 2,x / 32 % 2,x / 16 % 2,x / 8 % 2,x / 4 % 2,x / 2 % 2,x % 2]
def bitsL (l : List Int) : List Int:=l.flatMap bits8
theorem bit_at (x : Int) (h0 : 0 ≤ x) (h1 : x < 256) (c : Int) (hc : 0 < c) : Int.tmod (wrap64 (Int.tdiv (wrap64 x) c)) 2 = x / c % 2:=by
 have hle : x / c ≤ x:=Int.ediv_le_self c h0
 have hge : 0 ≤ x / c:=Int.ediv_nonneg h0 (Int.le_of_lt hc)
 rw [w64 (x:=x) (by omega) (by omega),tdivr _ _ h0]
 generalize x / c = y at *
 rw [w64 (by omega) (by omega),tmodr _ _ hge]
theorem half_w (c d : Int) (h : Int.tdiv c 2 = d) (h0 : 0 ≤ d) (h1 : d < 1000) : wrap64 (Int.tdiv c 2) = d:=by rw [h];exact w64 (by omega) (by omega)
theorem enc_l1 (l : List Int) (i : Nat) (hi : i < l.length) (hl : l.length ≤ 1000000) (x : Int) (hx : rd l (i : Int) = x) (h0 : 0 ≤ x) (h1 : x < 256) (acc : List Int) (ha : acc.length ≤ 100000000) (k : Nat) :
  racewayref22_Encode.l1 (k + 9) l acc (i : Int) 128 = racewayref22_Encode.l0 k l (acc ++ bits8 x) ((i + 1 : Nat) : Int):=by
 have c1 : (0 : Int) ≤ (i : Int):=by omega
 have c2 : (i : Int) < (l.length : Int):=by omega
 have c3 : wrap64 ((i : Int) + 1) = ((i + 1 : Nat) : Int):=by rw [w64 (by omega) (by omega)];omega
 rw [racewayref22_Encode.l1,if_pos (by decide),if_pos c1,if_pos c2,if_neg (by decide),if_pos (by clear c3;(try simp only [List.length_append,List.length_singleton]);omega),hx,bit_at x h0 h1 128 (by decide),half_w 128 64 rfl (by decide) (by decide)]
 rw [racewayref22_Encode.l1,if_pos (by decide),if_pos c1,if_pos c2,if_neg (by decide),if_pos (by clear c3;(try simp only [List.length_append,List.length_singleton]);omega),hx,bit_at x h0 h1 64 (by decide),half_w 64 32 rfl (by decide) (by decide)]
 rw [racewayref22_Encode.l1,if_pos (by decide),if_pos c1,if_pos c2,if_neg (by decide),if_pos (by clear c3;(try simp only [List.length_append,List.length_singleton]);omega),hx,bit_at x h0 h1 32 (by decide),half_w 32 16 rfl (by decide) (by decide)]
 rw [racewayref22_Encode.l1,if_pos (by decide),if_pos c1,if_pos c2,if_neg (by decide),if_pos (by clear c3;(try simp only [List.length_append,List.length_singleton]);omega),hx,bit_at x h0 h1 16 (by decide),half_w 16 8 rfl (by decide) (by decide)]
 rw [racewayref22_Encode.l1,if_pos (by decide),if_pos c1,if_pos c2,if_neg (by decide),if_pos (by clear c3;(try simp only [List.length_append,List.length_singleton]);omega),hx,bit_at x h0 h1 8 (by decide),half_w 8 4 rfl (by decide) (by decide)]
 rw [racewayref22_Encode.l1,if_pos (by decide),if_pos c1,if_pos c2,if_neg (by decide),if_pos (by clear c3;(try simp only [List.length_append,List.length_singleton]);omega),hx,bit_at x h0 h1 4 (by decide),half_w 4 2 rfl (by decide) (by decide)]
 rw [racewayref22_Encode.l1,if_pos (by decide),if_pos c1,if_pos c2,if_neg (by decide),if_pos (by clear c3;(try simp only [List.length_append,List.length_singleton]);omega),hx,bit_at x h0 h1 2 (by decide),half_w 2 1 rfl (by decide) (by decide)]
 rw [racewayref22_Encode.l1,if_pos (by decide),if_pos c1,if_pos c2,if_neg (by decide),if_pos (by clear c3;(try simp only [List.length_append,List.length_singleton]);omega),hx,bit_at x h0 h1 1 (by decide),half_w 1 0 rfl (by decide) (by decide)]
 rw [racewayref22_Encode.l1,if_neg (by decide),c3,Int.ediv_one]
 simp only [List.append_assoc,List.singleton_append,bits8,List.cons_append,List.nil_append]
theorem bits8_len (x : Int) : (bits8 x).length = 8:=rfl
theorem bitsL_cons (x : Int) (l : List Int) : bitsL (x :: l) = bits8 x ++ bitsL l:=rfl
theorem bitsL_len : ∀ l : List Int,(bitsL l).length = 8 * l.length
 | [] => rfl
 | x :: l => by rw [bitsL_cons,List.length_append,bits8_len,bitsL_len l,List.length_cons];omega
theorem enc_l0 (l : List Int) (hb : byteL l) (hl : l.length ≤ 1000000) : ∀ (d i k : Nat) (acc : List Int),i + d = l.length → acc.length + 8 * d ≤ 10000000 →
  racewayref22_Encode.l0 (k + 10 * d + 1) l acc (i : Int) = racewayref22_Encode.l2 k (acc ++ bitsL (l.drop i)):=by
 intro d
 induction d with
 | zero =>
  intro i k acc hi ha
  rw [racewayref22_Encode.l0,if_neg (by omega),List.drop_eq_nil_of_le (by omega)]
  simp [bitsL]
 | succ d ih =>
  intro i k acc hi ha
  have hlt : i < l.length:=by omega
  have hx:=hb l[i] (List.getElem_mem hlt)
  have hrd : rd l (i : Int) = l[i]:=by simp [rd,List.getD_eq_getElem?_getD,List.getElem?_eq_getElem hlt]
  rw [show k + 10 * (d + 1) + 1 = (k + 10 * d + 1 + 9) + 1 by omega,racewayref22_Encode.l0,if_pos (by omega),enc_l1 l i hlt hl l[i] hrd hx.1 hx.2 acc (by omega),ih (i + 1) k _ (by omega) (by rw [List.length_append,bits8_len];omega),List.drop_eq_getElem_cons hlt,bitsL_cons,List.append_assoc]
theorem enc_l2 : ∀ (p k : Nat) (b : List Int),(6 - b.length % 6) % 6 = p → b.length + p ≤ 100000000 → racewayref22_Encode.l2 (k + p + 1) b = racewayref22_Encode.l3 k (b ++ List.replicate p 0) ⟨#[]⟩ 0
 | 0,k,b,hp,hb => by
  rw [racewayref22_Encode.l2,if_pos (by omega)]
  simp
 | p + 1,k,b,hp,hb => by
  have ih:=enc_l2 p k (b ++ [0]) (by rw [List.length_append,List.length_singleton];omega) (by rw [List.length_append,List.length_singleton];omega)
  rw [show k + (p + 1) + 1 = (k + p + 1) + 1 by omega,racewayref22_Encode.l2,if_neg (by omega),if_pos (by omega),ih,List.append_assoc,List.replicate_succ]
  rfl
def six6 : List Int → List Int
 | a :: b :: c :: d :: e :: f :: l => (a * 32 + b * 16 + c * 8 + d * 4 + e * 2 + f) :: six6 l
 | _ => []
def bitL (l : List Int) : Prop:=∀ x ∈ l,0 ≤ x ∧ x ≤ 1
theorem enc_l4s (v b : Int) (hv : 0 ≤ v) (hv1 : v < 1000) (hb : 0 ≤ b ∧ b ≤ 1) : wrap64 (wrap64 (2 * v) + b) = 2 * v + b:=by
 have h1 : wrap64 (2 * v) = 2 * v:=w64 (by omega) (by omega)
 rw [h1]
 clear h1
 exact w64 (by omega) (by omega)
theorem sign_piece (n : Nat) (h : n < 64) : (⟨#[65,66,67,68,69,70,71,72,73,74,75,76,77,78,79,80,81,82,83,84,85,86,87,88,89,90,97,98,99,100,101,102,103,104,105,106,107,108,109,110,111,112,113,114,115,116,117,118,119,120,121,122,48,49,50,51,52,53,54,55,56,57,43,47]⟩ : ByteArray).extract n (n + 1) = ⟨#[signB (n : Int)]⟩:=by
 have : ∀ n : Fin 64,((⟨#[65,66,67,68,69,70,71,72,73,74,75,76,77,78,79,80,81,82,83,84,85,86,87,88,89,90,97,98,99,100,101,102,103,104,105,106,107,108,109,110,111,112,113,114,115,116,117,118,119,120,121,122,48,49,50,51,52,53,54,55,56,57,43,47]⟩ : ByteArray).extract n.val (n.val + 1)).data.toList = [signB (n.val : Int)]:=by decide +kernel
 have h1:=this ⟨n,h⟩
 simp only at h1
 cases hx : (⟨#[65,66,67,68,69,70,71,72,73,74,75,76,77,78,79,80,81,82,83,84,85,86,87,88,89,90,97,98,99,100,101,102,103,104,105,106,107,108,109,110,111,112,113,114,115,116,117,118,119,120,121,122,48,49,50,51,52,53,54,55,56,57,43,47]⟩ : ByteArray).extract n (n + 1) with
 | mk d =>
  rw [hx] at h1
  congr 1
  exact Array.ext' h1
theorem enc_l4 (b : List Int) (i : Nat) (hi : i + 6 ≤ b.length) (hl : b.length ≤ 100000000) (b0 b1 b2 b3 b4 b5 : Int) (h0 : rd b (i : Int) = b0) (h1 : rd b ((i + 1 : Nat) : Int) = b1) (h2 : rd b ((i + 2 : Nat) : Int) = b2) (h3 : rd b ((i + 3 : Nat) : Int) = b3) (h4 : rd b ((i + 4 : Nat) : Int) = b4) (h5 : rd b ((i + 5 : Nat) : Int) = b5)
  (q0 : 0 ≤ b0 ∧ b0 ≤ 1) (q1 : 0 ≤ b1 ∧ b1 ≤ 1) (q2 : 0 ≤ b2 ∧ b2 ≤ 1) (q3 : 0 ≤ b3 ∧ b3 ≤ 1) (q4 : 0 ≤ b4 ∧ b4 ≤ 1) (q5 : 0 ≤ b5 ∧ b5 ≤ 1) (out : ByteArray) (ho : out.size ≤ 100000000) (k : Nat) :
  racewayref22_Encode.l4 (k + 7) b out (i : Int) 0 0 = racewayref22_Encode.l3 k b (out ++ ⟨#[signB (b0 * 32 + b1 * 16 + b2 * 8 + b3 * 4 + b4 * 2 + b5)]⟩) ((i + 6 : Nat) : Int):=by
 have a0 : wrap64 ((i : Int) + 0) = (i : Int):=by rw [Int.add_zero];exact w64 (by omega) (by omega)
 have a1 : wrap64 ((i : Int) + 1) = ((i + 1 : Nat) : Int):=by clear a0;rw [w64 (by omega) (by omega)];omega
 have a2 : wrap64 ((i : Int) + 2) = ((i + 2 : Nat) : Int):=by clear a0 a1;rw [w64 (by omega) (by omega)];omega
 have a3 : wrap64 ((i : Int) + 3) = ((i + 3 : Nat) : Int):=by clear a0 a1 a2;rw [w64 (by omega) (by omega)];omega
 have a4 : wrap64 ((i : Int) + 4) = ((i + 4 : Nat) : Int):=by clear a0 a1 a2 a3;rw [w64 (by omega) (by omega)];omega
 have a5 : wrap64 ((i : Int) + 5) = ((i + 5 : Nat) : Int):=by clear a0 a1 a2 a3 a4;rw [w64 (by omega) (by omega)];omega
 have a6 : wrap64 ((i : Int) + 6) = ((i + 6 : Nat) : Int):=by clear a0 a1 a2 a3 a4 a5;rw [w64 (by omega) (by omega)];omega
 have z1 : wrap64 ((0 : Int) + 1) = 1:=w64 (by decide) (by decide)
 have z2 : wrap64 ((1 : Int) + 1) = 2:=w64 (by decide) (by decide)
 have z3 : wrap64 ((2 : Int) + 1) = 3:=w64 (by decide) (by decide)
 have z4 : wrap64 ((3 : Int) + 1) = 4:=w64 (by decide) (by decide)
 have z5 : wrap64 ((4 : Int) + 1) = 5:=w64 (by decide) (by decide)
 have z6 : wrap64 ((5 : Int) + 1) = 6:=w64 (by decide) (by decide)
 have p0 : ∀ j : Nat,j < 6 → (0 : Int) ≤ ((i + j : Nat) : Int) ∧ ((i + j : Nat) : Int) < (b.length : Int):=by intro j hj;clear a0 a1 a2 a3 a4 a5 a6 z1 z2 z3 z4 z5 z6;omega
 rw [racewayref22_Encode.l4,if_pos (by decide),a0,if_pos (show (0 : Int) ≤ (i : Int) from (p0 0 (by decide)).1),if_pos (show (i : Int) < (b.length : Int) from (p0 0 (by decide)).2),h0,enc_l4s 0 b0 (by decide) (by decide) q0,z1]
 rw [racewayref22_Encode.l4,if_pos (by decide),a1,if_pos (p0 1 (by decide)).1,if_pos (p0 1 (by decide)).2,h1,enc_l4s (2 * 0 + b0) b1 (by omega) (by omega) q1,z2]
 rw [racewayref22_Encode.l4,if_pos (by decide),a2,if_pos (p0 2 (by decide)).1,if_pos (p0 2 (by decide)).2,h2,enc_l4s (2 * (2 * 0 + b0) + b1) b2 (by omega) (by omega) q2,z3]
 rw [racewayref22_Encode.l4,if_pos (by decide),a3,if_pos (p0 3 (by decide)).1,if_pos (p0 3 (by decide)).2,h3,enc_l4s (2 * (2 * (2 * 0 + b0) + b1) + b2) b3 (by omega) (by omega) q3,z4]
 rw [racewayref22_Encode.l4,if_pos (by decide),a4,if_pos (p0 4 (by decide)).1,if_pos (p0 4 (by decide)).2,h4,enc_l4s (2 * (2 * (2 * (2 * 0 + b0) + b1) + b2) + b3) b4 (by omega) (by omega) q4,z5]
 rw [racewayref22_Encode.l4,if_pos (by decide),a5,if_pos (p0 5 (by decide)).1,if_pos (p0 5 (by decide)).2,h5,enc_l4s (2 * (2 * (2 * (2 * (2 * 0 + b0) + b1) + b2) + b3) + b4) b5 (by omega) (by omega) q5,z6]
 clear a0 a1 a2 a3 a4 a5 z1 z2 z3 z4 z5 z6
 have hv : 2 * (2 * (2 * (2 * (2 * (2 * 0 + b0) + b1) + b2) + b3) + b4) + b5 = b0 * 32 + b1 * 16 + b2 * 8 + b3 * 4 + b4 * 2 + b5:=by clear a6;omega
 rw [racewayref22_Encode.l4,if_neg (by decide),hv]
 have hv0 : 0 ≤ b0 * 32 + b1 * 16 + b2 * 8 + b3 * 4 + b4 * 2 + b5 ∧ b0 * 32 + b1 * 16 + b2 * 8 + b3 * 4 + b4 * 2 + b5 < 64:=by clear a6 hv;omega
 generalize b0 * 32 + b1 * 16 + b2 * 8 + b3 * 4 + b4 * 2 + b5 = v at *
 obtain ⟨n,rfl⟩:=Int.eq_ofNat_of_zero_le hv0.1
 have hn : n < 64:=by clear a6 hv;omega
 have e1 : wrap64 ((n : Int) + 1) = ((n + 1 : Nat) : Int):=by clear a6 hv;rw [w64 (by omega) (by omega)];omega
 have s1 : (n : Int) ≤ ((n + 1 : Nat) : Int):=by clear a6 hv e1;omega
 have s2 : ((n + 1 : Nat) : Int) ≤ 64:=by clear a6 hv e1;omega
 rw [if_pos hv0.1,e1,if_pos s1,if_pos s2,Int.toNat_natCast,Int.toNat_natCast,sign_piece n hn,if_pos (by clear a6 hv e1;show out.size + 1 ≤ _;omega),a6]
theorem rd_app (l : List Int) (i : Nat) (h : i < l.length) : rd l (i : Int) = l[i]:=by simp [rd,List.getD_eq_getElem?_getD,List.getElem?_eq_getElem h]
theorem six6_len : ∀ (m : Nat) (l : List Int),l.length = 6 * m → (six6 l).length = m
 | 0,l,h => by
  have : l = []:=List.length_eq_zero_iff.1 (by omega)
  subst this;rfl
 | m + 1,l,h => by
  match l,h with
  | a :: b :: c :: d :: e :: f :: l,h => rw [six6,List.length_cons,six6_len m l (by simp only [List.length_cons] at h;omega)]
theorem enc_l3 (b : List Int) (hb : bitL b) (hl : b.length ≤ 10000000) : ∀ (d i k : Nat) (out : List UInt8),i + 6 * d = b.length → out.length + d ≤ 10000000 →
  racewayref22_Encode.l3 (k + 8 * d + 1) b ⟨out.toArray⟩ (i : Int) = racewayref22_Encode.l5 k ⟨(out ++ (six6 (b.drop i)).map signB).toArray⟩:=by
 intro d
 induction d with
 | zero =>
  intro i k out hi ho
  rw [racewayref22_Encode.l3,if_neg (by omega),List.drop_eq_nil_of_le (by omega)]
  simp [six6]
 | succ d ih =>
  intro i k out hi ho
  have hlt : i + 6 ≤ b.length:=by omega
  have e : b.drop i = b[i] :: b[i + 1] :: b[i + 2] :: b[i + 3] :: b[i + 4] :: b[i + 5] :: b.drop (i + 6):=by
   rw [List.drop_eq_getElem_cons (by omega),List.drop_eq_getElem_cons (i:=i + 1) (by omega),List.drop_eq_getElem_cons (i:=i + 1 + 1) (by omega),List.drop_eq_getElem_cons (i:=i + 1 + 1 + 1) (by omega),List.drop_eq_getElem_cons (i:=i + 1 + 1 + 1 + 1) (by omega),List.drop_eq_getElem_cons (i:=i + 1 + 1 + 1 + 1 + 1) (by omega)]
  have hm : ∀ j (h : j < b.length),0 ≤ b[j] ∧ b[j] ≤ 1:=fun j h => hb _ (List.getElem_mem h)
  have hos : (⟨out.toArray⟩ : ByteArray).size = out.length:=by simp [ByteArray.size]
  rw [show k + 8 * (d + 1) + 1 = (k + 8 * d + 1 + 7) + 1 by omega,racewayref22_Encode.l3,if_pos (by omega),
   enc_l4 b i hlt (by omega) _ _ _ _ _ _ (rd_app b i (by omega)) (rd_app b (i + 1) (by omega)) (rd_app b (i + 2) (by omega)) (rd_app b (i + 3) (by omega)) (rd_app b (i + 4) (by omega)) (rd_app b (i + 5) (by omega)) (hm _ _) (hm _ _) (hm _ _) (hm _ _) (hm _ _) (hm _ _) _ (by rw [hos];omega) (k + 8 * d + 1)]
  have hcat : (⟨out.toArray⟩ : ByteArray) ++ (⟨#[signB (b[i] * 32 + b[i + 1] * 16 + b[i + 2] * 8 + b[i + 3] * 4 + b[i + 4] * 2 + b[i + 5])]⟩ : ByteArray) = ⟨(out ++ [signB (b[i] * 32 + b[i + 1] * 16 + b[i + 2] * 8 + b[i + 3] * 4 + b[i + 4] * 2 + b[i + 5])]).toArray⟩:=by
   rw [ByteArray.ext_iff]
   simp
  rw [hcat,ih (i + 6) k _ (by omega) (by rw [List.length_append,List.length_singleton];omega),e,six6,List.map_cons,List.append_assoc]
  rfl
theorem enc_l5 : ∀ (q k : Nat) (s : List UInt8),(4 - s.length % 4) % 4 = q → s.length + q ≤ 100000000 → racewayref22_Encode.l5 (k + q + 1) ⟨s.toArray⟩ = some ⟨(s ++ List.replicate q 61).toArray⟩
 | 0,k,s,hq,hs => by
  have hos : (⟨s.toArray⟩ : ByteArray).size = s.length:=by simp [ByteArray.size]
  rw [racewayref22_Encode.l5,hos,if_pos (by omega)]
  simp
 | q + 1,k,s,hq,hs => by
  have hos : (⟨s.toArray⟩ : ByteArray).size = s.length:=by simp [ByteArray.size]
  have ih:=enc_l5 q k (s ++ [61]) (by rw [List.length_append,List.length_singleton];omega) (by rw [List.length_append,List.length_singleton];omega)
  have hcat : (⟨s.toArray⟩ : ByteArray) ++ (⟨#[61]⟩ : ByteArray) = ⟨(s ++ [61]).toArray⟩:=by
   rw [ByteArray.ext_iff]
   simp
  rw [show k + (q + 1) + 1 = (k + q + 1) + 1 by omega,racewayref22_Encode.l5,hos,if_neg (by omega),if_pos (by omega),hcat,ih,List.append_assoc,List.replicate_succ]
  rfl
theorem bits8_bit (x : Int) : bitL (bits8 x):=by
 intro y hy
 simp only [bits8,List.mem_cons,List.not_mem_nil,or_false] at hy
 rcases hy with rfl|rfl|rfl|rfl|rfl|rfl|rfl|rfl <;> omega
theorem bitsL_bit : ∀ l : List Int,bitL (bitsL l)
 | [] => fun y hy => by simp [bitsL] at hy
 | x :: l => fun y hy => by
  rw [bitsL_cons] at hy
  exact (List.mem_append.1 hy).elim (bits8_bit x y) (bitsL_bit l y)
theorem v_hi (x : Int) (h0 : 0 ≤ x) (h1 : x < 256) : x / 128 % 2 * 32 + x / 64 % 2 * 16 + x / 32 % 2 * 8 + x / 16 % 2 * 4 + x / 8 % 2 * 2 + x / 4 % 2 = x / 4:=by omega
theorem v_mid (x y : Int) (h0 : 0 ≤ x) (h1 : x < 256) (g0 : 0 ≤ y) (g1 : y < 256) : x / 2 % 2 * 32 + x % 2 * 16 + y / 128 % 2 * 8 + y / 64 % 2 * 4 + y / 32 % 2 * 2 + y / 16 % 2 = x % 4 * 16 + y / 16:=by omega
theorem v_low (y z : Int) (h0 : 0 ≤ y) (h1 : y < 256) (g0 : 0 ≤ z) (g1 : z < 256) : y / 8 % 2 * 32 + y / 4 % 2 * 16 + y / 2 % 2 * 8 + y % 2 * 4 + z / 128 % 2 * 2 + z / 64 % 2 = y % 16 * 4 + z / 64:=by omega
theorem v_end (z : Int) (h0 : 0 ≤ z) (h1 : z < 256) : z / 32 % 2 * 32 + z / 16 % 2 * 16 + z / 8 % 2 * 8 + z / 4 % 2 * 4 + z / 2 % 2 * 2 + z % 2 = z % 64:=by omega
theorem six_bits : ∀ l : List Int,byteL l → six6 (bitsL l ++ List.replicate ((6 - (bitsL l).length % 6) % 6) 0) = sexR l
 | [],_ => rfl
 | [x],h => by
  have hx:=h x (by simp)
  rw [show (6 - (bitsL [x]).length % 6) % 6 = 4 by simp [bitsL_len]]
  show six6 [x / 128 % 2,x / 64 % 2,x / 32 % 2,x / 16 % 2,x / 8 % 2,x / 4 % 2,x / 2 % 2,x % 2,0,0,0,0] = [x / 4,x % 4 * 16]
  simp only [six6]
  rw [v_hi x hx.1 hx.2]
  have:=v_mid x 0 hx.1 hx.2 (by decide) (by decide)
  congr 2
  simpa using this
 | [x,y],h => by
  have hx:=h x (by simp);have hy:=h y (by simp)
  rw [show (6 - (bitsL [x,y]).length % 6) % 6 = 2 by simp [bitsL_len]]
  show six6 [x / 128 % 2,x / 64 % 2,x / 32 % 2,x / 16 % 2,x / 8 % 2,x / 4 % 2,x / 2 % 2,x % 2,y / 128 % 2,y / 64 % 2,y / 32 % 2,y / 16 % 2,y / 8 % 2,y / 4 % 2,y / 2 % 2,y % 2,0,0] = [x / 4,x % 4 * 16 + y / 16,y % 16 * 4]
  simp only [six6]
  rw [v_hi x hx.1 hx.2,v_mid x y hx.1 hx.2 hy.1 hy.2]
  have:=v_low y 0 hy.1 hy.2 (by decide) (by decide)
  congr 3
  simpa using this
 | x :: y :: z :: l,h => by
  have hx:=h x (by simp);have hy:=h y (by simp);have hz:=h z (by simp)
  have ih:=six_bits l (fun a ha => h a (by simp [ha]))
  have hlen : (bitsL (x :: y :: z :: l)).length % 6 = (bitsL l).length % 6:=by rw [bitsL_len,bitsL_len];simp only [List.length_cons];omega
  rw [hlen,bitsL_cons,bitsL_cons,bitsL_cons,List.append_assoc,List.append_assoc,List.append_assoc]
  show six6 (x / 128 % 2 :: x / 64 % 2 :: x / 32 % 2 :: x / 16 % 2 :: x / 8 % 2 :: x / 4 % 2 :: x / 2 % 2 :: x % 2 :: y / 128 % 2 :: y / 64 % 2 :: y / 32 % 2 :: y / 16 % 2 :: y / 8 % 2 :: y / 4 % 2 :: y / 2 % 2 :: y % 2 :: z / 128 % 2 :: z / 64 % 2 :: z / 32 % 2 :: z / 16 % 2 :: z / 8 % 2 :: z / 4 % 2 :: z / 2 % 2 :: z % 2 :: (bitsL l ++ List.replicate ((6 - (bitsL l).length % 6) % 6) 0)) = _
  simp only [six6]
  rw [v_hi x hx.1 hx.2,v_mid x y hx.1 hx.2 hy.1 hy.2,v_low y z hy.1 hy.2 hz.1 hz.2,v_end z hz.1 hz.2,ih]
  rfl
theorem rEncode_is (l : List Int) (hb : byteL l) (hl : l.length ≤ 100000) (k : Nat) (hk : 22 * l.length + 60 ≤ k) : racewayref22_Encode.f k l = some ⟨(encR l).toArray⟩:=by
 have hbl:=bitsL_len l
 obtain ⟨p,hp⟩ : ∃ p,(6 - (bitsL l).length % 6) % 6 = p:=⟨_,rfl⟩
 have hsix:=six_bits l hb
 rw [hp] at hsix
 obtain ⟨B,hB⟩ : ∃ B,bitsL l ++ List.replicate p 0 = B:=⟨_,rfl⟩
 have hBb : bitL B:=by
  rw [← hB]
  intro y hy
  rcases List.mem_append.1 hy with h|h
  ·exact bitsL_bit l y h
  ·rw [List.eq_of_mem_replicate h];decide
 have hBl : B.length = (bitsL l).length + p:=by rw [← hB];simp
 obtain ⟨m,hm⟩ : ∃ m,B.length = 6 * m:=⟨B.length / 6,by omega⟩
 rw [hB] at hsix
 have hml:=six6_len m B hm
 have hsl : (sexR l).length = m:=by rw [← hsix];exact hml
 have h1:=sexR_len l
 obtain ⟨q,hq⟩ : ∃ q,(4 - (sexR l).length % 4) % 4 = q:=⟨_,rfl⟩
 obtain ⟨r,rfl⟩ : ∃ r,k = (((r + q + 1) + 8 * m + 1) + p + 1) + 10 * l.length + 1:=⟨k - (q + 1 + 8 * m + 1 + p + 1 + 10 * l.length + 1),by omega⟩
 rw [racewayref22_Encode.f,show (0 : Int) = ((0 : Nat) : Int) from rfl,enc_l0 l hb (by omega) l.length 0 _ [] (by omega) (by simp;omega),List.drop_zero,List.nil_append,enc_l2 p _ _ hp (by omega),hB]
 have h3:=enc_l3 B hBb (by omega) m 0 (r + q + 1) [] (by omega) (by simp;omega)
 rw [List.drop_zero,List.nil_append,hsix] at h3
 refine h3.trans ?_
 rw [enc_l5 q r _ (by rw [List.length_map];exact hq) (by rw [List.length_map];omega),encR_sex,hq]
end Go.Proofs.YtedfgkjimnjdpaaDoor.X
namespace Go.Proofs.YtedfgkjimnjdpaaDoor.X
open Go.RowKit Go.Proofs.YtedfgkjimnjdpaaDoorW.PrintWords Go.Proofs.YtedfgkjimnjdpaaDoorW.PrintLast Go.Proofs.YtedfgkjimnjdpaaDoorW.PrintMore
set_option linter.unusedVariables false
set_option linter.unusedSimpArgs false
abbrev signsB : ByteArray:=⟨#[65,66,67,68,69,70,71,72,73,74,75,76,77,78,79,80,81,82,83,84,85,86,87,88,89,90,97,98,99,100,101,102,103,104,105,106,107,108,109,110,111,112,113,114,115,116,117,118,119,120,121,122,48,49,50,51,52,53,54,55,56,57,43,47]⟩
theorem at_fix : ∀ c : Fin 256,racewayref22_at.f 66 signsB (c.val : Int) = some (sixB (c.val : Int)):=by decide +kernel
theorem at_is (c : Int) (h0 : 0 ≤ c) (h1 : c < 256) : ∀ j : Nat,racewayref22_at.f (66 + j) signsB c = some (sixB c)
 | 0 => by
  have:=at_fix ⟨c.toNat,by omega⟩
  simp only [Int.toNat_of_nonneg h0] at this
  exact this
 | j + 1 => racewayref22_at.mono signsB c (66 + j) _ (at_is c h0 h1 j)
def bits6 (x : Int) : List Int:=[x / 32 % 2,x / 16 % 2,x / 8 % 2,x / 4 % 2,x / 2 % 2,x % 2]
theorem bit_at6 (x : Int) (h0 : 0 ≤ x) (h1 : x < 64) (c : Int) (hc : 0 < c) : Int.tmod (wrap64 (Int.tdiv x c)) 2 = x / c % 2:=by
 have hle : x / c ≤ x:=Int.ediv_le_self c h0
 have hge : 0 ≤ x / c:=Int.ediv_nonneg h0 (Int.le_of_lt hc)
 rw [tdivr _ _ h0]
 generalize x / c = y at *
 rw [w64 (by omega) (by omega),tmodr _ _ hge]
theorem dec_l2 (s : ByteArray) (acc : List Int) (ha : acc.length ≤ 10000000) (n : Int) (i : Nat) (hi : i ≤ 10000000) (x : Int) (h0 : 0 ≤ x) (h1 : x < 64) (k : Nat) :
  racewayref22_Decode.l2 (k + 7) s acc n (i : Int) x 32 = racewayref22_Decode.l1 k s (acc ++ bits6 x) n ((i + 1 : Nat) : Int):=by
 have c3 : wrap64 ((i : Int) + 1) = ((i + 1 : Nat) : Int):=by rw [w64 (by omega) (by omega)];omega
 rw [racewayref22_Decode.l2,if_pos (by decide),if_neg (by decide),if_pos (by clear c3;omega),bit_at6 x h0 h1 32 (by decide),half_w 32 16 rfl (by decide) (by decide)]
 rw [racewayref22_Decode.l2,if_pos (by decide),if_neg (by decide),if_pos (by clear c3;simp only [List.length_append,List.length_singleton];omega),bit_at6 x h0 h1 16 (by decide),half_w 16 8 rfl (by decide) (by decide)]
 rw [racewayref22_Decode.l2,if_pos (by decide),if_neg (by decide),if_pos (by clear c3;simp only [List.length_append,List.length_singleton];omega),bit_at6 x h0 h1 8 (by decide),half_w 8 4 rfl (by decide) (by decide)]
 rw [racewayref22_Decode.l2,if_pos (by decide),if_neg (by decide),if_pos (by clear c3;simp only [List.length_append,List.length_singleton];omega),bit_at6 x h0 h1 4 (by decide),half_w 4 2 rfl (by decide) (by decide)]
 rw [racewayref22_Decode.l2,if_pos (by decide),if_neg (by decide),if_pos (by clear c3;simp only [List.length_append,List.length_singleton];omega),bit_at6 x h0 h1 2 (by decide),half_w 2 1 rfl (by decide) (by decide)]
 rw [racewayref22_Decode.l2,if_pos (by decide),if_neg (by decide),if_pos (by clear c3;simp only [List.length_append,List.length_singleton];omega),bit_at6 x h0 h1 1 (by decide),half_w 1 0 rfl (by decide) (by decide)]
 rw [racewayref22_Decode.l2,if_neg (by decide),c3,Int.ediv_one]
 simp only [List.append_assoc,List.singleton_append,bits6,List.cons_append,List.nil_append]
def bits6L (l : List Int) : List Int:=l.flatMap bits6
theorem bits6L_cons (x : Int) (l : List Int) : bits6L (x :: l) = bits6 x ++ bits6L l:=rfl
theorem bits6L_len : ∀ l : List Int,(bits6L l).length = 6 * l.length
 | [] => rfl
 | x :: l => by rw [bits6L_cons,List.length_append,bits6L_len l,List.length_cons];show 6 + _ = _;omega
def segU (s : ByteArray) (n i : Nat) : List UInt8:=(s.data.toList.take n).drop i
theorem segU_step (s : ByteArray) (n i : Nat) (hn : n ≤ s.size) (hi : i < n) : ∃ c : UInt8,segU s n i = c :: segU s n (i + 1) ∧ bt s (i : Int) = (c.toNat : Int):=by
 have hl : i < (s.data.toList.take n).length:=by rw [List.length_take];show i < min n s.size;omega
 refine ⟨(s.data.toList.take n)[i],List.drop_eq_getElem_cons hl,?_⟩
 rw [q_bt s i (by omega),List.getElem_take]
 rfl
theorem rdec_l1 (s : ByteArray) (hs : s.size ≤ 100000) (n : Nat) (hn : n ≤ s.size) : ∀ (d i k : Nat) (acc : List Int),i + d = n → acc.length + 6 * d ≤ 1000000 → 70 ≤ k →
  racewayref22_Decode.l1 (k + 8 * d + 1) s acc (n : Int) (i : Int) = if allSix (segU s n i) then racewayref22_Decode.l3 k s (acc ++ bits6L ((segU s n i).map sixU)) [] 0 else some ([],5):=by
 intro d
 induction d with
 | zero =>
  intro i k acc hi ha hk
  have e : segU s n i = []:=by unfold segU;rw [List.drop_eq_nil_of_le (by rw [List.length_take];omega)]
  rw [racewayref22_Decode.l1,if_neg (by omega),e,if_pos (show allSix [] from fun c hc => by simp at hc)]
  simp [bits6L]
 | succ d ih =>
  intro i k acc hi ha hk
  obtain ⟨c,hseg,hbt⟩:=segU_step s n i hn (by omega)
  have hc:=c.toNat_lt
  have c1 : (i : Int) < (n : Int):=by omega
  have c2 : (0 : Int) ≤ (i : Int):=by omega
  have c3 : (i : Int) < (s.size : Int):=by omega
  have hat:=at_is (c.toNat : Int) (by omega) (by omega) (k + 8 * d + 8 - 66)
  rw [show 66 + (k + 8 * d + 8 - 66) = k + 8 * d + 1 + 7 by omega] at hat
  rw [show k + 8 * (d + 1) + 1 = (k + 8 * d + 1 + 7) + 1 by omega,racewayref22_Decode.l1,if_pos c1,if_pos c2,if_pos c3,hbt,hat,Option.bind_some,hseg]
  have h64:=sixU_lt c
  change (if sixU c < 0 then _ else racewayref22_Decode.l2 (k + 8 * d + 1 + 7) s acc (n : Int) (i : Int) (sixU c) 32) = _
  by_cases hneg : sixU c < 0
  ·rw [if_pos hneg,if_neg (fun h => absurd (h c (by simp)) (by omega))]
  ·rw [if_neg hneg,dec_l2 s acc (by omega) _ i (by omega) _ (by omega) h64,ih (i + 1) k _ (by omega) (by rw [List.length_append];show acc.length + 6 + _ ≤ _;omega) hk]
   by_cases hall : allSix (segU s n (i + 1))
   ·rw [if_pos hall,if_pos (by intro e he;rcases List.mem_cons.1 he with rfl|he;omega;exact hall e he),List.map_cons,bits6L_cons,List.append_assoc]
   ·rw [if_neg hall,if_neg (fun h => hall (fun e he => h e (List.mem_cons_of_mem _ he)))]
def by8 : List Int → List Int
 | a :: b :: c :: d :: e :: f :: g :: h :: l => (a * 128 + b * 64 + c * 32 + d * 16 + e * 8 + f * 4 + g * 2 + h) :: by8 l
 | _ => []
theorem dec_l4 (s : ByteArray) (b : List Int) (i : Nat) (hi : i + 8 ≤ b.length) (hl : b.length ≤ 10000000) (x : Nat → Int) (hx : ∀ j : Nat,j < 8 → rd b ((i + j : Nat) : Int) = x j) (hq : ∀ j : Nat,j < 8 → 0 ≤ x j ∧ x j ≤ 1) (out : List Int) (ho : out.length ≤ 10000000) (k : Nat) :
  racewayref22_Decode.l4 (k + 9) s b out (i : Int) 0 0 = racewayref22_Decode.l3 k s b (out ++ [x 0 * 128 + x 1 * 64 + x 2 * 32 + x 3 * 16 + x 4 * 8 + x 5 * 4 + x 6 * 2 + x 7]) ((i + 8 : Nat) : Int):=by
 have step : ∀ (j k : Nat) (v : Int),j < 8 → 0 ≤ v → v < 1000 → racewayref22_Decode.l4 (k + 1) s b out (i : Int) v (j : Int) = racewayref22_Decode.l4 k s b out (i : Int) (2 * v + x j) ((j + 1 : Nat) : Int):=by
  intro j k v hj hv hv1
  have c1 : (j : Int) < 8:=by omega
  have c2 : (0 : Int) ≤ ((i + j : Nat) : Int):=by omega
  have c3 : ((i + j : Nat) : Int) < (b.length : Int):=by omega
  have e1 : wrap64 ((i : Int) + (j : Int)) = ((i + j : Nat) : Int):=by rw [w64 (by omega) (by omega)];omega
  have e2 : wrap64 ((j : Int) + 1) = ((j + 1 : Nat) : Int):=by clear e1;rw [w64 (by omega) (by omega)];omega
  rw [racewayref22_Decode.l4,if_pos c1,e1,if_pos c2,if_pos c3,hx j hj,enc_l4s v (x j) hv hv1 (hq j hj),e2]
 have q:=hq
 refine (step 0 (k + 8) 0 (by decide) (by decide) (by decide)).trans ?_
 rw [step 1 (k + 7) _ (by decide) (by have:=q 0 (by decide);omega) (by have:=q 0 (by decide);omega)]
 have q0:=q 0 (by decide);have q1:=q 1 (by decide);have q2:=q 2 (by decide);have q3:=q 3 (by decide);have q4:=q 4 (by decide);have q5:=q 5 (by decide);have q6:=q 6 (by decide);have q7:=q 7 (by decide)
 rw [step 2 (k + 6) _ (by decide) (by omega) (by omega),step 3 (k + 5) _ (by decide) (by omega) (by omega),step 4 (k + 4) _ (by decide) (by omega) (by omega),step 5 (k + 3) _ (by decide) (by omega) (by omega),step 6 (k + 2) _ (by decide) (by omega) (by omega),step 7 (k + 1) _ (by decide) (by omega) (by omega)]
 have hv : (2 * (2 * (2 * (2 * (2 * (2 * (2 * (2 * 0 + x 0) + x 1) + x 2) + x 3) + x 4) + x 5) + x 6) + x 7) % 256 = x 0 * 128 + x 1 * 64 + x 2 * 32 + x 3 * 16 + x 4 * 8 + x 5 * 4 + x 6 * 2 + x 7:=by omega
 have e8 : wrap64 ((i : Int) + 8) = ((i + 8 : Nat) : Int):=by clear hv;rw [w64 (by omega) (by omega)];omega
 rw [racewayref22_Decode.l4,if_neg (by decide),if_pos (by clear hv e8;omega),hv,e8]
theorem by8_byte : ∀ l : List Int,bitL l → byteL (by8 l)
 | [],_ => by intro x hx;simp [by8] at hx
 | [_],_ => by intro x hx;simp [by8] at hx
 | [_,_],_ => by intro x hx;simp [by8] at hx
 | [_,_,_],_ => by intro x hx;simp [by8] at hx
 | [_,_,_,_],_ => by intro x hx;simp [by8] at hx
 | [_,_,_,_,_],_ => by intro x hx;simp [by8] at hx
 | [_,_,_,_,_,_],_ => by intro x hx;simp [by8] at hx
 | [_,_,_,_,_,_,_],_ => by intro x hx;simp [by8] at hx
 | a :: b :: c :: d :: e :: f :: g :: h :: l,hl => by
  have h0:=hl a (by simp);have h1:=hl b (by simp);have h2:=hl c (by simp);have h3:=hl d (by simp);have h4:=hl e (by simp);have h5:=hl f (by simp);have h6:=hl g (by simp);have h7:=hl h (by simp)
  have ih:=by8_byte l (fun x hx => hl x (by simp [hx]))
  intro x hx
  rw [by8] at hx
  rcases List.mem_cons.1 hx with rfl|hx
  ·omega
  ·exact ih x hx
theorem by8_len : ∀ (m : Nat) (l : List Int),l.length = m → (by8 l).length ≤ m
 | m,[],h => by simp [by8]
 | m,[_],h => by simp [by8]
 | m,[_,_],h => by simp [by8]
 | m,[_,_,_],h => by simp [by8]
 | m,[_,_,_,_],h => by simp [by8]
 | m,[_,_,_,_,_],h => by simp [by8]
 | m,[_,_,_,_,_,_],h => by simp [by8]
 | m,[_,_,_,_,_,_,_],h => by simp [by8]
 | m,a :: b :: c :: d :: e :: f :: g :: h' :: l,h => by
  have:=by8_len l.length l rfl
  rw [by8,List.length_cons]
  simp only [List.length_cons] at h
  omega
theorem rdec_l3 (s : ByteArray) (b : List Int) (hb : bitL b) (hl : b.length ≤ 1000000) : ∀ (d i k : Nat) (out : List Int),i + 8 * d ≤ b.length → b.length < i + 8 * d + 8 → out.length + d ≤ 1000000 →
  racewayref22_Decode.l3 (k + 10 * d + 1) s b out (i : Int) = (racewayref22_Encode.f k (out ++ by8 (b.drop i))).bind fun t => if t.toList = s.toList then some (out ++ by8 (b.drop i),0) else some ([],5):=by
 intro d
 induction d with
 | zero =>
  intro i k out h1 h2 ho
  have e8 : ¬ wrap64 ((i : Int) + 8) ≤ (b.length : Int):=by rw [w64 (by omega) (by omega)];omega
  have hnil : by8 (b.drop i) = []:=by
   have hlen : (b.drop i).length < 8:=by rw [List.length_drop];omega
   match hh : b.drop i,hlen with
   | [],_ => rfl
   | [_],_ => rfl
   | [_,_],_ => rfl
   | [_,_,_],_ => rfl
   | [_,_,_,_],_ => rfl
   | [_,_,_,_,_],_ => rfl
   | [_,_,_,_,_,_],_ => rfl
   | [_,_,_,_,_,_,_],_ => rfl
   | _ :: _ :: _ :: _ :: _ :: _ :: _ :: _ :: _,h => simp only [List.length_cons] at h;omega
  rw [racewayref22_Decode.l3,if_neg e8,hnil,List.append_nil]
 | succ d ih =>
  intro i k out h1 h2 ho
  have hlt : i + 8 ≤ b.length:=by omega
  have e8 : wrap64 ((i : Int) + 8) ≤ (b.length : Int):=by rw [w64 (by omega) (by omega)];omega
  have e : b.drop i = b[i] :: b[i + 1] :: b[i + 2] :: b[i + 3] :: b[i + 4] :: b[i + 5] :: b[i + 6] :: b[i + 7] :: b.drop (i + 8):=by
   rw [List.drop_eq_getElem_cons (by omega),List.drop_eq_getElem_cons (i:=i + 1) (by omega),List.drop_eq_getElem_cons (i:=i + 1 + 1) (by omega),List.drop_eq_getElem_cons (i:=i + 1 + 1 + 1) (by omega),List.drop_eq_getElem_cons (i:=i + 1 + 1 + 1 + 1) (by omega),List.drop_eq_getElem_cons (i:=i + 1 + 1 + 1 + 1 + 1) (by omega),List.drop_eq_getElem_cons (i:=i + 1 + 1 + 1 + 1 + 1 + 1) (by omega),List.drop_eq_getElem_cons (i:=i + 1 + 1 + 1 + 1 + 1 + 1 + 1) (by omega)]
  have h4:=dec_l4 s b i hlt (by omega) (fun j => b.getD (i + j) 0) (fun j hj => by unfold rd;rw [Int.toNat_natCast]) (fun j hj => by
   have hj2 : i + j < b.length:=by omega
   rw [List.getD_eq_getElem?_getD,List.getElem?_eq_getElem hj2]
   exact hb _ (List.getElem_mem hj2)) out (by omega) (k + 10 * d + 1)
  have hg : ∀ j (h : i + j < b.length),b.getD (i + j) 0 = b[i + j]:=fun j h => by rw [List.getD_eq_getElem?_getD,List.getElem?_eq_getElem h];rfl
  simp only [hg 0 (by omega),hg 1 (by omega),hg 2 (by omega),hg 3 (by omega),hg 4 (by omega),hg 5 (by omega),hg 6 (by omega),hg 7 (by omega)] at h4
  rw [show k + 10 * (d + 1) + 1 = (k + 10 * d + 1 + 9) + 1 by omega,racewayref22_Decode.l3,if_pos e8,h4,ih (i + 8) k _ (by omega) (by omega) (by rw [List.length_append,List.length_singleton];omega),e,by8,List.append_assoc]
  rfl
theorem bits6_bit (x : Int) : bitL (bits6 x):=by
 intro y hy
 simp only [bits6,List.mem_cons,List.not_mem_nil,or_false] at hy
 rcases hy with rfl|rfl|rfl|rfl|rfl|rfl <;> omega
theorem bits6L_bit : ∀ l : List Int,bitL (bits6L l)
 | [] => fun y hy => by simp [bits6L] at hy
 | x :: l => fun y hy => by
  rw [bits6L_cons] at hy
  exact (List.mem_append.1 hy).elim (bits6_bit x y) (bits6L_bit l y)
theorem by8_six : ∀ f : List Int,byteL f → by8 (bits6L (sexR f)) = f
 | [],_ => rfl
 | [x],h => by
  have hx:=h x (by simp)
  show [x / 4 / 32 % 2 * 128 + x / 4 / 16 % 2 * 64 + x / 4 / 8 % 2 * 32 + x / 4 / 4 % 2 * 16 + x / 4 / 2 % 2 * 8 + x / 4 % 2 * 4 + x % 4 * 16 / 32 % 2 * 2 + x % 4 * 16 / 16 % 2] = [x]
  congr 1
  omega
 | [x,y],h => by
  have hx:=h x (by simp);have hy:=h y (by simp)
  show [x / 4 / 32 % 2 * 128 + x / 4 / 16 % 2 * 64 + x / 4 / 8 % 2 * 32 + x / 4 / 4 % 2 * 16 + x / 4 / 2 % 2 * 8 + x / 4 % 2 * 4 + (x % 4 * 16 + y / 16) / 32 % 2 * 2 + (x % 4 * 16 + y / 16) / 16 % 2,
   (x % 4 * 16 + y / 16) / 8 % 2 * 128 + (x % 4 * 16 + y / 16) / 4 % 2 * 64 + (x % 4 * 16 + y / 16) / 2 % 2 * 32 + (x % 4 * 16 + y / 16) % 2 * 16 + y % 16 * 4 / 32 % 2 * 8 + y % 16 * 4 / 16 % 2 * 4 + y % 16 * 4 / 8 % 2 * 2 + y % 16 * 4 / 4 % 2] = [x,y]
  congr 1
  ·omega
  ·congr 1
   omega
 | x :: y :: z :: l,h => by
  have hx:=h x (by simp);have hy:=h y (by simp);have hz:=h z (by simp)
  have ih:=by8_six l (fun a ha => h a (by simp [ha]))
  show (x / 4 / 32 % 2 * 128 + x / 4 / 16 % 2 * 64 + x / 4 / 8 % 2 * 32 + x / 4 / 4 % 2 * 16 + x / 4 / 2 % 2 * 8 + x / 4 % 2 * 4 + (x % 4 * 16 + y / 16) / 32 % 2 * 2 + (x % 4 * 16 + y / 16) / 16 % 2) ::
   ((x % 4 * 16 + y / 16) / 8 % 2 * 128 + (x % 4 * 16 + y / 16) / 4 % 2 * 64 + (x % 4 * 16 + y / 16) / 2 % 2 * 32 + (x % 4 * 16 + y / 16) % 2 * 16 + (y % 16 * 4 + z / 64) / 32 % 2 * 8 + (y % 16 * 4 + z / 64) / 16 % 2 * 4 + (y % 16 * 4 + z / 64) / 8 % 2 * 2 + (y % 16 * 4 + z / 64) / 4 % 2) ::
   ((y % 16 * 4 + z / 64) / 2 % 2 * 128 + (y % 16 * 4 + z / 64) % 2 * 64 + z % 64 / 32 % 2 * 32 + z % 64 / 16 % 2 * 16 + z % 64 / 8 % 2 * 8 + z % 64 / 4 % 2 * 4 + z % 64 / 2 % 2 * 2 + z % 64 % 2) :: by8 (bits6L (sexR l)) = x :: y :: z :: l
  rw [ih]
  congr 1
  ·omega
  ·congr 1
   ·omega
   ·congr 1
    omega
end Go.Proofs.YtedfgkjimnjdpaaDoor.X
namespace Go.Proofs.YtedfgkjimnjdpaaDoor.X
open Go.RowKit Go.Proofs.YtedfgkjimnjdpaaDoorW.PrintWords Go.Proofs.YtedfgkjimnjdpaaDoorW.PrintLast Go.Proofs.YtedfgkjimnjdpaaDoorW.PrintMore
set_option linter.unusedVariables false
set_option linter.unusedSimpArgs false
theorem rdec_l0 (s : ByteArray) (hs : s.size ≤ 100000) : ∀ (m k : Nat),m ≤ s.size → m + 3 ≤ k → s.data.toList.drop m = List.replicate (s.size - m) 61 →
  ∃ n k',n ≤ m ∧ k ≤ k' + m + 2 ∧ racewayref22_Decode.l0 k s (m : Int) = racewayref22_Decode.l1 k' s [] (n : Int) 0 ∧ s.data.toList.drop n = List.replicate (s.size - n) 61 ∧ (n = 0 ∨ s.data.toList.getD (n - 1) 0 ≠ 61):=by
 intro m
 induction m with
 | zero =>
  intro k _ hk hd
  obtain ⟨k,rfl⟩ : ∃ j,k = j + 1 + 1:=⟨k - 2,by omega⟩
  exact ⟨0,k,Nat.le_refl _,by omega,by rw [racewayref22_Decode.l0,if_neg (by decide),racewayref22_Decode.j1],hd,.inl rfl⟩
 | succ m ih =>
  intro k hm hk hd
  obtain ⟨k,rfl⟩ : ∃ j,k = j + 1 + 1:=⟨k - 2,by omega⟩
  have hlt : m < s.data.toList.length:=by show m < s.size;omega
  have c1 : ((m + 1 : Nat) : Int) > 0:=by omega
  have c2 : (0 : Int) ≤ (m : Int):=by omega
  have c3 : (m : Int) < (s.size : Int):=by omega
  have e1 : wrap64 (((m + 1 : Nat) : Int) - 1) = (m : Int):=by rw [w64 (by omega) (by omega)];omega
  have hbt : bt s (m : Int) = ((s.data.toList[m]'hlt).toNat : Int):=by rw [q_bt s m (by omega)];rfl
  rw [racewayref22_Decode.l0,if_pos c1,e1,if_pos c2,if_pos c3,hbt]
  by_cases h61 : s.data.toList[m] = 61
  ·have hd2 : s.data.toList.drop m = List.replicate (s.size - m) 61:=by
    rw [List.drop_eq_getElem_cons hlt,hd,h61,show s.size - m = (s.size - (m + 1)) + 1 by omega,List.replicate_succ]
   obtain ⟨n,k',q1,q2,q3,q4,q5⟩:=ih (k + 1) (by omega) (by omega) hd2
   refine ⟨n,k',by omega,by omega,?_,q4,q5⟩
   rw [if_pos (by rw [h61];rfl),q3]
  ·refine ⟨m + 1,k,Nat.le_refl _,by omega,?_,hd,.inr ?_⟩
   ·rw [if_neg,racewayref22_Decode.j1]
    intro h
    apply h61
    have : (s.data.toList[m]).toNat = 61:=by omega
    exact UInt8.toNat_inj.1 this
   ·rw [show m + 1 - 1 = m by omega,List.getD_eq_getElem?_getD,List.getElem?_eq_getElem hlt]
    exact h61
theorem rDecode_run (s : ByteArray) (hs : s.size ≤ 2000) (k : Nat) (hk : 400000 ≤ k) : ∃ (n : Nat),n ≤ s.size ∧ s.data.toList.drop n = List.replicate (s.size - n) 61 ∧ (n = 0 ∨ s.data.toList.getD (n - 1) 0 ≠ 61) ∧
  racewayref22_Decode.f k s = some (if allSix (segU s n 0) then (if encR (by8 (bits6L ((segU s n 0).map sixU))) = s.data.toList then (by8 (bits6L ((segU s n 0).map sixU)),0) else ([],5)) else ([],5)):=by
 obtain ⟨n,k',hn,hk',hl,hd,hg⟩:=rdec_l0 s (by omega) s.size k (Nat.le_refl _) (by omega) (by rw [List.drop_eq_nil_of_le (show s.data.toList.length ≤ s.size from Nat.le_refl _),Nat.sub_self];rfl)
 refine ⟨n,hn,hd,hg,?_⟩
 rw [racewayref22_Decode.f,if_neg (by omega),hl]
 have h1:=rdec_l1 s (by omega) n hn n 0 (k' - 8 * n - 1) [] (by omega) (by simp;omega) (by omega)
 rw [show k' - 8 * n - 1 + 8 * n + 1 = k' by omega] at h1
 refine h1.trans ?_
 by_cases hall : allSix (segU s n 0)
 ·rw [if_pos hall,if_pos hall,List.nil_append]
  have hsl : (segU s n 0).length ≤ s.size:=by unfold segU;rw [List.drop_zero,List.length_take];show min n s.size ≤ _;omega
  obtain ⟨B,hB⟩ : ∃ B,bits6L ((segU s n 0).map sixU) = B:=⟨_,rfl⟩
  have hBb : bitL B:=by rw [← hB];exact bits6L_bit _
  have hBl : B.length ≤ 12000:=by rw [← hB,bits6L_len,List.length_map];omega
  rw [hB]
  have h3:=rdec_l3 s B hBb (by omega) (B.length / 8) 0 (k' - 8 * n - 1 - 10 * (B.length / 8) - 1) [] (by omega) (by omega) (by simp;omega)
  rw [show k' - 8 * n - 1 - 10 * (B.length / 8) - 1 + 10 * (B.length / 8) + 1 = k' - 8 * n - 1 by omega,List.drop_zero,List.nil_append] at h3
  have hby:=by8_byte B hBb
  have hlen:=by8_len B.length B rfl
  rw [show ((0 : Int)) = ((0 : Nat) : Int) from rfl,h3,rEncode_is _ hby (by omega) _ (by omega),Option.bind_some]
  have htl : (⟨(encR (by8 B)).toArray⟩ : ByteArray).toList = encR (by8 B):=by rw [toL]
  rw [htl,toL s]
  by_cases he : encR (by8 B) = s.data.toList
  ·rw [if_pos he,if_pos he];rfl
  ·rw [if_neg he,if_neg he]
 ·rw [if_neg hall,if_neg hall]
theorem rDecode_tot (s : ByteArray) (hs : s.size ≤ 2000) (k : Nat) (hk : 400000 ≤ k) : ∃ out e,racewayref22_Decode.f k s = some (out,e) ∧ byteL out ∧ out.length ≤ 20000:=by
 obtain ⟨n,hn,_,_,h⟩:=rDecode_run s hs k hk
 rw [h]
 have hb:=bits6L_bit ((segU s n 0).map sixU)
 have hsl : (segU s n 0).length ≤ s.size:=by unfold segU;rw [List.drop_zero,List.length_take];show min n s.size ≤ _;omega
 have hl:=by8_len _ _ (rfl : (bits6L ((segU s n 0).map sixU)).length = _)
 rw [bits6L_len,List.length_map] at hl
 split
 ·split
  ·exact ⟨_,_,rfl,by8_byte _ hb,by omega⟩
  ·exact ⟨_,_,rfl,(fun x hx => by simp at hx),by simp⟩
 ·exact ⟨_,_,rfl,(fun x hx => by simp at hx),by simp⟩
theorem rDecode_enc (f : List Int) (hf : byteL f) (s : ByteArray) (hse : s.data.toList = encR f) (hs : s.size ≤ 2000) (k : Nat) (hk : 400000 ≤ k) : racewayref22_Decode.f k s = some (f,0):=by
 obtain ⟨n,hn,hd,hg,h⟩:=rDecode_run s hs k hk
 have hok:=sexR_ok f hf
 have hL : s.data.toList = (sexR f).map signB ++ List.replicate ((4 - (sexR f).length % 4) % 4) 61:=by rw [hse,encR_sex]
 have hlen : s.size = (sexR f).length + (4 - (sexR f).length % 4) % 4:=by
  have : s.data.toList.length = s.size:=rfl
  rw [← this,hL];simp
 have hnn : n = (sexR f).length:=by
  rcases Nat.lt_trichotomy n (sexR f).length with hlt|heq|hgt
  ·exfalso
   have h1 : (s.data.toList.drop n)[0]? = some 61:=by rw [hd,List.getElem?_replicate_of_lt (by omega)]
   rw [List.getElem?_drop,Nat.add_zero,hL,List.getElem?_append_left (by rw [List.length_map];exact hlt),List.getElem?_map,List.getElem?_eq_getElem hlt] at h1
   have hx:=hok _ (List.getElem_mem hlt)
   exact sign_ne _ hx.1 hx.2 (by simpa using h1)
  ·exact heq
  ·exfalso
   rcases hg with h0|hg
   ·omega
   ·apply hg
    rw [List.getD_eq_getElem?_getD,hL,List.getElem?_append_right (by rw [List.length_map];omega),List.length_map,List.getElem?_replicate_of_lt (by omega)]
    rfl
 have hseg : segU s n 0 = (sexR f).map signB:=by
  unfold segU
  rw [List.drop_zero,hL,hnn]
  exact List.take_left' (by rw [List.length_map])
 obtain ⟨ha,hm⟩:=allSix_map (sexR f) hok
 rw [h,hseg,if_pos ha,hm,by8_six f hf,if_pos hse.symm]
theorem num27_is (x : Int) : racewayref27_num.f x = some (decide (0 ≤ x ∧ x ≤ 1099511627776)):=by
 unfold racewayref27_num.f
 by_cases h : x ≥ 0
 ·rw [if_pos h]
  congr 1
  by_cases h2 : x ≤ 1099511627776
  ·rw [decide_eq_true h2,decide_eq_true ⟨h,h2⟩]
  ·rw [decide_eq_false h2,decide_eq_false (fun h3 => h2 h3.2)]
 ·rw [if_neg h,decide_eq_false (fun h3 => h h3.1)]
theorem rHandle_j (q s c : Int) (g : ByteArray) (hq : 0 ≤ q ∧ q ≤ 1099511627776) (hs : 0 ≤ s ∧ s ≤ 1099511627776) (hc : 0 ≤ c ∧ c ≤ 1099511627776) (k : Nat) (hk : 10000 < k) :
  racewayref27_Handle.j0 k false q g s c = some (if g.size ≤ 32 then (handB q.toNat g s.toNat c.toNat,0) else (⟨#[]⟩,3)):=by
 obtain ⟨k,rfl⟩ : ∃ j,k = j + 1:=⟨k - 1,by omega⟩
 rw [racewayref27_Handle.j0,if_neg (by decide)]
 by_cases hg : g.size ≤ 32
 ·obtain ⟨q,rfl⟩:=Int.eq_ofNat_of_zero_le hq.1
  obtain ⟨s,rfl⟩:=Int.eq_ofNat_of_zero_le hs.1
  obtain ⟨c,rfl⟩:=Int.eq_ofNat_of_zero_le hc.1
  have n1:=numB_10 q (by omega);have n2:=numB_10 s (by omega);have n3:=numB_10 c (by omega);have n4:=numB_10 g.size (by omega);have n5:=bytesOf_len g
  rw [if_neg (by omega),if_pos hg,rNum_is [] (by simp) q (by omega) k (by omega),Option.bind_some,rText_is _ (by simp;omega) g (by omega) k (by omega),Option.bind_some,rNum_is _ (by simp;omega) s (by omega) k (by omega),Option.bind_some,rNum_is _ (by simp;omega) c (by omega) k (by omega),Option.bind_some]
  have e : [] ++ numB q ++ numB g.size ++ bytesOf g ++ numB s ++ numB c = hbody q g s c:=by simp [hbody]
  simp only
  rw [e]
  have hl:=hbody_len q g s c (by omega) (by omega) (by omega) hg
  have hby:=hbody_byte q g s c
  rw [rFrame_is _ hby (by omega) k (by omega),Option.bind_some,rEncode_is _ (frameB_byte hby) (by rw [frameB_len];omega) k (by rw [frameB_len];omega),Option.bind_some]
  rfl
 ·rw [if_pos (by omega),if_neg hg]
theorem rHandle_is (q s c : Int) (g : ByteArray) (k : Nat) (hk : 10000 < k) : racewayref27_Handle.f k q g s c = some (if okR q g s c then (handB q.toNat g s.toNat c.toNat,0) else (⟨#[]⟩,if ((0 ≤ q ∧ q ≤ 1099511627776) ∧ (0 ≤ s ∧ s ≤ 1099511627776) ∧ (0 ≤ c ∧ c ≤ 1099511627776)) then 3 else 2)):=by
 have hbad : racewayref27_Handle.j0 k true q g s c = some (⟨#[]⟩,2):=by
  obtain ⟨k,rfl⟩ : ∃ j,k = j + 1:=⟨k - 1,by omega⟩
  rw [racewayref27_Handle.j0,if_pos rfl]
 rw [racewayref27_Handle.f,num27_is,num27_is,num27_is,Option.bind_some]
 by_cases h1 : 0 ≤ q ∧ q ≤ 1099511627776
 ·rw [decide_eq_true h1,if_pos rfl,Option.bind_some]
  by_cases h2 : 0 ≤ s ∧ s ≤ 1099511627776
  ·rw [decide_eq_true h2,if_pos rfl,Option.bind_some]
   by_cases h3 : 0 ≤ c ∧ c ≤ 1099511627776
   ·rw [decide_eq_true h3,Bool.not_true,rHandle_j q s c g h1 h2 h3 k hk]
    by_cases hg : g.size ≤ 32
    ·rw [if_pos hg,if_pos (show okR q g s c from ⟨h1,h2,h3,hg⟩)]
    ·rw [if_neg hg,if_neg (show ¬ okR q g s c from fun h => hg h.2.2.2),if_pos ⟨h1,h2,h3⟩]
   ·rw [decide_eq_false h3,Bool.not_false,hbad,if_neg (show ¬ okR q g s c from fun h => h3 h.2.2.1),if_neg (fun h => h3 h.2.2)]
  ·rw [decide_eq_false h2,if_neg (by decide),hbad,if_neg (show ¬ okR q g s c from fun h => h2 h.2.1),if_neg (fun h => h2 h.2.1)]
 ·rw [decide_eq_false h1,if_neg (by decide),hbad,if_neg (show ¬ okR q g s c from fun h => h1 h.1),if_neg (fun h => h1 h.1)]
theorem frame_small {q : Int} {g : ByteArray} {s c : Int} (h : okR q g s c) : (hbody q.toNat g s.toNat c.toNat).length ≤ 100:=by
 obtain ⟨h1,h2,h3,h4⟩:=h
 exact hbody_len _ _ _ _ (by omega) (by omega) (by omega) h4
theorem rOpen_ok {q : Int} {g : ByteArray} {s c : Int} (hok : okR q g s c) (t : ByteArray) (ht : t = handB q.toNat g s.toNat c.toNat) (hsz : t.size ≤ 2000) (k : Nat) (hk : 400000 ≤ k) : racewayref27_Open.f k t = some (q,g,s,c,0):=by
 have hl:=frame_small hok
 have hby:=hbody_byte q.toNat g s.toNat c.toNat
 have hfl:=frameB_len (hbody q.toNat g s.toNat c.toNat)
 have hdec:=rDecode_enc (frameB (hbody q.toNat g s.toNat c.toNat)) (frameB_byte hby) t (by rw [ht];unfold handB;simp) hsz k hk
 have hnx:=rNext_is (frameB (hbody q.toNat g s.toNat c.toNat)) (frameB_byte hby) (by omega) k (by omega)
 rw [next_frame _ (by omega)] at hnx
 have hH:=rHandle_is q s c g k (by omega)
 rw [if_pos hok,← ht] at hH
 obtain ⟨⟨q0,q1⟩,⟨s0,s1⟩,⟨c0,c1⟩,hg⟩:=hok
 obtain ⟨q,rfl⟩:=Int.eq_ofNat_of_zero_le q0
 obtain ⟨s,rfl⟩:=Int.eq_ofNat_of_zero_le s0
 obtain ⟨c,rfl⟩:=Int.eq_ofNat_of_zero_le c0
 simp only [Int.toNat_natCast] at hdec hnx hby hl hfl
 obtain ⟨b,hb⟩ : ∃ b,hbody q g s c = b:=⟨_,rfl⟩
 have e1 : rdN b = ((q : Int),((numB q).length : Int),0):=by rw [← hb];exact rdN_num _ q (by omega)
 have d1 : b.drop (numB q).length = numB g.size ++ (bytesOf g ++ (numB s ++ numB c)):=by rw [← hb];exact List.drop_left
 have e2 : rdX (numB g.size ++ (bytesOf g ++ (numB s ++ numB c))) = (g,(((numB g.size).length + g.size : Nat) : Int),0):=rdX_text g _ (by omega)
 have d2 : b.drop ((numB q).length + ((numB g.size).length + g.size)) = numB s ++ numB c:=by
  rw [← List.drop_drop,d1,← List.append_assoc,List.drop_append_of_le_length (by rw [List.length_append,bytesOf_len];omega),List.drop_of_length_le (by rw [List.length_append,bytesOf_len];omega)]
  rfl
 have e3 : rdN (numB s ++ numB c) = ((s : Int),((numB s).length : Int),0):=rdN_num _ s (by omega)
 have d3 : b.drop ((numB q).length + ((numB g.size).length + g.size) + (numB s).length) = numB c:=by rw [← List.drop_drop,d2];exact List.drop_left
 have e4 : rdN (numB c) = ((c : Int),((numB c).length : Int),0):=by have:=rdN_num [] c (by omega);rwa [List.append_nil] at this
 have hbl : b.length = (numB q).length + ((numB g.size).length + (g.size + ((numB s).length + (numB c).length))):=by rw [← hb];simp only [hbody,List.length_append,bytesOf_len]
 rw [hb] at hdec hnx hby hl hfl
 have hb1 : byteL (b.drop (numB q).length):=hby.drop _
 have hb2 : byteL (b.drop ((numB q).length + ((numB g.size).length + g.size))):=hby.drop _
 have hb3 : byteL (b.drop ((numB q).length + ((numB g.size).length + g.size) + (numB s).length)):=hby.drop _
 rw [d1] at hb1
 rw [d2] at hb2
 rw [d3] at hb3
 have k1 : (numB g.size ++ (bytesOf g ++ (numB s ++ numB c))).length ≤ 100000000:=by rw [← d1,List.length_drop];omega
 have k2 : (numB s ++ numB c).length ≤ 100000000:=by rw [← d2,List.length_drop];omega
 have k3 : (numB c).length ≤ 100000000:=by rw [← d3,List.length_drop];omega
 have a1 : (0 : Int) ≤ ((numB q).length : Int) ∧ ((numB q).length : Int) ≤ (b.length : Int):=by omega
 have p2 : ((numB q).length : Int) + (((numB g.size).length + g.size : Nat) : Int) = (((numB q).length + ((numB g.size).length + g.size) : Nat) : Int):=by omega
 have a2 : (0 : Int) ≤ (((numB q).length + ((numB g.size).length + g.size) : Nat) : Int) ∧ (((numB q).length + ((numB g.size).length + g.size) : Nat) : Int) ≤ (b.length : Int):=by omega
 have p3 : (((numB q).length + ((numB g.size).length + g.size) : Nat) : Int) + ((numB s).length : Int) = (((numB q).length + ((numB g.size).length + g.size) + (numB s).length : Nat) : Int):=by omega
 have a3 : (0 : Int) ≤ (((numB q).length + ((numB g.size).length + g.size) + (numB s).length : Nat) : Int) ∧ (((numB q).length + ((numB g.size).length + g.size) + (numB s).length : Nat) : Int) ≤ (b.length : Int):=by omega
 rw [racewayref27_Open.f,hdec,Option.bind_some]
 simp only [if_true]
 rw [hnx,Option.bind_some]
 simp only [if_true]
 rw [if_pos (by omega),rReadNum_is b hby (by omega) k (by omega),e1,Option.bind_some]
 simp only [if_true]
 rw [racewayref27_Open.g1,if_pos a1,Int.toNat_natCast,d1,rReadText_is _ hb1 k1 k (by omega),e2,Option.bind_some]
 simp only [if_true]
 rw [racewayref27_Open.g2,p2,if_pos a2,Int.toNat_natCast,d2,rReadNum_is _ hb2 k2 k (by omega),e3,Option.bind_some]
 simp only [if_true]
 rw [racewayref27_Open.g3,p3,if_pos a3,Int.toNat_natCast,d3,rReadNum_is _ hb3 k3 k (by omega),e4,Option.bind_some]
 simp only [if_true]
 rw [racewayref27_Open.g4,hH,Option.bind_some]
 simp only [if_true]
theorem rOpen_or (t : ByteArray) (hsz : t.size ≤ 2000) (k : Nat) (hk : 400000 ≤ k) : racewayref27_Open.f k t = some (0,⟨#[]⟩,0,0,12) ∨ ∃ q g s c,okR q g s c ∧ t = handB q.toNat g s.toNat c.toNat:=by
 obtain ⟨f,e,hdec,hf,hfl⟩:=rDecode_tot t hsz k hk
 rw [racewayref27_Open.f,hdec,Option.bind_some]
 simp only
 by_cases he : e = 0
 ·rw [if_pos he,rNext_is f hf (by omega) k (by omega),Option.bind_some]
  have hnb : byteL (nextB f).1 ∧ (nextB f).1.length ≤ 20000:=by
   unfold nextB
   have hnil : byteL []:=fun x hx => by simp at hx
   split
   ·exact ⟨hnil,by simp⟩
   ·split
    ·exact ⟨hnil,by simp⟩
    ·split
     ·exact ⟨hnil,by simp⟩
     ·split
      ·exact ⟨hnil,by simp⟩
      ·split
       ·exact ⟨hnil,by simp⟩
       ·exact ⟨(hf.drop 12).take _,by rw [List.length_take,List.length_drop];omega⟩
  generalize nextB f = X at hnb
  obtain ⟨b,x,e2⟩:=X
  simp only at hnb ⊢
  obtain ⟨hb,hbl⟩:=hnb
  by_cases he2 : e2 = 0
  ·rw [if_pos he2,if_pos (by omega),rReadNum_is b hb (by omega) k (by omega),Option.bind_some]
   have r1:=rdT_range b 0 0
   change 0 ≤ (rdN b).1 ∧ 0 ≤ (rdN b).2.1 ∧ (rdN b).2.1 ≤ ((0 : Nat) : Int) + (b.length : Int) ∧ (rdN b).1 ≤ 4611686018427387904 at r1
   generalize rdN b = N1 at r1
   obtain ⟨q,p1,e3⟩:=N1
   simp only at r1 ⊢
   by_cases he3 : e3 = 0
   ·rw [if_pos he3,racewayref27_Open.g1,if_pos (by omega),rReadText_is _ (hb.drop _) (by rw [List.length_drop];omega) k (by omega),Option.bind_some]
    have r2:=rdX_range (b.drop p1.toNat)
    rw [List.length_drop] at r2
    generalize rdX (b.drop p1.toNat) = T at r2
    obtain ⟨g,p2,e4⟩:=T
    simp only at r2 ⊢
    by_cases he4 : e4 = 0
    ·rw [if_pos he4,racewayref27_Open.g2,if_pos (by omega),rReadNum_is _ (hb.drop _) (by rw [List.length_drop];omega) k (by omega),Option.bind_some]
     have r3:=rdT_range (b.drop (p1 + p2).toNat) 0 0
     change 0 ≤ (rdN (b.drop (p1 + p2).toNat)).1 ∧ 0 ≤ (rdN (b.drop (p1 + p2).toNat)).2.1 ∧ (rdN (b.drop (p1 + p2).toNat)).2.1 ≤ ((0 : Nat) : Int) + ((b.drop (p1 + p2).toNat).length : Int) ∧ (rdN (b.drop (p1 + p2).toNat)).1 ≤ 4611686018427387904 at r3
     rw [List.length_drop] at r3
     generalize rdN (b.drop (p1 + p2).toNat) = N2 at r3
     obtain ⟨u,p3,e5⟩:=N2
     simp only at r3 ⊢
     by_cases he5 : e5 = 0
     ·rw [if_pos he5,racewayref27_Open.g3,if_pos (by omega),rReadNum_is _ (hb.drop _) (by rw [List.length_drop];omega) k (by omega),Option.bind_some]
      generalize rdN (b.drop (p1 + p2 + p3).toNat) = N3
      obtain ⟨c,p4,e6⟩:=N3
      simp only
      by_cases he6 : e6 = 0
      ·rw [if_pos he6,racewayref27_Open.g4,rHandle_is q u c g k (by omega),Option.bind_some]
       by_cases hok : okR q g u c
       ·rw [if_pos hok]
        simp only [if_true]
        by_cases hst : (handB q.toNat g u.toNat c.toNat).toList = t.toList
        ·right
         refine ⟨q,g,u,c,hok,?_⟩
         rw [toL,toL] at hst
         cases hx : handB q.toNat g u.toNat c.toNat
         cases t
         rw [hx] at hst
         congr 1
         exact (Array.ext' hst).symm
        ·left;rw [if_neg hst]
       ·left
        rw [if_neg hok]
        simp only
        rw [if_neg]
        split <;> decide
      ·left;rw [if_neg he6]
     ·left;rw [if_neg he5]
    ·left;rw [if_neg he4]
   ·left;rw [if_neg he3]
  ·left;rw [if_neg he2]
 ·left;rw [if_neg he]
theorem rOpen_is (t : ByteArray) (hsz : t.size ≤ 2000) (k : Nat) (hk : 400000 ≤ k) : racewayref27_Open.f k t = some (openV t):=by
 rcases rOpen_or t hsz k hk with h|⟨q,g,s,c,hok,ht⟩
 ·rw [h]
  unfold openV
  cases hb : openB t with
  | none => rfl
  | some r =>
   obtain ⟨q,g,s,c⟩:=r
   obtain ⟨hok,ht⟩:=hand_open hb
   rw [rOpen_ok hok t ht hsz k hk] at h
   exact absurd h (by simp)
 ·rw [rOpen_ok hok t ht hsz k hk]
  have:=open_hand hok
  rw [← ht] at this
  unfold openV
  rw [this]
end Go.Proofs.YtedfgkjimnjdpaaDoor.X
namespace Go.Proofs.YtedfgkjimnjdpaaDoor.X
open Go.RowKit Go.Proofs.YtedfgkjimnjdpaaDoorW.PrintWords Go.Proofs.YtedfgkjimnjdpaaDoorW.PrintMore
set_option linter.unusedVariables false
set_option linter.unusedSimpArgs false
def inB (l : ByteArray) (c : Int) : Bool:=decide (0 ≤ Lib.indexByte l.data.toList c.toNat.toUInt8)
def smallB (c : Int) : Bool:=decide (97 ≤ c) && decide (c ≤ 122)
def digitB (c : Int) : Bool:=decide (48 ≤ c) && decide (c ≤ 57)
def largeB (c : Int) : Bool:=decide (65 ≤ c) && decide (c ≤ 90)
def pHost (c : Int) : Bool:=smallB c || digitB c || decide (c = 45) || decide (c = 46)
def pQueue (c : Int) : Bool:=smallB c || digitB c || largeB c || decide (c = 45) || decide (c = 95)
def hostB (s : ByteArray) : Bool:=decide (1 ≤ s.size) && decide (s.size ≤ 63) && allD pHost s s.size 0
def accountB (s : ByteArray) : Bool:=decide (s.size = 12) && allD digitB s s.size 0
def queueB (s : ByteArray) : Bool:=decide (11 ≤ s.size) && decide (s.size ≤ 80) && ((s.extract (s.size - 5) s.size).toList == [46,102,105,102,111]) && allD pQueue s (s.size - 5) 0
theorem only_l0 (s x9 : ByteArray) (hs : s.size ≤ 4611686018427387904) (d : Nat) : ∀ (k i : Nat),i + d = s.size → d < k → ticket_only.l0 k s x9 (s.size : Int) (i : Int) = some (allD (inB x9) s d i):=by
 induction d with
 | zero =>
  intro k i h hk
  obtain ⟨k,rfl⟩ : ∃ m,k = m + 1:=⟨k - 1,by omega⟩
  simp only [ticket_only.l0,allD]
  rw [if_neg (by omega)]
 | succ d ih =>
  intro k i h hk
  obtain ⟨k,rfl⟩ : ∃ m,k = m + 1:=⟨k - 1,by omega⟩
  simp only [ticket_only.l0,allD,strings_IndexByte.f,Option.bind_some]
  rw [if_pos (by omega),if_pos (by omega),if_pos (by omega),w64 (by omega) (by omega),show ((i : Int) + 1) = ((i + 1 : Nat) : Int) by omega,ih k (i + 1) (by omega) (by omega)]
  unfold inB
  by_cases hb : Lib.indexByte x9.data.toList (bt s (i : Int)).toNat.toUInt8 < 0
  ·rw [if_pos hb,decide_eq_false (by omega)];rfl
  ·rw [if_neg hb,decide_eq_true (by omega)];rfl
theorem only_eq (s : ByteArray) (lo hi : Nat) (l : List ByteArray) (j : ByteArray) (hj : strings_Join.f l ⟨#[]⟩ = some j) (hs : s.size ≤ 4611686018427387904) (k : Nat) (hk : s.size + 2 < k) :
  ticket_only.f k s (lo : Int) (hi : Int) l = some (decide (lo ≤ s.size) && decide (s.size ≤ hi) && allD (inB j) s s.size 0):=by
 unfold ticket_only.f
 rw [hj]
 simp only [Option.bind_some]
 obtain ⟨k,rfl⟩ : ∃ m,k = m + 1:=⟨k - 1,by omega⟩
 by_cases h1 : (s.size : Int) < lo
 ·rw [if_pos h1,decide_eq_false (p:=lo ≤ s.size) (by omega)];simp [ticket_only.j0]
 ·rw [if_neg h1,decide_eq_true (p:=lo ≤ s.size) (by omega)]
  by_cases h2 : (s.size : Int) > hi
  ·rw [decide_eq_true (p:=(s.size : Int) > hi) h2,decide_eq_false (p:=s.size ≤ hi) (by omega)];simp [ticket_only.j0]
  ·rw [decide_eq_false (p:=(s.size : Int) > hi) h2,decide_eq_true (p:=s.size ≤ hi) (by omega)]
   simp only [ticket_only.j0,Bool.false_eq_true,if_false,Bool.true_and]
   exact only_l0 s j hs s.size k 0 (by omega) (by omega)
theorem host_join : strings_Join.f [⟨#[97,98,99,100,101,102,103,104,105,106,107,108,109,110,111,112,113,114,115,116,117,118,119,120,121,122]⟩,⟨#[48,49,50,51,52,53,54,55,56,57]⟩,⟨#[45,46]⟩] ⟨#[]⟩ = some ⟨#[97,98,99,100,101,102,103,104,105,106,107,108,109,110,111,112,113,114,115,116,117,118,119,120,121,122,48,49,50,51,52,53,54,55,56,57,45,46]⟩:=by decide +kernel
theorem account_join : strings_Join.f [⟨#[48,49,50,51,52,53,54,55,56,57]⟩] ⟨#[]⟩ = some ⟨#[48,49,50,51,52,53,54,55,56,57]⟩:=by decide +kernel
theorem queue_join : strings_Join.f [⟨#[97,98,99,100,101,102,103,104,105,106,107,108,109,110,111,112,113,114,115,116,117,118,119,120,121,122]⟩,⟨#[65,66,67,68,69,70,71,72,73,74,75,76,77,78,79,80,81,82,83,84,85,86,87,88,89,90]⟩,⟨#[48,49,50,51,52,53,54,55,56,57]⟩,⟨#[45,95]⟩] ⟨#[]⟩ = some ⟨#[97,98,99,100,101,102,103,104,105,106,107,108,109,110,111,112,113,114,115,116,117,118,119,120,121,122,65,66,67,68,69,70,71,72,73,74,75,76,77,78,79,80,81,82,83,84,85,86,87,88,89,90,48,49,50,51,52,53,54,55,56,57,45,95]⟩:=by decide +kernel
theorem host_in (c : Int) (h0 : 0 ≤ c) (h1 : c < 256) : inB ⟨#[97,98,99,100,101,102,103,104,105,106,107,108,109,110,111,112,113,114,115,116,117,118,119,120,121,122,48,49,50,51,52,53,54,55,56,57,45,46]⟩ c = pHost c:=byte_eq (by decide +kernel) c h0 h1
theorem account_in (c : Int) (h0 : 0 ≤ c) (h1 : c < 256) : inB ⟨#[48,49,50,51,52,53,54,55,56,57]⟩ c = digitB c:=byte_eq (by decide +kernel) c h0 h1
theorem queue_in (c : Int) (h0 : 0 ≤ c) (h1 : c < 256) : inB ⟨#[97,98,99,100,101,102,103,104,105,106,107,108,109,110,111,112,113,114,115,116,117,118,119,120,121,122,65,66,67,68,69,70,71,72,73,74,75,76,77,78,79,80,81,82,83,84,85,86,87,88,89,90,48,49,50,51,52,53,54,55,56,57,45,95]⟩ c = pQueue c:=byte_eq (by decide +kernel) c h0 h1
theorem ticket_host_eq (s : ByteArray) (hs : s.size ≤ 4611686018427387904) (k : Nat) (hk : s.size + 2 < k) : ticket_host.f k s = some (hostB s):=by
 unfold ticket_host.f hostB
 have:=only_eq s 1 63 _ _ host_join hs k hk
 rw [show ((1 : Nat) : Int) = 1 from rfl,show ((63 : Nat) : Int) = 63 from rfl] at this
 rw [this,allD_congr host_in]
 rfl
theorem ticket_account_eq (s : ByteArray) (hs : s.size ≤ 4611686018427387904) (k : Nat) (hk : s.size + 2 < k) : ticket_account.f k s = some (accountB s):=by
 unfold ticket_account.f accountB
 have:=only_eq s 12 12 _ _ account_join hs k hk
 rw [show ((12 : Nat) : Int) = 12 from rfl] at this
 rw [this,allD_congr account_in]
 simp only [Option.bind_some]
 congr 2
 by_cases h : s.size = 12
 ·simp [h]
 ·rw [decide_eq_false h,Bool.and_eq_false_iff]
  simp only [decide_eq_false_iff_not]
  omega
theorem hasSuffix_eq (s p : ByteArray) (hs : s.size ≤ 4611686018427387904) : stringslite_HasSuffix.f s p = some (decide (p.size ≤ s.size) && ((s.extract (s.size - p.size) s.size).toList == p.toList)):=by
 unfold stringslite_HasSuffix.f
 by_cases h : p.size ≤ s.size
 ·rw [if_pos (by omega),w64 (by omega) (by omega),if_pos (by omega),if_pos (by omega),decide_eq_true h,show ((s.size : Int) - p.size).toNat = s.size - p.size by omega];rfl
 ·rw [if_neg (by omega),decide_eq_false h];rfl
theorem cutSuffix_eq (s p : ByteArray) (hs : s.size ≤ 4611686018427387904) : strings_CutSuffix.f s p = some (if (decide (p.size ≤ s.size) && ((s.extract (s.size - p.size) s.size).toList == p.toList)) = true then (s.extract 0 (s.size - p.size),true) else (s,false)):=by
 unfold strings_CutSuffix.f stringslite_CutSuffix.f
 rw [hasSuffix_eq s p hs]
 simp only [Option.bind_some]
 by_cases h : (decide (p.size ≤ s.size) && ((s.extract (s.size - p.size) s.size).toList == p.toList)) = true
 ·have h':=h
  rw [Bool.and_eq_true,decide_eq_true_iff] at h'
  rw [if_pos h,if_pos h,w64 (by omega) (by omega),if_pos (by omega),if_pos (by omega),show ((s.size : Int) - p.size).toNat = s.size - p.size by omega];rfl
 ·rw [if_neg h,if_neg h];rfl
theorem bt_cut (s : ByteArray) (n j : Nat) (hn : n ≤ s.size) (hj : j < n) : bt (s.extract 0 n) (j : Int) = bt s (j : Int):=by
 rw [q_bt _ _ (by rw [ByteArray.size_extract];omega),q_bt _ _ (by omega)]
 simp [ByteArray.getElem_extract]
theorem ticket_Queue_eq (s : ByteArray) (hs : s.size ≤ 4611686018427387904) (k : Nat) (hk : s.size + 2 < k) : ticket_Queue.f k s = some (queueB s):=by
 unfold ticket_Queue.f queueB
 rw [cutSuffix_eq s _ hs]
 simp only [Option.bind_some]
 have e5 : (⟨#[46,102,105,102,111]⟩ : ByteArray).size = 5:=rfl
 have el : (⟨#[46,102,105,102,111]⟩ : ByteArray).toList = [46,102,105,102,111]:=by decide +kernel
 rw [e5,el]
 by_cases h : (decide (5 ≤ s.size) && ((s.extract (s.size - 5) s.size).toList == [46,102,105,102,111])) = true
 ·rw [if_pos h]
  rw [Bool.and_eq_true,decide_eq_true_iff] at h
  simp only [if_true]
  rw [h.2,Bool.and_true]
  have hz : (s.extract 0 (s.size - 5)).size = s.size - 5:=by rw [ByteArray.size_extract];omega
  by_cases h80 : s.size ≤ 80
  ·rw [if_pos (by omega)]
   have:=only_eq (s.extract 0 (s.size - 5)) 6 75 _ _ queue_join (by omega) k (by omega)
   rw [show ((6 : Nat) : Int) = 6 from rfl,show ((75 : Nat) : Int) = 75 from rfl] at this
   rw [this,allD_congr queue_in,hz]
   rw [allD_prefix (t:=s) (s.size - 5) 0 (fun j _ h2 => bt_cut s (s.size - 5) j (by omega) (by omega))]
   simp only [Option.bind_some]
   congr 2
   rw [decide_eq_true h80]
   congr 1
   ·rw [decide_eq_decide];omega
   ·rw [decide_eq_true_iff];omega
  ·rw [if_neg (by omega),decide_eq_false h80];simp
 ·rw [if_neg h]
  simp only [Bool.false_eq_true,if_false]
  congr 1
  by_cases h5 : 5 ≤ s.size
  ·rw [decide_eq_true h5,Bool.true_and,Bool.not_eq_true] at h
   rw [h];simp
  ·rw [decide_eq_false (p:=11 ≤ s.size) (by omega)];simp
def putB (b g x y z : ByteArray) : ByteArray × Int:=if hostB x && accountB y && queueB z then (b ++ x ++ g ++ y ++ g ++ z,0) else (⟨#[]⟩,2)
end Go.Proofs.YtedfgkjimnjdpaaDoor.X
namespace Go.Proofs.YtedfgkjimnjdpaaDoor.X
open Go.RowKit Go.Proofs.YtedfgkjimnjdpaaDoorW.PrintWords Go.Proofs.YtedfgkjimnjdpaaDoorW.PrintMore
set_option linter.unusedVariables false
set_option linter.unusedSimpArgs false
theorem ticket_Url_eq (x y z : ByteArray) (hx : x.size ≤ 100000) (hy : y.size ≤ 100000) (hz : z.size ≤ 100000) (k : Nat) (hk : x.size + y.size + z.size + 3 < k) :
  ticket_Url.f k x y z = some (putB ⟨#[104,116,116,112,115,58,47,47]⟩ ⟨#[47]⟩ x y z):=by
 unfold ticket_Url.f putB
 rw [ticket_host_eq x (by omega) k (by omega),ticket_account_eq y (by omega) k (by omega),ticket_Queue_eq z (by omega) k (by omega)]
 simp only [Option.bind_some]
 rw [if_pos (show 8 + x.size ≤ 9223372036854775807 by omega),if_pos (show 8 + x.size + 1 ≤ 9223372036854775807 by omega),if_pos (show 8 + x.size + 1 + y.size ≤ 9223372036854775807 by omega),if_pos (show 8 + x.size + 1 + y.size + 1 ≤ 9223372036854775807 by omega),if_pos (show 8 + x.size + 1 + y.size + 1 + z.size ≤ 9223372036854775807 by omega)]
 cases hostB x <;> cases accountB y <;> cases queueB z <;> simp
theorem seq7 : ticket_Sequence.f 7 = some ⟨#[48,48,48,48,48,48,48,48,48,48,48,48,48,48,48,48,48,48,48,55]⟩:=by
 unfold ticket_Sequence.f basic_Pad.f basic_Itoa.f
 rw [if_pos (by omega)]
 simp only [Option.bind_some]
 rw [if_neg (by omega)]
 simp only [Lib.itoa]
 rw [if_neg (by omega),show (7 : Int).toNat = 7 from rfl,Lib.decDigits_one (by omega)]
 decide +kernel
theorem works_eq (k : Nat) (hk : 100 < k) : racewaylaw27_works.f k = some true:=by
 unfold racewaylaw27_works.f
 rw [ticket_Url_eq _ _ _ (by decide +kernel) (by decide +kernel) (by decide +kernel) k (Nat.lt_of_le_of_lt (by decide +kernel) hk),ticket_Url_eq _ _ _ (by decide +kernel) (by decide +kernel) (by decide +kernel) k (Nat.lt_of_le_of_lt (by decide +kernel) hk),seq7]
 simp only [Option.bind_some]
 decide +kernel
end Go.Proofs.YtedfgkjimnjdpaaDoor.X
namespace Go.Proofs.YtedfgkjimnjdpaaDoor.Pure
open Go.RowKit Go.Proofs.YtedfgkjimnjdpaaDoor.X Go.Proofs.YtedfgkjimnjdpaaDoorW.PrintWords Go.Proofs.YtedfgkjimnjdpaaDoorW.PrintLast Go.Proofs.YtedfgkjimnjdpaaDoorW.PrintMore
set_option linter.unusedVariables false
set_option linter.unusedSimpArgs false
theorem few_isH (q : Int) (g : ByteArray) (s c : Int) : racewaylaw27_few.f q g s c = some (q,cutB g 60,s,c):=by
 have h1:=mn_le_left (g.size : Int) 60
 have h2:=mn_cases (g.size : Int) 60
 unfold racewaylaw27_few.f
 rw [if_pos (by omega),if_pos h1]
 rfl
theorem TicketHandles (a0_0 : Int) (a0_1 : ByteArray) (a0_2 a0_3 : Int) (a1 : ByteArray) (x1 : (Lit.int .i64 a0_0).wf = true) (x2 : (Lit.int .i64 a0_2).wf = true) (x3 : (Lit.int .i64 a0_3).wf = true) : ∃ k,racewaylaw27_TicketHandles.f k a0_0 a0_1 a0_2 a0_3 a1 = some true:=by
 refine ⟨500000,?_⟩
 have h1:=mn_le_left (a1.size : Int) 300
 have h2:=mn_cases (a1.size : Int) 300
 have h3:=mn_le_right (a1.size : Int) 300
 have hc0 : 0 ≤ mn (a1.size : Int) 300:=by omega
 have hsz : (a1.extract 0 (mn (a1.size : Int) 300).toNat).size ≤ 300:=by rw [ByteArray.size_extract];omega
 rw [racewaylaw27_TicketHandles.f,few_isH,Option.bind_some,if_pos hc0,if_pos h1]
 simp only
 generalize cutB a0_1 60 = g
 generalize a1.extract 0 (mn (a1.size : Int) 300).toNat = t at hsz
 clear h1 h2 h3 hc0
 obtain ⟨e,hh,he,hee⟩:=Handle_is a0_0 a0_2 a0_3 g 500000 (by omega)
 have hO : ticket_Open.f t = some (openV t):=by unfold ticket_Open.f;rw [if_pos (by omega)]
 rw [hh,Option.bind_some,rHandle_is a0_0 a0_2 a0_3 g 500000 (by omega),Option.bind_some,hO,Option.bind_some,rOpen_is t (by omega) 500000 (by omega),Option.bind_some,← hee]
 generalize (if okR a0_0 g a0_2 a0_3 then (handB a0_0.toNat g a0_2.toNat a0_3.toNat,(0 : Int)) else (⟨#[]⟩,e)) = R
 generalize openV t = V
 have hw:=works_eq 500000 (by omega)
 rw [if_pos rfl,if_pos rfl,if_pos (by simp),if_pos rfl,hw]
 rfl
end Go.Proofs.YtedfgkjimnjdpaaDoor.Pure
