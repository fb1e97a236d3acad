/-
  What the claim's law rests on, part 8 of 8: printed walks, externals, plain lemmas; conditions: none of its own.
-/
import Derived.ChangeSame
import Derived.Deep.Slices
import Derived.Handed
import Derived.HandedShaped
import Derived.LaidSub
import Derived.Lib.LaidTab
import Derived.Lib.LaidU8T
import Derived.ShapedOpen
import Derived.SliceStrings
import Derived.Test.YtjehflambbjoaaaDoorMa7
namespace Go.Proofs.YtjehflambbjoaaaDoor.X
open Go.RowKit Go.Proofs.YtjehflambbjoaaaDoorW.PrintWords Go.Proofs.YtjehflambbjoaaaDoorW.PrintLast Go.Proofs.YtjehflambbjoaaaDoorW.PrintMore
attribute [local go_sem] max2_int min2_int max_two min_two max_three min_three max_four min_four
set_option linter.unusedVariables false
set_option linter.unusedSimpArgs false
def racewaylaw29_ResponseMarks.l0 : Nat → ByteArray → List (S24) → List (S24) → Int → Option (Bool)
 | 0,_,_,_,_ => none
 | k + 1,x0,x1,x5,x6 => if x6 < (x1.length : Int) then (if x6 < 60 then (if 0 ≤ x6 then (if 0 ≤ (mn (((rd_T24 x1 x6).f3).size : Int) 60) then (if (mn (((rd_T24 x1 x6).f3).size : Int) 60) ≤ (((rd_T24 x1 x6).f3).size : Int) then (if 0 ≤ (mn (((rd_T24 x1 x6).f4).size : Int) 60) then (if (mn (((rd_T24 x1 x6).f4).size : Int) 60) ≤ (((rd_T24 x1 x6).f4).size : Int) then (if x5.length < 2513169434916 then (racewaylaw29_ResponseMarks.l0 k x0 x1 (x5 ++ [(⟨(rd_T24 x1 x6).f0,(rd_T24 x1 x6).f1,(rd_T24 x1 x6).f2,((rd_T24 x1 x6).f3).extract 0 ((mn (((rd_T24 x1 x6).f3).size : Int) 60) : Int).toNat,((rd_T24 x1 x6).f4).extract 0 ((mn (((rd_T24 x1 x6).f4).size : Int) 60) : Int).toNat⟩ : S24)]) (wrap64 (x6 + 1))) else (none)) else (none)) else (none)) else (none)) else (none)) else (none)) else ((response_Markup.f k x0 x5).bind fun t182 => ((racewayref29_Markup.f k x0 x5).bind fun t183 => (if t182.toList = t183.toList then ((racewaylaw29_works.f k).bind fun t184 => (some t184)) else (some false))))) else ((response_Markup.f k x0 x5).bind fun t185 => ((racewayref29_Markup.f k x0 x5).bind fun t186 => (if t185.toList = t186.toList then ((racewaylaw29_works.f k).bind fun t187 => (some t187)) else (some false))))
def racewaylaw29_ResponseMarks.f (k : Nat) (a0 : ByteArray) (l1 : List (S24)) : Option (Bool):=if 0 ≤ (mn (a0.size : Int) 60) then (if (mn (a0.size : Int) 60) ≤ (a0.size : Int) then (racewaylaw29_ResponseMarks.l0 k (a0.extract 0 ((mn (a0.size : Int) 60) : Int).toNat) l1 ([] : List (S24)) 0) else (none)) else (none)
def racewaylaw29_ResponseMarks.T7 : Bool × List (List Nat × List Nat):=(true,[([],[]),([0],[0]),([],[]),([2],[2]),([3],[3]),([4],[4]),([1,5],[1,5]),([],[]),([7],[7]),([],[]),([9],[9]),([10],[10]),([11],[11]),([8,12],[8,12]),([0,1,2,3,4,5,6,7,8,9,10],[]),([14,6,0,1,2,3,4,5,6,7,8,9,10],[6,14]),([0,1,2,3,4,5,6,7,8,9,10,11,12,13,14,15],[]),([16,13,15,0,1,2,3,4,5,6,7,8,9,10,11,12,13,14,15],[13,16])])
def racewaylaw29_ResponseMarks.B7 : List Nat:=[0,1,0,4,12,28,63,0,128,0,512,1536,3584,8064,2047,18431,65535,131071]
theorem racewaylaw29_ResponseMarks.tab7 : rtab .any (opsOf Tryd.f3 7) = racewaylaw29_ResponseMarks.T7:=by kernel_rfl
theorem racewaylaw29_ResponseMarks.bits7 : waitsOk racewaylaw29_ResponseMarks.T7.2 racewaylaw29_ResponseMarks.B7 = true:=by kernel_rfl
set_option maxHeartbeats 8000000 in
set_option maxRecDepth 100000 in
theorem racewaylaw29_ResponseMarks.calls (k : Nat) (a0 : ByteArray) (A1 : Option Addr) (c1 : Nat) (l1 : List (S24)) (r : Bool) (w : World) (hGMax : GlobMax w) (hGU8 : GlobU8 w) (hr1 : Kd.C k24 w A1 l1.length l1) (hc1 : l1.length ≤ c1) (h : racewaylaw29_ResponseMarks.f k a0 l1 = some r) :
  Calls Tryd.prog 3 #[.string a0,.slice A1 l1.length c1] w fun e w' => e = .returned (.bool r) ∧ Below w.heap.size w w':=by
 have hu24:=Tryd.underlying24
 have HGMax:=Aside0.mk hGMax
 clear hGMax
 have HGU8:=Aside0.mk hGU8
 clear hGU8
 have HR1:=Aside0.mk hr1
 have HC1:=Aside0.mk hc1
 clear hr1 hc1
 have HB:=Aside0.mk (Below.refl w.heap.size w)
 have H : (if 0 ≤ (mn (a0.size : Int) 60) then (if (mn (a0.size : Int) 60) ≤ (a0.size : Int) then (racewaylaw29_ResponseMarks.l0 k (a0.extract 0 ((mn (a0.size : Int) 60) : Int).toNat) l1 ([] : List (S24)) 0) else (none)) else (none)) = some r:=h
 clear h
 obtain ⟨ji3,hji3⟩ : ∃ j_ : Int,(mn (a0.size : Int) 60) = j_:=⟨_,rfl⟩
 replace H : (if 0 ≤ (ji3) then (if (ji3) ≤ (a0.size : Int) then (racewaylaw29_ResponseMarks.l0 k (a0.extract 0 ((ji3) : Int).toNat) l1 ([] : List (S24)) 0) else (none)) else (none)) = some r:=by first|(rw [hji3] at H;exact H)|(simp only [hji3] at H ⊢;exact H)
 (try (have hji3h : ji3 ≤ 60:=by (rw [← hji3];unfold mn;(repeat' split) <;> omega)))
 (try (have hji3g : ji3 ≤ 64:=by omega))
 (try (have hji3l : 0 ≤ ji3:=by (rw [← hji3];unfold mn;(repeat' split) <;> omega)))
 (try (have hji3m : 0 ≤ ji3:=by omega))
 have hji3_ : (if 60 < (a0.size : Int) then 60 else (a0.size : Int)) = ji3:=hji3
 by_cases c4 : 0 ≤ (ji3)
 ·rw [if_pos c4] at H
  have c4b0:=eq_true c4
  have c4b1 : decide (0 ≤ (ji3)) = true:=decide_eq_true c4
  clear c4
  by_cases c5 : (ji3) ≤ (a0.size : Int)
  ·rw [if_pos c5] at H
   have c5b0:=eq_true c5
   have c5b1 : decide ((ji3) ≤ (a0.size : Int)) = true:=decide_eq_true c5
   clear c5
   have H':=Aside0.mk H
   clear H
   go_enter Tryd.func3,Tryd.ntmps3
   go_wp2
   go_loopg [5,6] k (fun kq v5 v6 w' => ∃ (x5_1 : List (S24)) (x6_1 : Int),v6 = .int .i64 x6_1 ∧ Aside0 (racewaylaw29_ResponseMarks.l0 kq (a0.extract 0 ((ji3) : Int).toNat) l1 x5_1 x6_1 = some r) ∧ Aside0 (kq ≤ k) ∧ Aside0 (Kd.R k24 24 w' w.heap.size (fun _ => True) v5 x5_1) ∧ Aside0 (Below w.heap.size w w'))
   case atStart => exact ⟨(([] : List (S24))),(0),(by first|rfl|(simp;done)|(simp;decide +kernel)|(simp [*];done)),(by first|exact H'|(subst_vars;exact H')),⟨Nat.le_refl _⟩,⟨by first|exact Kd.R_nil _ _ _ _ _|exact Kd.N_nil _ _ _ _ _|exact Kd.V_nil _ _ _ _ _|exact Kd.Q_nil _ _ _ _ _|exact Kd.S_nil _ _ _ _ _⟩,⟨by repeat (first|(with_reducible first|exact HB.out|apply below_alloc|apply pw_below_drewN|apply below_drew1)|exact HB.out)⟩⟩
   case round =>
    clear H'
    try clear c1
    try clear p2
    try clear c3
    try clear c4
    try clear c4b0
    try clear c4b1
    try clear c5
    try clear c5b0
    try clear c5b1
    obtain ⟨x5_1,x6_1,rfl,HA,HK1,HO_5,HB⟩:=hrel
    cases gk with
    | zero => exact absurd HA.out (by simp [racewaylaw29_ResponseMarks.l0])
    | succ k1 =>
     have H:=HA.out
     clear HA
     simp only [racewaylaw29_ResponseMarks.l0] at H
     by_cases c6 : x6_1 < (l1.length : Int)
     ·rw [if_pos c6] at H
      have c6b0 : decide (x6_1 < (l1.length : Int)) = true:=decide_eq_true c6
      clear c6
      by_cases c7 : x6_1 < 60
      ·rw [if_pos c7] at H
       have c7b0 : decide (x6_1 < 60) = true:=decide_eq_true c7
       clear c7
       by_cases c8 : 0 ≤ x6_1
       ·rw [if_pos c8] at H
        have c8b0 : decide (0 ≤ x6_1) = true:=decide_eq_true c8
        clear c8
        obtain ⟨ji9,hji9⟩ : ∃ j_ : Int,(mn (((rd_T24 l1 x6_1).f3).size : Int) 60) = j_:=⟨_,rfl⟩
        replace H : (if 0 ≤ (ji9) then (if (ji9) ≤ (((rd_T24 l1 x6_1).f3).size : Int) then (if 0 ≤ (mn (((rd_T24 l1 x6_1).f4).size : Int) 60) then (if (mn (((rd_T24 l1 x6_1).f4).size : Int) 60) ≤ (((rd_T24 l1 x6_1).f4).size : Int) then (if x5_1.length < 2513169434916 then (racewaylaw29_ResponseMarks.l0 k1 (a0.extract 0 ((ji3) : Int).toNat) l1 (x5_1 ++ [(⟨(rd_T24 l1 x6_1).f0,(rd_T24 l1 x6_1).f1,(rd_T24 l1 x6_1).f2,((rd_T24 l1 x6_1).f3).extract 0 ((ji9) : Int).toNat,((rd_T24 l1 x6_1).f4).extract 0 ((mn (((rd_T24 l1 x6_1).f4).size : Int) 60) : Int).toNat⟩ : S24)]) (wrap64 (x6_1 + 1))) else (none)) else (none)) else (none)) else (none)) else (none)) = some r:=by first|(rw [hji9] at H;exact H)|(simp only [hji9] at H ⊢;exact H)
        have hji9_ : (if 60 < (((rd_T24 l1 x6_1).f3).size : Int) then 60 else (((rd_T24 l1 x6_1).f3).size : Int)) = ji9:=hji9
        by_cases c10 : 0 ≤ (ji9)
        ·rw [if_pos c10] at H
         have c10b0:=eq_true c10
         have c10b1 : decide (0 ≤ (ji9)) = true:=decide_eq_true c10
         clear c10
         by_cases c11 : (ji9) ≤ (((rd_T24 l1 x6_1).f3).size : Int)
         ·rw [if_pos c11] at H
          have c11b0:=eq_true c11
          have c11b1 : decide ((ji9) ≤ (((rd_T24 l1 x6_1).f3).size : Int)) = true:=decide_eq_true c11
          clear c11
          obtain ⟨ji12,hji12⟩ : ∃ j_ : Int,(mn (((rd_T24 l1 x6_1).f4).size : Int) 60) = j_:=⟨_,rfl⟩
          replace H : (if 0 ≤ (ji12) then (if (ji12) ≤ (((rd_T24 l1 x6_1).f4).size : Int) then (if x5_1.length < 2513169434916 then (racewaylaw29_ResponseMarks.l0 k1 (a0.extract 0 ((ji3) : Int).toNat) l1 (x5_1 ++ [(⟨(rd_T24 l1 x6_1).f0,(rd_T24 l1 x6_1).f1,(rd_T24 l1 x6_1).f2,((rd_T24 l1 x6_1).f3).extract 0 ((ji9) : Int).toNat,((rd_T24 l1 x6_1).f4).extract 0 ((ji12) : Int).toNat⟩ : S24)]) (wrap64 (x6_1 + 1))) else (none)) else (none)) else (none)) = some r:=by first|(rw [hji12] at H;exact H)|(simp only [hji12] at H ⊢;exact H)
          have hji12_ : (if 60 < (((rd_T24 l1 x6_1).f4).size : Int) then 60 else (((rd_T24 l1 x6_1).f4).size : Int)) = ji12:=hji12
          by_cases c13 : 0 ≤ (ji12)
          ·rw [if_pos c13] at H
           have c13b0:=eq_true c13
           have c13b1 : decide (0 ≤ (ji12)) = true:=decide_eq_true c13
           clear c13
           by_cases c14 : (ji12) ≤ (((rd_T24 l1 x6_1).f4).size : Int)
           ·rw [if_pos c14] at H
            have c14b0:=eq_true c14
            have c14b1 : decide ((ji12) ≤ (((rd_T24 l1 x6_1).f4).size : Int)) = true:=decide_eq_true c14
            clear c14
            by_cases c15 : x5_1.length < 2513169434916
            ·rw [if_pos c15] at H
             have LMc15:=Aside0.mk c15
             clear c15
             obtain ⟨y179,hy179⟩ : ∃ y_ : List (S24),y_ = (x5_1 ++ [(⟨(rd_T24 l1 x6_1).f0,(rd_T24 l1 x6_1).f1,(rd_T24 l1 x6_1).f2,((rd_T24 l1 x6_1).f3).extract 0 ((ji9) : Int).toNat,((rd_T24 l1 x6_1).f4).extract 0 ((ji12) : Int).toNat⟩ : S24)]):=⟨_,rfl⟩
             replace H : (racewaylaw29_ResponseMarks.l0 k1 (a0.extract 0 ((ji3) : Int).toNat) l1 y179 (wrap64 (x6_1 + 1))) = some r:=by first|(rw [hy179];with_reducible exact H)|(have H2_:=(Option.bind_some _ _).symm.trans H;rw [hy179];with_reducible exact H2_)|(have H2_:=(Option.bind_some _ _).symm.trans H;with_reducible exact H2_)|with_reducible exact H|(rw [hy179];exact H)|exact H
             have Ny179:=Aside0.mk hy179
             clear hy179
             have H':=Aside0.mk H
             clear H
             have p177 : 0 ≤ (x6_1 : Int):=of_decide_eq_true (by first|(with_reducible assumption)|assumption)
             have q177 : x6_1 < (l1.length : Int):=of_decide_eq_true (by first|(with_reducible assumption)|assumption)
             obtain ⟨ad177,e177,hx177_0,hx177_1,hx177_2,hx177_3,hx177_4⟩:=at_T24 HR1.out x6_1 p177 q177
             cases e177
             replace hx177_0:=(HB.out.cell (World.block_lt_of_cell? w _ hx177_0)).trans hx177_0
             replace hx177_1:=(HB.out.cell (World.block_lt_of_cell? w _ hx177_1)).trans hx177_1
             replace hx177_2:=(HB.out.cell (World.block_lt_of_cell? w _ hx177_2)).trans hx177_2
             replace hx177_3:=(HB.out.cell (World.block_lt_of_cell? w _ hx177_3)).trans hx177_3
             replace hx177_4:=(HB.out.cell (World.block_lt_of_cell? w _ hx177_4)).trans hx177_4
             replace p177:=eq_true p177
             replace q177:=eq_true q177
             try go_wp2_with (first|((with_reducible refine gate_dst (N:=7) rfl ?_);refine box_event ?hg (N:=7) ?hd (cs:=#[.int .i64 0,.int .i64 0,.int .i64 0,.string (⟨#[]⟩ : ByteArray),.string (⟨#[]⟩ : ByteArray)]) (t:=24) ?hr ?_;(case hd => rfl);(case hg => rfl);(case hr => first|(go_simp;done)|(go_simp;rfl));intro gb178 hg w16 hbox hb;have n0_:=Aside0.mk (Kd.R_below (Kd.R_elderB (by (with_reducible repeat (first|apply Kd.R_alloc|apply Kd.R_drewN|apply Kd.R_drew));exact HO_5.out) gb178 (Nat.le_of_eq hg.symm)) hb);have n1_:=Aside0.mk (below_step (by repeat (first|(with_reducible first|exact HB.out|apply below_alloc|apply pw_below_drewN|apply below_drew1)|exact HB.out)) hb);have n2_:=Aside0.mk (hbox);have n3_:=Aside0.mk ((by rw [hg];exact (below_size (by repeat (first|(with_reducible first|exact HB.out|apply below_alloc|apply pw_below_drewN|apply below_drew1)|exact HB.out))) : w.heap.size ≤ gb178));have n4_:=Aside0.mk ((by rw [hg];exact (below_size (by repeat (first|(with_reducible first|exact HB.out|apply below_alloc|apply pw_below_drewN|apply below_drew1)|exact HB.out))) : w.heap.size ≤ gb178));clear HO_5;clear HB;have HO_5:=n0_;have HB:=n1_;have BK178:=n2_;have GW178:=n3_;have GE178:=n4_;clear n0_ n1_ n2_ n3_ n4_;clear hb hbox hg;have hcz17_0 : w16.cell? ⟨gb178,0,none⟩ = some (.int .i64 0):=(blk_cell BK178.out 0).trans rfl;have hcz17_1 : w16.cell? ⟨gb178,1,none⟩ = some (.int .i64 0):=(blk_cell BK178.out 1).trans rfl;have hcz17_2 : w16.cell? ⟨gb178,2,none⟩ = some (.int .i64 0):=(blk_cell BK178.out 2).trans rfl;have hcz17_3 : w16.cell? ⟨gb178,3,none⟩ = some (.string (⟨#[]⟩ : ByteArray)):=(blk_cell BK178.out 3).trans rfl;have hcz17_4 : w16.cell? ⟨gb178,4,none⟩ = some (.string (⟨#[]⟩ : ByteArray)):=(blk_cell BK178.out 4).trans rfl;have hfz17_0:=blk_frozen BK178.out 0;have hfz17_1:=blk_frozen BK178.out 1;have hfz17_2:=blk_frozen BK178.out 2;have hfz17_3:=blk_frozen BK178.out 3;have hfz17_4:=blk_frozen BK178.out 4))
             have n0_ : Aside0 (Kd.R k24 24 (((((w16.setCell ⟨gb178,0,none⟩ (.int .i64 ((rd_T24 l1 x6_1).f0))).setCell ⟨gb178,1,none⟩ (.int .i64 ((rd_T24 l1 x6_1).f1))).setCell ⟨gb178,2,none⟩ (.int .i64 ((rd_T24 l1 x6_1).f2))).setCell ⟨gb178,3,none⟩ (.string ((rd_T24 l1 x6_1).f3))).setCell ⟨gb178,4,none⟩ (.string ((rd_T24 l1 x6_1).f4))) w.heap.size (fun k_ => k_ ≠ gb178) u5 x5_1):=⟨by (with_reducible repeat (first|apply Kd.R_alloc|apply Kd.R_drewN|apply Kd.R_drew));exact Kd.R_mono (Kd.R_far (p:=⟨gb178,4,none⟩) (Kd.R_far (p:=⟨gb178,3,none⟩) (Kd.R_far (p:=⟨gb178,2,none⟩) (Kd.R_far (p:=⟨gb178,1,none⟩) (Kd.R_far (p:=⟨gb178,0,none⟩) (Kd.R_mono HO_5.out (fun k_ hk => (⟨hk,hk.2⟩ : _ ∧ k_ ≠ gb178))) (fun _ hk => hk.2) (.int .i64 ((rd_T24 l1 x6_1).f0))) (fun _ hk => hk.2) (.int .i64 ((rd_T24 l1 x6_1).f1))) (fun _ hk => hk.2) (.int .i64 ((rd_T24 l1 x6_1).f2))) (fun _ hk => hk.2) (.string ((rd_T24 l1 x6_1).f3))) (fun _ hk => hk.2) (.string ((rd_T24 l1 x6_1).f4))) (fun _ hk => hk.1.2)⟩
             have n1_ : Aside0 ((((((w16.setCell ⟨gb178,0,none⟩ (.int .i64 ((rd_T24 l1 x6_1).f0))).setCell ⟨gb178,1,none⟩ (.int .i64 ((rd_T24 l1 x6_1).f1))).setCell ⟨gb178,2,none⟩ (.int .i64 ((rd_T24 l1 x6_1).f2))).setCell ⟨gb178,3,none⟩ (.string ((rd_T24 l1 x6_1).f3))).setCell ⟨gb178,4,none⟩ (.string ((rd_T24 l1 x6_1).f4))).heap[gb178]? = some (.cells #[.int .i64 ((rd_T24 l1 x6_1).f0),.int .i64 ((rd_T24 l1 x6_1).f1),.int .i64 ((rd_T24 l1 x6_1).f2),.string ((rd_T24 l1 x6_1).f3),.string ((rd_T24 l1 x6_1).f4)] 24 (0,0))):=⟨by (with_reducible repeat (first|refine blk_drewN ?_ _|refine blk_drew ?_|refine blk_alloc ?_ _));refine blk_put (cs:=#[.int .i64 ((rd_T24 l1 x6_1).f0),.int .i64 ((rd_T24 l1 x6_1).f1),.int .i64 ((rd_T24 l1 x6_1).f2),.string ((rd_T24 l1 x6_1).f3),.string (⟨#[]⟩ : ByteArray)]) ?_ 4 _ rfl;(with_reducible repeat (first|refine blk_drewN ?_ _|refine blk_drew ?_|refine blk_alloc ?_ _));refine blk_put (cs:=#[.int .i64 ((rd_T24 l1 x6_1).f0),.int .i64 ((rd_T24 l1 x6_1).f1),.int .i64 ((rd_T24 l1 x6_1).f2),.string (⟨#[]⟩ : ByteArray),.string (⟨#[]⟩ : ByteArray)]) ?_ 3 _ rfl;(with_reducible repeat (first|refine blk_drewN ?_ _|refine blk_drew ?_|refine blk_alloc ?_ _));refine blk_put (cs:=#[.int .i64 ((rd_T24 l1 x6_1).f0),.int .i64 ((rd_T24 l1 x6_1).f1),.int .i64 0,.string (⟨#[]⟩ : ByteArray),.string (⟨#[]⟩ : ByteArray)]) ?_ 2 _ rfl;(with_reducible repeat (first|refine blk_drewN ?_ _|refine blk_drew ?_|refine blk_alloc ?_ _));refine blk_put (cs:=#[.int .i64 ((rd_T24 l1 x6_1).f0),.int .i64 0,.int .i64 0,.string (⟨#[]⟩ : ByteArray),.string (⟨#[]⟩ : ByteArray)]) ?_ 1 _ rfl;(with_reducible repeat (first|refine blk_drewN ?_ _|refine blk_drew ?_|refine blk_alloc ?_ _));refine blk_put (cs:=#[.int .i64 0,.int .i64 0,.int .i64 0,.string (⟨#[]⟩ : ByteArray),.string (⟨#[]⟩ : ByteArray)]) ?_ 0 _ rfl;(with_reducible repeat (first|refine blk_drewN ?_ _|refine blk_drew ?_|refine blk_alloc ?_ _));exact BK178.out⟩
             have n2_ : Aside0 (Below w.heap.size w (((((w16.setCell ⟨gb178,0,none⟩ (.int .i64 ((rd_T24 l1 x6_1).f0))).setCell ⟨gb178,1,none⟩ (.int .i64 ((rd_T24 l1 x6_1).f1))).setCell ⟨gb178,2,none⟩ (.int .i64 ((rd_T24 l1 x6_1).f2))).setCell ⟨gb178,3,none⟩ (.string ((rd_T24 l1 x6_1).f3))).setCell ⟨gb178,4,none⟩ (.string ((rd_T24 l1 x6_1).f4)))):=⟨by repeat (first|(with_reducible first|exact HB.out|apply below_alloc|apply pw_below_drewN|apply below_drew1|refine below_set ?_ GE178.out)|exact HB.out)⟩
             (try clear HO_5)
             (try clear BK178)
             (try clear HB)
             generalize (((((w16.setCell ⟨gb178,0,none⟩ (.int .i64 ((rd_T24 l1 x6_1).f0))).setCell ⟨gb178,1,none⟩ (.int .i64 ((rd_T24 l1 x6_1).f1))).setCell ⟨gb178,2,none⟩ (.int .i64 ((rd_T24 l1 x6_1).f2))).setCell ⟨gb178,3,none⟩ (.string ((rd_T24 l1 x6_1).f3))).setCell ⟨gb178,4,none⟩ (.string ((rd_T24 l1 x6_1).f4))) = w18 at n0_ n1_ n2_ ⊢
             have HO_5:=n0_
             have BK178:=n1_
             have HB:=n2_
             clear n0_ n1_ n2_
             have n0_:=Aside0.mk (Kd.R_drew HO_5.out)
             have n1_:=Aside0.mk (blk_drew BK178.out)
             have n2_:=Aside0.mk (below_drew1 HB.out)
             clear HO_5
             clear BK178
             clear HB
             have HO_5:=n0_
             have BK178:=n1_
             have HB:=n2_
             clear n0_ n1_ n2_
             refine start_ (n:=18) (S:=fun w' => w'.cell? ⟨gb178,0,none⟩ = some (.int .i64 ((rd_T24 l1 x6_1).f0)) ∧ w'.cell? ⟨gb178,1,none⟩ = some (.int .i64 ((rd_T24 l1 x6_1).f1)) ∧ w'.cell? ⟨gb178,2,none⟩ = some (.int .i64 ((rd_T24 l1 x6_1).f2)) ∧ w'.cell? ⟨gb178,3,none⟩ = some (.string ((rd_T24 l1 x6_1).f3)) ∧ w'.cell? ⟨gb178,4,none⟩ = some (.string ((rd_T24 l1 x6_1).f4))) (ds:=[15,17]) #[false,false,false,false,false,false,false,false,false,false,false,false,false,false,false,false,false,false] (by kernel_rfl) rfl rfl ⟨(blk_cell BK178.out 0).trans rfl,(blk_cell BK178.out 1).trans rfl,(blk_cell BK178.out 2).trans rfl,(blk_cell BK178.out 3).trans rfl,(blk_cell BK178.out 4).trans rfl⟩ (fun hHeld => ?_);refine with_tabW racewaylaw29_ResponseMarks.tab7 racewaylaw29_ResponseMarks.bits7 (fun HT_ HW_ => ?_)
             generalize w18.drew = w19 at HO_5 BK178 HB hHeld ⊢
             refine pure_ (i:=0) (N:=some 27) (v:=?_) (a':=?_) #[true,false,false,false,false,false,false,false,false,false,false,false,false,false,false,false,false,false] rfl rfl (any_of HT_.out (by kernel_rfl)) (fun _ _ _ h => h) (Or.inl ⟨by rfl,?_⟩) ?_ ?_
             rotate_left
             ·intro w'
              go_simp
              with_reducible rfl
             rotate_left
             ·simp only [Act.put,List.setIfInBounds_toArray,List.set_cons_zero,List.set_cons_succ,i64_w,i32_w]
              rfl
             refine pure_ (i:=2) (N:=some 29) (v:=?_) (a':=?_) #[true,false,true,false,false,false,false,false,false,false,false,false,false,false,false,false,false,false] rfl rfl (any_of HT_.out (by kernel_rfl)) (fun _ _ _ h => h) (Or.inl ⟨by rfl,?_⟩) ?_ ?_
             rotate_left
             ·intro w'
              go_simp
              with_reducible rfl
             rotate_left
             ·simp only [Act.put,List.setIfInBounds_toArray,List.set_cons_zero,List.set_cons_succ,i64_w,i32_w]
              rfl
             refine pure_ (i:=7) (N:=some 34) (v:=?_) (a':=?_) #[true,false,true,false,false,false,false,true,false,false,false,false,false,false,false,false,false,false] rfl rfl (any_of HT_.out (by kernel_rfl)) (fun _ _ _ h => h) (Or.inl ⟨by rfl,?_⟩) ?_ ?_
             rotate_left
             ·intro w'
              go_simp
              with_reducible rfl
             rotate_left
             ·simp only [Act.put,List.setIfInBounds_toArray,List.set_cons_zero,List.set_cons_succ,i64_w,i32_w]
              rfl
             refine pure_ (i:=9) (N:=some 36) (v:=?_) (a':=?_) #[true,false,true,false,false,false,false,true,false,true,false,false,false,false,false,false,false,false] rfl rfl (any_of HT_.out (by kernel_rfl)) (fun _ _ _ h => h) (Or.inl ⟨by rfl,?_⟩) ?_ ?_
             rotate_left
             ·intro w'
              go_simp
              with_reducible rfl
             rotate_left
             ·simp only [Act.put,List.setIfInBounds_toArray,List.set_cons_zero,List.set_cons_succ,i64_w,i32_w]
              rfl
             refine take_ (i:=1) (N:=some 28) (v:=?_) (a':=?_) #[true,true,true,false,false,false,false,true,false,true,false,false,false,false,false,false,false,false] rfl rfl (take_ofW HT_.out HW_.out (by kernel_rfl)) (fun _ _ _ h => h) (Or.inl ⟨by rfl,?_⟩) hHeld ?_ ?_
             rotate_left
             ·rintro w' ⟨s0,s1,s2,s3,s4⟩
              go_simp
              with_reducible rfl
             rotate_left
             ·simp only [Act.put,List.setIfInBounds_toArray,List.set_cons_zero,List.set_cons_succ,i64_w,i32_w]
              rfl
             refine take_ (i:=3) (N:=some 30) (v:=?_) (a':=?_) #[true,true,true,true,false,false,false,true,false,true,false,false,false,false,false,false,false,false] rfl rfl (take_ofW HT_.out HW_.out (by kernel_rfl)) (fun _ _ _ h => h) (Or.inl ⟨by rfl,?_⟩) hHeld ?_ ?_
             rotate_left
             ·rintro w' ⟨s0,s1,s2,s3,s4⟩
              go_simp
              with_reducible rfl
             rotate_left
             ·simp only [Act.put,List.setIfInBounds_toArray,List.set_cons_zero,List.set_cons_succ,i64_w,i32_w]
              rfl
             refine pure_ (i:=4) (N:=some 31) (v:=?_) (a':=?_) #[true,true,true,true,true,false,false,true,false,true,false,false,false,false,false,false,false,false] rfl rfl (any_of HT_.out (by kernel_rfl)) (fun _ _ _ h => h) (Or.inl ⟨by rfl,?_⟩) ?_ ?_
             rotate_left
             ·intro w'
              go_simp
              with_reducible rfl
             rotate_left
             ·simp only [Act.put,List.setIfInBounds_toArray,List.set_cons_zero,List.set_cons_succ,i64_w,i32_w]
              rfl
             refine pure_ (i:=5) (N:=some 32) (v:=?_) (a':=?_) #[true,true,true,true,true,true,false,true,false,true,false,false,false,false,false,false,false,false] rfl rfl (any_of HT_.out (by kernel_rfl)) (fun _ _ _ h => h) (Or.inl ⟨by rfl,?_⟩) ?_ ?_
             rotate_left
             ·intro w'
              go_simp
              with_reducible rfl
             rotate_left
             ·simp only [Act.put,List.setIfInBounds_toArray,List.set_cons_zero,List.set_cons_succ,i64_w,i32_w]
              rfl
             refine pure_ (i:=6) (N:=some 33) (v:=?_) (a':=?_) #[true,true,true,true,true,true,true,true,false,true,false,false,false,false,false,false,false,false] rfl rfl (any_of HT_.out (by kernel_rfl)) (fun _ _ _ h => h) (Or.inl ⟨by rfl,?_⟩) ?_ ?_
             rotate_left
             ·intro w'
              go_simp
              with_reducible rfl
             rotate_left
             ·simp only [Act.put,List.setIfInBounds_toArray,List.set_cons_zero,List.set_cons_succ,i64_w,i32_w]
              rfl
             refine take_ (i:=8) (N:=some 35) (v:=?_) (a':=?_) #[true,true,true,true,true,true,true,true,true,true,false,false,false,false,false,false,false,false] rfl rfl (take_ofW HT_.out HW_.out (by kernel_rfl)) (fun _ _ _ h => h) (Or.inl ⟨by rfl,?_⟩) hHeld ?_ ?_
             rotate_left
             ·rintro w' ⟨s0,s1,s2,s3,s4⟩
              go_simp
              with_reducible rfl
             rotate_left
             ·simp only [Act.put,List.setIfInBounds_toArray,List.set_cons_zero,List.set_cons_succ,i64_w,i32_w]
              rfl
             refine take_ (i:=10) (N:=some 37) (v:=?_) (a':=?_) #[true,true,true,true,true,true,true,true,true,true,true,false,false,false,false,false,false,false] rfl rfl (take_ofW HT_.out HW_.out (by kernel_rfl)) (fun _ _ _ h => h) (Or.inl ⟨by rfl,?_⟩) hHeld ?_ ?_
             rotate_left
             ·rintro w' ⟨s0,s1,s2,s3,s4⟩
              go_simp
              with_reducible rfl
             rotate_left
             ·simp only [Act.put,List.setIfInBounds_toArray,List.set_cons_zero,List.set_cons_succ,i64_w,i32_w]
              rfl
             refine pure_ (i:=11) (N:=some 38) (v:=?_) (a':=?_) #[true,true,true,true,true,true,true,true,true,true,true,true,false,false,false,false,false,false] rfl rfl (any_of HT_.out (by kernel_rfl)) (fun _ _ _ h => h) (Or.inl ⟨by rfl,?_⟩) ?_ ?_
             rotate_left
             ·intro w'
              go_simp
              with_reducible rfl
             rotate_left
             ·simp only [Act.put,List.setIfInBounds_toArray,List.set_cons_zero,List.set_cons_succ,i64_w,i32_w]
              rfl
             refine pure_ (i:=12) (N:=some 39) (v:=?_) (a':=?_) #[true,true,true,true,true,true,true,true,true,true,true,true,true,false,false,false,false,false] rfl rfl (any_of HT_.out (by kernel_rfl)) (fun _ _ _ h => h) (Or.inl ⟨by rfl,?_⟩) ?_ ?_
             rotate_left
             ·intro w'
              go_simp
              with_reducible rfl
             rotate_left
             ·simp only [Act.put,List.setIfInBounds_toArray,List.set_cons_zero,List.set_cons_succ,i64_w,i32_w]
              rfl
             refine pure_ (i:=13) (N:=some 40) (v:=?_) (a':=?_) #[true,true,true,true,true,true,true,true,true,true,true,true,true,true,false,false,false,false] rfl rfl (any_of HT_.out (by kernel_rfl)) (fun _ _ _ h => h) (Or.inl ⟨by rfl,?_⟩) ?_ ?_
             rotate_left
             ·intro w'
              go_simp
              with_reducible rfl
             rotate_left
             ·simp only [Act.put,List.setIfInBounds_toArray,List.set_cons_zero,List.set_cons_succ,i64_w,i32_w]
              rfl
             refine pure_ (i:=14) (N:=some 41) (v:=?_) (a':=?_) #[true,true,true,true,true,true,true,true,true,true,true,true,true,true,true,false,false,false] rfl rfl (any_of HT_.out (by kernel_rfl)) (fun _ _ _ h => h) (Or.inl ⟨by rfl,?_⟩) ?_ ?_
             rotate_left
             ·intro w'
              go_simp
              with_reducible rfl
             rotate_left
             ·simp only [Act.put,List.setIfInBounds_toArray,List.set_cons_zero,List.set_cons_succ,i64_w,i32_w]
              rfl
             refine last_ (i:=15) (N:=none) #[true,true,true,true,true,true,true,true,true,true,true,true,true,true,true,true,false,false] rfl rfl (one_of HT_.out (by kernel_rfl)) (by decide) (fun K hK => ?_)
             have hs20 : w19.cell? ⟨gb178,3,none⟩ = some (.string ((rd_T24 l1 x6_1).f3)):=(blk_cell BK178.out 3).trans rfl
             have hfs20:=blk_frozen BK178.out 3
             refine skip_ (w1:=?_) (by rfl) rfl ?_ ?_
             rotate_left
             ·go_simp
              rfl
             refine hK.out _ _ ?_
             clear hK K
             refine pure_ (i:=16) (N:=some 42) (v:=?_) (a':=?_) #[true,true,true,true,true,true,true,true,true,true,true,true,true,true,true,true,true,false] rfl rfl (any_of HT_.out (by kernel_rfl)) (fun _ _ _ h => h) (Or.inl ⟨by rfl,?_⟩) ?_ ?_
             rotate_left
             ·intro w'
              go_simp
              with_reducible rfl
             rotate_left
             ·simp only [Act.put,List.setIfInBounds_toArray,List.set_cons_zero,List.set_cons_succ,i64_w,i32_w]
              rfl
             refine last_ (i:=17) (N:=none) #[true,true,true,true,true,true,true,true,true,true,true,true,true,true,true,true,true,true] rfl rfl (one_of HT_.out (by kernel_rfl)) (by decide) (fun K hK => ?_)
             have hs21 : w19.cell? ⟨gb178,4,none⟩ = some (.string ((rd_T24 l1 x6_1).f4)):=(blk_cell BK178.out 4).trans rfl
             have hfs21:=blk_frozen BK178.out 4
             refine skip_ (w1:=?_) (by rfl) rfl ?_ ?_
             rotate_left
             ·go_simp
              rfl
             refine hK.out _ _ ?_
             clear hK K
             refine done_ (done_of HT_.out (by kernel_rfl)) ?_
             have hcz22_0 : w19.cell? ⟨gb178,0,none⟩ = some (.int .i64 ((rd_T24 l1 x6_1).f0)):=(blk_cell BK178.out 0).trans rfl
             have hcz22_1 : w19.cell? ⟨gb178,1,none⟩ = some (.int .i64 ((rd_T24 l1 x6_1).f1)):=(blk_cell BK178.out 1).trans rfl
             have hcz22_2 : w19.cell? ⟨gb178,2,none⟩ = some (.int .i64 ((rd_T24 l1 x6_1).f2)):=(blk_cell BK178.out 2).trans rfl
             have hcz22_3 : w19.cell? ⟨gb178,3,none⟩ = some (.string ((rd_T24 l1 x6_1).f3)):=(blk_cell BK178.out 3).trans rfl
             have hcz22_4 : w19.cell? ⟨gb178,4,none⟩ = some (.string ((rd_T24 l1 x6_1).f4)):=(blk_cell BK178.out 4).trans rfl
             have hfz22_0:=blk_frozen BK178.out 0
             have hfz22_1:=blk_frozen BK178.out 1
             have hfz22_2:=blk_frozen BK178.out 2
             have hfz22_3:=blk_frozen BK178.out 3
             have hfz22_4:=blk_frozen BK178.out 4
             try go_wp2_with (first|((with_reducible refine gate_builtin (b:=.append) (xs:=#[.tmp 43,.tmp 45]) rfl ?_);at_builtin;refine Kd.R_append k24 (w0:=w) w.heap.size rfl (.tmp 43) (.tmp 45) 22 24 (.agg #[(.int .i64 0),(.int .i64 0),(.int .i64 0),(.string ⟨#[]⟩),(.string ⟨#[]⟩)]) 56 rfl Tryd.underlying22 info24 rfl (by decide) (by omega) u5 x5_1 (⟨(rd_T24 l1 x6_1).f0,(rd_T24 l1 x6_1).f1,(rd_T24 l1 x6_1).f2,((rd_T24 l1 x6_1).f3).extract 0 ((ji9) : Int).toNat,((rd_T24 l1 x6_1).f4).extract 0 ((ji12) : Int).toNat⟩ : S24) [.int .i64 ((rd_T24 l1 x6_1).f0),.int .i64 ((rd_T24 l1 x6_1).f1),.int .i64 ((rd_T24 l1 x6_1).f2),.string (((rd_T24 l1 x6_1).f3).extract 0 ((ji9) : Int).toNat),.string (((rd_T24 l1 x6_1).f4).extract 0 ((ji12) : Int).toNat)] (fun k_ => k_ ≠ gb178) (fun _ => False) rfl (by first|(go_simp;done)|(go_simp;rfl)) ?aP (fun _ hk => hk.elim) ?aF ?aO ?aB ?aS ?aL ?_;(case aP => exact k24_mkM _ _ _ (⟨(rd_T24 l1 x6_1).f0,(rd_T24 l1 x6_1).f1,(rd_T24 l1 x6_1).f2,((rd_T24 l1 x6_1).f3).extract 0 ((ji9) : Int).toNat,((rd_T24 l1 x6_1).f4).extract 0 ((ji12) : Int).toNat⟩ : S24));(case aB => exact (by repeat (first|(with_reducible first|exact HB.out|apply below_alloc|apply pw_below_drewN|apply below_drew1|refine below_set ?_ GE178.out)|exact HB.out)));(case aF => exact (fun k_ hk => Kd.freshB (g:=gb178) (o:=.cells #[.int .i64 ((rd_T24 l1 x6_1).f0),.int .i64 ((rd_T24 l1 x6_1).f1),.int .i64 ((rd_T24 l1 x6_1).f2),.string (((rd_T24 l1 x6_1).f3).extract 0 ((ji9) : Int).toNat),.string (((rd_T24 l1 x6_1).f4).extract 0 ((ji12) : Int).toNat)] 24 (0,0)) (by (with_reducible repeat (first|refine blk_drewN ?_ _|refine blk_drew ?_|refine blk_alloc ?_ _));refine blk_put (cs:=#[.int .i64 ((rd_T24 l1 x6_1).f0),.int .i64 ((rd_T24 l1 x6_1).f1),.int .i64 ((rd_T24 l1 x6_1).f2),.string (((rd_T24 l1 x6_1).f3).extract 0 ((ji9) : Int).toNat),.string ((rd_T24 l1 x6_1).f4)]) ?_ 4 _ rfl;(with_reducible repeat (first|refine blk_drewN ?_ _|refine blk_drew ?_|refine blk_alloc ?_ _));refine blk_put (cs:=#[.int .i64 ((rd_T24 l1 x6_1).f0),.int .i64 ((rd_T24 l1 x6_1).f1),.int .i64 ((rd_T24 l1 x6_1).f2),.string ((rd_T24 l1 x6_1).f3),.string ((rd_T24 l1 x6_1).f4)]) ?_ 3 _ rfl;(with_reducible repeat (first|refine blk_drewN ?_ _|refine blk_drew ?_|refine blk_alloc ?_ _));exact BK178.out) k_ hk));(case aO => exact (by (with_reducible repeat (first|apply Kd.R_alloc|apply Kd.R_drewN|apply Kd.R_drew));exact Kd.R_mono (Kd.R_far (p:=⟨gb178,4,none⟩) (Kd.R_far (p:=⟨gb178,3,none⟩) (Kd.R_mono HO_5.out (fun k_ hk => (⟨hk,hk⟩ : _ ∧ k_ ≠ gb178))) (fun _ hk => hk.2) (.string (((rd_T24 l1 x6_1).f3).extract 0 ((ji9) : Int).toNat))) (fun _ hk => hk.2) (.string (((rd_T24 l1 x6_1).f4).extract 0 ((ji12) : Int).toNat))) (fun _ hk => hk.1)));(case aS => exact (below_size (by repeat (first|(with_reducible first|exact HB.out|apply below_alloc|apply pw_below_drewN|apply below_drew1|refine below_set ?_ GE178.out)|exact HB.out))));(case aL => have:=LMc15.out;omega);intro v180 w23 ho hb hg hat;rw [← Ny179.out] at ho;have n0_:=Aside0.mk (blk_grown (g:=gb178) (o:=.cells #[.int .i64 ((rd_T24 l1 x6_1).f0),.int .i64 ((rd_T24 l1 x6_1).f1),.int .i64 ((rd_T24 l1 x6_1).f2),.string (((rd_T24 l1 x6_1).f3).extract 0 ((ji9) : Int).toNat),.string (((rd_T24 l1 x6_1).f4).extract 0 ((ji12) : Int).toNat)] 24 (0,0)) (by (with_reducible repeat (first|refine blk_drewN ?_ _|refine blk_drew ?_|refine blk_alloc ?_ _));refine blk_put (cs:=#[.int .i64 ((rd_T24 l1 x6_1).f0),.int .i64 ((rd_T24 l1 x6_1).f1),.int .i64 ((rd_T24 l1 x6_1).f2),.string (((rd_T24 l1 x6_1).f3).extract 0 ((ji9) : Int).toNat),.string ((rd_T24 l1 x6_1).f4)]) ?_ 4 _ rfl;(with_reducible repeat (first|refine blk_drewN ?_ _|refine blk_drew ?_|refine blk_alloc ?_ _));refine blk_put (cs:=#[.int .i64 ((rd_T24 l1 x6_1).f0),.int .i64 ((rd_T24 l1 x6_1).f1),.int .i64 ((rd_T24 l1 x6_1).f2),.string ((rd_T24 l1 x6_1).f3),.string ((rd_T24 l1 x6_1).f4)]) ?_ 3 _ rfl;(with_reducible repeat (first|refine blk_drewN ?_ _|refine blk_drew ?_|refine blk_alloc ?_ _));exact BK178.out) hg (Kd.R_away HO_5.out (fun _ hk => hk)));have n1_:=Aside0.mk (hb);have n2_:=Aside0.mk (ho);clear BK178;clear HB;clear HO_5;have BK178:=n0_;have HB:=n1_;have HO181:=n2_;clear n0_ n1_ n2_;clear ho hb hg hat))
             go_roundg k1
             case measure => have:=HK1.out;omega
             case rel => exact ⟨(y179),(wrap64 (x6_1 + 1)),(by first|rfl|(simp;done)|(simp;decide +kernel)|(simp [*];done)),(by first|exact H'|(subst_vars;exact H')),⟨by have:=HK1.out;omega⟩,⟨by (with_reducible repeat (first|apply Kd.R_alloc|apply Kd.R_drewN|apply Kd.R_drew));exact Kd.R_mono HO181.out (fun _ hk => trivial)⟩,⟨by repeat (first|(with_reducible first|exact HB.out|apply below_alloc|apply pw_below_drewN|apply below_drew1|refine below_set ?_ GE178.out)|exact HB.out)⟩⟩
            ·rw [if_neg c15] at H
             exact absurd H (by simp)
           ·rw [if_neg c14] at H
            exact absurd H (by simp)
          ·rw [if_neg c13] at H
           exact absurd H (by simp)
         ·rw [if_neg c11] at H
          exact absurd H (by simp)
        ·rw [if_neg c10] at H
         exact absurd H (by simp)
       ·rw [if_neg c8] at H
        exact absurd H (by simp)
      ·rw [if_neg c7] at H
       have c7b0 : decide (x6_1 < 60) = false:=decide_eq_false c7
       clear c7
       replace H:=Option.bind_eq_some_iff.mp H
       obtain ⟨t182,A240,H⟩:=H
       replace H : ((racewayref29_Markup.f k1 (a0.extract 0 ((ji3) : Int).toNat) x5_1).bind fun t183 => (if t182.toList = t183.toList then ((racewaylaw29_works.f k1).bind fun t184 => (some t184)) else (some false))) = some r:=H
       have A24:=Aside0.mk A240
       clear A240
       replace H:=Option.bind_eq_some_iff.mp H
       obtain ⟨t183,A250,H⟩:=H
       replace H : (if t182.toList = t183.toList then ((racewaylaw29_works.f k1).bind fun t184 => (some t184)) else (some false)) = some r:=H
       have A25:=Aside0.mk A250
       clear A250
       by_cases c26 : t182.toList = t183.toList
       ·rw [if_pos c26] at H
        have c26b0 : (t182.toList == t183.toList) = true:=beq_iff_eq.mpr c26
        have c26b1 : (t182.toList != t183.toList) = false:=bne_eq_false_iff_eq.mpr c26
        clear c26
        replace H:=Option.bind_eq_some_iff.mp H
        obtain ⟨t184,A270,H⟩:=H
        replace H : (some t184) = some r:=H
        have A27:=Aside0.mk A270
        clear A270
        obtain rfl:=Option.some.inj H
        obtain ⟨Ao28,co28,eo28⟩:=Kd.R_slice HO_5.out
        subst eo28
        go_wp2_with (first|((with_reducible refine gate_callee (f:=5) rfl ?_);refine goesL_ (some 49) rfl rfl Tryd.func5 (by kernel_rfl) rfl #[.string (a0.extract 0 ((ji3) : Int).toNat),.slice Ao28 x5_1.length co28] rfl (by (try simp only [List.map_toArray,List.map_cons,List.map_nil]);first|done|(simp only [hji3];rfl)|rfl|(simp only [List.length_drop,List.length_take];rfl)) ?_;(with_reducible refine (response_Markup.calls k1 (a0.extract 0 ((ji3) : Int).toNat) _ _ x5_1 t182 _ ?side3 ?side4 ?side1 ?side2 A24.out).mono ?_);(case side1 => repeat (first|exact (Kd.R_reads' HO_5.out).2.2|(with_reducible refine Kd.C_alloc ?_ _)|(with_reducible refine Kd.C_drewN ?_ _)|(with_reducible refine Kd.C_drew ?_)));(case side2 => exact (Kd.R_reads' HO_5.out).2.1);(case side3 => first|exact HGMax.out|exact GlobMax.below HGMax.out (by repeat (first|(with_reducible first|exact HB.out|apply below_alloc|apply pw_below_drewN|apply below_drew1)|exact HB.out))|exact GlobMax.drawn HGMax.out (by repeat (first|exact Drawn0.refl _|apply Drawn0.step)));(case side4 => first|exact HGU8.out|exact GlobU8.below HGU8.out (by repeat (first|(with_reducible first|exact HB.out|apply below_alloc|apply pw_below_drewN|apply below_drew1)|exact HB.out))|exact GlobU8.drawn HGU8.out (by repeat (first|exact Drawn0.refl _|apply Drawn0.step)));rintro e w29 ⟨rfl,hb⟩;refine ⟨_,rfl,?_⟩;have n0_:=Aside0.mk (Kd.R_below (by (with_reducible repeat (first|apply Kd.R_alloc|apply Kd.R_drewN|apply Kd.R_drew));exact HO_5.out) hb);have n1_:=Aside0.mk (below_step (by repeat (first|(with_reducible first|exact HB.out|apply below_alloc|apply pw_below_drewN|apply below_drew1)|exact HB.out)) hb);clear HO_5;clear HB;have HO_5:=n0_;have HB:=n1_;clear n0_ n1_;(try clear hb);(try clear hb2);(try clear hk);(try clear hi))|((with_reducible refine gate_callee (f:=6) rfl ?_);refine goesL_ (some 52) rfl rfl Tryd.func6 (by kernel_rfl) rfl #[.string (a0.extract 0 ((ji3) : Int).toNat),.slice Ao28 x5_1.length co28] rfl (by (try simp only [List.map_toArray,List.map_cons,List.map_nil]);first|done|(simp only [hji3];rfl)|rfl|(simp only [List.length_drop,List.length_take];rfl)) ?_;(with_reducible refine (racewayref29_Markup.calls k1 (a0.extract 0 ((ji3) : Int).toNat) _ _ x5_1 t183 _ ?side1 ?side2 A25.out).mono ?_);(case side1 => repeat (first|exact (Kd.R_reads' HO_5.out).2.2|(with_reducible refine Kd.C_alloc ?_ _)|(with_reducible refine Kd.C_drewN ?_ _)|(with_reducible refine Kd.C_drew ?_)));(case side2 => exact (Kd.R_reads' HO_5.out).2.1);rintro e w30 ⟨rfl,hb⟩;refine ⟨_,rfl,?_⟩;have n0_:=Aside0.mk (Kd.R_below (by (with_reducible repeat (first|apply Kd.R_alloc|apply Kd.R_drewN|apply Kd.R_drew));exact HO_5.out) hb);have n1_:=Aside0.mk (below_step (by repeat (first|(with_reducible first|exact HB.out|apply below_alloc|apply pw_below_drewN|apply below_drew1)|exact HB.out)) hb);clear HO_5;clear HB;have HO_5:=n0_;have HB:=n1_;clear n0_ n1_;(try clear hb);(try clear hb2);(try clear hk);(try clear hi))|(go_at_call 7;(with_reducible refine (racewaylaw29_works.calls k1  t184 _ ?side1 A27.out).mono ?_);(case side1 => first|exact HGU8.out|exact GlobU8.below HGU8.out (by repeat (first|(with_reducible first|exact HB.out|apply below_alloc|apply pw_below_drewN|apply below_drew1)|exact HB.out))|exact GlobU8.drawn HGU8.out (by repeat (first|exact Drawn0.refl _|apply Drawn0.step)));rintro e w31 ⟨rfl,hb⟩;have n0_:=Aside0.mk (Kd.R_below (by (with_reducible repeat (first|apply Kd.R_alloc|apply Kd.R_drewN|apply Kd.R_drew));exact HO_5.out) hb);have n1_:=Aside0.mk (below_step (by repeat (first|(with_reducible first|exact HB.out|apply below_alloc|apply pw_below_drewN|apply below_drew1)|exact HB.out)) hb);clear HO_5;clear HB;have HO_5:=n0_;have HB:=n1_;clear n0_ n1_;(try clear hb);(try clear hb2);(try clear hk);(try clear hi)))
        go_ret
        exact ⟨by first|rfl|(simp [errW_none,errW_some] <;> rfl)|(simp only [← hji3];first|rfl|(simp [errW_none,errW_some] <;> rfl))|(simp [*,errW_none,errW_some] <;> rfl),by repeat (first|(with_reducible first|exact HB.out|apply below_alloc|apply pw_below_drewN|apply below_drew1)|exact HB.out)⟩
       ·rw [if_neg c26] at H
        have c26b0 : (t182.toList == t183.toList) = false:=beq_eq_false_iff_ne.mpr c26
        have c26b1 : (t182.toList != t183.toList) = true:=bne_iff_ne.mpr c26
        obtain rfl:=Option.some.inj H
        obtain ⟨Ao32,co32,eo32⟩:=Kd.R_slice HO_5.out
        subst eo32
        go_wp2_with (first|((with_reducible refine gate_callee (f:=5) rfl ?_);refine goesL_ (some 49) rfl rfl Tryd.func5 (by kernel_rfl) rfl #[.string (a0.extract 0 ((ji3) : Int).toNat),.slice Ao32 x5_1.length co32] rfl (by (try simp only [List.map_toArray,List.map_cons,List.map_nil]);first|done|(simp only [hji3];rfl)|rfl|(simp only [List.length_drop,List.length_take];rfl)) ?_;(with_reducible refine (response_Markup.calls k1 (a0.extract 0 ((ji3) : Int).toNat) _ _ x5_1 t182 _ ?side3 ?side4 ?side1 ?side2 A24.out).mono ?_);(case side1 => repeat (first|exact (Kd.R_reads' HO_5.out).2.2|(with_reducible refine Kd.C_alloc ?_ _)|(with_reducible refine Kd.C_drewN ?_ _)|(with_reducible refine Kd.C_drew ?_)));(case side2 => exact (Kd.R_reads' HO_5.out).2.1);(case side3 => first|exact HGMax.out|exact GlobMax.below HGMax.out (by repeat (first|(with_reducible first|exact HB.out|apply below_alloc|apply pw_below_drewN|apply below_drew1)|exact HB.out))|exact GlobMax.drawn HGMax.out (by repeat (first|exact Drawn0.refl _|apply Drawn0.step)));(case side4 => first|exact HGU8.out|exact GlobU8.below HGU8.out (by repeat (first|(with_reducible first|exact HB.out|apply below_alloc|apply pw_below_drewN|apply below_drew1)|exact HB.out))|exact GlobU8.drawn HGU8.out (by repeat (first|exact Drawn0.refl _|apply Drawn0.step)));rintro e w33 ⟨rfl,hb⟩;refine ⟨_,rfl,?_⟩;have n0_:=Aside0.mk (Kd.R_below (by (with_reducible repeat (first|apply Kd.R_alloc|apply Kd.R_drewN|apply Kd.R_drew));exact HO_5.out) hb);have n1_:=Aside0.mk (below_step (by repeat (first|(with_reducible first|exact HB.out|apply below_alloc|apply pw_below_drewN|apply below_drew1)|exact HB.out)) hb);clear HO_5;clear HB;have HO_5:=n0_;have HB:=n1_;clear n0_ n1_;(try clear hb);(try clear hb2);(try clear hk);(try clear hi))|((with_reducible refine gate_callee (f:=6) rfl ?_);refine goesL_ (some 52) rfl rfl Tryd.func6 (by kernel_rfl) rfl #[.string (a0.extract 0 ((ji3) : Int).toNat),.slice Ao32 x5_1.length co32] rfl (by (try simp only [List.map_toArray,List.map_cons,List.map_nil]);first|done|(simp only [hji3];rfl)|rfl|(simp only [List.length_drop,List.length_take];rfl)) ?_;(with_reducible refine (racewayref29_Markup.calls k1 (a0.extract 0 ((ji3) : Int).toNat) _ _ x5_1 t183 _ ?side1 ?side2 A25.out).mono ?_);(case side1 => repeat (first|exact (Kd.R_reads' HO_5.out).2.2|(with_reducible refine Kd.C_alloc ?_ _)|(with_reducible refine Kd.C_drewN ?_ _)|(with_reducible refine Kd.C_drew ?_)));(case side2 => exact (Kd.R_reads' HO_5.out).2.1);rintro e w34 ⟨rfl,hb⟩;refine ⟨_,rfl,?_⟩;have n0_:=Aside0.mk (Kd.R_below (by (with_reducible repeat (first|apply Kd.R_alloc|apply Kd.R_drewN|apply Kd.R_drew));exact HO_5.out) hb);have n1_:=Aside0.mk (below_step (by repeat (first|(with_reducible first|exact HB.out|apply below_alloc|apply pw_below_drewN|apply below_drew1)|exact HB.out)) hb);clear HO_5;clear HB;have HO_5:=n0_;have HB:=n1_;clear n0_ n1_;(try clear hb);(try clear hb2);(try clear hk);(try clear hi)))
        go_ret
        exact ⟨by first|rfl|(simp [errW_none,errW_some] <;> rfl)|(simp only [← hji3];first|rfl|(simp [errW_none,errW_some] <;> rfl))|(simp [*,errW_none,errW_some] <;> rfl),by repeat (first|(with_reducible first|exact HB.out|apply below_alloc|apply pw_below_drewN|apply below_drew1)|exact HB.out)⟩
     ·rw [if_neg c6] at H
      have c6b0 : decide (x6_1 < (l1.length : Int)) = false:=decide_eq_false c6
      clear c6
      replace H:=Option.bind_eq_some_iff.mp H
      obtain ⟨t185,A350,H⟩:=H
      replace H : ((racewayref29_Markup.f k1 (a0.extract 0 ((ji3) : Int).toNat) x5_1).bind fun t186 => (if t185.toList = t186.toList then ((racewaylaw29_works.f k1).bind fun t187 => (some t187)) else (some false))) = some r:=H
      have A35:=Aside0.mk A350
      clear A350
      replace H:=Option.bind_eq_some_iff.mp H
      obtain ⟨t186,A360,H⟩:=H
      replace H : (if t185.toList = t186.toList then ((racewaylaw29_works.f k1).bind fun t187 => (some t187)) else (some false)) = some r:=H
      have A36:=Aside0.mk A360
      clear A360
      by_cases c37 : t185.toList = t186.toList
      ·rw [if_pos c37] at H
       have c37b0 : (t185.toList == t186.toList) = true:=beq_iff_eq.mpr c37
       have c37b1 : (t185.toList != t186.toList) = false:=bne_eq_false_iff_eq.mpr c37
       clear c37
       replace H:=Option.bind_eq_some_iff.mp H
       obtain ⟨t187,A380,H⟩:=H
       replace H : (some t187) = some r:=H
       have A38:=Aside0.mk A380
       clear A380
       obtain rfl:=Option.some.inj H
       obtain ⟨Ao39,co39,eo39⟩:=Kd.R_slice HO_5.out
       subst eo39
       go_wp2_with (first|((with_reducible refine gate_callee (f:=5) rfl ?_);refine goesL_ (some 49) rfl rfl Tryd.func5 (by kernel_rfl) rfl #[.string (a0.extract 0 ((ji3) : Int).toNat),.slice Ao39 x5_1.length co39] rfl (by (try simp only [List.map_toArray,List.map_cons,List.map_nil]);first|done|(simp only [hji3];rfl)|rfl|(simp only [List.length_drop,List.length_take];rfl)) ?_;(with_reducible refine (response_Markup.calls k1 (a0.extract 0 ((ji3) : Int).toNat) _ _ x5_1 t185 _ ?side3 ?side4 ?side1 ?side2 A35.out).mono ?_);(case side1 => repeat (first|exact (Kd.R_reads' HO_5.out).2.2|(with_reducible refine Kd.C_alloc ?_ _)|(with_reducible refine Kd.C_drewN ?_ _)|(with_reducible refine Kd.C_drew ?_)));(case side2 => exact (Kd.R_reads' HO_5.out).2.1);(case side3 => first|exact HGMax.out|exact GlobMax.below HGMax.out (by repeat (first|(with_reducible first|exact HB.out|apply below_alloc|apply pw_below_drewN|apply below_drew1)|exact HB.out))|exact GlobMax.drawn HGMax.out (by repeat (first|exact Drawn0.refl _|apply Drawn0.step)));(case side4 => first|exact HGU8.out|exact GlobU8.below HGU8.out (by repeat (first|(with_reducible first|exact HB.out|apply below_alloc|apply pw_below_drewN|apply below_drew1)|exact HB.out))|exact GlobU8.drawn HGU8.out (by repeat (first|exact Drawn0.refl _|apply Drawn0.step)));rintro e w40 ⟨rfl,hb⟩;refine ⟨_,rfl,?_⟩;have n0_:=Aside0.mk (Kd.R_below (by (with_reducible repeat (first|apply Kd.R_alloc|apply Kd.R_drewN|apply Kd.R_drew));exact HO_5.out) hb);have n1_:=Aside0.mk (below_step (by repeat (first|(with_reducible first|exact HB.out|apply below_alloc|apply pw_below_drewN|apply below_drew1)|exact HB.out)) hb);clear HO_5;clear HB;have HO_5:=n0_;have HB:=n1_;clear n0_ n1_;(try clear hb);(try clear hb2);(try clear hk);(try clear hi))|((with_reducible refine gate_callee (f:=6) rfl ?_);refine goesL_ (some 52) rfl rfl Tryd.func6 (by kernel_rfl) rfl #[.string (a0.extract 0 ((ji3) : Int).toNat),.slice Ao39 x5_1.length co39] rfl (by (try simp only [List.map_toArray,List.map_cons,List.map_nil]);first|done|(simp only [hji3];rfl)|rfl|(simp only [List.length_drop,List.length_take];rfl)) ?_;(with_reducible refine (racewayref29_Markup.calls k1 (a0.extract 0 ((ji3) : Int).toNat) _ _ x5_1 t186 _ ?side1 ?side2 A36.out).mono ?_);(case side1 => repeat (first|exact (Kd.R_reads' HO_5.out).2.2|(with_reducible refine Kd.C_alloc ?_ _)|(with_reducible refine Kd.C_drewN ?_ _)|(with_reducible refine Kd.C_drew ?_)));(case side2 => exact (Kd.R_reads' HO_5.out).2.1);rintro e w41 ⟨rfl,hb⟩;refine ⟨_,rfl,?_⟩;have n0_:=Aside0.mk (Kd.R_below (by (with_reducible repeat (first|apply Kd.R_alloc|apply Kd.R_drewN|apply Kd.R_drew));exact HO_5.out) hb);have n1_:=Aside0.mk (below_step (by repeat (first|(with_reducible first|exact HB.out|apply below_alloc|apply pw_below_drewN|apply below_drew1)|exact HB.out)) hb);clear HO_5;clear HB;have HO_5:=n0_;have HB:=n1_;clear n0_ n1_;(try clear hb);(try clear hb2);(try clear hk);(try clear hi))|(go_at_call 7;(with_reducible refine (racewaylaw29_works.calls k1  t187 _ ?side1 A38.out).mono ?_);(case side1 => first|exact HGU8.out|exact GlobU8.below HGU8.out (by repeat (first|(with_reducible first|exact HB.out|apply below_alloc|apply pw_below_drewN|apply below_drew1)|exact HB.out))|exact GlobU8.drawn HGU8.out (by repeat (first|exact Drawn0.refl _|apply Drawn0.step)));rintro e w42 ⟨rfl,hb⟩;have n0_:=Aside0.mk (Kd.R_below (by (with_reducible repeat (first|apply Kd.R_alloc|apply Kd.R_drewN|apply Kd.R_drew));exact HO_5.out) hb);have n1_:=Aside0.mk (below_step (by repeat (first|(with_reducible first|exact HB.out|apply below_alloc|apply pw_below_drewN|apply below_drew1)|exact HB.out)) hb);clear HO_5;clear HB;have HO_5:=n0_;have HB:=n1_;clear n0_ n1_;(try clear hb);(try clear hb2);(try clear hk);(try clear hi)))
       go_ret
       exact ⟨by first|rfl|(simp [errW_none,errW_some] <;> rfl)|(simp only [← hji3];first|rfl|(simp [errW_none,errW_some] <;> rfl))|(simp [*,errW_none,errW_some] <;> rfl),by repeat (first|(with_reducible first|exact HB.out|apply below_alloc|apply pw_below_drewN|apply below_drew1)|exact HB.out)⟩
      ·rw [if_neg c37] at H
       have c37b0 : (t185.toList == t186.toList) = false:=beq_eq_false_iff_ne.mpr c37
       have c37b1 : (t185.toList != t186.toList) = true:=bne_iff_ne.mpr c37
       obtain rfl:=Option.some.inj H
       obtain ⟨Ao43,co43,eo43⟩:=Kd.R_slice HO_5.out
       subst eo43
       go_wp2_with (first|((with_reducible refine gate_callee (f:=5) rfl ?_);refine goesL_ (some 49) rfl rfl Tryd.func5 (by kernel_rfl) rfl #[.string (a0.extract 0 ((ji3) : Int).toNat),.slice Ao43 x5_1.length co43] rfl (by (try simp only [List.map_toArray,List.map_cons,List.map_nil]);first|done|(simp only [hji3];rfl)|rfl|(simp only [List.length_drop,List.length_take];rfl)) ?_;(with_reducible refine (response_Markup.calls k1 (a0.extract 0 ((ji3) : Int).toNat) _ _ x5_1 t185 _ ?side3 ?side4 ?side1 ?side2 A35.out).mono ?_);(case side1 => repeat (first|exact (Kd.R_reads' HO_5.out).2.2|(with_reducible refine Kd.C_alloc ?_ _)|(with_reducible refine Kd.C_drewN ?_ _)|(with_reducible refine Kd.C_drew ?_)));(case side2 => exact (Kd.R_reads' HO_5.out).2.1);(case side3 => first|exact HGMax.out|exact GlobMax.below HGMax.out (by repeat (first|(with_reducible first|exact HB.out|apply below_alloc|apply pw_below_drewN|apply below_drew1)|exact HB.out))|exact GlobMax.drawn HGMax.out (by repeat (first|exact Drawn0.refl _|apply Drawn0.step)));(case side4 => first|exact HGU8.out|exact GlobU8.below HGU8.out (by repeat (first|(with_reducible first|exact HB.out|apply below_alloc|apply pw_below_drewN|apply below_drew1)|exact HB.out))|exact GlobU8.drawn HGU8.out (by repeat (first|exact Drawn0.refl _|apply Drawn0.step)));rintro e w44 ⟨rfl,hb⟩;refine ⟨_,rfl,?_⟩;have n0_:=Aside0.mk (Kd.R_below (by (with_reducible repeat (first|apply Kd.R_alloc|apply Kd.R_drewN|apply Kd.R_drew));exact HO_5.out) hb);have n1_:=Aside0.mk (below_step (by repeat (first|(with_reducible first|exact HB.out|apply below_alloc|apply pw_below_drewN|apply below_drew1)|exact HB.out)) hb);clear HO_5;clear HB;have HO_5:=n0_;have HB:=n1_;clear n0_ n1_;(try clear hb);(try clear hb2);(try clear hk);(try clear hi))|((with_reducible refine gate_callee (f:=6) rfl ?_);refine goesL_ (some 52) rfl rfl Tryd.func6 (by kernel_rfl) rfl #[.string (a0.extract 0 ((ji3) : Int).toNat),.slice Ao43 x5_1.length co43] rfl (by (try simp only [List.map_toArray,List.map_cons,List.map_nil]);first|done|(simp only [hji3];rfl)|rfl|(simp only [List.length_drop,List.length_take];rfl)) ?_;(with_reducible refine (racewayref29_Markup.calls k1 (a0.extract 0 ((ji3) : Int).toNat) _ _ x5_1 t186 _ ?side1 ?side2 A36.out).mono ?_);(case side1 => repeat (first|exact (Kd.R_reads' HO_5.out).2.2|(with_reducible refine Kd.C_alloc ?_ _)|(with_reducible refine Kd.C_drewN ?_ _)|(with_reducible refine Kd.C_drew ?_)));(case side2 => exact (Kd.R_reads' HO_5.out).2.1);rintro e w45 ⟨rfl,hb⟩;refine ⟨_,rfl,?_⟩;have n0_:=Aside0.mk (Kd.R_below (by (with_reducible repeat (first|apply Kd.R_alloc|apply Kd.R_drewN|apply Kd.R_drew));exact HO_5.out) hb);have n1_:=Aside0.mk (below_step (by repeat (first|(with_reducible first|exact HB.out|apply below_alloc|apply pw_below_drewN|apply below_drew1)|exact HB.out)) hb);clear HO_5;clear HB;have HO_5:=n0_;have HB:=n1_;clear n0_ n1_;(try clear hb);(try clear hb2);(try clear hk);(try clear hi)))
       go_ret
       exact ⟨by first|rfl|(simp [errW_none,errW_some] <;> rfl)|(simp only [← hji3];first|rfl|(simp [errW_none,errW_some] <;> rfl))|(simp [*,errW_none,errW_some] <;> rfl),by repeat (first|(with_reducible first|exact HB.out|apply below_alloc|apply pw_below_drewN|apply below_drew1)|exact HB.out)⟩
  ·rw [if_neg c5] at H
   exact absurd H (by simp)
 ·rw [if_neg c4] at H
  exact absurd H (by simp)
end Go.Proofs.YtjehflambbjoaaaDoor.X
namespace Go.Proofs.YtjehflambbjoaaaDoor.Pure
open Go.RowKit Go.Proofs.YtjehflambbjoaaaDoor.X Go.Proofs.YtjehflambbjoaaaDoorW.PrintWords Go.Proofs.YtjehflambbjoaaaDoorW.PrintMore
set_option linter.unusedVariables false
set_option linter.unusedSimpArgs false
theorem w64q {x : Int} (h0 : -9223372036854775808 ≤ x) (h1 : x ≤ 9223372036854775807) : wrap64 x = x:=by unfold wrap64;omega
theorem mn_lim (a b : Int) (ha : 0 ≤ a) (hb : 0 ≤ b) : 0 ≤ mn a b ∧ mn a b ≤ a ∧ mn a b ≤ b:=by
 unfold mn
 split <;> omega
set_option maxRecDepth 100000 in
theorem works_small : racewaylaw29_works.f 300 = some true:=by decide +kernel
theorem works_true {k : Nat} (hk : 300 ≤ k) : racewaylaw29_works.f k = some true:=at_rounds (fun k => racewaylaw29_works.mono k) hk works_small
def MFew (l : List S24) : Prop:=l.length ≤ 60 ∧ ∀ x ∈ l,(x.f3.size ≤ 60 ∧ x.f4.size ≤ 60) ∧ x.f2 ≤ 9223372036854775807 ∧ -9223372036854775808 ≤ x.f1 ∧ x.f1 ≤ 9223372036854775807
theorem mfew_ok {l : List S24} {name : ByteArray} (h : MFew l) (hn : name.size ≤ 60) : markOk name l:=by
 refine ⟨by have:=h.1;omega,by omega,fun x hx => ?_,?_⟩
 ·have:=(h.2 x hx).1
  omega
 ·unfold fit
  simp only [Bool.and_eq_true,decide_eq_true_eq,List.all_eq_true]
  refine ⟨by have:=h.1;omega,fun x hx => ?_⟩
  obtain ⟨⟨a,b⟩,c,d,e⟩:=h.2 x hx
  exact ⟨⟨⟨⟨by omega,by omega⟩,c⟩,d⟩,e⟩
set_option maxRecDepth 100000 in
theorem marks_both {l : List S24} {name : ByteArray} (h : markOk name l) (k : Nat) (hk : 20000000 ≤ k) : ∃ m,response_Markup.f k name l = some m ∧ racewayref29_Markup.f k name l = some m:=by
 have hC:=Check_law l h.2.2.2 k (by have:=h.1;omega)
 have hR:=rCheck_law l h.2.2.2 (by have:=h.1;omega) k (by have:=h.1;omega)
 unfold response_Markup.f racewayref29_Markup.f
 cases ht : tree? l with
 | none =>
  rw [ht] at hC hR
  refine ⟨⟨#[]⟩,?_,?_⟩
  ·rw [hC,Option.bind_some,if_neg (by decide)]
  ·rw [hR,Option.bind_some,if_neg (by decide)]
 | some u =>
  rw [ht] at hC hR
  have hC' : jsontext_Check.f k l = some 0:=hC
  have hR' : racewayref25_Check.f k l = some 0:=hR
  have hl70:=h.1
  have hkk : 70 * (l.length + 100000 + 10) ≤ k:=Nat.le_trans (Nat.mul_le_mul_left 70 (Nat.add_le_add_right (Nat.add_le_add_right hl70 100000) 10)) (Nat.le_trans (by decide) hk)
  obtain ⟨p1,p2,p3,p4,p5,p6,p7⟩:=mark_parts h ht
  refine ⟨str (mkup (some name.data.toList) u),?_,?_⟩
  ·rw [hC',Option.bind_some,if_pos rfl]
   unfold response_element.f
   rw [if_pos ⟨rfl,h⟩,ht]
   rfl
  ·have:=rel_law l p7 1000 100000 (by omega) (by omega) 70 u [] 0 k name.data.toList p1 p2 p3 p4 p5 (Nat.le_trans p6 (by decide)) hkk
   rw [hR',Option.bind_some,if_pos rfl]
   rw [str_back] at this
   show (racewayref29_element.f k name l ((0 : Nat) : Int)).bind _ = _
   rw [show racewayref29_element.f k name l ((0 : Nat) : Int) = _ from this]
   rfl
theorem ResponseMarks (a0 : ByteArray) (l1 : List S24) (hm : l1.length ≤ maxLen ∧ ∀ x ∈ l1,(Lit.int .i64 x.f0).wf = true ∧ (Lit.int .i64 x.f1).wf = true ∧ (Lit.int .i64 x.f2).wf = true) : ∃ k,racewaylaw29_ResponseMarks.f k a0 l1 = some true:=by
 have hr : ∀ n : Int,(Lit.int .i64 n).wf = true → -9223372036854775808 ≤ n ∧ n ≤ 9223372036854775807:=by
  intro n h
  simp [Lit.wf] at h
  simp [IntKind.min,IntKind.max,IntKind.signed,IntKind.bits] at h
  omega
 obtain ⟨m0,m1,m2⟩:=mn_lim (a0.size : Int) 60 (by omega) (by omega)
 refine ⟨20000100,?_⟩
 unfold racewaylaw29_ResponseMarks.f
 rw [if_pos m0,if_pos m1]
 have hns : (a0.extract 0 ((mn (a0.size : Int) 60) : Int).toNat).size ≤ 60:=by
  rw [ByteArray.size_extract]
  omega
 generalize a0.extract 0 ((mn (a0.size : Int) 60) : Int).toNat = name at *
 have fin : ∀ (acc : List S24) (k : Nat),MFew acc → 20000000 ≤ k → ((response_Markup.f k name acc).bind fun t182 => ((racewayref29_Markup.f k name acc).bind fun t183 => (if t182.toList = t183.toList then ((racewaylaw29_works.f k).bind fun t184 => (some t184)) else (some false)))) = some true:=by
  intro acc k hf hk
  obtain ⟨m,e1,e2⟩:=marks_both (mfew_ok hf hns) k hk
  rw [e1,e2,Option.bind_some,Option.bind_some,if_pos rfl,works_true (by omega)]
  rfl
 have : ∀ (d i k : Nat) (acc : List S24),i + d = 61 → d + 20000001 ≤ k → acc.length = i → MFew acc → racewaylaw29_ResponseMarks.l0 k name l1 acc (i : Int) = some true:=by
  intro d
  induction d with
  | zero =>
   intro i k acc hi hk ha hf
   have:=hf.1
   omega
  | succ d ih =>
   intro i k acc hi hk ha hf
   obtain ⟨k,rfl⟩ : ∃ k',k = k' + 1:=⟨k - 1,by omega⟩
   rw [racewaylaw29_ResponseMarks.l0]
   by_cases h1 : (i : Int) < (l1.length : Int)
   ·rw [if_pos h1]
    by_cases h2 : (i : Int) < 60
    ·rw [if_pos h2,if_pos (by omega)]
     obtain ⟨x,r,hx⟩ : ∃ x r,l1.drop i = x :: r:=⟨_,_,List.drop_eq_getElem_cons (show i < l1.length by omega)⟩
     obtain ⟨e1,e2,e3,e4⟩:=rd_cast l1 i x r hx
     obtain ⟨w0,w1,w2⟩:=hm.2 x e4
     obtain ⟨a1,a2,a3⟩:=mn_lim (x.f3.size : Int) 60 (by omega) (by omega)
     obtain ⟨b1,b2,b3⟩:=mn_lim (x.f4.size : Int) 60 (by omega) (by omega)
     rw [e1,if_pos a1,if_pos a2,if_pos b1,if_pos b2,if_pos (by omega),w64q (by omega) (by omega),show ((i : Int) + 1) = ((i + 1 : Nat) : Int) by omega]
     refine ih (i + 1) k _ (by omega) (by omega) (by simp [ha]) ⟨by simp;omega,fun y hy => ?_⟩
     simp only [List.mem_append,List.mem_singleton] at hy
     rcases hy with hy|rfl
     ·exact hf.2 y hy
     ·have:=hr _ w1
      have:=hr _ w2
      refine ⟨⟨?_,?_⟩,by simp only;omega,by simp only;omega,by simp only;omega⟩
      ·show (x.f3.extract 0 _).size ≤ 60
       rw [ByteArray.size_extract]
       omega
      ·show (x.f4.extract 0 _).size ≤ 60
       rw [ByteArray.size_extract]
       omega
    ·rw [if_neg h2]
     exact fin acc k hf (by omega)
   ·rw [if_neg h1]
    exact fin acc k hf (by omega)
 exact this 61 0 20000100 [] (by omega) (by omega) rfl ⟨by simp,by simp⟩
end Go.Proofs.YtjehflambbjoaaaDoor.Pure
namespace Go.Proofs.YtjehflambbjoaaaDoor.X
open Go
set_option linter.unusedVariables false
section
variable {H : Type} {enc : TypeId × Value → H}
theorem handed_laid_shaped {a : Assume} {C : Checked} {os : Os} {f : FuncId} {fn : Func} {s : ChangeSpec} {conds : List PathCond} {apart fresh handsOn again : Bool} {X : World → Array Value → Prop}
  (hX : ∀ (w w' : World) (args : Array Value),w.heap = w'.heap → X w args → X w' args)
  (own : ownKnob C.prog.godebug = none) (started : os.Started) (noInit : C.prog.inits.idxOf? f = none) (hfn : C.prog.funcs[f]? = some fn)
  (witness : ∃ (w : World) (tape : Tape) (i : Input),w.os = os ∧ (w.forCall tape i).Shaped C.prog ∧ i.vars = [] ∧ Input.okWide C.prog (w.forCall tape i) .any w.heap.size f i ∧
   ((s.pre enc C.prog fn conds apart (w.forCall tape i).memory i.args ∧ X (w.forCall tape i).memory i.args) ∧ sizedMet enc C.prog fn (OpenSpec.ofChange s) apart (w.forCall tape i).memory i.args) ∧ a.holds C.prog (lone (Frame.enter C.prog f i.args .normal) [] (w.forCall tape i)))
  (contract : ∀ (W : World) (base : Nat) (args : Array Value) (ds gs : List (DataW H)) (before : List MemPlace),
   (∀ (j : Nat) t v,fn.params[j]? = some t → args[j]? = some v → Value.okWide C.prog W .any base t v) →
   DataW.Whole enc C.prog fn.params.toList s.vars apart W args.toList ds gs before →
   conds.all (PathCond.test C.prog ⟨fn.params.toList,ds,s.plain.varTypes C.prog,gs⟩) = true →
   (DataW.weightsEach C.prog (fn.params.toList ++ s.plain.varTypes C.prog) (ds ++ gs)).all (· ≤ reachBytes) = true → X W args → W.ShapedOpen C.prog →
   a.holds C.prog (lone (Frame.enter C.prog f args .normal) [] W) →
   Calls C.prog f args W fun e W' => ∃ v,e = .returned v ∧ s.post enc C.prog fn apart fresh handsOn again W args v W') :
  ReturnsInHanded a C os f .any (fun w args => (s.pre enc C.prog fn conds apart w args ∧ X w args) ∧ sizedMet enc C.prog fn (OpenSpec.ofChange s) apart w args) (s.post enc C.prog fn apart fresh handsOn again):=by
 refine returnsInHanded_of_calls own started noInit witness ?_
 intro w tape i _ hsh _ hok hpre hholds
 obtain ⟨_,_,_,fn',hfn',_,_,_,_,hval⟩:=hok
 have e : fn' = fn:=Option.some.inj (hfn'.symm.trans hfn)
 subst e
 obtain ⟨⟨⟨ds,gs,before,hw,hc⟩,hx⟩,hz⟩:=hpre
 have hw':=DataW.Whole.of_heap (w':=w.forCall tape i) (by rfl) hw
 refine (contract (w.forCall tape i) w.heap.size i.args ds gs before hval hw' hc (hz.weights hw) (hX _ _ _ (by rfl) hx) hsh hholds).mono fun e W' ⟨v,he,hp⟩ => ?_
 subst he
 exact ChangeSpec.post_blind hp
end
end Go.Proofs.YtjehflambbjoaaaDoor.X
namespace Go.Proofs.YtjehflambbjoaaaDoor.X
open Go.RowKit Go.Proofs.YtjehflambbjoaaaDoorW.PrintWords Go.Proofs.YtjehflambbjoaaaDoorW.PrintLast Go.Proofs.YtjehflambbjoaaaDoorW.PrintMore
open Go.Deep Go.ChangeShapes Go.WideShapes
set_option linter.unusedVariables false
set_option linter.unusedSimpArgs false
theorem cells9 : Tryd.prog.cellsOf 9 = 1:=by kernel_rfl
theorem cells46 : Tryd.prog.cellsOf 24 = 5:=by kernel_rfl
theorem cells3 : Tryd.prog.cellsOf 3 = 1:=by kernel_rfl
instance : Inhabited (S24):=⟨z24⟩
set_option maxRecDepth 100000 in
theorem open_nodes {H : Type} {enc : TypeId × Value → H} {W : World} {A : Option Addr} {len cap : Nat} {d : DataW H} {p : List MemPlace} (h : DataW.Trod enc Tryd.prog W 0 (fun _ => true) true 22 (.slice A len cap) d p) :
  ∃ l : List (S24),l.length = len ∧ Kd.C k24 W A l.length l ∧ l.length ≤ cap ∧ (l.length ≤ maxLen ∧ ∀ x ∈ l,(Lit.int .i64 x.f0).wf = true ∧ (Lit.int .i64 x.f1).wf = true ∧ (Lit.int .i64 x.f2).wf = true):=by
 obtain ⟨fuel,hf⟩:=h
 rcases open_slice Tryd.underlying22 hf with ⟨hcs,_⟩|⟨a,l,c,m,n,D,Pl,hcs,_,hl,hm,hmm,_,hx⟩
 ·simp [Value.cells] at hcs
  obtain ⟨rfl,rfl,rfl⟩:=hcs
  exact ⟨[],rfl,⟨rfl,by simp,fun h => absurd h (by simp)⟩,Nat.le_refl _,Nat.zero_le _,by simp⟩
 ·simp [Value.cells] at hcs
  obtain ⟨rfl,rfl,rfl⟩:=hcs
  simp only [if_true] at hmm
  have each : ∀ i,i < len → ∃ x : S24,(W.cell? (a.add (i * 5)) = some (.int .i64 x.f0) ∧ W.cell? (a.add (i * 5 + 1)) = some (.int .i64 x.f1) ∧ W.cell? (a.add (i * 5 + 2)) = some (.int .i64 x.f2) ∧ W.cell? (a.add (i * 5 + 3)) = some (.string x.f3) ∧ W.cell? (a.add (i * 5 + 4)) = some (.string x.f4)) ∧ ((Lit.int .i64 x.f0).wf = true ∧ (Lit.int .i64 x.f1).wf = true ∧ (Lit.int .i64 x.f2).wf = true):=by
   intro i hi
   obtain ⟨cs',h1,h2⟩:=hx i (by omega)
   rw [cells46] at h1
   obtain ⟨_,hlen,hcell⟩:=World.cells?_some h1
   obtain ⟨xs,k,hk,hxy,_,hxl,hf⟩:=DataW.trod_struct Tryd.underlying24 h2
   match xs,hxl,cs',hlen with
   | [y0,y1,y2,y3,y4],_,[v0,v1,v2,v3,v4],_ =>
    have g0:=hf 0 _ rfl
    have g1:=hf 1 _ rfl
    have g2:=hf 2 _ rfl
    have g3:=hf 3 _ rfl
    have g4:=hf 4 _ rfl
    simp [cells9,cells3] at g0 g1 g2 g3 g4
    obtain ⟨n0,e0,_,w0⟩:=DataW.trod_int Tryd.underlying3 g0
    obtain ⟨n1,e1,_,w1⟩:=DataW.trod_int Tryd.underlying3 g1
    obtain ⟨n2,e2,_,w2⟩:=DataW.trod_int Tryd.underlying3 g2
    obtain ⟨s3,e3,_,_⟩:=DataW.trod_string Tryd.underlying9 g3
    obtain ⟨s4,e4,_,_⟩:=DataW.trod_string Tryd.underlying9 g4
    have c0:=hcell 0 (by omega)
    have c1:=hcell 1 (by omega)
    have c2:=hcell 2 (by omega)
    have c3:=hcell 3 (by omega)
    have c4:=hcell 4 (by omega)
    rw [Go.Deep.add_add] at c0 c1 c2 c3 c4
    simp at e0 e1 e2 e3 e4 c0 c1 c2 c3 c4
    subst e0 e1 e2 e3 e4
    exact ⟨⟨n0,n1,n2,s3,s4⟩,⟨c0,c1,c2,c3,c4⟩,w0,w1,w2⟩
  obtain ⟨q,hq⟩:=choose_lt each
  have hlen : ((List.range len).map q).length = len:=by simp
  refine ⟨(List.range len).map q,hlen,⟨rfl,?_,fun _ => ⟨a,rfl,fun j x hj => ?_⟩⟩,by omega,by omega,fun x hx2 => ?_⟩
  ·rw [hlen];have : cap ≤ maxLen:=hm;unfold maxLen at this;omega
  ·have hjl : j < len:=by
    have:=(List.getElem?_eq_some_iff.1 hj).1
    simpa using this
   have hx : q j = x:=by
    rw [List.getElem?_map,List.getElem?_range hjl] at hj
    simpa using hj
   subst hx
   obtain ⟨⟨c0,c1,c2,c3,c4⟩,_⟩:=hq j hjl
   refine ⟨[.int .i64 (q j).f0,.int .i64 (q j).f1,.int .i64 (q j).f2,.string (q j).f3,.string (q j).f4],rfl,k24_mk W (q j),fun i u hu => ?_⟩
   match i,hu with
   | 0,hu => simp at hu;subst hu;exact c0
   | 1,hu => simp at hu;subst hu;exact c1
   | 2,hu => simp at hu;subst hu;exact c2
   | 3,hu => simp at hu;subst hu;exact c3
   | 4,hu => simp at hu;subst hu;exact c4
  ·simp only [List.mem_map,List.mem_range] at hx2
   obtain ⟨j,hj,rfl⟩:=hx2
   exact (hq j hj).2
end Go.Proofs.YtjehflambbjoaaaDoor.X
namespace Go.Proofs.YtjehflambbjoaaaDoor.X
open Go.RowKit Go.Proofs.YtjehflambbjoaaaDoorW.PrintWords
set_option linter.unusedVariables false
set_option linter.unusedSimpArgs false
set_option maxRecDepth 100000 in
theorem u8x : Go.Proofs.U8Extra Tryd.prog vren:=⟨by kernel_rfl,by kernel_rfl,by kernel_rfl,by kernel_rfl,by kernel_rfl,by kernel_rfl,by kernel_rfl⟩
theorem u8t : Go.Proofs.U8Types Tryd.prog vren:=Go.Proofs.U8Types.of196 vlays
theorem GlobU8.laid {W : World} {l : List (String × DataW Unit)} (hL : laidMet Tryd.prog l W) (h1 : ("unicode/utf8.first", Go.Lib.firstData) ∈ l) (h2 : ("unicode/utf8.acceptRanges", Go.Lib.acceptData) ∈ l) : GlobU8 W :=
 GlobU8.of (Go.Proofs.utf8Tabs_of_readsT u8t u8x (Go.Lib.laidMet.reads hL h1) (Go.Lib.laidMet.reads hL h2))
theorem GlobU8.laid2 {W : World} {l : List (String × DataW Unit)} (hL : laidMet Tryd.prog l W) {d1 d2 : DataW Unit} (h1 : ("unicode/utf8.first", d1) ∈ l) (e1 : d1 = Go.Lib.firstData) (h2 : ("unicode/utf8.acceptRanges", d2) ∈ l) (e2 : d2 = Go.Lib.acceptData) : GlobU8 W :=
 GlobU8.laid hL (e1 ▸ h1) (e2 ▸ h2)
end Go.Proofs.YtjehflambbjoaaaDoor.X
